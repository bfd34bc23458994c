/- Texts of one claim put together: what its walks share. -/
import Derived.Test.YtamjlcaoieliaaaMo1
import Derived.Test.YtamjlcaoieliaaaMo2
import Derived.Test.YtamjlcaoieliaaaMo4
/- What functions compute, in plain terms, and that they do; printed. -/
namespace Go.Proofs.Ytamjlcaoieliaaa
open Go Go.RowKit
set_option maxRecDepth 100000
set_option maxHeartbeats 4000000
theorem c_law22_ElectOne (x0 : Int) (x1 : List Int) (A0_ : Option Addr) (c0_ : Nat) (w0 : World) (s0_ : SlI w0 enI A0_ c0_ x1) {r : Bool} (H : m_law22_ElectOne x0 x1 = some r) : Calls Try.prog 4 #[.int .i64 x0, .slice A0_ x1.length c0_] w0 fun e w' => e = .returned (.bool r) ∧ St0 All w0 w' [] := by
  unfold m_law22_ElectOne at H
  refine gw_enter2 Try.func4 rfl Try.ntmps4 rfl ?_
  have hS := St0.start All w0
  refine wpC_seq_k (fun K hK1 => ?_)
  refine wpC_region ?_
  refine wpS_quick 1 rfl ?_
  refine wpS_nil ?_
  refine QH_seq_k hK1 ?_
  refine wpC_seq_k (fun K hK2 => ?_)
  refine wpC_seq_k (fun K hK3 => ?_)
  refine wpC_region ?_
  refine wpS_quick 1 rfl ?_
  refine wpS_put rfl rfl rfl (yv_lss rfl rfl) ?_
  refine wpS_quick 1 rfl ?_
  refine wpS_case 18 rfl (fun hb => ?_) (fun hb => ?_)
  · replace H := cond_t H hb
    refine wpS_quick 8 rfl ?_
    refine wpS_nil ?_
    refine QH_seq_k hK3 ?_
    refine wpC_cond_t rfl rfl ?_
    refine wpC_seq_k (fun K hK5 => ?_)
    refine wpC_region ?_
    obtain ⟨r6, hm7, H⟩ := bind_some H
    refine wpS_call rfl rfl rfl rfl (by kernel_rfl) rfl (c_law22_wakes _ hm7) ?_
    rintro e w ⟨rfl, hN⟩; refine ⟨_, rfl, ?_⟩; have hB := hN.pure; have hS := hS.join hN; clear hN
    refine wpS_quick 1 rfl ?_
    refine wpS_nil ?_
    refine QH_seq_k hK5 ?_
    refine wpC_ret ?_
    refine QH_then_ret ?_
    refine QH_ret rfl (RV.tmp rfl RV.nil) rfl ?_
    obtain rfl := Option.some.inj H
    replace hS := hS.cut 0
    exact ⟨rfl, hS⟩
  replace H := cond_f H hb
  refine wpS_quick 1 rfl ?_
  refine wpS_put rfl rfl rfl (yv_gtr rfl rfl) ?_
  refine wpS_quick 2 rfl ?_
  refine wpS_case 22 rfl (fun hb => ?_) (fun hb => ?_)
  · replace H := cond_t H hb
    refine wpS_quick 4 rfl ?_
    refine wpS_nil ?_
    refine QH_seq_k hK3 ?_
    refine wpC_cond_t rfl rfl ?_
    refine wpC_seq_k (fun K hK10 => ?_)
    refine wpC_region ?_
    obtain ⟨r11, hm12, H⟩ := bind_some H
    refine wpS_call rfl rfl rfl rfl (by kernel_rfl) rfl (c_law22_wakes _ hm12) ?_
    rintro e w ⟨rfl, hN⟩; refine ⟨_, rfl, ?_⟩; have hB := hN.pure; have hS := hS.join hN; clear hN
    refine wpS_quick 1 rfl ?_
    refine wpS_nil ?_
    refine QH_seq_k hK10 ?_
    refine wpC_ret ?_
    refine QH_then_ret ?_
    refine QH_ret rfl (RV.tmp rfl RV.nil) rfl ?_
    obtain rfl := Option.some.inj H
    replace hS := hS.cut 0
    exact ⟨rfl, hS⟩
  replace H := cond_f H hb
  refine wpS_quick 1 rfl ?_
  refine wpS_put rfl rfl rfl (yv_len el_28 rfl) ?_
  refine wpS_put rfl rfl rfl (yv_gtr rfl rfl) ?_
  refine wpS_quick 1 rfl ?_
  refine wpS_nil ?_
  refine QH_seq_k hK3 ?_
  refine wpC_cond rfl (fun hb => ?_) (fun hb => ?_)
  · replace H := cond_t H hb
    refine wpC_seq_k (fun K hK15 => ?_)
    refine wpC_region ?_
    obtain ⟨r16, hm17, H⟩ := bind_some H
    refine wpS_call rfl rfl rfl rfl (by kernel_rfl) rfl (c_law22_wakes _ hm17) ?_
    rintro e w ⟨rfl, hN⟩; refine ⟨_, rfl, ?_⟩; have hB := hN.pure; have hS := hS.join hN; clear hN
    refine wpS_quick 1 rfl ?_
    refine wpS_nil ?_
    refine QH_seq_k hK15 ?_
    refine wpC_ret ?_
    refine QH_then_ret ?_
    refine QH_ret rfl (RV.tmp rfl RV.nil) rfl ?_
    obtain rfl := Option.some.inj H
    replace hS := hS.cut 0
    exact ⟨rfl, hS⟩
  replace H := cond_f H hb
  refine wpC_skip ?_
  refine QH_seq_k hK2 ?_
  refine wpC_seq_k (fun K hK19 => ?_)
  refine wpC_region ?_
  refine wpS_alloc rfl rfl zl_42 hS (fun b20 w hS hB => ?_)
  replace hS := hS.zeroRdsC 5
  refine wpS_nil ?_
  refine QH_seq_k hK19 ?_
  refine wpC_seq_k (fun K hK23 => ?_)
  refine wpC_seq_k (fun K hK24 => ?_)
  refine wpC_region ?_
  refine wpS_quick 1 rfl ?_
  refine wpS_nil ?_
  refine QH_seq_k hK24 ?_
  refine wpC_block ?_
  refine wpC_loop (X := Nat × Int × List Co × List Cq) (fun x => (0, .int .i64 x0) :: (1, .slice A0_ x1.length c0_) :: (4, .bool false) :: (5, .pointer (some ⟨b20, 0, none⟩)) :: (6, .int .i64 x.2.1) :: []) (fun x w => St0 All w0 w (.rds (subsC x.2.2.2) :: .box b20 (encs enC x.2.2.2) 42 :: []) ∧ (x.2.2.1.length = 5) ∧ (x.2.2.2.map Cq.c = x.2.2.1) ∧ (∀ y ∈ x.2.2.2, okC y) ∧ m_law22_ElectOne_l1 x0 x1 x.1 x.2.1 x.2.2.1 = some r) (fun x => x.1) (fuelN, 0, (List.replicate 5 zeroCo), (List.replicate 5 zeroCq)) (by repeat (first | exact Sub.nil | refine Sub.cons rfl ?_)) ⟨hS, rfl, rfl, (okc_zero 5), H⟩ ?_
  rintro ⟨n, v25, v26, q28⟩ w ⟨hS, hl27, hq29, okq30, H⟩
  dsimp only at hS hl27 hq29 okq30 H ⊢
  obtain _ | n := n
  · have H0 : none = some r := H
    cases H0
  rw [m_law22_ElectOne_l1] at H
  refine wpC_seq_k (fun K hK31 => ?_)
  refine wpC_seq_k (fun K hK32 => ?_)
  refine wpC_region ?_
  refine wpS_quick 2 rfl ?_
  refine wpS_put rfl rfl rfl (yv_lss rfl rfl) ?_
  refine wpS_nil ?_
  refine QH_seq_k hK32 ?_
  refine wpC_cond rfl (fun hb => ?_) (fun hb => ?_)
  · replace H := cond_t H hb
    refine wpC_skip ?_
    refine QH_seq_k hK31 ?_
    refine wpC_seq_k (fun K hK34 => ?_)
    refine wpC_block ?_
    refine wpC_region ?_
    refine wpS_quick 2 rfl ?_
    refine wpS_put rfl rfl rfl (yx_add rfl rfl) ?_
    refine wpS_quick 1 rfl ?_
    obtain ⟨r35, hm36, H⟩ := bind_some H
    refine wpS_call rfl rfl rfl rfl (by kernel_rfl) rfl (c_ref12_First _ hm36) ?_
    rintro e w ⟨A37, c38, rfl, k39, hN⟩; refine ⟨_, rfl, ?_⟩; have hB := hN.pure; have hS := hS.join hN; clear hN
    obtain ⟨r41, hm42, H⟩ := bind_some H
    refine wpS_call rfl rfl rfl rfl (by kernel_rfl) rfl (c_ref20_New (IntKind.wrap .i64 (v25 + 1)) x0 1 r35 A37 c38 _ (SlI.of_rd k39 (hS.rd hs0) (hS.rd_blk hs0)) hm42) ?_
    rintro e w ⟨A43, c44, A47, c48, A51, c52, A55, c56, A59, c60, rfl, k45, k49, k53, k57, k61, hN⟩; refine ⟨_, rfl, ?_⟩; have hB := hN.pure; have hS := hS.join hN; clear hN
    obtain ⟨e63, hi65, H⟩ := bind_some H
    obtain ⟨j64, A66, c67, A68, c69, A70, c71, A72, c73, A74, c75, hi65a, hi65b, hi65c⟩ := idxC (q := q28) hq29 hi65
    refine wpS_put rfl rfl rfl (yx_idxA (j := j64) ar_42 rfl rfl hi65a (Nat.lt_of_lt_of_eq hi65c hl27)) ?_
    refine wpS_store rfl rfl rfl CellsOf.agg hS ps7 (setc_core (⟨r41, A43, c44, A47, c48, A51, c52, A55, c56, A59, c60⟩ : Cq) hi65a hi65b) (by kernel_rfl) rfl (fun w hS hB => ?_)
    replace hS := hS.front 6 rfl
    replace hS := hS.front 1 rfl
    replace hS := hS.weak Weak.rowRd
    replace hS := hS.absorb
    replace hS := hS.front 1 rfl
    replace hS := hS.weak Weak.rowRd
    replace hS := hS.absorb
    replace hS := hS.front 1 rfl
    replace hS := hS.weak Weak.rowRd
    replace hS := hS.absorb
    replace hS := hS.front 1 rfl
    replace hS := hS.weak Weak.rowRd
    replace hS := hS.absorb
    replace hS := hS.front 1 rfl
    replace hS := hS.weak Weak.rowRd
    replace hS := hS.absorb
    replace hS := hS.setC (i := v25) (⟨r41, A43, c44, A47, c48, A51, c52, A55, c56, A59, c60⟩ : Cq)
    refine wpS_nil ?_
    refine QH_block_normal ?_
    refine QH_seq_k hK34 ?_
    refine wpC_region ?_
    refine wpS_quick 1 rfl ?_
    refine wpS_put rfl rfl rfl (yx_add rfl rfl) ?_
    refine wpS_quick 1 rfl ?_
    refine wpS_nil ?_
    exact QH_again (n, (IntKind.wrap .i64 (v25 + 1)), (setI v26 v25 r41), (setI q28 v25 (⟨r41, A43, c44, A47, c48, A51, c52, A55, c56, A59, c60⟩ : Cq))) (by repeat (first | exact Sub.nil | refine Sub.cons rfl ?_)) ⟨(hS.sub (List.Sublist.cons_cons _ (List.Sublist.cons _ (List.Sublist.cons_cons _ List.Sublist.slnil)))), (setI_len hl27), (setI_map hq29), (okc_set okq30 ⟨k45, k49, k53, k57, k61⟩), H⟩ (Nat.lt_succ_self _)
  replace H := cond_f H hb
  refine wpC_exit ?_
  refine QH_then_exit ?_
  refine QH_then_exit ?_
  refine QH_block_hit ?_
  refine QH_seq_k hK23 ?_
  refine wpC_seq_k (fun K hK77 => ?_)
  refine wpC_region ?_
  refine wpS_quick 1 rfl ?_
  refine wpS_nil ?_
  refine QH_seq_k hK77 ?_
  refine wpC_seq_k (fun K hK78 => ?_)
  refine wpC_region ?_
  refine wpS_alloc rfl rfl zl_45 hS (fun b79 w hS hB => ?_)
  refine wpS_nil ?_
  refine QH_seq_k hK78 ?_
  refine wpC_seq_k (fun K hK81 => ?_)
  refine wpC_seq_k (fun K hK82 => ?_)
  refine wpC_region ?_
  refine wpS_quick 1 rfl ?_
  refine wpS_nil ?_
  refine QH_seq_k hK82 ?_
  refine wpC_block ?_
  replace hS := hS.nilRds
  replace hS := hS.nilRow 36 15
  refine wpC_loop (X := Nat × Bool × List Ms × Option Addr × Nat × List Mq × Int × List Int × List Co × List Cq) (fun x => (0, .int .i64 x0) :: (1, .slice A0_ x1.length c0_) :: (4, .bool x.2.1) :: (5, .pointer (some ⟨b20, 0, none⟩)) :: (7, .slice x.2.2.2.1 x.2.2.1.length x.2.2.2.2.1) :: (8, .pointer (some ⟨b79, 0, none⟩)) :: (9, .int .i64 x.2.2.2.2.2.2.1) :: []) (fun x w => St0 All w0 w (.row (.slice x.2.2.2.1 x.2.2.1.length x.2.2.2.2.1) 36 15 x.2.2.1.length (encs enQ x.2.2.2.2.2.1) :: .rds (x.2.2.2.2.2.1.map subQ) :: .box b79 (encs enI x.2.2.2.2.2.2.2.1) 45 :: .rds (subsC x.2.2.2.2.2.2.2.2.2) :: .box b20 (encs enC x.2.2.2.2.2.2.2.2.2) 42 :: []) ∧ (x.2.2.1.length ≤ x.2.2.2.2.1 ∧ x.2.2.2.2.1 ≤ maxLen) ∧ (x.2.2.2.2.2.1.map Mq.m = x.2.2.1) ∧ (∀ y ∈ x.2.2.2.2.2.1, okQ y) ∧ (x.2.2.2.2.2.2.2.1.length = 50) ∧ (x.2.2.2.2.2.2.2.2.1.length = 5) ∧ (x.2.2.2.2.2.2.2.2.2.map Cq.c = x.2.2.2.2.2.2.2.2.1) ∧ (∀ y ∈ x.2.2.2.2.2.2.2.2.2, okC y) ∧ m_law22_ElectOne_l2 x0 x1 x.1 x.2.1 x.2.2.1 x.2.2.2.2.2.2.1 x.2.2.2.2.2.2.2.1 x.2.2.2.2.2.2.2.2.1 = some r) (fun x => x.1) (fuelN, false, [], none, 0, ([] : List Mq), 0, (List.replicate 50 (0 : Int)), v26, q28) (by repeat (first | exact Sub.nil | refine Sub.cons rfl ?_)) ⟨hS, ⟨Nat.le_refl _, Nat.zero_le _⟩, rfl, okq_nil, rfl, hl27, hq29, okq30, H⟩ ?_
  rintro ⟨n, v83, v84, A85, c86, q88, v93, v94, v96, q98⟩ w ⟨hS, k87, hq89, okq90, hl95, hl97, hq99, okq100, H⟩
  dsimp only at hS k87 hq89 okq90 hl95 hl97 hq99 okq100 H ⊢
  obtain _ | n := n
  · have H0 : none = some r := H
    cases H0
  rw [m_law22_ElectOne_l2] at H
  refine wpC_seq_k (fun K hK101 => ?_)
  refine wpC_seq_k (fun K hK102 => ?_)
  refine wpC_region ?_
  refine wpS_quick 2 rfl ?_
  refine wpS_put rfl rfl rfl (yv_len el_28 rfl) ?_
  refine wpS_put rfl rfl rfl (yv_lss rfl rfl) ?_
  refine wpS_nil ?_
  refine QH_seq_k hK102 ?_
  refine wpC_cond rfl (fun hb => ?_) (fun hb => ?_)
  rotate_left
  · replace H := cond_f H hb
    refine wpC_exit ?_
    refine QH_then_exit ?_
    refine QH_then_exit ?_
    refine QH_block_hit ?_
    refine QH_seq_k hK81 ?_
    refine wpC_seq_k (fun K hK763 => ?_)
    refine wpC_region ?_
    obtain ⟨r764, hm765, H⟩ := bind_some H
    refine wpS_call rfl rfl rfl rfl (by kernel_rfl) rfl (c_law22_wakes _ hm765) ?_
    rintro e w ⟨rfl, hN⟩; refine ⟨_, rfl, ?_⟩; have hB := hN.pure; have hS := hS.join hN; clear hN
    refine wpS_quick 1 rfl ?_
    refine wpS_nil ?_
    refine QH_seq_k hK763 ?_
    refine wpC_ret ?_
    refine QH_ret rfl (RV.tmp rfl RV.nil) rfl ?_
    obtain rfl := Option.some.inj H
    replace hS := hS.cut 0
    exact ⟨rfl, hS⟩
  replace H := cond_t H hb
  refine wpC_skip ?_
  refine QH_seq_k hK101 ?_
  refine wpC_seq_k (fun K hK104 => ?_)
  refine wpC_block ?_
  refine wpC_seq_k (fun K hK105 => ?_)
  refine wpC_region ?_
  refine wpS_quick 2 rfl ?_
  obtain ⟨e106, hi108, H⟩ := bind_some H
  obtain ⟨j107, hi108a, hi108b, hi108c⟩ := idx_some hi108
  refine wpS_put rfl rfl rfl (yx_idx el_28 rfl rfl hi108a hi108c (Rd.el (hS.rd0 s0_.rd) he_enI hi108b)) ?_
  refine wpS_put rfl rfl rfl (yx_ld0 sc_3 rfl (RW.here _) (Rd.el (hS.rd0 s0_.rd) he_enI hi108b) rfl) ?_
  refine wpS_put rfl rfl rfl (yx_and rfl rfl) ?_
  refine wpS_quick 1 rfl ?_
  refine wpS_nil ?_
  refine QH_seq_k hK105 ?_
  refine wpC_seq_k (fun K hK109 => ?_)
  refine wpC_region ?_
  refine wpS_quick 1 rfl ?_
  refine wpS_nil ?_
  refine QH_seq_k hK109 ?_
  refine wpC_seq_k (fun K hK110 => ?_)
  refine wpC_region ?_
  refine wpS_quick 1 rfl ?_
  refine wpS_put rfl rfl rfl (yx_quo rfl rfl (by decide)) ?_
  refine wpS_quick 1 rfl ?_
  obtain ⟨q111, hq112, H⟩ := bind_some H
  obtain ⟨hq112n, rfl⟩ := remI_some hq112
  refine wpS_put rfl rfl rfl (yx_rem rfl rfl hq112n) ?_
  refine wpS_quick 1 rfl ?_
  refine wpS_nil ?_
  refine QH_seq_k hK110 ?_
  refine wpC_seq_k (fun K hK113 => ?_)
  refine wpC_seq_k (fun K hK114 => ?_)
  refine wpC_region ?_
  refine wpS_quick 1 rfl ?_
  refine wpS_put rfl rfl rfl (yx_rem rfl rfl (by decide)) ?_
  refine wpS_put rfl rfl rfl (yv_eql rfl rfl) ?_
  refine wpS_quick 1 rfl ?_
  refine wpS_case 58 rfl (fun hb => ?_) (fun hb => ?_)
  · replace H := cond_t H hb
    refine wpS_quick 4 rfl ?_
    refine wpS_nil ?_
    refine QH_seq_k hK114 ?_
    refine wpC_cond_t rfl rfl ?_
    refine wpC_region ?_
    refine wpS_quick 2 rfl ?_
    obtain ⟨e116, hi118, H⟩ := bind_some H
    obtain ⟨j117, A119, c120, A121, c122, A123, c124, A125, c126, A127, c128, hi118a, hi118b, hi118c⟩ := idxC (q := q98) hq99 hi118
    refine wpS_put rfl rfl rfl (yx_idxA (j := j117) ar_42 rfl rfl hi118a (Nat.lt_of_lt_of_eq hi118c hl97)) ?_
    refine wpS_put rfl rfl rfl (yv_load_boxA ag_30 rfl (RW.here _) hS hs4 trivial (seg_core hi118b)) ?_
    obtain ⟨r129, hm130, H⟩ := bind_some H
    refine wpS_call rfl rfl rfl rfl (by kernel_rfl) rfl (c_elect_Timeout e116 A119 c120 A121 c122 A123 c124 A125 c126 A127 c128 _ (SlI.of_rd ((okc_at okq100 hi118b).k0) (hS.rdsC0 hs3 hi118b).1 (hS.rdsC0 hs3 hi118b).2) (SlI.of_rd ((okc_at okq100 hi118b).k1) (hS.rdsC1 hs3 hi118b).1 (hS.rdsC1 hs3 hi118b).2) (SlI.of_rd ((okc_at okq100 hi118b).k2) (hS.rdsC2 hs3 hi118b).1 (hS.rdsC2 hs3 hi118b).2) (SlI.of_rd ((okc_at okq100 hi118b).k3) (hS.rdsC3 hs3 hi118b).1 (hS.rdsC3 hs3 hi118b).2) (SlI.of_rd ((okc_at okq100 hi118b).k4) (hS.rdsC4 hs3 hi118b).1 (hS.rdsC4 hs3 hi118b).2) hm130) ?_
    rintro e w ⟨A131, c132, A135, c136, A139, c140, A143, c144, A147, c148, A151, c152, q155, rfl, k133, k137, k141, k145, k149, k153, hq156, okq157, hN⟩; refine ⟨_, rfl, ?_⟩; have hB := hN.pure; have hS := hS.join hN; clear hN
    refine wpS_quick 1 rfl ?_
    refine wpS_put rfl rfl rfl (yv_extract rfl rfl) ?_
    refine wpS_put rfl rfl rfl (yv_extract rfl rfl) ?_
    obtain ⟨e159, hi161, H⟩ := bind_some H
    obtain ⟨j160, A162, c163, A164, c165, A166, c167, A168, c169, A170, c171, hi161a, hi161b, hi161c⟩ := idxC (q := q98) hq99 hi161
    refine wpS_put rfl rfl rfl (yx_idxA (j := j160) ar_42 rfl rfl hi161a (Nat.lt_of_lt_of_eq hi161c hl97)) ?_
    refine wpS_store rfl rfl rfl CellsOf.agg hS ps11 (setc_core (⟨r129.1, A131, c132, A135, c136, A139, c140, A143, c144, A147, c148⟩ : Cq) hi161a hi161b) (by kernel_rfl) rfl (fun w hS hB => ?_)
    replace hS := hS.front 10 rfl
    replace hS := hS.front 1 rfl
    replace hS := hS.absorb
    replace hS := hS.front 1 rfl
    replace hS := hS.weak Weak.rowRd
    replace hS := hS.absorb
    replace hS := hS.front 1 rfl
    replace hS := hS.weak Weak.rowRd
    replace hS := hS.absorb
    replace hS := hS.front 1 rfl
    replace hS := hS.weak Weak.rowRd
    replace hS := hS.absorb
    replace hS := hS.front 1 rfl
    replace hS := hS.weak Weak.rowRd
    replace hS := hS.absorb
    replace hS := hS.setC (i := (Int.tmod (IntKind.wrap .i64 (Int.tdiv (bits .and .i64 e106 1073741823) 2)) x0)) (⟨r129.1, A131, c132, A135, c136, A139, c140, A143, c144, A147, c148⟩ : Cq)
    refine wpS_quick 1 rfl ?_
    refine wpS_nil ?_
    refine QH_seq_k hK113 ?_
    refine wpC_seq_k (fun K hK172 => ?_)
    refine wpC_seq_k (fun K hK173 => ?_)
    refine wpC_region ?_
    refine wpS_quick 1 rfl ?_
    refine wpS_put rfl rfl rfl (yv_len el_32 rfl) ?_
    refine wpS_quick 1 rfl ?_
    refine wpS_put rfl rfl rfl (yv_leq rfl rfl) ?_
    refine wpS_nil ?_
    refine QH_seq_k hK173 ?_
    refine wpC_cond rfl (fun hb => ?_) (fun hb => ?_)
    rotate_left
    · replace H := cond_f H hb
      refine wpC_skip ?_
      refine QH_seq_k hK172 ?_
      refine wpC_seq_k (fun K hK227 => ?_)
      refine wpC_region ?_
      refine wpS_quick 1 rfl ?_
      obtain ⟨e228, hi230, H⟩ := bind_some H
      obtain ⟨j229, A231, c232, A233, c234, A235, c236, A237, c238, A239, c240, hi230a, hi230b, hi230c⟩ := idxC (q := (setI q98 (Int.tmod (IntKind.wrap .i64 (Int.tdiv (bits .and .i64 e106 1073741823) 2)) x0) (⟨r129.1, A131, c132, A135, c136, A139, c140, A143, c144, A147, c148⟩ : Cq))) (setI_map hq99) hi230
      refine wpS_put rfl rfl rfl (yx_idxA (j := j229) ar_42 rfl rfl hi230a (Nat.lt_of_lt_of_eq hi230c (setI_len hl97))) ?_
      refine wpS_put rfl rfl rfl (yv_load_boxA ag_30 rfl (RW.here _) hS hs6 trivial (seg_core hi230b)) ?_
      refine wpS_alloc rfl rfl zc_30 hS (fun b241 w hS hB => ?_)
      refine wpS_store rfl rfl rfl CellsOf.agg hS ps0 st0_22 (by kernel_rfl) rfl (fun w hS hB => ?_)
      refine wpS_nil ?_
      refine QH_seq_k hK227 ?_
      refine wpC_seq_k (fun K hK243 => ?_)
      refine wpC_region ?_
      refine wpS_put rfl rfl rfl (yv_fieldAddr fo_30_2 rfl) ?_
      refine wpS_put rfl rfl rfl (yv_load_box sc_5 rfl (RW.here _) hS hs0 trivial sg2_1) ?_
      refine wpS_put rfl rfl rfl (yv_eql rfl rfl) ?_
      refine wpS_nil ?_
      refine QH_seq_k hK243 ?_
      refine wpC_cond rfl (fun hb => ?_) (fun hb => ?_)
      rotate_left
      · replace H := cond_f H hb
        refine wpC_skip ?_
        refine QH_block_normal ?_
        refine QH_seq_k hK104 ?_
        refine wpC_region ?_
        refine wpS_quick 1 rfl ?_
        refine wpS_put rfl rfl rfl (yx_add rfl rfl) ?_
        refine wpS_quick 1 rfl ?_
        refine wpS_nil ?_
        replace hS := hS.front 7 rfl
        replace hS := hS.front 2 rfl
        replace hS := hS.front 7 rfl
        replace hS := hS.front 7 rfl
        replace hS := hS.front 7 rfl
        replace hS := hS.cut 5
        exact QH_again (n, v83, v84, A85, c86, q88, (IntKind.wrap .i64 (v93 + 1)), v94, (setI v96 (Int.tmod (IntKind.wrap .i64 (Int.tdiv (bits .and .i64 e106 1073741823) 2)) x0) r129.1), (setI q98 (Int.tmod (IntKind.wrap .i64 (Int.tdiv (bits .and .i64 e106 1073741823) 2)) x0) (⟨r129.1, A131, c132, A135, c136, A139, c140, A143, c144, A147, c148⟩ : Cq))) (by repeat (first | exact Sub.nil | refine Sub.cons rfl ?_)) ⟨hS, k87, hq89, okq90, hl95, (setI_len hl97), (setI_map hq99), (okc_set okq100 ⟨k133, k137, k141, k145, k149⟩), H⟩ (Nat.lt_succ_self _)
      replace H := cond_t H hb
      refine wpC_seq_k (fun K hK245 => ?_)
      refine wpC_region ?_
      refine wpS_put rfl rfl rfl (yv_fieldAddr fo_30_4 rfl) ?_
      refine wpS_put rfl rfl rfl (yv_fieldAddr fo_26_2 rfl) ?_
      refine wpS_put rfl rfl rfl (yv_load_box sc_3 rfl (RW.here _) hS hs0 trivial sg10_1) ?_
      refine wpS_quick 1 rfl ?_
      refine wpS_nil ?_
      refine QH_seq_k hK245 ?_
      refine wpC_seq_k (fun K hK246 => ?_)
      refine wpC_seq_k (fun K hK247 => ?_)
      refine wpC_draw 20 [] (fun _ _ => True) ⟨by kernel_rfl, by kernel_rfl⟩ hS (fun w hS hB => ?_)
      refine wpR_batch [true, true, true] (by decide +kernel) (by repeat (first | exact PF.body | exact PF.round | apply PF.then | apply PF.inBlock | apply PF.jump)) ?_
      refine LtK.put rfl rfl rfl (yv_move rfl) ?_
      refine LtK.put rfl rfl rfl (yv_lss rfl rfl) ?_
      refine LtK.put rfl rfl rfl (yv_move rfl) ?_
      refine LtK.nil ?_
      refine wpR_case 131 rfl (fun hb => ?_) (fun hb => ?_)
      · replace H := cond_t H hb
        refine wpR_batch [false, false, false, true, true, true, true, true, true, true, true, true, true, true, true, true, true, true, true, true] (by decide +kernel) (by repeat (first | exact PF.body | exact PF.round | apply PF.then | apply PF.inBlock | apply PF.jump)) ?_
        refine LtK.skip rfl rfl rfl ?_
        refine LtK.skip rfl rfl rfl ?_
        refine LtK.put rfl rfl rfl (yv_pick_t rfl rfl rfl) ?_
        refine LtK.put rfl rfl rfl (yv_move rfl) ?_
        refine LtK.skip rfl rfl rfl ?_
        refine LtK.skip rfl rfl rfl ?_
        refine LtK.skip rfl rfl rfl ?_
        refine LtK.skip rfl rfl rfl ?_
        refine LtK.skip rfl rfl rfl ?_
        refine LtK.skip rfl rfl rfl ?_
        refine LtK.skip rfl rfl rfl ?_
        refine LtK.skip rfl rfl rfl ?_
        refine LtK.skip rfl rfl rfl ?_
        refine LtK.skip rfl rfl rfl ?_
        refine LtK.skip rfl rfl rfl ?_
        refine LtK.skip rfl rfl rfl ?_
        refine LtK.put rfl rfl rfl (yv_pick_t rfl rfl rfl) ?_
        refine LtK.nil ?_
        refine wpR_end (by kernel_rfl) ?_
        refine QH_seq_k hK247 ?_
        refine wpC_cond_t rfl rfl ?_
        refine wpC_seq_k (fun K hK249 => ?_)
        refine wpC_region ?_
        refine wpS_quick 1 rfl ?_
        refine wpS_nil ?_
        refine QH_seq_k hK249 ?_
        refine wpC_ret ?_
        refine QH_then_ret ?_
        refine QH_block_ret ?_
        refine QH_then_ret ?_
        refine QH_then_ret ?_
        refine QH_block_ret ?_
        refine QH_then_ret ?_
        refine QH_ret rfl (RV.tmp rfl RV.nil) rfl ?_
        obtain rfl := Option.some.inj H
        replace hS := hS.cut 0
        exact ⟨rfl, hS⟩
      replace H := cond_f H hb
      refine wpR_batch [false, false, false, true, true, true, true] (by decide +kernel) (by repeat (first | exact PF.body | exact PF.round | apply PF.then | apply PF.inBlock | apply PF.jump)) ?_
      refine LtK.put rfl rfl rfl (yv_move rfl) ?_
      refine LtK.put rfl rfl rfl (yv_geq rfl rfl) ?_
      refine LtK.put rfl rfl rfl (yv_pick_f rfl rfl rfl) ?_
      refine LtK.put rfl rfl rfl (yv_move rfl) ?_
      refine LtK.nil ?_
      refine wpR_case 135 rfl (fun hb => ?_) (fun hb => ?_)
      · replace H := cond_t H hb
        refine wpR_batch [false, false, false, false, false, false, false, true, true, true, true, true, true, true, true, true, true, true, true, true] (by decide +kernel) (by repeat (first | exact PF.body | exact PF.round | apply PF.then | apply PF.inBlock | apply PF.jump)) ?_
        refine LtK.skip rfl rfl rfl ?_
        refine LtK.skip rfl rfl rfl ?_
        refine LtK.skip rfl rfl rfl ?_
        refine LtK.skip rfl rfl rfl ?_
        refine LtK.skip rfl rfl rfl ?_
        refine LtK.skip rfl rfl rfl ?_
        refine LtK.skip rfl rfl rfl ?_
        refine LtK.skip rfl rfl rfl ?_
        refine LtK.skip rfl rfl rfl ?_
        refine LtK.skip rfl rfl rfl ?_
        refine LtK.skip rfl rfl rfl ?_
        refine LtK.skip rfl rfl rfl ?_
        refine LtK.put rfl rfl rfl (yv_pick_t rfl rfl rfl) ?_
        refine LtK.nil ?_
        refine wpR_end (by kernel_rfl) ?_
        refine QH_seq_k hK247 ?_
        refine wpC_cond_t rfl rfl ?_
        refine wpC_seq_k (fun K hK252 => ?_)
        refine wpC_region ?_
        refine wpS_quick 1 rfl ?_
        refine wpS_nil ?_
        refine QH_seq_k hK252 ?_
        refine wpC_ret ?_
        refine QH_then_ret ?_
        refine QH_block_ret ?_
        refine QH_then_ret ?_
        refine QH_then_ret ?_
        refine QH_block_ret ?_
        refine QH_then_ret ?_
        refine QH_ret rfl (RV.tmp rfl RV.nil) rfl ?_
        obtain rfl := Option.some.inj H
        replace hS := hS.cut 0
        exact ⟨rfl, hS⟩
      replace H := cond_f H hb
      refine wpR_batch [false, false, false, false, false, false, false, true, true, true, true, true] (by decide +kernel) (by repeat (first | exact PF.body | exact PF.round | apply PF.then | apply PF.inBlock | apply PF.jump)) ?_
      refine LtK.put rfl rfl rfl (yv_move rfl) ?_
      obtain ⟨e254, hi256, H⟩ := bind_some H
      obtain ⟨j255, hi256a, hi256b, hi256c⟩ := idx_some hi256
      refine LtK.put rfl rfl rfl (yx_idxA (j := j255) ar_45 rfl rfl hi256a (Nat.lt_of_lt_of_eq hi256c hl95)) ?_
      refine LtK.put rfl rfl rfl (yv_load_box sc_3 rfl (RW.below _) hS hs6 trivial (seg_int hi256b)) ?_
      refine LtK.put rfl rfl rfl (yv_neq rfl rfl) ?_
      refine LtK.put rfl rfl rfl (yv_move rfl) ?_
      refine LtK.nil ?_
      refine wpR_case 140 rfl (fun hb => ?_) (fun hb => ?_)
      rotate_left
      · replace H := cond_f H hb
        refine wpR_batch [false, false, false, false, false, false, false, false, false, false, false, false, true, true, true, true, true, true, true, true] (by decide +kernel) (by repeat (first | exact PF.body | exact PF.round | apply PF.then | apply PF.inBlock | apply PF.jump)) ?_
        refine LtK.skip rfl rfl rfl ?_
        refine LtK.skip rfl rfl rfl ?_
        refine LtK.skip rfl rfl rfl ?_
        refine LtK.skip rfl rfl rfl ?_
        refine LtK.skip rfl rfl rfl ?_
        refine LtK.skip rfl rfl rfl ?_
        refine LtK.put rfl rfl rfl (yv_pick_f rfl rfl rfl) ?_
        refine LtK.put rfl rfl rfl (yv_pick_f rfl rfl rfl) ?_
        refine LtK.nil ?_
        refine wpR_end (by kernel_rfl) ?_
        refine QH_seq_k hK247 ?_
        refine wpC_cond_f rfl rfl ?_
        refine wpC_skip ?_
        refine QH_seq_k hK246 ?_
        refine wpC_region ?_
        refine wpS_quick 1 rfl ?_
        refine wpS_put rfl rfl rfl (yv_fieldAddr fo_30_0 rfl) ?_
        refine wpS_put rfl rfl rfl (yv_load_box sc_3 rfl (RW.here _) hS hs0 trivial sg0_1) ?_
        obtain ⟨e268, hi270, H⟩ := bind_some H
        obtain ⟨j269, hi270a, hi270b, hi270c⟩ := idx_some hi270
        refine wpS_put rfl rfl rfl (yx_idxA (j := j269) ar_45 rfl rfl hi270a (Nat.lt_of_lt_of_eq hi270c hl95)) ?_
        refine wpS_store rfl rfl rfl CellsOf.int hS ps6 (setc_int e228.id hi270a hi270b) (by kernel_rfl) rfl (fun w hS hB => ?_)
        refine wpS_nil ?_
        refine QH_block_normal ?_
        refine QH_seq_k hK104 ?_
        refine wpC_region ?_
        refine wpS_quick 1 rfl ?_
        refine wpS_put rfl rfl rfl (yx_add rfl rfl) ?_
        refine wpS_quick 1 rfl ?_
        refine wpS_nil ?_
        replace hS := hS.front 7 rfl
        replace hS := hS.front 2 rfl
        replace hS := hS.front 7 rfl
        replace hS := hS.front 7 rfl
        replace hS := hS.front 7 rfl
        replace hS := hS.cut 5
        exact QH_again (n, v83, v84, A85, c86, q88, (IntKind.wrap .i64 (v93 + 1)), (setI v94 e228.tuple.term e228.id), (setI v96 (Int.tmod (IntKind.wrap .i64 (Int.tdiv (bits .and .i64 e106 1073741823) 2)) x0) r129.1), (setI q98 (Int.tmod (IntKind.wrap .i64 (Int.tdiv (bits .and .i64 e106 1073741823) 2)) x0) (⟨r129.1, A131, c132, A135, c136, A139, c140, A143, c144, A147, c148⟩ : Cq))) (by repeat (first | exact Sub.nil | refine Sub.cons rfl ?_)) ⟨hS, k87, hq89, okq90, (setI_len hl95), (setI_len hl97), (setI_map hq99), (okc_set okq100 ⟨k133, k137, k141, k145, k149⟩), H⟩ (Nat.lt_succ_self _)
      replace H := cond_t H hb
      refine wpR_batch [false, false, false, false, false, false, false, false, false, false, false, false, true, true, true, true, true, true, true, true] (by decide +kernel) (by repeat (first | exact PF.body | exact PF.round | apply PF.then | apply PF.inBlock | apply PF.jump)) ?_
      refine LtK.put rfl rfl rfl (yv_move rfl) ?_
      obtain ⟨e258, hi260, H⟩ := bind_some H
      obtain ⟨j259, hi260a, hi260b, hi260c⟩ := idx_some hi260
      refine LtK.put rfl rfl rfl (yx_idxA (j := j259) ar_45 rfl rfl hi260a (Nat.lt_of_lt_of_eq hi260c hl95)) ?_
      refine LtK.put rfl rfl rfl (yv_load_box sc_3 rfl (RW.below _) hS hs6 trivial (seg_int hi260b)) ?_
      refine LtK.put rfl rfl rfl (yv_fieldAddr fo_30_0 rfl) ?_
      refine LtK.put rfl rfl rfl (yv_load_box sc_3 rfl (RW.below _) hS hs0 trivial sg0_1) ?_
      refine LtK.put rfl rfl rfl (yv_neq rfl rfl) ?_
      refine LtK.put rfl rfl rfl (yv_pick_t rfl rfl rfl) ?_
      refine LtK.put rfl rfl rfl (yv_pick_f rfl rfl rfl) ?_
      refine LtK.nil ?_
      refine wpR_end (by kernel_rfl) ?_
      refine QH_seq_k hK247 ?_
      refine wpC_cond rfl (fun hb => ?_) (fun hb => ?_)
      · replace H := cond_t H hb
        refine wpC_seq_k (fun K hK262 => ?_)
        refine wpC_region ?_
        refine wpS_quick 1 rfl ?_
        refine wpS_nil ?_
        refine QH_seq_k hK262 ?_
        refine wpC_ret ?_
        refine QH_then_ret ?_
        refine QH_block_ret ?_
        refine QH_then_ret ?_
        refine QH_then_ret ?_
        refine QH_block_ret ?_
        refine QH_then_ret ?_
        refine QH_ret rfl (RV.tmp rfl RV.nil) rfl ?_
        obtain rfl := Option.some.inj H
        replace hS := hS.cut 0
        exact ⟨rfl, hS⟩
      replace H := cond_f H hb
      refine wpC_skip ?_
      refine QH_seq_k hK246 ?_
      refine wpC_region ?_
      refine wpS_quick 1 rfl ?_
      refine wpS_put rfl rfl rfl (yv_fieldAddr fo_30_0 rfl) ?_
      refine wpS_put rfl rfl rfl (yv_load_box sc_3 rfl (RW.here _) hS hs0 trivial sg0_1) ?_
      obtain ⟨e264, hi266, H⟩ := bind_some H
      obtain ⟨j265, hi266a, hi266b, hi266c⟩ := idx_some hi266
      refine wpS_put rfl rfl rfl (yx_idxA (j := j265) ar_45 rfl rfl hi266a (Nat.lt_of_lt_of_eq hi266c hl95)) ?_
      refine wpS_store rfl rfl rfl CellsOf.int hS ps6 (setc_int e228.id hi266a hi266b) (by kernel_rfl) rfl (fun w hS hB => ?_)
      refine wpS_nil ?_
      refine QH_block_normal ?_
      refine QH_seq_k hK104 ?_
      refine wpC_region ?_
      refine wpS_quick 1 rfl ?_
      refine wpS_put rfl rfl rfl (yx_add rfl rfl) ?_
      refine wpS_quick 1 rfl ?_
      refine wpS_nil ?_
      replace hS := hS.front 7 rfl
      replace hS := hS.front 2 rfl
      replace hS := hS.front 7 rfl
      replace hS := hS.front 7 rfl
      replace hS := hS.front 7 rfl
      replace hS := hS.cut 5
      exact QH_again (n, v83, v84, A85, c86, q88, (IntKind.wrap .i64 (v93 + 1)), (setI v94 e228.tuple.term e228.id), (setI v96 (Int.tmod (IntKind.wrap .i64 (Int.tdiv (bits .and .i64 e106 1073741823) 2)) x0) r129.1), (setI q98 (Int.tmod (IntKind.wrap .i64 (Int.tdiv (bits .and .i64 e106 1073741823) 2)) x0) (⟨r129.1, A131, c132, A135, c136, A139, c140, A143, c144, A147, c148⟩ : Cq))) (by repeat (first | exact Sub.nil | refine Sub.cons rfl ?_)) ⟨hS, k87, hq89, okq90, (setI_len hl95), (setI_len hl97), (setI_map hq99), (okc_set okq100 ⟨k133, k137, k141, k145, k149⟩), H⟩ (Nat.lt_succ_self _)
    replace H := cond_t H hb
    refine wpC_region ?_
    refine wpS_quick 2 rfl ?_
    obtain ⟨l175, hf176, H⟩ := bind_some H
    refine wpX_appendQ2 (l := v84) (q := q88) (p := q155) (m := r129.2) em_32 (by decide) rfl rfl rfl rfl hS hq89 hq156 (fun _ => ps3) (hS.rd hs1) hf176 (fun A177 c178 w k179 hS hq180 hB => ?_)
    replace hS := hS.front 4 rfl
    replace hS := hS.front 3 rfl
    replace hS := hS.absorbAll
    refine wpS_quick 1 rfl ?_
    refine wpS_nil ?_
    refine QH_seq_k hK172 ?_
    refine wpC_seq_k (fun K hK181 => ?_)
    refine wpC_region ?_
    refine wpS_quick 1 rfl ?_
    obtain ⟨e182, hi184, H⟩ := bind_some H
    obtain ⟨j183, A185, c186, A187, c188, A189, c190, A191, c192, A193, c194, hi184a, hi184b, hi184c⟩ := idxC (q := (setI q98 (Int.tmod (IntKind.wrap .i64 (Int.tdiv (bits .and .i64 e106 1073741823) 2)) x0) (⟨r129.1, A131, c132, A135, c136, A139, c140, A143, c144, A147, c148⟩ : Cq))) (setI_map hq99) hi184
    refine wpS_put rfl rfl rfl (yx_idxA (j := j183) ar_42 rfl rfl hi184a (Nat.lt_of_lt_of_eq hi184c (setI_len hl97))) ?_
    refine wpS_put rfl rfl rfl (yv_load_boxA ag_30 rfl (RW.here _) hS hs5 trivial (seg_core hi184b)) ?_
    refine wpS_alloc rfl rfl zc_30 hS (fun b195 w hS hB => ?_)
    refine wpS_store rfl rfl rfl CellsOf.agg hS ps0 st0_22 (by kernel_rfl) rfl (fun w hS hB => ?_)
    refine wpS_nil ?_
    refine QH_seq_k hK181 ?_
    refine wpC_seq_k (fun K hK197 => ?_)
    refine wpC_region ?_
    refine wpS_put rfl rfl rfl (yv_fieldAddr fo_30_2 rfl) ?_
    refine wpS_put rfl rfl rfl (yv_load_box sc_5 rfl (RW.here _) hS hs0 trivial sg2_1) ?_
    refine wpS_put rfl rfl rfl (yv_eql rfl rfl) ?_
    refine wpS_nil ?_
    refine QH_seq_k hK197 ?_
    refine wpC_cond rfl (fun hb => ?_) (fun hb => ?_)
    rotate_left
    · replace H := cond_f H hb
      refine wpC_skip ?_
      refine QH_block_normal ?_
      refine QH_seq_k hK104 ?_
      refine wpC_region ?_
      refine wpS_quick 1 rfl ?_
      refine wpS_put rfl rfl rfl (yx_add rfl rfl) ?_
      refine wpS_quick 1 rfl ?_
      refine wpS_nil ?_
      replace hS := hS.front 6 rfl
      replace hS := hS.front 3 rfl
      replace hS := hS.front 6 rfl
      replace hS := hS.front 4 rfl
      replace hS := hS.front 6 rfl
      replace hS := hS.cut 5
      exact QH_again (n, v83, l175, A177, c178, (q88 ++ q155), (IntKind.wrap .i64 (v93 + 1)), v94, (setI v96 (Int.tmod (IntKind.wrap .i64 (Int.tdiv (bits .and .i64 e106 1073741823) 2)) x0) r129.1), (setI q98 (Int.tmod (IntKind.wrap .i64 (Int.tdiv (bits .and .i64 e106 1073741823) 2)) x0) (⟨r129.1, A131, c132, A135, c136, A139, c140, A143, c144, A147, c148⟩ : Cq))) (by repeat (first | exact Sub.nil | refine Sub.cons rfl ?_)) ⟨hS, k179, hq180, (okq_app okq90 okq157), hl95, (setI_len hl97), (setI_map hq99), (okc_set okq100 ⟨k133, k137, k141, k145, k149⟩), H⟩ (Nat.lt_succ_self _)
    replace H := cond_t H hb
    refine wpC_seq_k (fun K hK199 => ?_)
    refine wpC_region ?_
    refine wpS_put rfl rfl rfl (yv_fieldAddr fo_30_4 rfl) ?_
    refine wpS_put rfl rfl rfl (yv_fieldAddr fo_26_2 rfl) ?_
    refine wpS_put rfl rfl rfl (yv_load_box sc_3 rfl (RW.here _) hS hs0 trivial sg10_1) ?_
    refine wpS_quick 1 rfl ?_
    refine wpS_nil ?_
    refine QH_seq_k hK199 ?_
    refine wpC_seq_k (fun K hK200 => ?_)
    refine wpC_seq_k (fun K hK201 => ?_)
    refine wpC_draw 20 [] (fun _ _ => True) ⟨by kernel_rfl, by kernel_rfl⟩ hS (fun w hS hB => ?_)
    refine wpR_batch [true, true, true] (by decide +kernel) (by repeat (first | exact PF.body | exact PF.round | apply PF.then | apply PF.inBlock | apply PF.jump)) ?_
    refine LtK.put rfl rfl rfl (yv_move rfl) ?_
    refine LtK.put rfl rfl rfl (yv_lss rfl rfl) ?_
    refine LtK.put rfl rfl rfl (yv_move rfl) ?_
    refine LtK.nil ?_
    refine wpR_case 131 rfl (fun hb => ?_) (fun hb => ?_)
    · replace H := cond_t H hb
      refine wpR_batch [false, false, false, true, true, true, true, true, true, true, true, true, true, true, true, true, true, true, true, true] (by decide +kernel) (by repeat (first | exact PF.body | exact PF.round | apply PF.then | apply PF.inBlock | apply PF.jump)) ?_
      refine LtK.skip rfl rfl rfl ?_
      refine LtK.skip rfl rfl rfl ?_
      refine LtK.put rfl rfl rfl (yv_pick_t rfl rfl rfl) ?_
      refine LtK.put rfl rfl rfl (yv_move rfl) ?_
      refine LtK.skip rfl rfl rfl ?_
      refine LtK.skip rfl rfl rfl ?_
      refine LtK.skip rfl rfl rfl ?_
      refine LtK.skip rfl rfl rfl ?_
      refine LtK.skip rfl rfl rfl ?_
      refine LtK.skip rfl rfl rfl ?_
      refine LtK.skip rfl rfl rfl ?_
      refine LtK.skip rfl rfl rfl ?_
      refine LtK.skip rfl rfl rfl ?_
      refine LtK.skip rfl rfl rfl ?_
      refine LtK.skip rfl rfl rfl ?_
      refine LtK.skip rfl rfl rfl ?_
      refine LtK.put rfl rfl rfl (yv_pick_t rfl rfl rfl) ?_
      refine LtK.nil ?_
      refine wpR_end (by kernel_rfl) ?_
      refine QH_seq_k hK201 ?_
      refine wpC_cond_t rfl rfl ?_
      refine wpC_seq_k (fun K hK203 => ?_)
      refine wpC_region ?_
      refine wpS_quick 1 rfl ?_
      refine wpS_nil ?_
      refine QH_seq_k hK203 ?_
      refine wpC_ret ?_
      refine QH_then_ret ?_
      refine QH_block_ret ?_
      refine QH_then_ret ?_
      refine QH_then_ret ?_
      refine QH_block_ret ?_
      refine QH_then_ret ?_
      refine QH_ret rfl (RV.tmp rfl RV.nil) rfl ?_
      obtain rfl := Option.some.inj H
      replace hS := hS.cut 0
      exact ⟨rfl, hS⟩
    replace H := cond_f H hb
    refine wpR_batch [false, false, false, true, true, true, true] (by decide +kernel) (by repeat (first | exact PF.body | exact PF.round | apply PF.then | apply PF.inBlock | apply PF.jump)) ?_
    refine LtK.put rfl rfl rfl (yv_move rfl) ?_
    refine LtK.put rfl rfl rfl (yv_geq rfl rfl) ?_
    refine LtK.put rfl rfl rfl (yv_pick_f rfl rfl rfl) ?_
    refine LtK.put rfl rfl rfl (yv_move rfl) ?_
    refine LtK.nil ?_
    refine wpR_case 135 rfl (fun hb => ?_) (fun hb => ?_)
    · replace H := cond_t H hb
      refine wpR_batch [false, false, false, false, false, false, false, true, true, true, true, true, true, true, true, true, true, true, true, true] (by decide +kernel) (by repeat (first | exact PF.body | exact PF.round | apply PF.then | apply PF.inBlock | apply PF.jump)) ?_
      refine LtK.skip rfl rfl rfl ?_
      refine LtK.skip rfl rfl rfl ?_
      refine LtK.skip rfl rfl rfl ?_
      refine LtK.skip rfl rfl rfl ?_
      refine LtK.skip rfl rfl rfl ?_
      refine LtK.skip rfl rfl rfl ?_
      refine LtK.skip rfl rfl rfl ?_
      refine LtK.skip rfl rfl rfl ?_
      refine LtK.skip rfl rfl rfl ?_
      refine LtK.skip rfl rfl rfl ?_
      refine LtK.skip rfl rfl rfl ?_
      refine LtK.skip rfl rfl rfl ?_
      refine LtK.put rfl rfl rfl (yv_pick_t rfl rfl rfl) ?_
      refine LtK.nil ?_
      refine wpR_end (by kernel_rfl) ?_
      refine QH_seq_k hK201 ?_
      refine wpC_cond_t rfl rfl ?_
      refine wpC_seq_k (fun K hK206 => ?_)
      refine wpC_region ?_
      refine wpS_quick 1 rfl ?_
      refine wpS_nil ?_
      refine QH_seq_k hK206 ?_
      refine wpC_ret ?_
      refine QH_then_ret ?_
      refine QH_block_ret ?_
      refine QH_then_ret ?_
      refine QH_then_ret ?_
      refine QH_block_ret ?_
      refine QH_then_ret ?_
      refine QH_ret rfl (RV.tmp rfl RV.nil) rfl ?_
      obtain rfl := Option.some.inj H
      replace hS := hS.cut 0
      exact ⟨rfl, hS⟩
    replace H := cond_f H hb
    refine wpR_batch [false, false, false, false, false, false, false, true, true, true, true, true] (by decide +kernel) (by repeat (first | exact PF.body | exact PF.round | apply PF.then | apply PF.inBlock | apply PF.jump)) ?_
    refine LtK.put rfl rfl rfl (yv_move rfl) ?_
    obtain ⟨e208, hi210, H⟩ := bind_some H
    obtain ⟨j209, hi210a, hi210b, hi210c⟩ := idx_some hi210
    refine LtK.put rfl rfl rfl (yx_idxA (j := j209) ar_45 rfl rfl hi210a (Nat.lt_of_lt_of_eq hi210c hl95)) ?_
    refine LtK.put rfl rfl rfl (yv_load_box sc_3 rfl (RW.below _) hS hs5 trivial (seg_int hi210b)) ?_
    refine LtK.put rfl rfl rfl (yv_neq rfl rfl) ?_
    refine LtK.put rfl rfl rfl (yv_move rfl) ?_
    refine LtK.nil ?_
    refine wpR_case 140 rfl (fun hb => ?_) (fun hb => ?_)
    rotate_left
    · replace H := cond_f H hb
      refine wpR_batch [false, false, false, false, false, false, false, false, false, false, false, false, true, true, true, true, true, true, true, true] (by decide +kernel) (by repeat (first | exact PF.body | exact PF.round | apply PF.then | apply PF.inBlock | apply PF.jump)) ?_
      refine LtK.skip rfl rfl rfl ?_
      refine LtK.skip rfl rfl rfl ?_
      refine LtK.skip rfl rfl rfl ?_
      refine LtK.skip rfl rfl rfl ?_
      refine LtK.skip rfl rfl rfl ?_
      refine LtK.skip rfl rfl rfl ?_
      refine LtK.put rfl rfl rfl (yv_pick_f rfl rfl rfl) ?_
      refine LtK.put rfl rfl rfl (yv_pick_f rfl rfl rfl) ?_
      refine LtK.nil ?_
      refine wpR_end (by kernel_rfl) ?_
      refine QH_seq_k hK201 ?_
      refine wpC_cond_f rfl rfl ?_
      refine wpC_skip ?_
      refine QH_seq_k hK200 ?_
      refine wpC_region ?_
      refine wpS_quick 1 rfl ?_
      refine wpS_put rfl rfl rfl (yv_fieldAddr fo_30_0 rfl) ?_
      refine wpS_put rfl rfl rfl (yv_load_box sc_3 rfl (RW.here _) hS hs0 trivial sg0_1) ?_
      obtain ⟨e222, hi224, H⟩ := bind_some H
      obtain ⟨j223, hi224a, hi224b, hi224c⟩ := idx_some hi224
      refine wpS_put rfl rfl rfl (yx_idxA (j := j223) ar_45 rfl rfl hi224a (Nat.lt_of_lt_of_eq hi224c hl95)) ?_
      refine wpS_store rfl rfl rfl CellsOf.int hS ps5 (setc_int e182.id hi224a hi224b) (by kernel_rfl) rfl (fun w hS hB => ?_)
      refine wpS_nil ?_
      refine QH_block_normal ?_
      refine QH_seq_k hK104 ?_
      refine wpC_region ?_
      refine wpS_quick 1 rfl ?_
      refine wpS_put rfl rfl rfl (yx_add rfl rfl) ?_
      refine wpS_quick 1 rfl ?_
      refine wpS_nil ?_
      replace hS := hS.front 6 rfl
      replace hS := hS.front 3 rfl
      replace hS := hS.front 6 rfl
      replace hS := hS.front 4 rfl
      replace hS := hS.front 6 rfl
      replace hS := hS.cut 5
      exact QH_again (n, v83, l175, A177, c178, (q88 ++ q155), (IntKind.wrap .i64 (v93 + 1)), (setI v94 e182.tuple.term e182.id), (setI v96 (Int.tmod (IntKind.wrap .i64 (Int.tdiv (bits .and .i64 e106 1073741823) 2)) x0) r129.1), (setI q98 (Int.tmod (IntKind.wrap .i64 (Int.tdiv (bits .and .i64 e106 1073741823) 2)) x0) (⟨r129.1, A131, c132, A135, c136, A139, c140, A143, c144, A147, c148⟩ : Cq))) (by repeat (first | exact Sub.nil | refine Sub.cons rfl ?_)) ⟨hS, k179, hq180, (okq_app okq90 okq157), (setI_len hl95), (setI_len hl97), (setI_map hq99), (okc_set okq100 ⟨k133, k137, k141, k145, k149⟩), H⟩ (Nat.lt_succ_self _)
    replace H := cond_t H hb
    refine wpR_batch [false, false, false, false, false, false, false, false, false, false, false, false, true, true, true, true, true, true, true, true] (by decide +kernel) (by repeat (first | exact PF.body | exact PF.round | apply PF.then | apply PF.inBlock | apply PF.jump)) ?_
    refine LtK.put rfl rfl rfl (yv_move rfl) ?_
    obtain ⟨e212, hi214, H⟩ := bind_some H
    obtain ⟨j213, hi214a, hi214b, hi214c⟩ := idx_some hi214
    refine LtK.put rfl rfl rfl (yx_idxA (j := j213) ar_45 rfl rfl hi214a (Nat.lt_of_lt_of_eq hi214c hl95)) ?_
    refine LtK.put rfl rfl rfl (yv_load_box sc_3 rfl (RW.below _) hS hs5 trivial (seg_int hi214b)) ?_
    refine LtK.put rfl rfl rfl (yv_fieldAddr fo_30_0 rfl) ?_
    refine LtK.put rfl rfl rfl (yv_load_box sc_3 rfl (RW.below _) hS hs0 trivial sg0_1) ?_
    refine LtK.put rfl rfl rfl (yv_neq rfl rfl) ?_
    refine LtK.put rfl rfl rfl (yv_pick_t rfl rfl rfl) ?_
    refine LtK.put rfl rfl rfl (yv_pick_f rfl rfl rfl) ?_
    refine LtK.nil ?_
    refine wpR_end (by kernel_rfl) ?_
    refine QH_seq_k hK201 ?_
    refine wpC_cond rfl (fun hb => ?_) (fun hb => ?_)
    · replace H := cond_t H hb
      refine wpC_seq_k (fun K hK216 => ?_)
      refine wpC_region ?_
      refine wpS_quick 1 rfl ?_
      refine wpS_nil ?_
      refine QH_seq_k hK216 ?_
      refine wpC_ret ?_
      refine QH_then_ret ?_
      refine QH_block_ret ?_
      refine QH_then_ret ?_
      refine QH_then_ret ?_
      refine QH_block_ret ?_
      refine QH_then_ret ?_
      refine QH_ret rfl (RV.tmp rfl RV.nil) rfl ?_
      obtain rfl := Option.some.inj H
      replace hS := hS.cut 0
      exact ⟨rfl, hS⟩
    replace H := cond_f H hb
    refine wpC_skip ?_
    refine QH_seq_k hK200 ?_
    refine wpC_region ?_
    refine wpS_quick 1 rfl ?_
    refine wpS_put rfl rfl rfl (yv_fieldAddr fo_30_0 rfl) ?_
    refine wpS_put rfl rfl rfl (yv_load_box sc_3 rfl (RW.here _) hS hs0 trivial sg0_1) ?_
    obtain ⟨e218, hi220, H⟩ := bind_some H
    obtain ⟨j219, hi220a, hi220b, hi220c⟩ := idx_some hi220
    refine wpS_put rfl rfl rfl (yx_idxA (j := j219) ar_45 rfl rfl hi220a (Nat.lt_of_lt_of_eq hi220c hl95)) ?_
    refine wpS_store rfl rfl rfl CellsOf.int hS ps5 (setc_int e182.id hi220a hi220b) (by kernel_rfl) rfl (fun w hS hB => ?_)
    refine wpS_nil ?_
    refine QH_block_normal ?_
    refine QH_seq_k hK104 ?_
    refine wpC_region ?_
    refine wpS_quick 1 rfl ?_
    refine wpS_put rfl rfl rfl (yx_add rfl rfl) ?_
    refine wpS_quick 1 rfl ?_
    refine wpS_nil ?_
    replace hS := hS.front 6 rfl
    replace hS := hS.front 3 rfl
    replace hS := hS.front 6 rfl
    replace hS := hS.front 4 rfl
    replace hS := hS.front 6 rfl
    replace hS := hS.cut 5
    exact QH_again (n, v83, l175, A177, c178, (q88 ++ q155), (IntKind.wrap .i64 (v93 + 1)), (setI v94 e182.tuple.term e182.id), (setI v96 (Int.tmod (IntKind.wrap .i64 (Int.tdiv (bits .and .i64 e106 1073741823) 2)) x0) r129.1), (setI q98 (Int.tmod (IntKind.wrap .i64 (Int.tdiv (bits .and .i64 e106 1073741823) 2)) x0) (⟨r129.1, A131, c132, A135, c136, A139, c140, A143, c144, A147, c148⟩ : Cq))) (by repeat (first | exact Sub.nil | refine Sub.cons rfl ?_)) ⟨hS, k179, hq180, (okq_app okq90 okq157), (setI_len hl95), (setI_len hl97), (setI_map hq99), (okc_set okq100 ⟨k133, k137, k141, k145, k149⟩), H⟩ (Nat.lt_succ_self _)
  replace H := cond_f H hb
  refine wpS_quick 1 rfl ?_
  refine wpS_put rfl rfl rfl (yv_len el_32 rfl) ?_
  refine wpS_put rfl rfl rfl (yv_eql rfl rfl) ?_
  refine wpS_quick 1 rfl ?_
  refine wpS_nil ?_
  refine QH_seq_k hK114 ?_
  refine wpC_cond rfl (fun hb => ?_) (fun hb => ?_)
  · replace H := cond_t H hb
    refine wpC_region ?_
    refine wpS_quick 2 rfl ?_
    obtain ⟨e274, hi276, H⟩ := bind_some H
    obtain ⟨j275, A277, c278, A279, c280, A281, c282, A283, c284, A285, c286, hi276a, hi276b, hi276c⟩ := idxC (q := q98) hq99 hi276
    refine wpS_put rfl rfl rfl (yx_idxA (j := j275) ar_42 rfl rfl hi276a (Nat.lt_of_lt_of_eq hi276c hl97)) ?_
    refine wpS_put rfl rfl rfl (yv_load_boxA ag_30 rfl (RW.here _) hS hs4 trivial (seg_core hi276b)) ?_
    obtain ⟨r287, hm288, H⟩ := bind_some H
    refine wpS_call rfl rfl rfl rfl (by kernel_rfl) rfl (c_elect_Timeout e274 A277 c278 A279 c280 A281 c282 A283 c284 A285 c286 _ (SlI.of_rd ((okc_at okq100 hi276b).k0) (hS.rdsC0 hs3 hi276b).1 (hS.rdsC0 hs3 hi276b).2) (SlI.of_rd ((okc_at okq100 hi276b).k1) (hS.rdsC1 hs3 hi276b).1 (hS.rdsC1 hs3 hi276b).2) (SlI.of_rd ((okc_at okq100 hi276b).k2) (hS.rdsC2 hs3 hi276b).1 (hS.rdsC2 hs3 hi276b).2) (SlI.of_rd ((okc_at okq100 hi276b).k3) (hS.rdsC3 hs3 hi276b).1 (hS.rdsC3 hs3 hi276b).2) (SlI.of_rd ((okc_at okq100 hi276b).k4) (hS.rdsC4 hs3 hi276b).1 (hS.rdsC4 hs3 hi276b).2) hm288) ?_
    rintro e w ⟨A289, c290, A293, c294, A297, c298, A301, c302, A305, c306, A309, c310, q313, rfl, k291, k295, k299, k303, k307, k311, hq314, okq315, hN⟩; refine ⟨_, rfl, ?_⟩; have hB := hN.pure; have hS := hS.join hN; clear hN
    refine wpS_quick 1 rfl ?_
    refine wpS_put rfl rfl rfl (yv_extract rfl rfl) ?_
    refine wpS_put rfl rfl rfl (yv_extract rfl rfl) ?_
    obtain ⟨e317, hi319, H⟩ := bind_some H
    obtain ⟨j318, A320, c321, A322, c323, A324, c325, A326, c327, A328, c329, hi319a, hi319b, hi319c⟩ := idxC (q := q98) hq99 hi319
    refine wpS_put rfl rfl rfl (yx_idxA (j := j318) ar_42 rfl rfl hi319a (Nat.lt_of_lt_of_eq hi319c hl97)) ?_
    refine wpS_store rfl rfl rfl CellsOf.agg hS ps11 (setc_core (⟨r287.1, A289, c290, A293, c294, A297, c298, A301, c302, A305, c306⟩ : Cq) hi319a hi319b) (by kernel_rfl) rfl (fun w hS hB => ?_)
    replace hS := hS.front 10 rfl
    replace hS := hS.front 1 rfl
    replace hS := hS.absorb
    replace hS := hS.front 1 rfl
    replace hS := hS.weak Weak.rowRd
    replace hS := hS.absorb
    replace hS := hS.front 1 rfl
    replace hS := hS.weak Weak.rowRd
    replace hS := hS.absorb
    replace hS := hS.front 1 rfl
    replace hS := hS.weak Weak.rowRd
    replace hS := hS.absorb
    replace hS := hS.front 1 rfl
    replace hS := hS.weak Weak.rowRd
    replace hS := hS.absorb
    replace hS := hS.setC (i := (Int.tmod (IntKind.wrap .i64 (Int.tdiv (bits .and .i64 e106 1073741823) 2)) x0)) (⟨r287.1, A289, c290, A293, c294, A297, c298, A301, c302, A305, c306⟩ : Cq)
    refine wpS_quick 1 rfl ?_
    refine wpS_nil ?_
    refine QH_seq_k hK113 ?_
    refine wpC_seq_k (fun K hK330 => ?_)
    refine wpC_seq_k (fun K hK331 => ?_)
    refine wpC_region ?_
    refine wpS_quick 1 rfl ?_
    refine wpS_put rfl rfl rfl (yv_len el_32 rfl) ?_
    refine wpS_quick 1 rfl ?_
    refine wpS_put rfl rfl rfl (yv_leq rfl rfl) ?_
    refine wpS_nil ?_
    refine QH_seq_k hK331 ?_
    refine wpC_cond rfl (fun hb => ?_) (fun hb => ?_)
    rotate_left
    · replace H := cond_f H hb
      refine wpC_skip ?_
      refine QH_seq_k hK330 ?_
      refine wpC_seq_k (fun K hK385 => ?_)
      refine wpC_region ?_
      refine wpS_quick 1 rfl ?_
      obtain ⟨e386, hi388, H⟩ := bind_some H
      obtain ⟨j387, A389, c390, A391, c392, A393, c394, A395, c396, A397, c398, hi388a, hi388b, hi388c⟩ := idxC (q := (setI q98 (Int.tmod (IntKind.wrap .i64 (Int.tdiv (bits .and .i64 e106 1073741823) 2)) x0) (⟨r287.1, A289, c290, A293, c294, A297, c298, A301, c302, A305, c306⟩ : Cq))) (setI_map hq99) hi388
      refine wpS_put rfl rfl rfl (yx_idxA (j := j387) ar_42 rfl rfl hi388a (Nat.lt_of_lt_of_eq hi388c (setI_len hl97))) ?_
      refine wpS_put rfl rfl rfl (yv_load_boxA ag_30 rfl (RW.here _) hS hs6 trivial (seg_core hi388b)) ?_
      refine wpS_alloc rfl rfl zc_30 hS (fun b399 w hS hB => ?_)
      refine wpS_store rfl rfl rfl CellsOf.agg hS ps0 st0_22 (by kernel_rfl) rfl (fun w hS hB => ?_)
      refine wpS_nil ?_
      refine QH_seq_k hK385 ?_
      refine wpC_seq_k (fun K hK401 => ?_)
      refine wpC_region ?_
      refine wpS_put rfl rfl rfl (yv_fieldAddr fo_30_2 rfl) ?_
      refine wpS_put rfl rfl rfl (yv_load_box sc_5 rfl (RW.here _) hS hs0 trivial sg2_1) ?_
      refine wpS_put rfl rfl rfl (yv_eql rfl rfl) ?_
      refine wpS_nil ?_
      refine QH_seq_k hK401 ?_
      refine wpC_cond rfl (fun hb => ?_) (fun hb => ?_)
      rotate_left
      · replace H := cond_f H hb
        refine wpC_skip ?_
        refine QH_block_normal ?_
        refine QH_seq_k hK104 ?_
        refine wpC_region ?_
        refine wpS_quick 1 rfl ?_
        refine wpS_put rfl rfl rfl (yx_add rfl rfl) ?_
        refine wpS_quick 1 rfl ?_
        refine wpS_nil ?_
        replace hS := hS.front 7 rfl
        replace hS := hS.front 2 rfl
        replace hS := hS.front 7 rfl
        replace hS := hS.front 7 rfl
        replace hS := hS.front 7 rfl
        replace hS := hS.cut 5
        exact QH_again (n, v83, v84, A85, c86, q88, (IntKind.wrap .i64 (v93 + 1)), v94, (setI v96 (Int.tmod (IntKind.wrap .i64 (Int.tdiv (bits .and .i64 e106 1073741823) 2)) x0) r287.1), (setI q98 (Int.tmod (IntKind.wrap .i64 (Int.tdiv (bits .and .i64 e106 1073741823) 2)) x0) (⟨r287.1, A289, c290, A293, c294, A297, c298, A301, c302, A305, c306⟩ : Cq))) (by repeat (first | exact Sub.nil | refine Sub.cons rfl ?_)) ⟨hS, k87, hq89, okq90, hl95, (setI_len hl97), (setI_map hq99), (okc_set okq100 ⟨k291, k295, k299, k303, k307⟩), H⟩ (Nat.lt_succ_self _)
      replace H := cond_t H hb
      refine wpC_seq_k (fun K hK403 => ?_)
      refine wpC_region ?_
      refine wpS_put rfl rfl rfl (yv_fieldAddr fo_30_4 rfl) ?_
      refine wpS_put rfl rfl rfl (yv_fieldAddr fo_26_2 rfl) ?_
      refine wpS_put rfl rfl rfl (yv_load_box sc_3 rfl (RW.here _) hS hs0 trivial sg10_1) ?_
      refine wpS_quick 1 rfl ?_
      refine wpS_nil ?_
      refine QH_seq_k hK403 ?_
      refine wpC_seq_k (fun K hK404 => ?_)
      refine wpC_seq_k (fun K hK405 => ?_)
      refine wpC_draw 20 [] (fun _ _ => True) ⟨by kernel_rfl, by kernel_rfl⟩ hS (fun w hS hB => ?_)
      refine wpR_batch [true, true, true] (by decide +kernel) (by repeat (first | exact PF.body | exact PF.round | apply PF.then | apply PF.inBlock | apply PF.jump)) ?_
      refine LtK.put rfl rfl rfl (yv_move rfl) ?_
      refine LtK.put rfl rfl rfl (yv_lss rfl rfl) ?_
      refine LtK.put rfl rfl rfl (yv_move rfl) ?_
      refine LtK.nil ?_
      refine wpR_case 131 rfl (fun hb => ?_) (fun hb => ?_)
      · replace H := cond_t H hb
        refine wpR_batch [false, false, false, true, true, true, true, true, true, true, true, true, true, true, true, true, true, true, true, true] (by decide +kernel) (by repeat (first | exact PF.body | exact PF.round | apply PF.then | apply PF.inBlock | apply PF.jump)) ?_
        refine LtK.skip rfl rfl rfl ?_
        refine LtK.skip rfl rfl rfl ?_
        refine LtK.put rfl rfl rfl (yv_pick_t rfl rfl rfl) ?_
        refine LtK.put rfl rfl rfl (yv_move rfl) ?_
        refine LtK.skip rfl rfl rfl ?_
        refine LtK.skip rfl rfl rfl ?_
        refine LtK.skip rfl rfl rfl ?_
        refine LtK.skip rfl rfl rfl ?_
        refine LtK.skip rfl rfl rfl ?_
        refine LtK.skip rfl rfl rfl ?_
        refine LtK.skip rfl rfl rfl ?_
        refine LtK.skip rfl rfl rfl ?_
        refine LtK.skip rfl rfl rfl ?_
        refine LtK.skip rfl rfl rfl ?_
        refine LtK.skip rfl rfl rfl ?_
        refine LtK.skip rfl rfl rfl ?_
        refine LtK.put rfl rfl rfl (yv_pick_t rfl rfl rfl) ?_
        refine LtK.nil ?_
        refine wpR_end (by kernel_rfl) ?_
        refine QH_seq_k hK405 ?_
        refine wpC_cond_t rfl rfl ?_
        refine wpC_seq_k (fun K hK407 => ?_)
        refine wpC_region ?_
        refine wpS_quick 1 rfl ?_
        refine wpS_nil ?_
        refine QH_seq_k hK407 ?_
        refine wpC_ret ?_
        refine QH_then_ret ?_
        refine QH_block_ret ?_
        refine QH_then_ret ?_
        refine QH_then_ret ?_
        refine QH_block_ret ?_
        refine QH_then_ret ?_
        refine QH_ret rfl (RV.tmp rfl RV.nil) rfl ?_
        obtain rfl := Option.some.inj H
        replace hS := hS.cut 0
        exact ⟨rfl, hS⟩
      replace H := cond_f H hb
      refine wpR_batch [false, false, false, true, true, true, true] (by decide +kernel) (by repeat (first | exact PF.body | exact PF.round | apply PF.then | apply PF.inBlock | apply PF.jump)) ?_
      refine LtK.put rfl rfl rfl (yv_move rfl) ?_
      refine LtK.put rfl rfl rfl (yv_geq rfl rfl) ?_
      refine LtK.put rfl rfl rfl (yv_pick_f rfl rfl rfl) ?_
      refine LtK.put rfl rfl rfl (yv_move rfl) ?_
      refine LtK.nil ?_
      refine wpR_case 135 rfl (fun hb => ?_) (fun hb => ?_)
      · replace H := cond_t H hb
        refine wpR_batch [false, false, false, false, false, false, false, true, true, true, true, true, true, true, true, true, true, true, true, true] (by decide +kernel) (by repeat (first | exact PF.body | exact PF.round | apply PF.then | apply PF.inBlock | apply PF.jump)) ?_
        refine LtK.skip rfl rfl rfl ?_
        refine LtK.skip rfl rfl rfl ?_
        refine LtK.skip rfl rfl rfl ?_
        refine LtK.skip rfl rfl rfl ?_
        refine LtK.skip rfl rfl rfl ?_
        refine LtK.skip rfl rfl rfl ?_
        refine LtK.skip rfl rfl rfl ?_
        refine LtK.skip rfl rfl rfl ?_
        refine LtK.skip rfl rfl rfl ?_
        refine LtK.skip rfl rfl rfl ?_
        refine LtK.skip rfl rfl rfl ?_
        refine LtK.skip rfl rfl rfl ?_
        refine LtK.put rfl rfl rfl (yv_pick_t rfl rfl rfl) ?_
        refine LtK.nil ?_
        refine wpR_end (by kernel_rfl) ?_
        refine QH_seq_k hK405 ?_
        refine wpC_cond_t rfl rfl ?_
        refine wpC_seq_k (fun K hK410 => ?_)
        refine wpC_region ?_
        refine wpS_quick 1 rfl ?_
        refine wpS_nil ?_
        refine QH_seq_k hK410 ?_
        refine wpC_ret ?_
        refine QH_then_ret ?_
        refine QH_block_ret ?_
        refine QH_then_ret ?_
        refine QH_then_ret ?_
        refine QH_block_ret ?_
        refine QH_then_ret ?_
        refine QH_ret rfl (RV.tmp rfl RV.nil) rfl ?_
        obtain rfl := Option.some.inj H
        replace hS := hS.cut 0
        exact ⟨rfl, hS⟩
      replace H := cond_f H hb
      refine wpR_batch [false, false, false, false, false, false, false, true, true, true, true, true] (by decide +kernel) (by repeat (first | exact PF.body | exact PF.round | apply PF.then | apply PF.inBlock | apply PF.jump)) ?_
      refine LtK.put rfl rfl rfl (yv_move rfl) ?_
      obtain ⟨e412, hi414, H⟩ := bind_some H
      obtain ⟨j413, hi414a, hi414b, hi414c⟩ := idx_some hi414
      refine LtK.put rfl rfl rfl (yx_idxA (j := j413) ar_45 rfl rfl hi414a (Nat.lt_of_lt_of_eq hi414c hl95)) ?_
      refine LtK.put rfl rfl rfl (yv_load_box sc_3 rfl (RW.below _) hS hs6 trivial (seg_int hi414b)) ?_
      refine LtK.put rfl rfl rfl (yv_neq rfl rfl) ?_
      refine LtK.put rfl rfl rfl (yv_move rfl) ?_
      refine LtK.nil ?_
      refine wpR_case 140 rfl (fun hb => ?_) (fun hb => ?_)
      rotate_left
      · replace H := cond_f H hb
        refine wpR_batch [false, false, false, false, false, false, false, false, false, false, false, false, true, true, true, true, true, true, true, true] (by decide +kernel) (by repeat (first | exact PF.body | exact PF.round | apply PF.then | apply PF.inBlock | apply PF.jump)) ?_
        refine LtK.skip rfl rfl rfl ?_
        refine LtK.skip rfl rfl rfl ?_
        refine LtK.skip rfl rfl rfl ?_
        refine LtK.skip rfl rfl rfl ?_
        refine LtK.skip rfl rfl rfl ?_
        refine LtK.skip rfl rfl rfl ?_
        refine LtK.put rfl rfl rfl (yv_pick_f rfl rfl rfl) ?_
        refine LtK.put rfl rfl rfl (yv_pick_f rfl rfl rfl) ?_
        refine LtK.nil ?_
        refine wpR_end (by kernel_rfl) ?_
        refine QH_seq_k hK405 ?_
        refine wpC_cond_f rfl rfl ?_
        refine wpC_skip ?_
        refine QH_seq_k hK404 ?_
        refine wpC_region ?_
        refine wpS_quick 1 rfl ?_
        refine wpS_put rfl rfl rfl (yv_fieldAddr fo_30_0 rfl) ?_
        refine wpS_put rfl rfl rfl (yv_load_box sc_3 rfl (RW.here _) hS hs0 trivial sg0_1) ?_
        obtain ⟨e426, hi428, H⟩ := bind_some H
        obtain ⟨j427, hi428a, hi428b, hi428c⟩ := idx_some hi428
        refine wpS_put rfl rfl rfl (yx_idxA (j := j427) ar_45 rfl rfl hi428a (Nat.lt_of_lt_of_eq hi428c hl95)) ?_
        refine wpS_store rfl rfl rfl CellsOf.int hS ps6 (setc_int e386.id hi428a hi428b) (by kernel_rfl) rfl (fun w hS hB => ?_)
        refine wpS_nil ?_
        refine QH_block_normal ?_
        refine QH_seq_k hK104 ?_
        refine wpC_region ?_
        refine wpS_quick 1 rfl ?_
        refine wpS_put rfl rfl rfl (yx_add rfl rfl) ?_
        refine wpS_quick 1 rfl ?_
        refine wpS_nil ?_
        replace hS := hS.front 7 rfl
        replace hS := hS.front 2 rfl
        replace hS := hS.front 7 rfl
        replace hS := hS.front 7 rfl
        replace hS := hS.front 7 rfl
        replace hS := hS.cut 5
        exact QH_again (n, v83, v84, A85, c86, q88, (IntKind.wrap .i64 (v93 + 1)), (setI v94 e386.tuple.term e386.id), (setI v96 (Int.tmod (IntKind.wrap .i64 (Int.tdiv (bits .and .i64 e106 1073741823) 2)) x0) r287.1), (setI q98 (Int.tmod (IntKind.wrap .i64 (Int.tdiv (bits .and .i64 e106 1073741823) 2)) x0) (⟨r287.1, A289, c290, A293, c294, A297, c298, A301, c302, A305, c306⟩ : Cq))) (by repeat (first | exact Sub.nil | refine Sub.cons rfl ?_)) ⟨hS, k87, hq89, okq90, (setI_len hl95), (setI_len hl97), (setI_map hq99), (okc_set okq100 ⟨k291, k295, k299, k303, k307⟩), H⟩ (Nat.lt_succ_self _)
      replace H := cond_t H hb
      refine wpR_batch [false, false, false, false, false, false, false, false, false, false, false, false, true, true, true, true, true, true, true, true] (by decide +kernel) (by repeat (first | exact PF.body | exact PF.round | apply PF.then | apply PF.inBlock | apply PF.jump)) ?_
      refine LtK.put rfl rfl rfl (yv_move rfl) ?_
      obtain ⟨e416, hi418, H⟩ := bind_some H
      obtain ⟨j417, hi418a, hi418b, hi418c⟩ := idx_some hi418
      refine LtK.put rfl rfl rfl (yx_idxA (j := j417) ar_45 rfl rfl hi418a (Nat.lt_of_lt_of_eq hi418c hl95)) ?_
      refine LtK.put rfl rfl rfl (yv_load_box sc_3 rfl (RW.below _) hS hs6 trivial (seg_int hi418b)) ?_
      refine LtK.put rfl rfl rfl (yv_fieldAddr fo_30_0 rfl) ?_
      refine LtK.put rfl rfl rfl (yv_load_box sc_3 rfl (RW.below _) hS hs0 trivial sg0_1) ?_
      refine LtK.put rfl rfl rfl (yv_neq rfl rfl) ?_
      refine LtK.put rfl rfl rfl (yv_pick_t rfl rfl rfl) ?_
      refine LtK.put rfl rfl rfl (yv_pick_f rfl rfl rfl) ?_
      refine LtK.nil ?_
      refine wpR_end (by kernel_rfl) ?_
      refine QH_seq_k hK405 ?_
      refine wpC_cond rfl (fun hb => ?_) (fun hb => ?_)
      · replace H := cond_t H hb
        refine wpC_seq_k (fun K hK420 => ?_)
        refine wpC_region ?_
        refine wpS_quick 1 rfl ?_
        refine wpS_nil ?_
        refine QH_seq_k hK420 ?_
        refine wpC_ret ?_
        refine QH_then_ret ?_
        refine QH_block_ret ?_
        refine QH_then_ret ?_
        refine QH_then_ret ?_
        refine QH_block_ret ?_
        refine QH_then_ret ?_
        refine QH_ret rfl (RV.tmp rfl RV.nil) rfl ?_
        obtain rfl := Option.some.inj H
        replace hS := hS.cut 0
        exact ⟨rfl, hS⟩
      replace H := cond_f H hb
      refine wpC_skip ?_
      refine QH_seq_k hK404 ?_
      refine wpC_region ?_
      refine wpS_quick 1 rfl ?_
      refine wpS_put rfl rfl rfl (yv_fieldAddr fo_30_0 rfl) ?_
      refine wpS_put rfl rfl rfl (yv_load_box sc_3 rfl (RW.here _) hS hs0 trivial sg0_1) ?_
      obtain ⟨e422, hi424, H⟩ := bind_some H
      obtain ⟨j423, hi424a, hi424b, hi424c⟩ := idx_some hi424
      refine wpS_put rfl rfl rfl (yx_idxA (j := j423) ar_45 rfl rfl hi424a (Nat.lt_of_lt_of_eq hi424c hl95)) ?_
      refine wpS_store rfl rfl rfl CellsOf.int hS ps6 (setc_int e386.id hi424a hi424b) (by kernel_rfl) rfl (fun w hS hB => ?_)
      refine wpS_nil ?_
      refine QH_block_normal ?_
      refine QH_seq_k hK104 ?_
      refine wpC_region ?_
      refine wpS_quick 1 rfl ?_
      refine wpS_put rfl rfl rfl (yx_add rfl rfl) ?_
      refine wpS_quick 1 rfl ?_
      refine wpS_nil ?_
      replace hS := hS.front 7 rfl
      replace hS := hS.front 2 rfl
      replace hS := hS.front 7 rfl
      replace hS := hS.front 7 rfl
      replace hS := hS.front 7 rfl
      replace hS := hS.cut 5
      exact QH_again (n, v83, v84, A85, c86, q88, (IntKind.wrap .i64 (v93 + 1)), (setI v94 e386.tuple.term e386.id), (setI v96 (Int.tmod (IntKind.wrap .i64 (Int.tdiv (bits .and .i64 e106 1073741823) 2)) x0) r287.1), (setI q98 (Int.tmod (IntKind.wrap .i64 (Int.tdiv (bits .and .i64 e106 1073741823) 2)) x0) (⟨r287.1, A289, c290, A293, c294, A297, c298, A301, c302, A305, c306⟩ : Cq))) (by repeat (first | exact Sub.nil | refine Sub.cons rfl ?_)) ⟨hS, k87, hq89, okq90, (setI_len hl95), (setI_len hl97), (setI_map hq99), (okc_set okq100 ⟨k291, k295, k299, k303, k307⟩), H⟩ (Nat.lt_succ_self _)
    replace H := cond_t H hb
    refine wpC_region ?_
    refine wpS_quick 2 rfl ?_
    obtain ⟨l333, hf334, H⟩ := bind_some H
    refine wpX_appendQ2 (l := v84) (q := q88) (p := q313) (m := r287.2) em_32 (by decide) rfl rfl rfl rfl hS hq89 hq314 (fun _ => ps3) (hS.rd hs1) hf334 (fun A335 c336 w k337 hS hq338 hB => ?_)
    replace hS := hS.front 4 rfl
    replace hS := hS.front 3 rfl
    replace hS := hS.absorbAll
    refine wpS_quick 1 rfl ?_
    refine wpS_nil ?_
    refine QH_seq_k hK330 ?_
    refine wpC_seq_k (fun K hK339 => ?_)
    refine wpC_region ?_
    refine wpS_quick 1 rfl ?_
    obtain ⟨e340, hi342, H⟩ := bind_some H
    obtain ⟨j341, A343, c344, A345, c346, A347, c348, A349, c350, A351, c352, hi342a, hi342b, hi342c⟩ := idxC (q := (setI q98 (Int.tmod (IntKind.wrap .i64 (Int.tdiv (bits .and .i64 e106 1073741823) 2)) x0) (⟨r287.1, A289, c290, A293, c294, A297, c298, A301, c302, A305, c306⟩ : Cq))) (setI_map hq99) hi342
    refine wpS_put rfl rfl rfl (yx_idxA (j := j341) ar_42 rfl rfl hi342a (Nat.lt_of_lt_of_eq hi342c (setI_len hl97))) ?_
    refine wpS_put rfl rfl rfl (yv_load_boxA ag_30 rfl (RW.here _) hS hs5 trivial (seg_core hi342b)) ?_
    refine wpS_alloc rfl rfl zc_30 hS (fun b353 w hS hB => ?_)
    refine wpS_store rfl rfl rfl CellsOf.agg hS ps0 st0_22 (by kernel_rfl) rfl (fun w hS hB => ?_)
    refine wpS_nil ?_
    refine QH_seq_k hK339 ?_
    refine wpC_seq_k (fun K hK355 => ?_)
    refine wpC_region ?_
    refine wpS_put rfl rfl rfl (yv_fieldAddr fo_30_2 rfl) ?_
    refine wpS_put rfl rfl rfl (yv_load_box sc_5 rfl (RW.here _) hS hs0 trivial sg2_1) ?_
    refine wpS_put rfl rfl rfl (yv_eql rfl rfl) ?_
    refine wpS_nil ?_
    refine QH_seq_k hK355 ?_
    refine wpC_cond rfl (fun hb => ?_) (fun hb => ?_)
    rotate_left
    · replace H := cond_f H hb
      refine wpC_skip ?_
      refine QH_block_normal ?_
      refine QH_seq_k hK104 ?_
      refine wpC_region ?_
      refine wpS_quick 1 rfl ?_
      refine wpS_put rfl rfl rfl (yx_add rfl rfl) ?_
      refine wpS_quick 1 rfl ?_
      refine wpS_nil ?_
      replace hS := hS.front 6 rfl
      replace hS := hS.front 3 rfl
      replace hS := hS.front 6 rfl
      replace hS := hS.front 4 rfl
      replace hS := hS.front 6 rfl
      replace hS := hS.cut 5
      exact QH_again (n, v83, l333, A335, c336, (q88 ++ q313), (IntKind.wrap .i64 (v93 + 1)), v94, (setI v96 (Int.tmod (IntKind.wrap .i64 (Int.tdiv (bits .and .i64 e106 1073741823) 2)) x0) r287.1), (setI q98 (Int.tmod (IntKind.wrap .i64 (Int.tdiv (bits .and .i64 e106 1073741823) 2)) x0) (⟨r287.1, A289, c290, A293, c294, A297, c298, A301, c302, A305, c306⟩ : Cq))) (by repeat (first | exact Sub.nil | refine Sub.cons rfl ?_)) ⟨hS, k337, hq338, (okq_app okq90 okq315), hl95, (setI_len hl97), (setI_map hq99), (okc_set okq100 ⟨k291, k295, k299, k303, k307⟩), H⟩ (Nat.lt_succ_self _)
    replace H := cond_t H hb
    refine wpC_seq_k (fun K hK357 => ?_)
    refine wpC_region ?_
    refine wpS_put rfl rfl rfl (yv_fieldAddr fo_30_4 rfl) ?_
    refine wpS_put rfl rfl rfl (yv_fieldAddr fo_26_2 rfl) ?_
    refine wpS_put rfl rfl rfl (yv_load_box sc_3 rfl (RW.here _) hS hs0 trivial sg10_1) ?_
    refine wpS_quick 1 rfl ?_
    refine wpS_nil ?_
    refine QH_seq_k hK357 ?_
    refine wpC_seq_k (fun K hK358 => ?_)
    refine wpC_seq_k (fun K hK359 => ?_)
    refine wpC_draw 20 [] (fun _ _ => True) ⟨by kernel_rfl, by kernel_rfl⟩ hS (fun w hS hB => ?_)
    refine wpR_batch [true, true, true] (by decide +kernel) (by repeat (first | exact PF.body | exact PF.round | apply PF.then | apply PF.inBlock | apply PF.jump)) ?_
    refine LtK.put rfl rfl rfl (yv_move rfl) ?_
    refine LtK.put rfl rfl rfl (yv_lss rfl rfl) ?_
    refine LtK.put rfl rfl rfl (yv_move rfl) ?_
    refine LtK.nil ?_
    refine wpR_case 131 rfl (fun hb => ?_) (fun hb => ?_)
    · replace H := cond_t H hb
      refine wpR_batch [false, false, false, true, true, true, true, true, true, true, true, true, true, true, true, true, true, true, true, true] (by decide +kernel) (by repeat (first | exact PF.body | exact PF.round | apply PF.then | apply PF.inBlock | apply PF.jump)) ?_
      refine LtK.skip rfl rfl rfl ?_
      refine LtK.skip rfl rfl rfl ?_
      refine LtK.put rfl rfl rfl (yv_pick_t rfl rfl rfl) ?_
      refine LtK.put rfl rfl rfl (yv_move rfl) ?_
      refine LtK.skip rfl rfl rfl ?_
      refine LtK.skip rfl rfl rfl ?_
      refine LtK.skip rfl rfl rfl ?_
      refine LtK.skip rfl rfl rfl ?_
      refine LtK.skip rfl rfl rfl ?_
      refine LtK.skip rfl rfl rfl ?_
      refine LtK.skip rfl rfl rfl ?_
      refine LtK.skip rfl rfl rfl ?_
      refine LtK.skip rfl rfl rfl ?_
      refine LtK.skip rfl rfl rfl ?_
      refine LtK.skip rfl rfl rfl ?_
      refine LtK.skip rfl rfl rfl ?_
      refine LtK.put rfl rfl rfl (yv_pick_t rfl rfl rfl) ?_
      refine LtK.nil ?_
      refine wpR_end (by kernel_rfl) ?_
      refine QH_seq_k hK359 ?_
      refine wpC_cond_t rfl rfl ?_
      refine wpC_seq_k (fun K hK361 => ?_)
      refine wpC_region ?_
      refine wpS_quick 1 rfl ?_
      refine wpS_nil ?_
      refine QH_seq_k hK361 ?_
      refine wpC_ret ?_
      refine QH_then_ret ?_
      refine QH_block_ret ?_
      refine QH_then_ret ?_
      refine QH_then_ret ?_
      refine QH_block_ret ?_
      refine QH_then_ret ?_
      refine QH_ret rfl (RV.tmp rfl RV.nil) rfl ?_
      obtain rfl := Option.some.inj H
      replace hS := hS.cut 0
      exact ⟨rfl, hS⟩
    replace H := cond_f H hb
    refine wpR_batch [false, false, false, true, true, true, true] (by decide +kernel) (by repeat (first | exact PF.body | exact PF.round | apply PF.then | apply PF.inBlock | apply PF.jump)) ?_
    refine LtK.put rfl rfl rfl (yv_move rfl) ?_
    refine LtK.put rfl rfl rfl (yv_geq rfl rfl) ?_
    refine LtK.put rfl rfl rfl (yv_pick_f rfl rfl rfl) ?_
    refine LtK.put rfl rfl rfl (yv_move rfl) ?_
    refine LtK.nil ?_
    refine wpR_case 135 rfl (fun hb => ?_) (fun hb => ?_)
    · replace H := cond_t H hb
      refine wpR_batch [false, false, false, false, false, false, false, true, true, true, true, true, true, true, true, true, true, true, true, true] (by decide +kernel) (by repeat (first | exact PF.body | exact PF.round | apply PF.then | apply PF.inBlock | apply PF.jump)) ?_
      refine LtK.skip rfl rfl rfl ?_
      refine LtK.skip rfl rfl rfl ?_
      refine LtK.skip rfl rfl rfl ?_
      refine LtK.skip rfl rfl rfl ?_
      refine LtK.skip rfl rfl rfl ?_
      refine LtK.skip rfl rfl rfl ?_
      refine LtK.skip rfl rfl rfl ?_
      refine LtK.skip rfl rfl rfl ?_
      refine LtK.skip rfl rfl rfl ?_
      refine LtK.skip rfl rfl rfl ?_
      refine LtK.skip rfl rfl rfl ?_
      refine LtK.skip rfl rfl rfl ?_
      refine LtK.put rfl rfl rfl (yv_pick_t rfl rfl rfl) ?_
      refine LtK.nil ?_
      refine wpR_end (by kernel_rfl) ?_
      refine QH_seq_k hK359 ?_
      refine wpC_cond_t rfl rfl ?_
      refine wpC_seq_k (fun K hK364 => ?_)
      refine wpC_region ?_
      refine wpS_quick 1 rfl ?_
      refine wpS_nil ?_
      refine QH_seq_k hK364 ?_
      refine wpC_ret ?_
      refine QH_then_ret ?_
      refine QH_block_ret ?_
      refine QH_then_ret ?_
      refine QH_then_ret ?_
      refine QH_block_ret ?_
      refine QH_then_ret ?_
      refine QH_ret rfl (RV.tmp rfl RV.nil) rfl ?_
      obtain rfl := Option.some.inj H
      replace hS := hS.cut 0
      exact ⟨rfl, hS⟩
    replace H := cond_f H hb
    refine wpR_batch [false, false, false, false, false, false, false, true, true, true, true, true] (by decide +kernel) (by repeat (first | exact PF.body | exact PF.round | apply PF.then | apply PF.inBlock | apply PF.jump)) ?_
    refine LtK.put rfl rfl rfl (yv_move rfl) ?_
    obtain ⟨e366, hi368, H⟩ := bind_some H
    obtain ⟨j367, hi368a, hi368b, hi368c⟩ := idx_some hi368
    refine LtK.put rfl rfl rfl (yx_idxA (j := j367) ar_45 rfl rfl hi368a (Nat.lt_of_lt_of_eq hi368c hl95)) ?_
    refine LtK.put rfl rfl rfl (yv_load_box sc_3 rfl (RW.below _) hS hs5 trivial (seg_int hi368b)) ?_
    refine LtK.put rfl rfl rfl (yv_neq rfl rfl) ?_
    refine LtK.put rfl rfl rfl (yv_move rfl) ?_
    refine LtK.nil ?_
    refine wpR_case 140 rfl (fun hb => ?_) (fun hb => ?_)
    rotate_left
    · replace H := cond_f H hb
      refine wpR_batch [false, false, false, false, false, false, false, false, false, false, false, false, true, true, true, true, true, true, true, true] (by decide +kernel) (by repeat (first | exact PF.body | exact PF.round | apply PF.then | apply PF.inBlock | apply PF.jump)) ?_
      refine LtK.skip rfl rfl rfl ?_
      refine LtK.skip rfl rfl rfl ?_
      refine LtK.skip rfl rfl rfl ?_
      refine LtK.skip rfl rfl rfl ?_
      refine LtK.skip rfl rfl rfl ?_
      refine LtK.skip rfl rfl rfl ?_
      refine LtK.put rfl rfl rfl (yv_pick_f rfl rfl rfl) ?_
      refine LtK.put rfl rfl rfl (yv_pick_f rfl rfl rfl) ?_
      refine LtK.nil ?_
      refine wpR_end (by kernel_rfl) ?_
      refine QH_seq_k hK359 ?_
      refine wpC_cond_f rfl rfl ?_
      refine wpC_skip ?_
      refine QH_seq_k hK358 ?_
      refine wpC_region ?_
      refine wpS_quick 1 rfl ?_
      refine wpS_put rfl rfl rfl (yv_fieldAddr fo_30_0 rfl) ?_
      refine wpS_put rfl rfl rfl (yv_load_box sc_3 rfl (RW.here _) hS hs0 trivial sg0_1) ?_
      obtain ⟨e380, hi382, H⟩ := bind_some H
      obtain ⟨j381, hi382a, hi382b, hi382c⟩ := idx_some hi382
      refine wpS_put rfl rfl rfl (yx_idxA (j := j381) ar_45 rfl rfl hi382a (Nat.lt_of_lt_of_eq hi382c hl95)) ?_
      refine wpS_store rfl rfl rfl CellsOf.int hS ps5 (setc_int e340.id hi382a hi382b) (by kernel_rfl) rfl (fun w hS hB => ?_)
      refine wpS_nil ?_
      refine QH_block_normal ?_
      refine QH_seq_k hK104 ?_
      refine wpC_region ?_
      refine wpS_quick 1 rfl ?_
      refine wpS_put rfl rfl rfl (yx_add rfl rfl) ?_
      refine wpS_quick 1 rfl ?_
      refine wpS_nil ?_
      replace hS := hS.front 6 rfl
      replace hS := hS.front 3 rfl
      replace hS := hS.front 6 rfl
      replace hS := hS.front 4 rfl
      replace hS := hS.front 6 rfl
      replace hS := hS.cut 5
      exact QH_again (n, v83, l333, A335, c336, (q88 ++ q313), (IntKind.wrap .i64 (v93 + 1)), (setI v94 e340.tuple.term e340.id), (setI v96 (Int.tmod (IntKind.wrap .i64 (Int.tdiv (bits .and .i64 e106 1073741823) 2)) x0) r287.1), (setI q98 (Int.tmod (IntKind.wrap .i64 (Int.tdiv (bits .and .i64 e106 1073741823) 2)) x0) (⟨r287.1, A289, c290, A293, c294, A297, c298, A301, c302, A305, c306⟩ : Cq))) (by repeat (first | exact Sub.nil | refine Sub.cons rfl ?_)) ⟨hS, k337, hq338, (okq_app okq90 okq315), (setI_len hl95), (setI_len hl97), (setI_map hq99), (okc_set okq100 ⟨k291, k295, k299, k303, k307⟩), H⟩ (Nat.lt_succ_self _)
    replace H := cond_t H hb
    refine wpR_batch [false, false, false, false, false, false, false, false, false, false, false, false, true, true, true, true, true, true, true, true] (by decide +kernel) (by repeat (first | exact PF.body | exact PF.round | apply PF.then | apply PF.inBlock | apply PF.jump)) ?_
    refine LtK.put rfl rfl rfl (yv_move rfl) ?_
    obtain ⟨e370, hi372, H⟩ := bind_some H
    obtain ⟨j371, hi372a, hi372b, hi372c⟩ := idx_some hi372
    refine LtK.put rfl rfl rfl (yx_idxA (j := j371) ar_45 rfl rfl hi372a (Nat.lt_of_lt_of_eq hi372c hl95)) ?_
    refine LtK.put rfl rfl rfl (yv_load_box sc_3 rfl (RW.below _) hS hs5 trivial (seg_int hi372b)) ?_
    refine LtK.put rfl rfl rfl (yv_fieldAddr fo_30_0 rfl) ?_
    refine LtK.put rfl rfl rfl (yv_load_box sc_3 rfl (RW.below _) hS hs0 trivial sg0_1) ?_
    refine LtK.put rfl rfl rfl (yv_neq rfl rfl) ?_
    refine LtK.put rfl rfl rfl (yv_pick_t rfl rfl rfl) ?_
    refine LtK.put rfl rfl rfl (yv_pick_f rfl rfl rfl) ?_
    refine LtK.nil ?_
    refine wpR_end (by kernel_rfl) ?_
    refine QH_seq_k hK359 ?_
    refine wpC_cond rfl (fun hb => ?_) (fun hb => ?_)
    · replace H := cond_t H hb
      refine wpC_seq_k (fun K hK374 => ?_)
      refine wpC_region ?_
      refine wpS_quick 1 rfl ?_
      refine wpS_nil ?_
      refine QH_seq_k hK374 ?_
      refine wpC_ret ?_
      refine QH_then_ret ?_
      refine QH_block_ret ?_
      refine QH_then_ret ?_
      refine QH_then_ret ?_
      refine QH_block_ret ?_
      refine QH_then_ret ?_
      refine QH_ret rfl (RV.tmp rfl RV.nil) rfl ?_
      obtain rfl := Option.some.inj H
      replace hS := hS.cut 0
      exact ⟨rfl, hS⟩
    replace H := cond_f H hb
    refine wpC_skip ?_
    refine QH_seq_k hK358 ?_
    refine wpC_region ?_
    refine wpS_quick 1 rfl ?_
    refine wpS_put rfl rfl rfl (yv_fieldAddr fo_30_0 rfl) ?_
    refine wpS_put rfl rfl rfl (yv_load_box sc_3 rfl (RW.here _) hS hs0 trivial sg0_1) ?_
    obtain ⟨e376, hi378, H⟩ := bind_some H
    obtain ⟨j377, hi378a, hi378b, hi378c⟩ := idx_some hi378
    refine wpS_put rfl rfl rfl (yx_idxA (j := j377) ar_45 rfl rfl hi378a (Nat.lt_of_lt_of_eq hi378c hl95)) ?_
    refine wpS_store rfl rfl rfl CellsOf.int hS ps5 (setc_int e340.id hi378a hi378b) (by kernel_rfl) rfl (fun w hS hB => ?_)
    refine wpS_nil ?_
    refine QH_block_normal ?_
    refine QH_seq_k hK104 ?_
    refine wpC_region ?_
    refine wpS_quick 1 rfl ?_
    refine wpS_put rfl rfl rfl (yx_add rfl rfl) ?_
    refine wpS_quick 1 rfl ?_
    refine wpS_nil ?_
    replace hS := hS.front 6 rfl
    replace hS := hS.front 3 rfl
    replace hS := hS.front 6 rfl
    replace hS := hS.front 4 rfl
    replace hS := hS.front 6 rfl
    replace hS := hS.cut 5
    exact QH_again (n, v83, l333, A335, c336, (q88 ++ q313), (IntKind.wrap .i64 (v93 + 1)), (setI v94 e340.tuple.term e340.id), (setI v96 (Int.tmod (IntKind.wrap .i64 (Int.tdiv (bits .and .i64 e106 1073741823) 2)) x0) r287.1), (setI q98 (Int.tmod (IntKind.wrap .i64 (Int.tdiv (bits .and .i64 e106 1073741823) 2)) x0) (⟨r287.1, A289, c290, A293, c294, A297, c298, A301, c302, A305, c306⟩ : Cq))) (by repeat (first | exact Sub.nil | refine Sub.cons rfl ?_)) ⟨hS, k337, hq338, (okq_app okq90 okq315), (setI_len hl95), (setI_len hl97), (setI_map hq99), (okc_set okq100 ⟨k291, k295, k299, k303, k307⟩), H⟩ (Nat.lt_succ_self _)
  replace H := cond_f H hb
  refine wpC_seq_k (fun K hK431 => ?_)
  refine wpC_region ?_
  refine wpS_quick 2 rfl ?_
  refine wpS_put rfl rfl rfl (yx_quo rfl rfl (by decide)) ?_
  refine wpS_quick 1 rfl ?_
  refine wpS_put rfl rfl rfl (yv_len el_32 rfl) ?_
  obtain ⟨q432, hq433, H⟩ := bind_some H
  obtain ⟨hq433n, rfl⟩ := remI_some hq433
  refine wpS_put rfl rfl rfl (yx_rem rfl rfl hq433n) ?_
  obtain ⟨e434, hi436, H⟩ := bind_some H
  obtain ⟨j435, A437, c438, hi436a, hi436b, hi436c⟩ := idxQ (q := q88) hq89 hi436
  refine wpS_put rfl rfl rfl (yx_idx el_32 rfl rfl hi436a hi436c (Rd.el (hS.row_rd hs0) he_enQ hi436b)) ?_
  refine wpS_put rfl rfl rfl (yx_ldA0 ag_36 rfl (RW.here _) (Rd.el (hS.row_rd hs0) he_enQ hi436b) sg0_15) ?_
  refine wpS_alloc rfl rfl zc_36 hS (fun b439 w hS hB => ?_)
  refine wpS_store rfl rfl rfl CellsOf.agg hS ps0 st0_15 (by kernel_rfl) rfl (fun w hS hB => ?_)
  refine wpS_nil ?_
  refine QH_seq_k hK431 ?_
  refine wpC_seq_k (fun K hK441 => ?_)
  refine wpC_region ?_
  refine wpS_put rfl rfl rfl (yv_fieldAddr fo_36_2 rfl) ?_
  refine wpS_put rfl rfl rfl (yv_load_box sc_3 rfl (RW.here _) hS hs0 trivial sg2_1) ?_
  refine wpS_put rfl rfl rfl (yx_sub rfl rfl) ?_
  refine wpS_quick 1 rfl ?_
  refine wpS_nil ?_
  refine QH_seq_k hK441 ?_
  refine wpC_seq_k (fun K hK442 => ?_)
  refine wpC_join ((0, .int .i64 x0) :: (1, .slice A0_ x1.length c0_) :: (4, .bool v83) :: (5, .pointer (some ⟨b20, 0, none⟩)) :: (7, .slice A85 v84.length c86) :: (8, .pointer (some ⟨b79, 0, none⟩)) :: (9, .int .i64 v93) :: (11, .slice none 0 0) :: (12, .int .i64 (IntKind.wrap .i64 (e434.dst - 1))) :: (13, .pointer (some ⟨b439, 0, none⟩)) :: (89, .bool ((decide ((IntKind.wrap .i64 (e434.dst - 1)) < 0)) || (decide (x0 ≤ (IntKind.wrap .i64 (e434.dst - 1)))))) :: []) (fun K hK443 => ?_) ?_
  · refine wpC_region ?_
    refine wpS_quick 1 rfl ?_
    refine wpS_put rfl rfl rfl (yv_lss rfl rfl) ?_
    refine wpS_quick 1 rfl ?_
    refine wpS_case 85 rfl (fun hb => ?_) (fun hb => ?_)
    · refine wpS_quick 4 rfl ?_
      refine wpS_nil ?_
      exact QH_join hK443 (by rw [hb]; repeat (first | exact Sub.nil | refine Sub.cons rfl ?_))
    refine wpS_quick 2 rfl ?_
    refine wpS_put rfl rfl rfl (yv_geq rfl rfl) ?_
    refine wpS_quick 1 rfl ?_
    refine wpS_nil ?_
    exact QH_join hK443 (by rw [hb]; repeat (first | exact Sub.nil | refine Sub.cons rfl ?_))
  refine wpC_cond rfl (fun hb => ?_) (fun hb => ?_)
  · replace H := cond_t H hb
    refine wpC_seq_k (fun K hK445 => ?_)
    refine wpC_region ?_
    refine wpS_quick 1 rfl ?_
    refine wpS_nil ?_
    refine QH_seq_k hK445 ?_
    refine wpC_ret ?_
    refine QH_then_ret ?_
    refine QH_then_ret ?_
    refine QH_block_ret ?_
    refine QH_then_ret ?_
    refine QH_then_ret ?_
    refine QH_block_ret ?_
    refine QH_then_ret ?_
    refine QH_ret rfl (RV.tmp rfl RV.nil) rfl ?_
    obtain rfl := Option.some.inj H
    replace hS := hS.cut 0
    exact ⟨rfl, hS⟩
  replace H := cond_f H hb
  refine wpC_skip ?_
  refine QH_seq_k hK442 ?_
  refine wpC_seq_k (fun K hK447 => ?_)
  refine wpC_region ?_
  refine wpS_put rfl rfl rfl (yv_fieldAddr fo_36_0 rfl) ?_
  refine wpS_put rfl rfl rfl (yv_load_box sc_5 rfl (RW.here _) hS hs0 trivial sg0_1) ?_
  refine wpS_put rfl rfl rfl (yv_eql rfl rfl) ?_
  refine wpS_nil ?_
  refine QH_seq_k hK447 ?_
  refine wpC_cond rfl (fun hb => ?_) (fun hb => ?_)
  · replace H := cond_t H hb
    refine wpC_draw 12 [10] (fun i b => (i = 10 → b ≠ b20)) ⟨by kernel_rfl, by kernel_rfl⟩ hS (fun w hS hB => ?_)
    refine wpR_batch [true, true, true, true, true] (by decide +kernel) (by repeat (first | exact PF.body | exact PF.round | apply PF.then | apply PF.inBlock | apply PF.jump)) ?_
    refine LtK.put rfl rfl rfl (yv_move rfl) ?_
    refine LtK.put rfl rfl rfl (yv_move rfl) ?_
    obtain ⟨e449, hi451, H⟩ := bind_some H
    obtain ⟨j450, A452, c453, A454, c455, A456, c457, A458, c459, A460, c461, hi451a, hi451b, hi451c⟩ := idxC (q := q98) hq99 hi451
    refine LtK.put rfl rfl rfl (yx_idxA (j := j450) ar_42 rfl rfl hi451a (Nat.lt_of_lt_of_eq hi451c hl97)) ?_
    refine LtK.put rfl rfl rfl (yv_load_boxA ag_30 rfl (RW.below _) hS hs5 trivial (seg_core hi451b)) ?_
    refine LtK.put rfl rfl rfl (yv_load_boxA ag_36 rfl (RW.below _) hS hs0 trivial sg0_15) ?_
    refine LtK.nil ?_
    refine wpR_call [false, false, false, false, false, true] 5 ⟨by decide, by kernel_rfl, by kernel_rfl⟩ rfl rfl ?_
    try dsimp only [pickL]
    obtain ⟨r462, hm463, H⟩ := bind_some H
    refine wpS_call rfl rfl rfl rfl (by kernel_rfl) rfl (c_elect_Vote e449 e434 A452 c453 A454 c455 A456 c457 A458 c459 A460 c461 A437 c438 _ (SlI.of_rd ((okc_at okq100 hi451b).k0) (hS.rdsC0 hs4 hi451b).1 (hS.rdsC0 hs4 hi451b).2) (SlI.of_rd ((okc_at okq100 hi451b).k1) (hS.rdsC1 hs4 hi451b).1 (hS.rdsC1 hs4 hi451b).2) (SlI.of_rd ((okc_at okq100 hi451b).k2) (hS.rdsC2 hs4 hi451b).1 (hS.rdsC2 hs4 hi451b).2) (SlI.of_rd ((okc_at okq100 hi451b).k3) (hS.rdsC3 hs4 hi451b).1 (hS.rdsC3 hs4 hi451b).2) (SlI.of_rd ((okc_at okq100 hi451b).k4) (hS.rdsC4 hs4 hi451b).1 (hS.rdsC4 hs4 hi451b).2) (SlW.of_rd (okq90 _ (List.mem_of_getElem? hi436b)) (hS.rds_rd hs2 hi436b)) hm463) ?_
    rintro e w ⟨A464, c465, A468, c469, A472, c473, A476, c477, A480, c481, A484, c485, q488, rfl, k466, k470, k474, k478, k482, k486, hq489, okq490, hN⟩; refine ⟨_, rfl, ?_⟩; have hB := hN.pure; have hS := hS.join hN; clear hN
    refine wpS_nil ?_
    refine QH_step hB ?_
    refine wpR_batch [false, false, false, false, false, false, true, true, false, true] (by decide +kernel) (by repeat (first | exact PF.body | exact PF.round | apply PF.then | apply PF.inBlock | apply PF.jump)) ?_
    refine LtK.put rfl rfl rfl (yv_move rfl) ?_
    refine LtK.put rfl rfl rfl (yv_extract rfl rfl) ?_
    obtain ⟨e492, hi494, H⟩ := bind_some H
    obtain ⟨j493, A495, c496, A497, c498, A499, c500, A501, c502, A503, c504, hi494a, hi494b, hi494c⟩ := idxC (q := q98) hq99 hi494
    refine LtK.put rfl rfl rfl (yx_idxA (j := j493) ar_42 rfl rfl hi494a (Nat.lt_of_lt_of_eq hi494c hl97)) ?_
    refine LtK.nil ?_
    refine wpR_batchG [false, false, false, false, false, false, false, false, true] [10] (fun b => b ≠ b20) (by decide +kernel) (by intro j hj b hb; simp only [List.mem_cons, List.not_mem_nil, or_false] at hj; (try rcases hj with rfl | rfl | rfl | rfl | rfl) <;> first | (simp [hb]; done) | simp_all) (by repeat (first | exact PF.body | exact PF.round | apply PF.then | apply PF.inBlock | apply PF.jump)) ?_
    refine LtK.put rfl rfl rfl (yv_extract rfl rfl) ?_
    refine LtK.nil ?_
    refine wpR_seal [false, false, false, false, false, false, false, false, false, false, true] 10 ⟨by decide, by kernel_rfl, by kernel_rfl⟩ rfl rfl ?_
    try dsimp only [pickL]
    refine wpS_store rfl rfl rfl CellsOf.agg hS ps12 (setc_core (⟨r462.1, A464, c465, A468, c469, A472, c473, A476, c477, A480, c481⟩ : Cq) hi494a hi494b) (by kernel_rfl) rfl (fun w hS hB => ?_)
    replace hS := hS.front 11 rfl
    replace hS := hS.front 1 rfl
    replace hS := hS.absorb
    replace hS := hS.front 1 rfl
    replace hS := hS.weak Weak.rowRd
    replace hS := hS.absorb
    replace hS := hS.front 1 rfl
    replace hS := hS.weak Weak.rowRd
    replace hS := hS.absorb
    replace hS := hS.front 1 rfl
    replace hS := hS.weak Weak.rowRd
    replace hS := hS.absorb
    replace hS := hS.front 1 rfl
    replace hS := hS.weak Weak.rowRd
    replace hS := hS.absorb
    replace hS := hS.setC (i := (IntKind.wrap .i64 (e434.dst - 1))) (⟨r462.1, A464, c465, A468, c469, A472, c473, A476, c477, A480, c481⟩ : Cq)
    refine wpS_nil ?_
    refine QH_stepG (hB.sub (fun _ _ h => by simpa using h)) ?_
    refine wpR_batch [false, false, false, false, false, false, false, false, false, false, false, true] (by decide +kernel) (by repeat (first | exact PF.body | exact PF.round | apply PF.then | apply PF.inBlock | apply PF.jump)) ?_
    refine LtK.put rfl rfl rfl (yv_assign rfl) ?_
    refine LtK.nil ?_
    refine wpR_end (by kernel_rfl) ?_
    refine QH_seq_k hK113 ?_
    refine wpC_seq_k (fun K hK505 => ?_)
    refine wpC_seq_k (fun K hK506 => ?_)
    refine wpC_region ?_
    refine wpS_quick 1 rfl ?_
    refine wpS_put rfl rfl rfl (yv_len el_32 rfl) ?_
    refine wpS_quick 1 rfl ?_
    refine wpS_put rfl rfl rfl (yv_leq rfl rfl) ?_
    refine wpS_nil ?_
    refine QH_seq_k hK506 ?_
    refine wpC_cond rfl (fun hb => ?_) (fun hb => ?_)
    rotate_left
    · replace H := cond_f H hb
      refine wpC_skip ?_
      refine QH_seq_k hK505 ?_
      refine wpC_seq_k (fun K hK560 => ?_)
      refine wpC_region ?_
      refine wpS_quick 1 rfl ?_
      obtain ⟨e561, hi563, H⟩ := bind_some H
      obtain ⟨j562, A564, c565, A566, c567, A568, c569, A570, c571, A572, c573, hi563a, hi563b, hi563c⟩ := idxC (q := (setI q98 (IntKind.wrap .i64 (e434.dst - 1)) (⟨r462.1, A464, c465, A468, c469, A472, c473, A476, c477, A480, c481⟩ : Cq))) (setI_map hq99) hi563
      refine wpS_put rfl rfl rfl (yx_idxA (j := j562) ar_42 rfl rfl hi563a (Nat.lt_of_lt_of_eq hi563c (setI_len hl97))) ?_
      refine wpS_put rfl rfl rfl (yv_load_boxA ag_30 rfl (RW.here _) hS hs7 trivial (seg_core hi563b)) ?_
      refine wpS_alloc rfl rfl zc_30 hS (fun b574 w hS hB => ?_)
      refine wpS_store rfl rfl rfl CellsOf.agg hS ps0 st0_22 (by kernel_rfl) rfl (fun w hS hB => ?_)
      refine wpS_nil ?_
      refine QH_seq_k hK560 ?_
      refine wpC_seq_k (fun K hK576 => ?_)
      refine wpC_region ?_
      refine wpS_put rfl rfl rfl (yv_fieldAddr fo_30_2 rfl) ?_
      refine wpS_put rfl rfl rfl (yv_load_box sc_5 rfl (RW.here _) hS hs0 trivial sg2_1) ?_
      refine wpS_put rfl rfl rfl (yv_eql rfl rfl) ?_
      refine wpS_nil ?_
      refine QH_seq_k hK576 ?_
      refine wpC_cond rfl (fun hb => ?_) (fun hb => ?_)
      rotate_left
      · replace H := cond_f H hb
        refine wpC_skip ?_
        refine QH_block_normal ?_
        refine QH_seq_k hK104 ?_
        refine wpC_region ?_
        refine wpS_quick 1 rfl ?_
        refine wpS_put rfl rfl rfl (yx_add rfl rfl) ?_
        refine wpS_quick 1 rfl ?_
        refine wpS_nil ?_
        replace hS := hS.front 8 rfl
        replace hS := hS.front 2 rfl
        replace hS := hS.front 8 rfl
        replace hS := hS.front 8 rfl
        replace hS := hS.front 8 rfl
        replace hS := hS.cut 5
        exact QH_again (n, v83, v84, A85, c86, q88, (IntKind.wrap .i64 (v93 + 1)), v94, (setI v96 (IntKind.wrap .i64 (e434.dst - 1)) r462.1), (setI q98 (IntKind.wrap .i64 (e434.dst - 1)) (⟨r462.1, A464, c465, A468, c469, A472, c473, A476, c477, A480, c481⟩ : Cq))) (by repeat (first | exact Sub.nil | refine Sub.cons rfl ?_)) ⟨hS, k87, hq89, okq90, hl95, (setI_len hl97), (setI_map hq99), (okc_set okq100 ⟨k466, k470, k474, k478, k482⟩), H⟩ (Nat.lt_succ_self _)
      replace H := cond_t H hb
      refine wpC_seq_k (fun K hK578 => ?_)
      refine wpC_region ?_
      refine wpS_put rfl rfl rfl (yv_fieldAddr fo_30_4 rfl) ?_
      refine wpS_put rfl rfl rfl (yv_fieldAddr fo_26_2 rfl) ?_
      refine wpS_put rfl rfl rfl (yv_load_box sc_3 rfl (RW.here _) hS hs0 trivial sg10_1) ?_
      refine wpS_quick 1 rfl ?_
      refine wpS_nil ?_
      refine QH_seq_k hK578 ?_
      refine wpC_seq_k (fun K hK579 => ?_)
      refine wpC_seq_k (fun K hK580 => ?_)
      refine wpC_draw 20 [] (fun _ _ => True) ⟨by kernel_rfl, by kernel_rfl⟩ hS (fun w hS hB => ?_)
      refine wpR_batch [true, true, true] (by decide +kernel) (by repeat (first | exact PF.body | exact PF.round | apply PF.then | apply PF.inBlock | apply PF.jump)) ?_
      refine LtK.put rfl rfl rfl (yv_move rfl) ?_
      refine LtK.put rfl rfl rfl (yv_lss rfl rfl) ?_
      refine LtK.put rfl rfl rfl (yv_move rfl) ?_
      refine LtK.nil ?_
      refine wpR_case 131 rfl (fun hb => ?_) (fun hb => ?_)
      · replace H := cond_t H hb
        refine wpR_batch [false, false, false, true, true, true, true, true, true, true, true, true, true, true, true, true, true, true, true, true] (by decide +kernel) (by repeat (first | exact PF.body | exact PF.round | apply PF.then | apply PF.inBlock | apply PF.jump)) ?_
        refine LtK.skip rfl rfl rfl ?_
        refine LtK.skip rfl rfl rfl ?_
        refine LtK.put rfl rfl rfl (yv_pick_t rfl rfl rfl) ?_
        refine LtK.put rfl rfl rfl (yv_move rfl) ?_
        refine LtK.skip rfl rfl rfl ?_
        refine LtK.skip rfl rfl rfl ?_
        refine LtK.skip rfl rfl rfl ?_
        refine LtK.skip rfl rfl rfl ?_
        refine LtK.skip rfl rfl rfl ?_
        refine LtK.skip rfl rfl rfl ?_
        refine LtK.skip rfl rfl rfl ?_
        refine LtK.skip rfl rfl rfl ?_
        refine LtK.skip rfl rfl rfl ?_
        refine LtK.skip rfl rfl rfl ?_
        refine LtK.skip rfl rfl rfl ?_
        refine LtK.skip rfl rfl rfl ?_
        refine LtK.put rfl rfl rfl (yv_pick_t rfl rfl rfl) ?_
        refine LtK.nil ?_
        refine wpR_end (by kernel_rfl) ?_
        refine QH_seq_k hK580 ?_
        refine wpC_cond_t rfl rfl ?_
        refine wpC_seq_k (fun K hK582 => ?_)
        refine wpC_region ?_
        refine wpS_quick 1 rfl ?_
        refine wpS_nil ?_
        refine QH_seq_k hK582 ?_
        refine wpC_ret ?_
        refine QH_then_ret ?_
        refine QH_block_ret ?_
        refine QH_then_ret ?_
        refine QH_then_ret ?_
        refine QH_block_ret ?_
        refine QH_then_ret ?_
        refine QH_ret rfl (RV.tmp rfl RV.nil) rfl ?_
        obtain rfl := Option.some.inj H
        replace hS := hS.cut 0
        exact ⟨rfl, hS⟩
      replace H := cond_f H hb
      refine wpR_batch [false, false, false, true, true, true, true] (by decide +kernel) (by repeat (first | exact PF.body | exact PF.round | apply PF.then | apply PF.inBlock | apply PF.jump)) ?_
      refine LtK.put rfl rfl rfl (yv_move rfl) ?_
      refine LtK.put rfl rfl rfl (yv_geq rfl rfl) ?_
      refine LtK.put rfl rfl rfl (yv_pick_f rfl rfl rfl) ?_
      refine LtK.put rfl rfl rfl (yv_move rfl) ?_
      refine LtK.nil ?_
      refine wpR_case 135 rfl (fun hb => ?_) (fun hb => ?_)
      · replace H := cond_t H hb
        refine wpR_batch [false, false, false, false, false, false, false, true, true, true, true, true, true, true, true, true, true, true, true, true] (by decide +kernel) (by repeat (first | exact PF.body | exact PF.round | apply PF.then | apply PF.inBlock | apply PF.jump)) ?_
        refine LtK.skip rfl rfl rfl ?_
        refine LtK.skip rfl rfl rfl ?_
        refine LtK.skip rfl rfl rfl ?_
        refine LtK.skip rfl rfl rfl ?_
        refine LtK.skip rfl rfl rfl ?_
        refine LtK.skip rfl rfl rfl ?_
        refine LtK.skip rfl rfl rfl ?_
        refine LtK.skip rfl rfl rfl ?_
        refine LtK.skip rfl rfl rfl ?_
        refine LtK.skip rfl rfl rfl ?_
        refine LtK.skip rfl rfl rfl ?_
        refine LtK.skip rfl rfl rfl ?_
        refine LtK.put rfl rfl rfl (yv_pick_t rfl rfl rfl) ?_
        refine LtK.nil ?_
        refine wpR_end (by kernel_rfl) ?_
        refine QH_seq_k hK580 ?_
        refine wpC_cond_t rfl rfl ?_
        refine wpC_seq_k (fun K hK585 => ?_)
        refine wpC_region ?_
        refine wpS_quick 1 rfl ?_
        refine wpS_nil ?_
        refine QH_seq_k hK585 ?_
        refine wpC_ret ?_
        refine QH_then_ret ?_
        refine QH_block_ret ?_
        refine QH_then_ret ?_
        refine QH_then_ret ?_
        refine QH_block_ret ?_
        refine QH_then_ret ?_
        refine QH_ret rfl (RV.tmp rfl RV.nil) rfl ?_
        obtain rfl := Option.some.inj H
        replace hS := hS.cut 0
        exact ⟨rfl, hS⟩
      replace H := cond_f H hb
      refine wpR_batch [false, false, false, false, false, false, false, true, true, true, true, true] (by decide +kernel) (by repeat (first | exact PF.body | exact PF.round | apply PF.then | apply PF.inBlock | apply PF.jump)) ?_
      refine LtK.put rfl rfl rfl (yv_move rfl) ?_
      obtain ⟨e587, hi589, H⟩ := bind_some H
      obtain ⟨j588, hi589a, hi589b, hi589c⟩ := idx_some hi589
      refine LtK.put rfl rfl rfl (yx_idxA (j := j588) ar_45 rfl rfl hi589a (Nat.lt_of_lt_of_eq hi589c hl95)) ?_
      refine LtK.put rfl rfl rfl (yv_load_box sc_3 rfl (RW.below _) hS hs7 trivial (seg_int hi589b)) ?_
      refine LtK.put rfl rfl rfl (yv_neq rfl rfl) ?_
      refine LtK.put rfl rfl rfl (yv_move rfl) ?_
      refine LtK.nil ?_
      refine wpR_case 140 rfl (fun hb => ?_) (fun hb => ?_)
      rotate_left
      · replace H := cond_f H hb
        refine wpR_batch [false, false, false, false, false, false, false, false, false, false, false, false, true, true, true, true, true, true, true, true] (by decide +kernel) (by repeat (first | exact PF.body | exact PF.round | apply PF.then | apply PF.inBlock | apply PF.jump)) ?_
        refine LtK.skip rfl rfl rfl ?_
        refine LtK.skip rfl rfl rfl ?_
        refine LtK.skip rfl rfl rfl ?_
        refine LtK.skip rfl rfl rfl ?_
        refine LtK.skip rfl rfl rfl ?_
        refine LtK.skip rfl rfl rfl ?_
        refine LtK.put rfl rfl rfl (yv_pick_f rfl rfl rfl) ?_
        refine LtK.put rfl rfl rfl (yv_pick_f rfl rfl rfl) ?_
        refine LtK.nil ?_
        refine wpR_end (by kernel_rfl) ?_
        refine QH_seq_k hK580 ?_
        refine wpC_cond_f rfl rfl ?_
        refine wpC_skip ?_
        refine QH_seq_k hK579 ?_
        refine wpC_region ?_
        refine wpS_quick 1 rfl ?_
        refine wpS_put rfl rfl rfl (yv_fieldAddr fo_30_0 rfl) ?_
        refine wpS_put rfl rfl rfl (yv_load_box sc_3 rfl (RW.here _) hS hs0 trivial sg0_1) ?_
        obtain ⟨e601, hi603, H⟩ := bind_some H
        obtain ⟨j602, hi603a, hi603b, hi603c⟩ := idx_some hi603
        refine wpS_put rfl rfl rfl (yx_idxA (j := j602) ar_45 rfl rfl hi603a (Nat.lt_of_lt_of_eq hi603c hl95)) ?_
        refine wpS_store rfl rfl rfl CellsOf.int hS ps7 (setc_int e561.id hi603a hi603b) (by kernel_rfl) rfl (fun w hS hB => ?_)
        refine wpS_nil ?_
        refine QH_block_normal ?_
        refine QH_seq_k hK104 ?_
        refine wpC_region ?_
        refine wpS_quick 1 rfl ?_
        refine wpS_put rfl rfl rfl (yx_add rfl rfl) ?_
        refine wpS_quick 1 rfl ?_
        refine wpS_nil ?_
        replace hS := hS.front 8 rfl
        replace hS := hS.front 2 rfl
        replace hS := hS.front 8 rfl
        replace hS := hS.front 8 rfl
        replace hS := hS.front 8 rfl
        replace hS := hS.cut 5
        exact QH_again (n, v83, v84, A85, c86, q88, (IntKind.wrap .i64 (v93 + 1)), (setI v94 e561.tuple.term e561.id), (setI v96 (IntKind.wrap .i64 (e434.dst - 1)) r462.1), (setI q98 (IntKind.wrap .i64 (e434.dst - 1)) (⟨r462.1, A464, c465, A468, c469, A472, c473, A476, c477, A480, c481⟩ : Cq))) (by repeat (first | exact Sub.nil | refine Sub.cons rfl ?_)) ⟨hS, k87, hq89, okq90, (setI_len hl95), (setI_len hl97), (setI_map hq99), (okc_set okq100 ⟨k466, k470, k474, k478, k482⟩), H⟩ (Nat.lt_succ_self _)
      replace H := cond_t H hb
      refine wpR_batch [false, false, false, false, false, false, false, false, false, false, false, false, true, true, true, true, true, true, true, true] (by decide +kernel) (by repeat (first | exact PF.body | exact PF.round | apply PF.then | apply PF.inBlock | apply PF.jump)) ?_
      refine LtK.put rfl rfl rfl (yv_move rfl) ?_
      obtain ⟨e591, hi593, H⟩ := bind_some H
      obtain ⟨j592, hi593a, hi593b, hi593c⟩ := idx_some hi593
      refine LtK.put rfl rfl rfl (yx_idxA (j := j592) ar_45 rfl rfl hi593a (Nat.lt_of_lt_of_eq hi593c hl95)) ?_
      refine LtK.put rfl rfl rfl (yv_load_box sc_3 rfl (RW.below _) hS hs7 trivial (seg_int hi593b)) ?_
      refine LtK.put rfl rfl rfl (yv_fieldAddr fo_30_0 rfl) ?_
      refine LtK.put rfl rfl rfl (yv_load_box sc_3 rfl (RW.below _) hS hs0 trivial sg0_1) ?_
      refine LtK.put rfl rfl rfl (yv_neq rfl rfl) ?_
      refine LtK.put rfl rfl rfl (yv_pick_t rfl rfl rfl) ?_
      refine LtK.put rfl rfl rfl (yv_pick_f rfl rfl rfl) ?_
      refine LtK.nil ?_
      refine wpR_end (by kernel_rfl) ?_
      refine QH_seq_k hK580 ?_
      refine wpC_cond rfl (fun hb => ?_) (fun hb => ?_)
      · replace H := cond_t H hb
        refine wpC_seq_k (fun K hK595 => ?_)
        refine wpC_region ?_
        refine wpS_quick 1 rfl ?_
        refine wpS_nil ?_
        refine QH_seq_k hK595 ?_
        refine wpC_ret ?_
        refine QH_then_ret ?_
        refine QH_block_ret ?_
        refine QH_then_ret ?_
        refine QH_then_ret ?_
        refine QH_block_ret ?_
        refine QH_then_ret ?_
        refine QH_ret rfl (RV.tmp rfl RV.nil) rfl ?_
        obtain rfl := Option.some.inj H
        replace hS := hS.cut 0
        exact ⟨rfl, hS⟩
      replace H := cond_f H hb
      refine wpC_skip ?_
      refine QH_seq_k hK579 ?_
      refine wpC_region ?_
      refine wpS_quick 1 rfl ?_
      refine wpS_put rfl rfl rfl (yv_fieldAddr fo_30_0 rfl) ?_
      refine wpS_put rfl rfl rfl (yv_load_box sc_3 rfl (RW.here _) hS hs0 trivial sg0_1) ?_
      obtain ⟨e597, hi599, H⟩ := bind_some H
      obtain ⟨j598, hi599a, hi599b, hi599c⟩ := idx_some hi599
      refine wpS_put rfl rfl rfl (yx_idxA (j := j598) ar_45 rfl rfl hi599a (Nat.lt_of_lt_of_eq hi599c hl95)) ?_
      refine wpS_store rfl rfl rfl CellsOf.int hS ps7 (setc_int e561.id hi599a hi599b) (by kernel_rfl) rfl (fun w hS hB => ?_)
      refine wpS_nil ?_
      refine QH_block_normal ?_
      refine QH_seq_k hK104 ?_
      refine wpC_region ?_
      refine wpS_quick 1 rfl ?_
      refine wpS_put rfl rfl rfl (yx_add rfl rfl) ?_
      refine wpS_quick 1 rfl ?_
      refine wpS_nil ?_
      replace hS := hS.front 8 rfl
      replace hS := hS.front 2 rfl
      replace hS := hS.front 8 rfl
      replace hS := hS.front 8 rfl
      replace hS := hS.front 8 rfl
      replace hS := hS.cut 5
      exact QH_again (n, v83, v84, A85, c86, q88, (IntKind.wrap .i64 (v93 + 1)), (setI v94 e561.tuple.term e561.id), (setI v96 (IntKind.wrap .i64 (e434.dst - 1)) r462.1), (setI q98 (IntKind.wrap .i64 (e434.dst - 1)) (⟨r462.1, A464, c465, A468, c469, A472, c473, A476, c477, A480, c481⟩ : Cq))) (by repeat (first | exact Sub.nil | refine Sub.cons rfl ?_)) ⟨hS, k87, hq89, okq90, (setI_len hl95), (setI_len hl97), (setI_map hq99), (okc_set okq100 ⟨k466, k470, k474, k478, k482⟩), H⟩ (Nat.lt_succ_self _)
    replace H := cond_t H hb
    refine wpC_region ?_
    refine wpS_quick 2 rfl ?_
    obtain ⟨l508, hf509, H⟩ := bind_some H
    refine wpX_appendQ2 (l := v84) (q := q88) (p := q488) (m := r462.2) em_32 (by decide) rfl rfl rfl rfl hS hq89 hq489 (fun _ => ps4) (hS.rd hs1) hf509 (fun A510 c511 w k512 hS hq513 hB => ?_)
    replace hS := hS.front 5 rfl
    replace hS := hS.front 3 rfl
    replace hS := hS.absorbAll
    refine wpS_quick 1 rfl ?_
    refine wpS_nil ?_
    refine QH_seq_k hK505 ?_
    refine wpC_seq_k (fun K hK514 => ?_)
    refine wpC_region ?_
    refine wpS_quick 1 rfl ?_
    obtain ⟨e515, hi517, H⟩ := bind_some H
    obtain ⟨j516, A518, c519, A520, c521, A522, c523, A524, c525, A526, c527, hi517a, hi517b, hi517c⟩ := idxC (q := (setI q98 (IntKind.wrap .i64 (e434.dst - 1)) (⟨r462.1, A464, c465, A468, c469, A472, c473, A476, c477, A480, c481⟩ : Cq))) (setI_map hq99) hi517
    refine wpS_put rfl rfl rfl (yx_idxA (j := j516) ar_42 rfl rfl hi517a (Nat.lt_of_lt_of_eq hi517c (setI_len hl97))) ?_
    refine wpS_put rfl rfl rfl (yv_load_boxA ag_30 rfl (RW.here _) hS hs6 trivial (seg_core hi517b)) ?_
    refine wpS_alloc rfl rfl zc_30 hS (fun b528 w hS hB => ?_)
    refine wpS_store rfl rfl rfl CellsOf.agg hS ps0 st0_22 (by kernel_rfl) rfl (fun w hS hB => ?_)
    refine wpS_nil ?_
    refine QH_seq_k hK514 ?_
    refine wpC_seq_k (fun K hK530 => ?_)
    refine wpC_region ?_
    refine wpS_put rfl rfl rfl (yv_fieldAddr fo_30_2 rfl) ?_
    refine wpS_put rfl rfl rfl (yv_load_box sc_5 rfl (RW.here _) hS hs0 trivial sg2_1) ?_
    refine wpS_put rfl rfl rfl (yv_eql rfl rfl) ?_
    refine wpS_nil ?_
    refine QH_seq_k hK530 ?_
    refine wpC_cond rfl (fun hb => ?_) (fun hb => ?_)
    rotate_left
    · replace H := cond_f H hb
      refine wpC_skip ?_
      refine QH_block_normal ?_
      refine QH_seq_k hK104 ?_
      refine wpC_region ?_
      refine wpS_quick 1 rfl ?_
      refine wpS_put rfl rfl rfl (yx_add rfl rfl) ?_
      refine wpS_quick 1 rfl ?_
      refine wpS_nil ?_
      replace hS := hS.front 7 rfl
      replace hS := hS.front 3 rfl
      replace hS := hS.front 7 rfl
      replace hS := hS.front 4 rfl
      replace hS := hS.front 7 rfl
      replace hS := hS.cut 5
      exact QH_again (n, v83, l508, A510, c511, (q88 ++ q488), (IntKind.wrap .i64 (v93 + 1)), v94, (setI v96 (IntKind.wrap .i64 (e434.dst - 1)) r462.1), (setI q98 (IntKind.wrap .i64 (e434.dst - 1)) (⟨r462.1, A464, c465, A468, c469, A472, c473, A476, c477, A480, c481⟩ : Cq))) (by repeat (first | exact Sub.nil | refine Sub.cons rfl ?_)) ⟨hS, k512, hq513, (okq_app okq90 okq490), hl95, (setI_len hl97), (setI_map hq99), (okc_set okq100 ⟨k466, k470, k474, k478, k482⟩), H⟩ (Nat.lt_succ_self _)
    replace H := cond_t H hb
    refine wpC_seq_k (fun K hK532 => ?_)
    refine wpC_region ?_
    refine wpS_put rfl rfl rfl (yv_fieldAddr fo_30_4 rfl) ?_
    refine wpS_put rfl rfl rfl (yv_fieldAddr fo_26_2 rfl) ?_
    refine wpS_put rfl rfl rfl (yv_load_box sc_3 rfl (RW.here _) hS hs0 trivial sg10_1) ?_
    refine wpS_quick 1 rfl ?_
    refine wpS_nil ?_
    refine QH_seq_k hK532 ?_
    refine wpC_seq_k (fun K hK533 => ?_)
    refine wpC_seq_k (fun K hK534 => ?_)
    refine wpC_draw 20 [] (fun _ _ => True) ⟨by kernel_rfl, by kernel_rfl⟩ hS (fun w hS hB => ?_)
    refine wpR_batch [true, true, true] (by decide +kernel) (by repeat (first | exact PF.body | exact PF.round | apply PF.then | apply PF.inBlock | apply PF.jump)) ?_
    refine LtK.put rfl rfl rfl (yv_move rfl) ?_
    refine LtK.put rfl rfl rfl (yv_lss rfl rfl) ?_
    refine LtK.put rfl rfl rfl (yv_move rfl) ?_
    refine LtK.nil ?_
    refine wpR_case 131 rfl (fun hb => ?_) (fun hb => ?_)
    · replace H := cond_t H hb
      refine wpR_batch [false, false, false, true, true, true, true, true, true, true, true, true, true, true, true, true, true, true, true, true] (by decide +kernel) (by repeat (first | exact PF.body | exact PF.round | apply PF.then | apply PF.inBlock | apply PF.jump)) ?_
      refine LtK.skip rfl rfl rfl ?_
      refine LtK.skip rfl rfl rfl ?_
      refine LtK.put rfl rfl rfl (yv_pick_t rfl rfl rfl) ?_
      refine LtK.put rfl rfl rfl (yv_move rfl) ?_
      refine LtK.skip rfl rfl rfl ?_
      refine LtK.skip rfl rfl rfl ?_
      refine LtK.skip rfl rfl rfl ?_
      refine LtK.skip rfl rfl rfl ?_
      refine LtK.skip rfl rfl rfl ?_
      refine LtK.skip rfl rfl rfl ?_
      refine LtK.skip rfl rfl rfl ?_
      refine LtK.skip rfl rfl rfl ?_
      refine LtK.skip rfl rfl rfl ?_
      refine LtK.skip rfl rfl rfl ?_
      refine LtK.skip rfl rfl rfl ?_
      refine LtK.skip rfl rfl rfl ?_
      refine LtK.put rfl rfl rfl (yv_pick_t rfl rfl rfl) ?_
      refine LtK.nil ?_
      refine wpR_end (by kernel_rfl) ?_
      refine QH_seq_k hK534 ?_
      refine wpC_cond_t rfl rfl ?_
      refine wpC_seq_k (fun K hK536 => ?_)
      refine wpC_region ?_
      refine wpS_quick 1 rfl ?_
      refine wpS_nil ?_
      refine QH_seq_k hK536 ?_
      refine wpC_ret ?_
      refine QH_then_ret ?_
      refine QH_block_ret ?_
      refine QH_then_ret ?_
      refine QH_then_ret ?_
      refine QH_block_ret ?_
      refine QH_then_ret ?_
      refine QH_ret rfl (RV.tmp rfl RV.nil) rfl ?_
      obtain rfl := Option.some.inj H
      replace hS := hS.cut 0
      exact ⟨rfl, hS⟩
    replace H := cond_f H hb
    refine wpR_batch [false, false, false, true, true, true, true] (by decide +kernel) (by repeat (first | exact PF.body | exact PF.round | apply PF.then | apply PF.inBlock | apply PF.jump)) ?_
    refine LtK.put rfl rfl rfl (yv_move rfl) ?_
    refine LtK.put rfl rfl rfl (yv_geq rfl rfl) ?_
    refine LtK.put rfl rfl rfl (yv_pick_f rfl rfl rfl) ?_
    refine LtK.put rfl rfl rfl (yv_move rfl) ?_
    refine LtK.nil ?_
    refine wpR_case 135 rfl (fun hb => ?_) (fun hb => ?_)
    · replace H := cond_t H hb
      refine wpR_batch [false, false, false, false, false, false, false, true, true, true, true, true, true, true, true, true, true, true, true, true] (by decide +kernel) (by repeat (first | exact PF.body | exact PF.round | apply PF.then | apply PF.inBlock | apply PF.jump)) ?_
      refine LtK.skip rfl rfl rfl ?_
      refine LtK.skip rfl rfl rfl ?_
      refine LtK.skip rfl rfl rfl ?_
      refine LtK.skip rfl rfl rfl ?_
      refine LtK.skip rfl rfl rfl ?_
      refine LtK.skip rfl rfl rfl ?_
      refine LtK.skip rfl rfl rfl ?_
      refine LtK.skip rfl rfl rfl ?_
      refine LtK.skip rfl rfl rfl ?_
      refine LtK.skip rfl rfl rfl ?_
      refine LtK.skip rfl rfl rfl ?_
      refine LtK.skip rfl rfl rfl ?_
      refine LtK.put rfl rfl rfl (yv_pick_t rfl rfl rfl) ?_
      refine LtK.nil ?_
      refine wpR_end (by kernel_rfl) ?_
      refine QH_seq_k hK534 ?_
      refine wpC_cond_t rfl rfl ?_
      refine wpC_seq_k (fun K hK539 => ?_)
      refine wpC_region ?_
      refine wpS_quick 1 rfl ?_
      refine wpS_nil ?_
      refine QH_seq_k hK539 ?_
      refine wpC_ret ?_
      refine QH_then_ret ?_
      refine QH_block_ret ?_
      refine QH_then_ret ?_
      refine QH_then_ret ?_
      refine QH_block_ret ?_
      refine QH_then_ret ?_
      refine QH_ret rfl (RV.tmp rfl RV.nil) rfl ?_
      obtain rfl := Option.some.inj H
      replace hS := hS.cut 0
      exact ⟨rfl, hS⟩
    replace H := cond_f H hb
    refine wpR_batch [false, false, false, false, false, false, false, true, true, true, true, true] (by decide +kernel) (by repeat (first | exact PF.body | exact PF.round | apply PF.then | apply PF.inBlock | apply PF.jump)) ?_
    refine LtK.put rfl rfl rfl (yv_move rfl) ?_
    obtain ⟨e541, hi543, H⟩ := bind_some H
    obtain ⟨j542, hi543a, hi543b, hi543c⟩ := idx_some hi543
    refine LtK.put rfl rfl rfl (yx_idxA (j := j542) ar_45 rfl rfl hi543a (Nat.lt_of_lt_of_eq hi543c hl95)) ?_
    refine LtK.put rfl rfl rfl (yv_load_box sc_3 rfl (RW.below _) hS hs6 trivial (seg_int hi543b)) ?_
    refine LtK.put rfl rfl rfl (yv_neq rfl rfl) ?_
    refine LtK.put rfl rfl rfl (yv_move rfl) ?_
    refine LtK.nil ?_
    refine wpR_case 140 rfl (fun hb => ?_) (fun hb => ?_)
    rotate_left
    · replace H := cond_f H hb
      refine wpR_batch [false, false, false, false, false, false, false, false, false, false, false, false, true, true, true, true, true, true, true, true] (by decide +kernel) (by repeat (first | exact PF.body | exact PF.round | apply PF.then | apply PF.inBlock | apply PF.jump)) ?_
      refine LtK.skip rfl rfl rfl ?_
      refine LtK.skip rfl rfl rfl ?_
      refine LtK.skip rfl rfl rfl ?_
      refine LtK.skip rfl rfl rfl ?_
      refine LtK.skip rfl rfl rfl ?_
      refine LtK.skip rfl rfl rfl ?_
      refine LtK.put rfl rfl rfl (yv_pick_f rfl rfl rfl) ?_
      refine LtK.put rfl rfl rfl (yv_pick_f rfl rfl rfl) ?_
      refine LtK.nil ?_
      refine wpR_end (by kernel_rfl) ?_
      refine QH_seq_k hK534 ?_
      refine wpC_cond_f rfl rfl ?_
      refine wpC_skip ?_
      refine QH_seq_k hK533 ?_
      refine wpC_region ?_
      refine wpS_quick 1 rfl ?_
      refine wpS_put rfl rfl rfl (yv_fieldAddr fo_30_0 rfl) ?_
      refine wpS_put rfl rfl rfl (yv_load_box sc_3 rfl (RW.here _) hS hs0 trivial sg0_1) ?_
      obtain ⟨e555, hi557, H⟩ := bind_some H
      obtain ⟨j556, hi557a, hi557b, hi557c⟩ := idx_some hi557
      refine wpS_put rfl rfl rfl (yx_idxA (j := j556) ar_45 rfl rfl hi557a (Nat.lt_of_lt_of_eq hi557c hl95)) ?_
      refine wpS_store rfl rfl rfl CellsOf.int hS ps6 (setc_int e515.id hi557a hi557b) (by kernel_rfl) rfl (fun w hS hB => ?_)
      refine wpS_nil ?_
      refine QH_block_normal ?_
      refine QH_seq_k hK104 ?_
      refine wpC_region ?_
      refine wpS_quick 1 rfl ?_
      refine wpS_put rfl rfl rfl (yx_add rfl rfl) ?_
      refine wpS_quick 1 rfl ?_
      refine wpS_nil ?_
      replace hS := hS.front 7 rfl
      replace hS := hS.front 3 rfl
      replace hS := hS.front 7 rfl
      replace hS := hS.front 4 rfl
      replace hS := hS.front 7 rfl
      replace hS := hS.cut 5
      exact QH_again (n, v83, l508, A510, c511, (q88 ++ q488), (IntKind.wrap .i64 (v93 + 1)), (setI v94 e515.tuple.term e515.id), (setI v96 (IntKind.wrap .i64 (e434.dst - 1)) r462.1), (setI q98 (IntKind.wrap .i64 (e434.dst - 1)) (⟨r462.1, A464, c465, A468, c469, A472, c473, A476, c477, A480, c481⟩ : Cq))) (by repeat (first | exact Sub.nil | refine Sub.cons rfl ?_)) ⟨hS, k512, hq513, (okq_app okq90 okq490), (setI_len hl95), (setI_len hl97), (setI_map hq99), (okc_set okq100 ⟨k466, k470, k474, k478, k482⟩), H⟩ (Nat.lt_succ_self _)
    replace H := cond_t H hb
    refine wpR_batch [false, false, false, false, false, false, false, false, false, false, false, false, true, true, true, true, true, true, true, true] (by decide +kernel) (by repeat (first | exact PF.body | exact PF.round | apply PF.then | apply PF.inBlock | apply PF.jump)) ?_
    refine LtK.put rfl rfl rfl (yv_move rfl) ?_
    obtain ⟨e545, hi547, H⟩ := bind_some H
    obtain ⟨j546, hi547a, hi547b, hi547c⟩ := idx_some hi547
    refine LtK.put rfl rfl rfl (yx_idxA (j := j546) ar_45 rfl rfl hi547a (Nat.lt_of_lt_of_eq hi547c hl95)) ?_
    refine LtK.put rfl rfl rfl (yv_load_box sc_3 rfl (RW.below _) hS hs6 trivial (seg_int hi547b)) ?_
    refine LtK.put rfl rfl rfl (yv_fieldAddr fo_30_0 rfl) ?_
    refine LtK.put rfl rfl rfl (yv_load_box sc_3 rfl (RW.below _) hS hs0 trivial sg0_1) ?_
    refine LtK.put rfl rfl rfl (yv_neq rfl rfl) ?_
    refine LtK.put rfl rfl rfl (yv_pick_t rfl rfl rfl) ?_
    refine LtK.put rfl rfl rfl (yv_pick_f rfl rfl rfl) ?_
    refine LtK.nil ?_
    refine wpR_end (by kernel_rfl) ?_
    refine QH_seq_k hK534 ?_
    refine wpC_cond rfl (fun hb => ?_) (fun hb => ?_)
    · replace H := cond_t H hb
      refine wpC_seq_k (fun K hK549 => ?_)
      refine wpC_region ?_
      refine wpS_quick 1 rfl ?_
      refine wpS_nil ?_
      refine QH_seq_k hK549 ?_
      refine wpC_ret ?_
      refine QH_then_ret ?_
      refine QH_block_ret ?_
      refine QH_then_ret ?_
      refine QH_then_ret ?_
      refine QH_block_ret ?_
      refine QH_then_ret ?_
      refine QH_ret rfl (RV.tmp rfl RV.nil) rfl ?_
      obtain rfl := Option.some.inj H
      replace hS := hS.cut 0
      exact ⟨rfl, hS⟩
    replace H := cond_f H hb
    refine wpC_skip ?_
    refine QH_seq_k hK533 ?_
    refine wpC_region ?_
    refine wpS_quick 1 rfl ?_
    refine wpS_put rfl rfl rfl (yv_fieldAddr fo_30_0 rfl) ?_
    refine wpS_put rfl rfl rfl (yv_load_box sc_3 rfl (RW.here _) hS hs0 trivial sg0_1) ?_
    obtain ⟨e551, hi553, H⟩ := bind_some H
    obtain ⟨j552, hi553a, hi553b, hi553c⟩ := idx_some hi553
    refine wpS_put rfl rfl rfl (yx_idxA (j := j552) ar_45 rfl rfl hi553a (Nat.lt_of_lt_of_eq hi553c hl95)) ?_
    refine wpS_store rfl rfl rfl CellsOf.int hS ps6 (setc_int e515.id hi553a hi553b) (by kernel_rfl) rfl (fun w hS hB => ?_)
    refine wpS_nil ?_
    refine QH_block_normal ?_
    refine QH_seq_k hK104 ?_
    refine wpC_region ?_
    refine wpS_quick 1 rfl ?_
    refine wpS_put rfl rfl rfl (yx_add rfl rfl) ?_
    refine wpS_quick 1 rfl ?_
    refine wpS_nil ?_
    replace hS := hS.front 7 rfl
    replace hS := hS.front 3 rfl
    replace hS := hS.front 7 rfl
    replace hS := hS.front 4 rfl
    replace hS := hS.front 7 rfl
    replace hS := hS.cut 5
    exact QH_again (n, v83, l508, A510, c511, (q88 ++ q488), (IntKind.wrap .i64 (v93 + 1)), (setI v94 e515.tuple.term e515.id), (setI v96 (IntKind.wrap .i64 (e434.dst - 1)) r462.1), (setI q98 (IntKind.wrap .i64 (e434.dst - 1)) (⟨r462.1, A464, c465, A468, c469, A472, c473, A476, c477, A480, c481⟩ : Cq))) (by repeat (first | exact Sub.nil | refine Sub.cons rfl ?_)) ⟨hS, k512, hq513, (okq_app okq90 okq490), (setI_len hl95), (setI_len hl97), (setI_map hq99), (okc_set okq100 ⟨k466, k470, k474, k478, k482⟩), H⟩ (Nat.lt_succ_self _)
  replace H := cond_f H hb
  refine wpC_draw 12 [10] (fun i b => (i = 10 → b ≠ b20)) ⟨by kernel_rfl, by kernel_rfl⟩ hS (fun w hS hB => ?_)
  refine wpR_batch [true, true, true, true, true] (by decide +kernel) (by repeat (first | exact PF.body | exact PF.round | apply PF.then | apply PF.inBlock | apply PF.jump)) ?_
  refine LtK.put rfl rfl rfl (yv_move rfl) ?_
  refine LtK.put rfl rfl rfl (yv_move rfl) ?_
  obtain ⟨e606, hi608, H⟩ := bind_some H
  obtain ⟨j607, A609, c610, A611, c612, A613, c614, A615, c616, A617, c618, hi608a, hi608b, hi608c⟩ := idxC (q := q98) hq99 hi608
  refine LtK.put rfl rfl rfl (yx_idxA (j := j607) ar_42 rfl rfl hi608a (Nat.lt_of_lt_of_eq hi608c hl97)) ?_
  refine LtK.put rfl rfl rfl (yv_load_boxA ag_30 rfl (RW.below _) hS hs5 trivial (seg_core hi608b)) ?_
  refine LtK.put rfl rfl rfl (yv_load_boxA ag_36 rfl (RW.below _) hS hs0 trivial sg0_15) ?_
  refine LtK.nil ?_
  refine wpR_call [false, false, false, false, false, true] 5 ⟨by decide, by kernel_rfl, by kernel_rfl⟩ rfl rfl ?_
  try dsimp only [pickL]
  obtain ⟨r619, hm620, H⟩ := bind_some H
  refine wpS_call rfl rfl rfl rfl (by kernel_rfl) rfl (c_elect_Voted e606 e434 A609 c610 A611 c612 A613 c614 A615 c616 A617 c618 A437 c438 _ (SlI.of_rd ((okc_at okq100 hi608b).k0) (hS.rdsC0 hs4 hi608b).1 (hS.rdsC0 hs4 hi608b).2) (SlI.of_rd ((okc_at okq100 hi608b).k1) (hS.rdsC1 hs4 hi608b).1 (hS.rdsC1 hs4 hi608b).2) (SlI.of_rd ((okc_at okq100 hi608b).k2) (hS.rdsC2 hs4 hi608b).1 (hS.rdsC2 hs4 hi608b).2) (SlI.of_rd ((okc_at okq100 hi608b).k3) (hS.rdsC3 hs4 hi608b).1 (hS.rdsC3 hs4 hi608b).2) (SlI.of_rd ((okc_at okq100 hi608b).k4) (hS.rdsC4 hs4 hi608b).1 (hS.rdsC4 hs4 hi608b).2) (SlW.of_rd (okq90 _ (List.mem_of_getElem? hi436b)) (hS.rds_rd hs2 hi436b)) hm620) ?_
  rintro e w ⟨A621, c622, A625, c626, A629, c630, A633, c634, A637, c638, A641, c642, q645, rfl, k623, k627, k631, k635, k639, k643, hq646, okq647, hN⟩; refine ⟨_, rfl, ?_⟩; have hB := hN.pure; have hS := hS.join hN; clear hN
  refine wpS_nil ?_
  refine QH_step hB ?_
  refine wpR_batch [false, false, false, false, false, false, true, true, false, true] (by decide +kernel) (by repeat (first | exact PF.body | exact PF.round | apply PF.then | apply PF.inBlock | apply PF.jump)) ?_
  refine LtK.put rfl rfl rfl (yv_move rfl) ?_
  refine LtK.put rfl rfl rfl (yv_extract rfl rfl) ?_
  obtain ⟨e649, hi651, H⟩ := bind_some H
  obtain ⟨j650, A652, c653, A654, c655, A656, c657, A658, c659, A660, c661, hi651a, hi651b, hi651c⟩ := idxC (q := q98) hq99 hi651
  refine LtK.put rfl rfl rfl (yx_idxA (j := j650) ar_42 rfl rfl hi651a (Nat.lt_of_lt_of_eq hi651c hl97)) ?_
  refine LtK.nil ?_
  refine wpR_batchG [false, false, false, false, false, false, false, false, true] [10] (fun b => b ≠ b20) (by decide +kernel) (by intro j hj b hb; simp only [List.mem_cons, List.not_mem_nil, or_false] at hj; (try rcases hj with rfl | rfl | rfl | rfl | rfl) <;> first | (simp [hb]; done) | simp_all) (by repeat (first | exact PF.body | exact PF.round | apply PF.then | apply PF.inBlock | apply PF.jump)) ?_
  refine LtK.put rfl rfl rfl (yv_extract rfl rfl) ?_
  refine LtK.nil ?_
  refine wpR_seal [false, false, false, false, false, false, false, false, false, false, true] 10 ⟨by decide, by kernel_rfl, by kernel_rfl⟩ rfl rfl ?_
  try dsimp only [pickL]
  refine wpS_store rfl rfl rfl CellsOf.agg hS ps12 (setc_core (⟨r619.1, A621, c622, A625, c626, A629, c630, A633, c634, A637, c638⟩ : Cq) hi651a hi651b) (by kernel_rfl) rfl (fun w hS hB => ?_)
  replace hS := hS.front 11 rfl
  replace hS := hS.front 1 rfl
  replace hS := hS.absorb
  replace hS := hS.front 1 rfl
  replace hS := hS.weak Weak.rowRd
  replace hS := hS.absorb
  replace hS := hS.front 1 rfl
  replace hS := hS.weak Weak.rowRd
  replace hS := hS.absorb
  replace hS := hS.front 1 rfl
  replace hS := hS.weak Weak.rowRd
  replace hS := hS.absorb
  replace hS := hS.front 1 rfl
  replace hS := hS.weak Weak.rowRd
  replace hS := hS.absorb
  replace hS := hS.setC (i := (IntKind.wrap .i64 (e434.dst - 1))) (⟨r619.1, A621, c622, A625, c626, A629, c630, A633, c634, A637, c638⟩ : Cq)
  refine wpS_nil ?_
  refine QH_stepG (hB.sub (fun _ _ h => by simpa using h)) ?_
  refine wpR_batch [false, false, false, false, false, false, false, false, false, false, false, true] (by decide +kernel) (by repeat (first | exact PF.body | exact PF.round | apply PF.then | apply PF.inBlock | apply PF.jump)) ?_
  refine LtK.put rfl rfl rfl (yv_assign rfl) ?_
  refine LtK.nil ?_
  refine wpR_end (by kernel_rfl) ?_
  refine QH_seq_k hK113 ?_
  refine wpC_seq_k (fun K hK662 => ?_)
  refine wpC_seq_k (fun K hK663 => ?_)
  refine wpC_region ?_
  refine wpS_quick 1 rfl ?_
  refine wpS_put rfl rfl rfl (yv_len el_32 rfl) ?_
  refine wpS_quick 1 rfl ?_
  refine wpS_put rfl rfl rfl (yv_leq rfl rfl) ?_
  refine wpS_nil ?_
  refine QH_seq_k hK663 ?_
  refine wpC_cond rfl (fun hb => ?_) (fun hb => ?_)
  rotate_left
  · replace H := cond_f H hb
    refine wpC_skip ?_
    refine QH_seq_k hK662 ?_
    refine wpC_seq_k (fun K hK717 => ?_)
    refine wpC_region ?_
    refine wpS_quick 1 rfl ?_
    obtain ⟨e718, hi720, H⟩ := bind_some H
    obtain ⟨j719, A721, c722, A723, c724, A725, c726, A727, c728, A729, c730, hi720a, hi720b, hi720c⟩ := idxC (q := (setI q98 (IntKind.wrap .i64 (e434.dst - 1)) (⟨r619.1, A621, c622, A625, c626, A629, c630, A633, c634, A637, c638⟩ : Cq))) (setI_map hq99) hi720
    refine wpS_put rfl rfl rfl (yx_idxA (j := j719) ar_42 rfl rfl hi720a (Nat.lt_of_lt_of_eq hi720c (setI_len hl97))) ?_
    refine wpS_put rfl rfl rfl (yv_load_boxA ag_30 rfl (RW.here _) hS hs7 trivial (seg_core hi720b)) ?_
    refine wpS_alloc rfl rfl zc_30 hS (fun b731 w hS hB => ?_)
    refine wpS_store rfl rfl rfl CellsOf.agg hS ps0 st0_22 (by kernel_rfl) rfl (fun w hS hB => ?_)
    refine wpS_nil ?_
    refine QH_seq_k hK717 ?_
    refine wpC_seq_k (fun K hK733 => ?_)
    refine wpC_region ?_
    refine wpS_put rfl rfl rfl (yv_fieldAddr fo_30_2 rfl) ?_
    refine wpS_put rfl rfl rfl (yv_load_box sc_5 rfl (RW.here _) hS hs0 trivial sg2_1) ?_
    refine wpS_put rfl rfl rfl (yv_eql rfl rfl) ?_
    refine wpS_nil ?_
    refine QH_seq_k hK733 ?_
    refine wpC_cond rfl (fun hb => ?_) (fun hb => ?_)
    rotate_left
    · replace H := cond_f H hb
      refine wpC_skip ?_
      refine QH_block_normal ?_
      refine QH_seq_k hK104 ?_
      refine wpC_region ?_
      refine wpS_quick 1 rfl ?_
      refine wpS_put rfl rfl rfl (yx_add rfl rfl) ?_
      refine wpS_quick 1 rfl ?_
      refine wpS_nil ?_
      replace hS := hS.front 8 rfl
      replace hS := hS.front 2 rfl
      replace hS := hS.front 8 rfl
      replace hS := hS.front 8 rfl
      replace hS := hS.front 8 rfl
      replace hS := hS.cut 5
      exact QH_again (n, v83, v84, A85, c86, q88, (IntKind.wrap .i64 (v93 + 1)), v94, (setI v96 (IntKind.wrap .i64 (e434.dst - 1)) r619.1), (setI q98 (IntKind.wrap .i64 (e434.dst - 1)) (⟨r619.1, A621, c622, A625, c626, A629, c630, A633, c634, A637, c638⟩ : Cq))) (by repeat (first | exact Sub.nil | refine Sub.cons rfl ?_)) ⟨hS, k87, hq89, okq90, hl95, (setI_len hl97), (setI_map hq99), (okc_set okq100 ⟨k623, k627, k631, k635, k639⟩), H⟩ (Nat.lt_succ_self _)
    replace H := cond_t H hb
    refine wpC_seq_k (fun K hK735 => ?_)
    refine wpC_region ?_
    refine wpS_put rfl rfl rfl (yv_fieldAddr fo_30_4 rfl) ?_
    refine wpS_put rfl rfl rfl (yv_fieldAddr fo_26_2 rfl) ?_
    refine wpS_put rfl rfl rfl (yv_load_box sc_3 rfl (RW.here _) hS hs0 trivial sg10_1) ?_
    refine wpS_quick 1 rfl ?_
    refine wpS_nil ?_
    refine QH_seq_k hK735 ?_
    refine wpC_seq_k (fun K hK736 => ?_)
    refine wpC_seq_k (fun K hK737 => ?_)
    refine wpC_draw 20 [] (fun _ _ => True) ⟨by kernel_rfl, by kernel_rfl⟩ hS (fun w hS hB => ?_)
    refine wpR_batch [true, true, true] (by decide +kernel) (by repeat (first | exact PF.body | exact PF.round | apply PF.then | apply PF.inBlock | apply PF.jump)) ?_
    refine LtK.put rfl rfl rfl (yv_move rfl) ?_
    refine LtK.put rfl rfl rfl (yv_lss rfl rfl) ?_
    refine LtK.put rfl rfl rfl (yv_move rfl) ?_
    refine LtK.nil ?_
    refine wpR_case 131 rfl (fun hb => ?_) (fun hb => ?_)
    · replace H := cond_t H hb
      refine wpR_batch [false, false, false, true, true, true, true, true, true, true, true, true, true, true, true, true, true, true, true, true] (by decide +kernel) (by repeat (first | exact PF.body | exact PF.round | apply PF.then | apply PF.inBlock | apply PF.jump)) ?_
      refine LtK.skip rfl rfl rfl ?_
      refine LtK.skip rfl rfl rfl ?_
      refine LtK.put rfl rfl rfl (yv_pick_t rfl rfl rfl) ?_
      refine LtK.put rfl rfl rfl (yv_move rfl) ?_
      refine LtK.skip rfl rfl rfl ?_
      refine LtK.skip rfl rfl rfl ?_
      refine LtK.skip rfl rfl rfl ?_
      refine LtK.skip rfl rfl rfl ?_
      refine LtK.skip rfl rfl rfl ?_
      refine LtK.skip rfl rfl rfl ?_
      refine LtK.skip rfl rfl rfl ?_
      refine LtK.skip rfl rfl rfl ?_
      refine LtK.skip rfl rfl rfl ?_
      refine LtK.skip rfl rfl rfl ?_
      refine LtK.skip rfl rfl rfl ?_
      refine LtK.skip rfl rfl rfl ?_
      refine LtK.put rfl rfl rfl (yv_pick_t rfl rfl rfl) ?_
      refine LtK.nil ?_
      refine wpR_end (by kernel_rfl) ?_
      refine QH_seq_k hK737 ?_
      refine wpC_cond_t rfl rfl ?_
      refine wpC_seq_k (fun K hK739 => ?_)
      refine wpC_region ?_
      refine wpS_quick 1 rfl ?_
      refine wpS_nil ?_
      refine QH_seq_k hK739 ?_
      refine wpC_ret ?_
      refine QH_then_ret ?_
      refine QH_block_ret ?_
      refine QH_then_ret ?_
      refine QH_then_ret ?_
      refine QH_block_ret ?_
      refine QH_then_ret ?_
      refine QH_ret rfl (RV.tmp rfl RV.nil) rfl ?_
      obtain rfl := Option.some.inj H
      replace hS := hS.cut 0
      exact ⟨rfl, hS⟩
    replace H := cond_f H hb
    refine wpR_batch [false, false, false, true, true, true, true] (by decide +kernel) (by repeat (first | exact PF.body | exact PF.round | apply PF.then | apply PF.inBlock | apply PF.jump)) ?_
    refine LtK.put rfl rfl rfl (yv_move rfl) ?_
    refine LtK.put rfl rfl rfl (yv_geq rfl rfl) ?_
    refine LtK.put rfl rfl rfl (yv_pick_f rfl rfl rfl) ?_
    refine LtK.put rfl rfl rfl (yv_move rfl) ?_
    refine LtK.nil ?_
    refine wpR_case 135 rfl (fun hb => ?_) (fun hb => ?_)
    · replace H := cond_t H hb
      refine wpR_batch [false, false, false, false, false, false, false, true, true, true, true, true, true, true, true, true, true, true, true, true] (by decide +kernel) (by repeat (first | exact PF.body | exact PF.round | apply PF.then | apply PF.inBlock | apply PF.jump)) ?_
      refine LtK.skip rfl rfl rfl ?_
      refine LtK.skip rfl rfl rfl ?_
      refine LtK.skip rfl rfl rfl ?_
      refine LtK.skip rfl rfl rfl ?_
      refine LtK.skip rfl rfl rfl ?_
      refine LtK.skip rfl rfl rfl ?_
      refine LtK.skip rfl rfl rfl ?_
      refine LtK.skip rfl rfl rfl ?_
      refine LtK.skip rfl rfl rfl ?_
      refine LtK.skip rfl rfl rfl ?_
      refine LtK.skip rfl rfl rfl ?_
      refine LtK.skip rfl rfl rfl ?_
      refine LtK.put rfl rfl rfl (yv_pick_t rfl rfl rfl) ?_
      refine LtK.nil ?_
      refine wpR_end (by kernel_rfl) ?_
      refine QH_seq_k hK737 ?_
      refine wpC_cond_t rfl rfl ?_
      refine wpC_seq_k (fun K hK742 => ?_)
      refine wpC_region ?_
      refine wpS_quick 1 rfl ?_
      refine wpS_nil ?_
      refine QH_seq_k hK742 ?_
      refine wpC_ret ?_
      refine QH_then_ret ?_
      refine QH_block_ret ?_
      refine QH_then_ret ?_
      refine QH_then_ret ?_
      refine QH_block_ret ?_
      refine QH_then_ret ?_
      refine QH_ret rfl (RV.tmp rfl RV.nil) rfl ?_
      obtain rfl := Option.some.inj H
      replace hS := hS.cut 0
      exact ⟨rfl, hS⟩
    replace H := cond_f H hb
    refine wpR_batch [false, false, false, false, false, false, false, true, true, true, true, true] (by decide +kernel) (by repeat (first | exact PF.body | exact PF.round | apply PF.then | apply PF.inBlock | apply PF.jump)) ?_
    refine LtK.put rfl rfl rfl (yv_move rfl) ?_
    obtain ⟨e744, hi746, H⟩ := bind_some H
    obtain ⟨j745, hi746a, hi746b, hi746c⟩ := idx_some hi746
    refine LtK.put rfl rfl rfl (yx_idxA (j := j745) ar_45 rfl rfl hi746a (Nat.lt_of_lt_of_eq hi746c hl95)) ?_
    refine LtK.put rfl rfl rfl (yv_load_box sc_3 rfl (RW.below _) hS hs7 trivial (seg_int hi746b)) ?_
    refine LtK.put rfl rfl rfl (yv_neq rfl rfl) ?_
    refine LtK.put rfl rfl rfl (yv_move rfl) ?_
    refine LtK.nil ?_
    refine wpR_case 140 rfl (fun hb => ?_) (fun hb => ?_)
    rotate_left
    · replace H := cond_f H hb
      refine wpR_batch [false, false, false, false, false, false, false, false, false, false, false, false, true, true, true, true, true, true, true, true] (by decide +kernel) (by repeat (first | exact PF.body | exact PF.round | apply PF.then | apply PF.inBlock | apply PF.jump)) ?_
      refine LtK.skip rfl rfl rfl ?_
      refine LtK.skip rfl rfl rfl ?_
      refine LtK.skip rfl rfl rfl ?_
      refine LtK.skip rfl rfl rfl ?_
      refine LtK.skip rfl rfl rfl ?_
      refine LtK.skip rfl rfl rfl ?_
      refine LtK.put rfl rfl rfl (yv_pick_f rfl rfl rfl) ?_
      refine LtK.put rfl rfl rfl (yv_pick_f rfl rfl rfl) ?_
      refine LtK.nil ?_
      refine wpR_end (by kernel_rfl) ?_
      refine QH_seq_k hK737 ?_
      refine wpC_cond_f rfl rfl ?_
      refine wpC_skip ?_
      refine QH_seq_k hK736 ?_
      refine wpC_region ?_
      refine wpS_quick 1 rfl ?_
      refine wpS_put rfl rfl rfl (yv_fieldAddr fo_30_0 rfl) ?_
      refine wpS_put rfl rfl rfl (yv_load_box sc_3 rfl (RW.here _) hS hs0 trivial sg0_1) ?_
      obtain ⟨e758, hi760, H⟩ := bind_some H
      obtain ⟨j759, hi760a, hi760b, hi760c⟩ := idx_some hi760
      refine wpS_put rfl rfl rfl (yx_idxA (j := j759) ar_45 rfl rfl hi760a (Nat.lt_of_lt_of_eq hi760c hl95)) ?_
      refine wpS_store rfl rfl rfl CellsOf.int hS ps7 (setc_int e718.id hi760a hi760b) (by kernel_rfl) rfl (fun w hS hB => ?_)
      refine wpS_nil ?_
      refine QH_block_normal ?_
      refine QH_seq_k hK104 ?_
      refine wpC_region ?_
      refine wpS_quick 1 rfl ?_
      refine wpS_put rfl rfl rfl (yx_add rfl rfl) ?_
      refine wpS_quick 1 rfl ?_
      refine wpS_nil ?_
      replace hS := hS.front 8 rfl
      replace hS := hS.front 2 rfl
      replace hS := hS.front 8 rfl
      replace hS := hS.front 8 rfl
      replace hS := hS.front 8 rfl
      replace hS := hS.cut 5
      exact QH_again (n, v83, v84, A85, c86, q88, (IntKind.wrap .i64 (v93 + 1)), (setI v94 e718.tuple.term e718.id), (setI v96 (IntKind.wrap .i64 (e434.dst - 1)) r619.1), (setI q98 (IntKind.wrap .i64 (e434.dst - 1)) (⟨r619.1, A621, c622, A625, c626, A629, c630, A633, c634, A637, c638⟩ : Cq))) (by repeat (first | exact Sub.nil | refine Sub.cons rfl ?_)) ⟨hS, k87, hq89, okq90, (setI_len hl95), (setI_len hl97), (setI_map hq99), (okc_set okq100 ⟨k623, k627, k631, k635, k639⟩), H⟩ (Nat.lt_succ_self _)
    replace H := cond_t H hb
    refine wpR_batch [false, false, false, false, false, false, false, false, false, false, false, false, true, true, true, true, true, true, true, true] (by decide +kernel) (by repeat (first | exact PF.body | exact PF.round | apply PF.then | apply PF.inBlock | apply PF.jump)) ?_
    refine LtK.put rfl rfl rfl (yv_move rfl) ?_
    obtain ⟨e748, hi750, H⟩ := bind_some H
    obtain ⟨j749, hi750a, hi750b, hi750c⟩ := idx_some hi750
    refine LtK.put rfl rfl rfl (yx_idxA (j := j749) ar_45 rfl rfl hi750a (Nat.lt_of_lt_of_eq hi750c hl95)) ?_
    refine LtK.put rfl rfl rfl (yv_load_box sc_3 rfl (RW.below _) hS hs7 trivial (seg_int hi750b)) ?_
    refine LtK.put rfl rfl rfl (yv_fieldAddr fo_30_0 rfl) ?_
    refine LtK.put rfl rfl rfl (yv_load_box sc_3 rfl (RW.below _) hS hs0 trivial sg0_1) ?_
    refine LtK.put rfl rfl rfl (yv_neq rfl rfl) ?_
    refine LtK.put rfl rfl rfl (yv_pick_t rfl rfl rfl) ?_
    refine LtK.put rfl rfl rfl (yv_pick_f rfl rfl rfl) ?_
    refine LtK.nil ?_
    refine wpR_end (by kernel_rfl) ?_
    refine QH_seq_k hK737 ?_
    refine wpC_cond rfl (fun hb => ?_) (fun hb => ?_)
    · replace H := cond_t H hb
      refine wpC_seq_k (fun K hK752 => ?_)
      refine wpC_region ?_
      refine wpS_quick 1 rfl ?_
      refine wpS_nil ?_
      refine QH_seq_k hK752 ?_
      refine wpC_ret ?_
      refine QH_then_ret ?_
      refine QH_block_ret ?_
      refine QH_then_ret ?_
      refine QH_then_ret ?_
      refine QH_block_ret ?_
      refine QH_then_ret ?_
      refine QH_ret rfl (RV.tmp rfl RV.nil) rfl ?_
      obtain rfl := Option.some.inj H
      replace hS := hS.cut 0
      exact ⟨rfl, hS⟩
    replace H := cond_f H hb
    refine wpC_skip ?_
    refine QH_seq_k hK736 ?_
    refine wpC_region ?_
    refine wpS_quick 1 rfl ?_
    refine wpS_put rfl rfl rfl (yv_fieldAddr fo_30_0 rfl) ?_
    refine wpS_put rfl rfl rfl (yv_load_box sc_3 rfl (RW.here _) hS hs0 trivial sg0_1) ?_
    obtain ⟨e754, hi756, H⟩ := bind_some H
    obtain ⟨j755, hi756a, hi756b, hi756c⟩ := idx_some hi756
    refine wpS_put rfl rfl rfl (yx_idxA (j := j755) ar_45 rfl rfl hi756a (Nat.lt_of_lt_of_eq hi756c hl95)) ?_
    refine wpS_store rfl rfl rfl CellsOf.int hS ps7 (setc_int e718.id hi756a hi756b) (by kernel_rfl) rfl (fun w hS hB => ?_)
    refine wpS_nil ?_
    refine QH_block_normal ?_
    refine QH_seq_k hK104 ?_
    refine wpC_region ?_
    refine wpS_quick 1 rfl ?_
    refine wpS_put rfl rfl rfl (yx_add rfl rfl) ?_
    refine wpS_quick 1 rfl ?_
    refine wpS_nil ?_
    replace hS := hS.front 8 rfl
    replace hS := hS.front 2 rfl
    replace hS := hS.front 8 rfl
    replace hS := hS.front 8 rfl
    replace hS := hS.front 8 rfl
    replace hS := hS.cut 5
    exact QH_again (n, v83, v84, A85, c86, q88, (IntKind.wrap .i64 (v93 + 1)), (setI v94 e718.tuple.term e718.id), (setI v96 (IntKind.wrap .i64 (e434.dst - 1)) r619.1), (setI q98 (IntKind.wrap .i64 (e434.dst - 1)) (⟨r619.1, A621, c622, A625, c626, A629, c630, A633, c634, A637, c638⟩ : Cq))) (by repeat (first | exact Sub.nil | refine Sub.cons rfl ?_)) ⟨hS, k87, hq89, okq90, (setI_len hl95), (setI_len hl97), (setI_map hq99), (okc_set okq100 ⟨k623, k627, k631, k635, k639⟩), H⟩ (Nat.lt_succ_self _)
  replace H := cond_t H hb
  refine wpC_region ?_
  refine wpS_quick 2 rfl ?_
  obtain ⟨l665, hf666, H⟩ := bind_some H
  refine wpX_appendQ2 (l := v84) (q := q88) (p := q645) (m := r619.2) em_32 (by decide) rfl rfl rfl rfl hS hq89 hq646 (fun _ => ps4) (hS.rd hs1) hf666 (fun A667 c668 w k669 hS hq670 hB => ?_)
  replace hS := hS.front 5 rfl
  replace hS := hS.front 3 rfl
  replace hS := hS.absorbAll
  refine wpS_quick 1 rfl ?_
  refine wpS_nil ?_
  refine QH_seq_k hK662 ?_
  refine wpC_seq_k (fun K hK671 => ?_)
  refine wpC_region ?_
  refine wpS_quick 1 rfl ?_
  obtain ⟨e672, hi674, H⟩ := bind_some H
  obtain ⟨j673, A675, c676, A677, c678, A679, c680, A681, c682, A683, c684, hi674a, hi674b, hi674c⟩ := idxC (q := (setI q98 (IntKind.wrap .i64 (e434.dst - 1)) (⟨r619.1, A621, c622, A625, c626, A629, c630, A633, c634, A637, c638⟩ : Cq))) (setI_map hq99) hi674
  refine wpS_put rfl rfl rfl (yx_idxA (j := j673) ar_42 rfl rfl hi674a (Nat.lt_of_lt_of_eq hi674c (setI_len hl97))) ?_
  refine wpS_put rfl rfl rfl (yv_load_boxA ag_30 rfl (RW.here _) hS hs6 trivial (seg_core hi674b)) ?_
  refine wpS_alloc rfl rfl zc_30 hS (fun b685 w hS hB => ?_)
  refine wpS_store rfl rfl rfl CellsOf.agg hS ps0 st0_22 (by kernel_rfl) rfl (fun w hS hB => ?_)
  refine wpS_nil ?_
  refine QH_seq_k hK671 ?_
  refine wpC_seq_k (fun K hK687 => ?_)
  refine wpC_region ?_
  refine wpS_put rfl rfl rfl (yv_fieldAddr fo_30_2 rfl) ?_
  refine wpS_put rfl rfl rfl (yv_load_box sc_5 rfl (RW.here _) hS hs0 trivial sg2_1) ?_
  refine wpS_put rfl rfl rfl (yv_eql rfl rfl) ?_
  refine wpS_nil ?_
  refine QH_seq_k hK687 ?_
  refine wpC_cond rfl (fun hb => ?_) (fun hb => ?_)
  rotate_left
  · replace H := cond_f H hb
    refine wpC_skip ?_
    refine QH_block_normal ?_
    refine QH_seq_k hK104 ?_
    refine wpC_region ?_
    refine wpS_quick 1 rfl ?_
    refine wpS_put rfl rfl rfl (yx_add rfl rfl) ?_
    refine wpS_quick 1 rfl ?_
    refine wpS_nil ?_
    replace hS := hS.front 7 rfl
    replace hS := hS.front 3 rfl
    replace hS := hS.front 7 rfl
    replace hS := hS.front 4 rfl
    replace hS := hS.front 7 rfl
    replace hS := hS.cut 5
    exact QH_again (n, v83, l665, A667, c668, (q88 ++ q645), (IntKind.wrap .i64 (v93 + 1)), v94, (setI v96 (IntKind.wrap .i64 (e434.dst - 1)) r619.1), (setI q98 (IntKind.wrap .i64 (e434.dst - 1)) (⟨r619.1, A621, c622, A625, c626, A629, c630, A633, c634, A637, c638⟩ : Cq))) (by repeat (first | exact Sub.nil | refine Sub.cons rfl ?_)) ⟨hS, k669, hq670, (okq_app okq90 okq647), hl95, (setI_len hl97), (setI_map hq99), (okc_set okq100 ⟨k623, k627, k631, k635, k639⟩), H⟩ (Nat.lt_succ_self _)
  replace H := cond_t H hb
  refine wpC_seq_k (fun K hK689 => ?_)
  refine wpC_region ?_
  refine wpS_put rfl rfl rfl (yv_fieldAddr fo_30_4 rfl) ?_
  refine wpS_put rfl rfl rfl (yv_fieldAddr fo_26_2 rfl) ?_
  refine wpS_put rfl rfl rfl (yv_load_box sc_3 rfl (RW.here _) hS hs0 trivial sg10_1) ?_
  refine wpS_quick 1 rfl ?_
  refine wpS_nil ?_
  refine QH_seq_k hK689 ?_
  refine wpC_seq_k (fun K hK690 => ?_)
  refine wpC_seq_k (fun K hK691 => ?_)
  refine wpC_draw 20 [] (fun _ _ => True) ⟨by kernel_rfl, by kernel_rfl⟩ hS (fun w hS hB => ?_)
  refine wpR_batch [true, true, true] (by decide +kernel) (by repeat (first | exact PF.body | exact PF.round | apply PF.then | apply PF.inBlock | apply PF.jump)) ?_
  refine LtK.put rfl rfl rfl (yv_move rfl) ?_
  refine LtK.put rfl rfl rfl (yv_lss rfl rfl) ?_
  refine LtK.put rfl rfl rfl (yv_move rfl) ?_
  refine LtK.nil ?_
  refine wpR_case 131 rfl (fun hb => ?_) (fun hb => ?_)
  · replace H := cond_t H hb
    refine wpR_batch [false, false, false, true, true, true, true, true, true, true, true, true, true, true, true, true, true, true, true, true] (by decide +kernel) (by repeat (first | exact PF.body | exact PF.round | apply PF.then | apply PF.inBlock | apply PF.jump)) ?_
    refine LtK.skip rfl rfl rfl ?_
    refine LtK.skip rfl rfl rfl ?_
    refine LtK.put rfl rfl rfl (yv_pick_t rfl rfl rfl) ?_
    refine LtK.put rfl rfl rfl (yv_move rfl) ?_
    refine LtK.skip rfl rfl rfl ?_
    refine LtK.skip rfl rfl rfl ?_
    refine LtK.skip rfl rfl rfl ?_
    refine LtK.skip rfl rfl rfl ?_
    refine LtK.skip rfl rfl rfl ?_
    refine LtK.skip rfl rfl rfl ?_
    refine LtK.skip rfl rfl rfl ?_
    refine LtK.skip rfl rfl rfl ?_
    refine LtK.skip rfl rfl rfl ?_
    refine LtK.skip rfl rfl rfl ?_
    refine LtK.skip rfl rfl rfl ?_
    refine LtK.skip rfl rfl rfl ?_
    refine LtK.put rfl rfl rfl (yv_pick_t rfl rfl rfl) ?_
    refine LtK.nil ?_
    refine wpR_end (by kernel_rfl) ?_
    refine QH_seq_k hK691 ?_
    refine wpC_cond_t rfl rfl ?_
    refine wpC_seq_k (fun K hK693 => ?_)
    refine wpC_region ?_
    refine wpS_quick 1 rfl ?_
    refine wpS_nil ?_
    refine QH_seq_k hK693 ?_
    refine wpC_ret ?_
    refine QH_then_ret ?_
    refine QH_block_ret ?_
    refine QH_then_ret ?_
    refine QH_then_ret ?_
    refine QH_block_ret ?_
    refine QH_then_ret ?_
    refine QH_ret rfl (RV.tmp rfl RV.nil) rfl ?_
    obtain rfl := Option.some.inj H
    replace hS := hS.cut 0
    exact ⟨rfl, hS⟩
  replace H := cond_f H hb
  refine wpR_batch [false, false, false, true, true, true, true] (by decide +kernel) (by repeat (first | exact PF.body | exact PF.round | apply PF.then | apply PF.inBlock | apply PF.jump)) ?_
  refine LtK.put rfl rfl rfl (yv_move rfl) ?_
  refine LtK.put rfl rfl rfl (yv_geq rfl rfl) ?_
  refine LtK.put rfl rfl rfl (yv_pick_f rfl rfl rfl) ?_
  refine LtK.put rfl rfl rfl (yv_move rfl) ?_
  refine LtK.nil ?_
  refine wpR_case 135 rfl (fun hb => ?_) (fun hb => ?_)
  · replace H := cond_t H hb
    refine wpR_batch [false, false, false, false, false, false, false, true, true, true, true, true, true, true, true, true, true, true, true, true] (by decide +kernel) (by repeat (first | exact PF.body | exact PF.round | apply PF.then | apply PF.inBlock | apply PF.jump)) ?_
    refine LtK.skip rfl rfl rfl ?_
    refine LtK.skip rfl rfl rfl ?_
    refine LtK.skip rfl rfl rfl ?_
    refine LtK.skip rfl rfl rfl ?_
    refine LtK.skip rfl rfl rfl ?_
    refine LtK.skip rfl rfl rfl ?_
    refine LtK.skip rfl rfl rfl ?_
    refine LtK.skip rfl rfl rfl ?_
    refine LtK.skip rfl rfl rfl ?_
    refine LtK.skip rfl rfl rfl ?_
    refine LtK.skip rfl rfl rfl ?_
    refine LtK.skip rfl rfl rfl ?_
    refine LtK.put rfl rfl rfl (yv_pick_t rfl rfl rfl) ?_
    refine LtK.nil ?_
    refine wpR_end (by kernel_rfl) ?_
    refine QH_seq_k hK691 ?_
    refine wpC_cond_t rfl rfl ?_
    refine wpC_seq_k (fun K hK696 => ?_)
    refine wpC_region ?_
    refine wpS_quick 1 rfl ?_
    refine wpS_nil ?_
    refine QH_seq_k hK696 ?_
    refine wpC_ret ?_
    refine QH_then_ret ?_
    refine QH_block_ret ?_
    refine QH_then_ret ?_
    refine QH_then_ret ?_
    refine QH_block_ret ?_
    refine QH_then_ret ?_
    refine QH_ret rfl (RV.tmp rfl RV.nil) rfl ?_
    obtain rfl := Option.some.inj H
    replace hS := hS.cut 0
    exact ⟨rfl, hS⟩
  replace H := cond_f H hb
  refine wpR_batch [false, false, false, false, false, false, false, true, true, true, true, true] (by decide +kernel) (by repeat (first | exact PF.body | exact PF.round | apply PF.then | apply PF.inBlock | apply PF.jump)) ?_
  refine LtK.put rfl rfl rfl (yv_move rfl) ?_
  obtain ⟨e698, hi700, H⟩ := bind_some H
  obtain ⟨j699, hi700a, hi700b, hi700c⟩ := idx_some hi700
  refine LtK.put rfl rfl rfl (yx_idxA (j := j699) ar_45 rfl rfl hi700a (Nat.lt_of_lt_of_eq hi700c hl95)) ?_
  refine LtK.put rfl rfl rfl (yv_load_box sc_3 rfl (RW.below _) hS hs6 trivial (seg_int hi700b)) ?_
  refine LtK.put rfl rfl rfl (yv_neq rfl rfl) ?_
  refine LtK.put rfl rfl rfl (yv_move rfl) ?_
  refine LtK.nil ?_
  refine wpR_case 140 rfl (fun hb => ?_) (fun hb => ?_)
  rotate_left
  · replace H := cond_f H hb
    refine wpR_batch [false, false, false, false, false, false, false, false, false, false, false, false, true, true, true, true, true, true, true, true] (by decide +kernel) (by repeat (first | exact PF.body | exact PF.round | apply PF.then | apply PF.inBlock | apply PF.jump)) ?_
    refine LtK.skip rfl rfl rfl ?_
    refine LtK.skip rfl rfl rfl ?_
    refine LtK.skip rfl rfl rfl ?_
    refine LtK.skip rfl rfl rfl ?_
    refine LtK.skip rfl rfl rfl ?_
    refine LtK.skip rfl rfl rfl ?_
    refine LtK.put rfl rfl rfl (yv_pick_f rfl rfl rfl) ?_
    refine LtK.put rfl rfl rfl (yv_pick_f rfl rfl rfl) ?_
    refine LtK.nil ?_
    refine wpR_end (by kernel_rfl) ?_
    refine QH_seq_k hK691 ?_
    refine wpC_cond_f rfl rfl ?_
    refine wpC_skip ?_
    refine QH_seq_k hK690 ?_
    refine wpC_region ?_
    refine wpS_quick 1 rfl ?_
    refine wpS_put rfl rfl rfl (yv_fieldAddr fo_30_0 rfl) ?_
    refine wpS_put rfl rfl rfl (yv_load_box sc_3 rfl (RW.here _) hS hs0 trivial sg0_1) ?_
    obtain ⟨e712, hi714, H⟩ := bind_some H
    obtain ⟨j713, hi714a, hi714b, hi714c⟩ := idx_some hi714
    refine wpS_put rfl rfl rfl (yx_idxA (j := j713) ar_45 rfl rfl hi714a (Nat.lt_of_lt_of_eq hi714c hl95)) ?_
    refine wpS_store rfl rfl rfl CellsOf.int hS ps6 (setc_int e672.id hi714a hi714b) (by kernel_rfl) rfl (fun w hS hB => ?_)
    refine wpS_nil ?_
    refine QH_block_normal ?_
    refine QH_seq_k hK104 ?_
    refine wpC_region ?_
    refine wpS_quick 1 rfl ?_
    refine wpS_put rfl rfl rfl (yx_add rfl rfl) ?_
    refine wpS_quick 1 rfl ?_
    refine wpS_nil ?_
    replace hS := hS.front 7 rfl
    replace hS := hS.front 3 rfl
    replace hS := hS.front 7 rfl
    replace hS := hS.front 4 rfl
    replace hS := hS.front 7 rfl
    replace hS := hS.cut 5
    exact QH_again (n, v83, l665, A667, c668, (q88 ++ q645), (IntKind.wrap .i64 (v93 + 1)), (setI v94 e672.tuple.term e672.id), (setI v96 (IntKind.wrap .i64 (e434.dst - 1)) r619.1), (setI q98 (IntKind.wrap .i64 (e434.dst - 1)) (⟨r619.1, A621, c622, A625, c626, A629, c630, A633, c634, A637, c638⟩ : Cq))) (by repeat (first | exact Sub.nil | refine Sub.cons rfl ?_)) ⟨hS, k669, hq670, (okq_app okq90 okq647), (setI_len hl95), (setI_len hl97), (setI_map hq99), (okc_set okq100 ⟨k623, k627, k631, k635, k639⟩), H⟩ (Nat.lt_succ_self _)
  replace H := cond_t H hb
  refine wpR_batch [false, false, false, false, false, false, false, false, false, false, false, false, true, true, true, true, true, true, true, true] (by decide +kernel) (by repeat (first | exact PF.body | exact PF.round | apply PF.then | apply PF.inBlock | apply PF.jump)) ?_
  refine LtK.put rfl rfl rfl (yv_move rfl) ?_
  obtain ⟨e702, hi704, H⟩ := bind_some H
  obtain ⟨j703, hi704a, hi704b, hi704c⟩ := idx_some hi704
  refine LtK.put rfl rfl rfl (yx_idxA (j := j703) ar_45 rfl rfl hi704a (Nat.lt_of_lt_of_eq hi704c hl95)) ?_
  refine LtK.put rfl rfl rfl (yv_load_box sc_3 rfl (RW.below _) hS hs6 trivial (seg_int hi704b)) ?_
  refine LtK.put rfl rfl rfl (yv_fieldAddr fo_30_0 rfl) ?_
  refine LtK.put rfl rfl rfl (yv_load_box sc_3 rfl (RW.below _) hS hs0 trivial sg0_1) ?_
  refine LtK.put rfl rfl rfl (yv_neq rfl rfl) ?_
  refine LtK.put rfl rfl rfl (yv_pick_t rfl rfl rfl) ?_
  refine LtK.put rfl rfl rfl (yv_pick_f rfl rfl rfl) ?_
  refine LtK.nil ?_
  refine wpR_end (by kernel_rfl) ?_
  refine QH_seq_k hK691 ?_
  refine wpC_cond rfl (fun hb => ?_) (fun hb => ?_)
  · replace H := cond_t H hb
    refine wpC_seq_k (fun K hK706 => ?_)
    refine wpC_region ?_
    refine wpS_quick 1 rfl ?_
    refine wpS_nil ?_
    refine QH_seq_k hK706 ?_
    refine wpC_ret ?_
    refine QH_then_ret ?_
    refine QH_block_ret ?_
    refine QH_then_ret ?_
    refine QH_then_ret ?_
    refine QH_block_ret ?_
    refine QH_then_ret ?_
    refine QH_ret rfl (RV.tmp rfl RV.nil) rfl ?_
    obtain rfl := Option.some.inj H
    replace hS := hS.cut 0
    exact ⟨rfl, hS⟩
  replace H := cond_f H hb
  refine wpC_skip ?_
  refine QH_seq_k hK690 ?_
  refine wpC_region ?_
  refine wpS_quick 1 rfl ?_
  refine wpS_put rfl rfl rfl (yv_fieldAddr fo_30_0 rfl) ?_
  refine wpS_put rfl rfl rfl (yv_load_box sc_3 rfl (RW.here _) hS hs0 trivial sg0_1) ?_
  obtain ⟨e708, hi710, H⟩ := bind_some H
  obtain ⟨j709, hi710a, hi710b, hi710c⟩ := idx_some hi710
  refine wpS_put rfl rfl rfl (yx_idxA (j := j709) ar_45 rfl rfl hi710a (Nat.lt_of_lt_of_eq hi710c hl95)) ?_
  refine wpS_store rfl rfl rfl CellsOf.int hS ps6 (setc_int e672.id hi710a hi710b) (by kernel_rfl) rfl (fun w hS hB => ?_)
  refine wpS_nil ?_
  refine QH_block_normal ?_
  refine QH_seq_k hK104 ?_
  refine wpC_region ?_
  refine wpS_quick 1 rfl ?_
  refine wpS_put rfl rfl rfl (yx_add rfl rfl) ?_
  refine wpS_quick 1 rfl ?_
  refine wpS_nil ?_
  replace hS := hS.front 7 rfl
  replace hS := hS.front 3 rfl
  replace hS := hS.front 7 rfl
  replace hS := hS.front 4 rfl
  replace hS := hS.front 7 rfl
  replace hS := hS.cut 5
  exact QH_again (n, v83, l665, A667, c668, (q88 ++ q645), (IntKind.wrap .i64 (v93 + 1)), (setI v94 e672.tuple.term e672.id), (setI v96 (IntKind.wrap .i64 (e434.dst - 1)) r619.1), (setI q98 (IntKind.wrap .i64 (e434.dst - 1)) (⟨r619.1, A621, c622, A625, c626, A629, c630, A633, c634, A637, c638⟩ : Cq))) (by repeat (first | exact Sub.nil | refine Sub.cons rfl ?_)) ⟨hS, k669, hq670, (okq_app okq90 okq647), (setI_len hl95), (setI_len hl97), (setI_map hq99), (okc_set okq100 ⟨k623, k627, k631, k635, k639⟩), H⟩ (Nat.lt_succ_self _)
end Go.Proofs.Ytamjlcaoieliaaa
/- The printed texts of this seat. -/
/- Tuples' changes, as plain numbers: what the laws of layer 12 ask. -/
namespace Go.Proofs.Ytamjlcaoieliaaa
open Go Go.RowKit
set_option maxRecDepth 100000

/-- Up to an index terms are no greater than at the end. -/
theorem lastT_mono (t : Int) (l : List En) (h : logB t l = true) : t ≤ lastT t l := by
  induction l generalizing t with
  | nil => exact Int.le_refl _
  | cons e l ih =>
    simp only [logB, Bool.and_eq_true, decide_eq_true_eq] at h
    exact Int.le_trans h.1.2 (ih _ h.2)
theorem tupB_iff (t : Tu) : tupB t = true ↔ FineP t.snap ∧ (t.snap.index ≤ 1073740824 ∧ t.log.length ≤ 200 ∧ 0 ≤ t.vote ∧ t.vote ≤ 5 ∧ t.term ≤ 1073741824) ∧ logB t.snap.term t.log = true ∧ lastT t.snap.term t.log ≤ t.term := by
  unfold tupB
  simp only [Bool.and_eq_true, decide_eq_true_eq, fineB_iff, and_assoc]
theorem chg_yes (x y : Tu) (res : Option Tu) (hx : tupB x = true) (h : res = some y) (hy : tupB y = true) : chgS x res = y ∧ chgE x res = 0 := by
  have : doneB x res = some y := by unfold doneB; rw [if_pos hx, h]; exact if_pos hy
  unfold chgS chgE
  rw [this]
  exact ⟨rfl, rfl⟩
theorem termAt_log (x : Tu) (k : Nat) (hk : k ≤ x.log.length) : termAt x (x.snap.index + k) = some (lastT x.snap.term (x.log.take k)) := by
  unfold termAt Tu.last
  cases k with
  | zero => rw [if_pos (by simp)]; rfl
  | succ k =>
    rw [if_neg (by omega), if_pos (by omega)]
    have : (x.snap.index + ((k + 1 : Nat) : Int) - x.snap.index - 1).toNat = k := by omega
    rw [this, List.getElem?_eq_getElem (by omega), List.take_add_one, List.getElem?_eq_getElem (by omega)]
    show _ = some (lastT _ (_ ++ [x.log[k]]))
    rw [lastT_snoc]; rfl
end Go.Proofs.Ytamjlcaoieliaaa
/- What the references of entries and tuples compute, in plain terms. -/
namespace Go.Proofs.Ytamjlcaoieliaaa
open Go Go.RowKit
set_option maxRecDepth 100000
def bdT (x : Tu) : Prop := x.log.length ≤ 1000000 ∧ -2000000000000 ≤ x.snap.index ∧ x.snap.index ≤ 2000000000000
theorem q_Right (x : Tu) (h : bdT x) : m_tuple_Right x = some (tupB x) := by unfold m_tuple_Right; rw [okT_iff.2 h]; rfl
theorem q_State_yes (x : Tu) (k : Nat) (h : bdT x) (hk : k ≤ x.log.length) : m_tuple_State x (x.snap.index + k) = some (allS x.snap (x.log.take k), true) := by
  unfold m_tuple_State
  rw [okT_iff.2 h, decide_eq_true (by omega)]
  have : (x.snap.index + (k : Int) - x.snap.index).toNat = k := by omega
  rw [this]; rfl
theorem q_State_no (x : Tu) (i : Int) (h : bdT x) (hi : i < x.snap.index ∨ x.snap.index + x.log.length < i) : m_tuple_State x i = some (⟨0, 0, 0, 0, false⟩, false) := by
  unfold m_tuple_State
  rw [okT_iff.2 h, decide_eq_false (by omega)]; rfl
theorem p_tLast (x : Tu) (h : bdT x) : m_tuple_Last x = some x.last := by unfold m_tuple_Last Tu.last; obtain ⟨h1, h2, h3⟩ := h; rw [w64i (by omega)]
theorem p_Own12 (x : Tu) (h : x.log.length ≤ 1000000) : m_ref12_Own x = some x := by
  unfold m_ref12_Own
  rw [List.nil_append, fewI_ok _ (by omega)]; rfl
theorem p_Last12 (x : Tu) (h : bdT x) : m_ref12_Last x = some x.last := p_tLast x h
end Go.Proofs.Ytamjlcaoieliaaa
/- Cores and messages, in plain terms. -/
namespace Go.Proofs.Ytamjlcaoieliaaa
open Go Go.RowKit
set_option maxRecDepth 100000
/-- A sentence as a truth value. -/
noncomputable def cdec (p : Prop) : Bool := @decide p (Classical.propDecidable p)
theorem cdec_t {p : Prop} (h : p) : cdec p = true := @decide_eq_true p (Classical.propDecidable p) h
theorem cdec_f {p : Prop} (h : ¬ p) : cdec p = false := @decide_eq_false p (Classical.propDecidable p) h
theorem cdec_congr {p q : Prop} (h : p ↔ q) : cdec p = cdec q := by rw [propext h]
theorem dec_cdec {p : Prop} [Decidable p] : decide p = cdec p := by
  by_cases h : p
  · rw [cdec_t h, decide_eq_true h]
  · rw [cdec_f h, decide_eq_false h]
def InB (l : List Int) (lo hi : Int) : Prop := ∀ x ∈ l, lo ≤ x ∧ x ≤ hi
theorem InB_nil {lo hi : Int} : InB [] lo hi := fun _ h => by cases h
theorem InB_cons {x : Int} {l : List Int} {lo hi : Int} : InB (x :: l) lo hi ↔ (lo ≤ x ∧ x ≤ hi) ∧ InB l lo hi := by
  unfold InB
  constructor
  · intro h; exact ⟨h x (by simp), fun y hy => h y (by simp [hy])⟩
  · rintro ⟨h1, h2⟩ y hy
    rcases List.mem_cons.1 hy with rfl | hy
    · exact h1
    · exact h2 y hy
theorem InB.get {l : List Int} {lo hi : Int} (h : InB l lo hi) {i : Nat} {x : Int} (hx : l[i]? = some x) : lo ≤ x ∧ x ≤ hi := h x (List.mem_of_getElem? hx)
theorem InB.set {l : List Int} {lo hi : Int} (h : InB l lo hi) {i : Nat} {x : Int} (hx : lo ≤ x ∧ x ≤ hi) : InB (l.set i x) lo hi := fun y hy => by
  rcases List.mem_or_eq_of_mem_set hy with h1 | rfl
  · exact h y h1
  · exact hx
theorem InB.repl {n : Nat} {x lo hi : Int} (hx : lo ≤ x ∧ x ≤ hi) : InB (List.replicate n x) lo hi := fun y hy => by
  rw [List.eq_of_mem_replicate hy]; exact hx
theorem p_within (x lo hi : Int) : m_msg_within x lo hi = some (cdec (lo ≤ x ∧ x ≤ hi)) := by
  unfold m_msg_within
  rw [Bool.cond_decide]
  by_cases h : lo ≤ x
  · rw [if_pos h, dec_cdec]; congr 1; exact cdec_congr ⟨fun h2 => ⟨h, h2⟩, fun h2 => h2.2⟩
  · rw [if_neg h, cdec_f (fun h2 => h h2.1)]
theorem p_each_l1 (l : List Int) (lo hi : Int) (hl : l.length ≤ 1000000) : ∀ (m k n : Nat) (v : Int), m = l.length - k → k ≤ l.length → m < n → m_msg_each_l1 l lo hi n v k = some (cdec (InB (l.drop k) lo hi)) := by
  intro m
  induction m with
  | zero =>
    intro k n v hm hk hn
    obtain ⟨n, rfl⟩ : ∃ n', n = n' + 1 := ⟨n - 1, by omega⟩
    rw [m_msg_each_l1, List.drop_eq_nil_of_le (by omega), cdec_t InB_nil]
    simp only [Bool.cond_decide, if_neg (show ¬ ((k : Int) < (l.length : Int)) by omega)]
    rfl
  | succ m ih =>
    intro k n v hm hk hn
    obtain ⟨n, rfl⟩ : ∃ n', n = n' + 1 := ⟨n - 1, by omega⟩
    obtain ⟨e, he, hd⟩ := drop_step (show k < l.length by omega)
    rw [m_msg_each_l1, hd]
    simp only [Bool.cond_decide, if_pos (show ((k : Int) < (l.length : Int)) by omega), idx_nat, he, Option.bind_some, p_within]
    rw [w64i (by omega), show ((k : Int) + 1) = ((k + 1 : Nat) : Int) by omega, ih (k + 1) n v (by omega) (by omega) (by omega)]
    by_cases h : lo ≤ e ∧ e ≤ hi
    · rw [cdec_t h]; show some _ = _; congr 1; exact cdec_congr ⟨fun h2 => InB_cons.2 ⟨h, h2⟩, fun h2 => (InB_cons.1 h2).2⟩
    · rw [cdec_f h, cdec_f (fun h2 => h (InB_cons.1 h2).1), decide_eq_true (show (0 : Int) ≤ (k : Int) by omega)]; rfl
theorem p_each (l : List Int) (n lo hi : Int) (hl : l.length ≤ 1000000) : m_msg_each l n lo hi = some (cdec ((l.length : Int) = n ∧ InB l lo hi)) := by
  unfold m_msg_each
  rw [Bool.cond_decide]
  by_cases h : (l.length : Int) = n
  · rw [if_pos h]
    have := p_each_l1 l lo hi hl l.length 0 fuelN 0 (by omega) (by omega) (by unfold fuelN; omega)
    rw [show ((0 : Nat) : Int) = 0 from rfl] at this
    rw [this, List.drop_zero]
    congr 1; exact cdec_congr ⟨fun h2 => ⟨h, h2⟩, fun h2 => h2.2⟩
  · rw [if_neg h, cdec_f (fun h2 => h h2.1)]
theorem p_eRight (e : En) : m_entry_Right e = some (rightB e) := rfl
/-- The state at an index. -/
def stOf (t : Tu) (i : Int) : Option St := if t.snap.index ≤ i ∧ i ≤ t.last then some (allS t.snap (t.log.take (i - t.snap.index).toNat)) else none
theorem q_State (x : Tu) (i : Int) (h : bdT x) : m_tuple_State x i = some ((stOf x i).getD ⟨0, 0, 0, 0, false⟩, (stOf x i).isSome) := by
  unfold stOf Tu.last
  by_cases hi : x.snap.index ≤ i ∧ i ≤ x.snap.index + x.log.length
  · rw [if_pos hi]
    obtain ⟨k, hk⟩ : ∃ k : Nat, i = x.snap.index + (k : Int) := ⟨(i - x.snap.index).toNat, by omega⟩
    rw [hk, q_State_yes x k h (by omega), show (x.snap.index + (k : Int) - x.snap.index).toNat = k by omega]
    rfl
  · rw [if_neg hi, q_State_no x i h (by omega)]; rfl
/-- A core that may be. -/
structure RightC (x : Co) : Prop where
  n : 1 ≤ x.n ∧ x.n ≤ 5
  id : 1 ≤ x.id ∧ x.id ≤ x.n
  role : x.role ≤ 2
  bin : 1 ≤ x.binary ∧ x.binary ≤ 2
  tup : tupB x.tuple = true
  st : stOf x.tuple x.commit = some x.applied
  lv : (x.votes.length : Int) = x.n
  ln : (x.next.length : Int) = x.n
  lm : (x.mtch.length : Int) = x.n
  lc : (x.caps.length : Int) = x.n
  next : InB x.next 1 (x.tuple.last + 1)
  mtch : InB x.mtch 0 x.tuple.last
  caps : InB x.caps 0 2
  own : x.caps[(x.id - 1).toNat]? = some x.binary
  lead : x.role = 0 ∨ (0 < x.tuple.term ∧ x.tuple.vote = x.id)
noncomputable def rightC (x : Co) : Bool := cdec (RightC x)
/-- A core that is not too great. -/
structure BdC (x : Co) : Prop where
  tup : bdT x.tuple
  lv : x.votes.length ≤ 1000000
  ln : x.next.length ≤ 1000000
  lm : x.mtch.length ≤ 1000000
  lc : x.caps.length ≤ 1000000
theorem own_get (x : Co) (h1 : 1 ≤ x.n ∧ x.n ≤ 5) (h2 : 1 ≤ x.id ∧ x.id ≤ x.n) (h3 : (x.caps.length : Int) = x.n) : ∃ e, idx x.caps (IntKind.wrap .i64 (x.id - 1)) = some e ∧ x.caps[(x.id - 1).toNat]? = some e := by
  have hw : IntKind.wrap .i64 (x.id - 1) = (((x.id - 1).toNat : Nat) : Int) := by rw [w64i (by omega)]; omega
  obtain ⟨e, he, _⟩ := drop_step (show (x.id - 1).toNat < x.caps.length by omega)
  exact ⟨e, by rw [hw, idx_nat, he], he⟩
theorem last_bd {t : Tu} (h : bdT t) : -3000000000000 ≤ t.last ∧ t.last ≤ 3000000000000 := by
  obtain ⟨h1, h2, h3⟩ := h
  unfold Tu.last; omega
theorem p_mRight (x : Co) (h : BdC x) : m_msg_Right x = some (rightC x) := by
  have hlb := last_bd h.tup
  have hw : IntKind.wrap .i64 (x.tuple.last + 1) = x.tuple.last + 1 := w64i (by omega)
  simp only [m_msg_Right, p_tLast x.tuple h.tup, p_within, q_Right x.tuple h.tup, q_State x.tuple x.commit h.tup, p_each x.next _ _ _ h.ln, p_each x.mtch _ _ _ h.lm, p_each x.caps _ _ _ h.lc, Option.bind_some, hw, snap_eq]
  unfold rightC
  by_cases c1 : 1 ≤ x.n ∧ x.n ≤ 5
  case neg => rw [cdec_f c1, cdec_f (p := RightC x) fun h => c1 h.n]; rfl
  by_cases c2 : 1 ≤ x.id ∧ x.id ≤ x.n
  case neg => rw [cdec_t c1, cdec_f c2, cdec_f (p := RightC x) fun h => c2 h.id]; rfl
  by_cases c3 : x.role ≤ 2
  case neg => rw [cdec_t c1, cdec_t c2, decide_eq_false c3, cdec_f (p := RightC x) fun h => c3 h.role]; rfl
  by_cases c4 : 1 ≤ x.binary ∧ x.binary ≤ 2
  case neg => rw [cdec_t c1, cdec_t c2, decide_eq_true c3, cdec_f c4, cdec_f (p := RightC x) fun h => c4 h.bin]; rfl
  rw [cdec_t c1, cdec_t c2, decide_eq_true c3, cdec_t c4]
  simp only [cond_true, Bool.not_true, cond_false]
  cases c5 : tupB x.tuple
  case false => rw [cdec_f (p := RightC x) fun h => by have h2 := h.tup; rw [c5] at h2; cases h2]; rfl
  simp only [cond_true, Bool.not_true, cond_false]
  cases c6 : stOf x.tuple x.commit with
  | none => rw [cdec_f (p := RightC x) fun h => by rw [h.st] at c6; cases c6]; rfl
  | some s =>
    simp only [Option.isSome_some, Option.getD_some, cond_true]
    by_cases c7 : s = x.applied
    case neg => rw [decide_eq_false c7, cdec_f (p := RightC x) fun h => c7 (by have := h.st; rw [c6] at this; exact Option.some.inj this)]; rfl
    rw [decide_eq_true c7]
    simp only [cond_true, Bool.not_true, cond_false]
    by_cases c8 : (x.votes.length : Int) = x.n
    case neg => rw [decide_eq_false c8, cdec_f (p := RightC x) fun h => c8 h.lv]; rfl
    by_cases c9 : (x.next.length : Int) = x.n ∧ InB x.next 1 (x.tuple.last + 1)
    case neg => rw [decide_eq_true c8, cdec_f c9, cdec_f (p := RightC x) fun h => c9 ⟨h.ln, h.next⟩]; rfl
    by_cases c10 : (x.mtch.length : Int) = x.n ∧ InB x.mtch 0 x.tuple.last
    case neg => rw [decide_eq_true c8, cdec_t c9, cdec_f c10, cdec_f (p := RightC x) fun h => c10 ⟨h.lm, h.mtch⟩]; rfl
    by_cases c11 : (x.caps.length : Int) = x.n ∧ InB x.caps 0 2
    case neg => rw [decide_eq_true c8, cdec_t c9, cdec_t c10, cdec_f c11, cdec_f (p := RightC x) fun h => c11 ⟨h.lc, h.caps⟩]; rfl
    rw [decide_eq_true c8, cdec_t c9, cdec_t c10, cdec_t c11]
    obtain ⟨e, he, he2⟩ := own_get x c1 c2 c11.1
    simp only [cond_true, Bool.not_true, cond_false, Option.bind_some, he]
    by_cases c12 : e = x.binary
    case neg => rw [decide_eq_false c12, cdec_f (p := RightC x) fun h => c12 (by have := h.own; rw [he2] at this; exact Option.some.inj this)]; rfl
    rw [decide_eq_true c12]
    simp only [cond_true, Bool.not_true, cond_false, Bool.cond_decide]
    subst c12
    subst c7
    by_cases c13 : x.role = 0
    · rw [if_pos c13, cdec_t (p := RightC x) ⟨c1, c2, c3, c4, c5, c6, c8, c9.1, c10.1, c11.1, c9.2, c10.2, c11.2, he2, .inl c13⟩]
    · rw [if_neg c13]
      by_cases c14 : 0 < x.tuple.term
      · rw [if_pos c14]
        by_cases c15 : x.tuple.vote = x.id
        · rw [decide_eq_true c15, cdec_t (p := RightC x) ⟨c1, c2, c3, c4, c5, c6, c8, c9.1, c10.1, c11.1, c9.2, c10.2, c11.2, he2, .inr ⟨c14, c15⟩⟩]; rfl
        · rw [decide_eq_false c15, cdec_f (p := RightC x) fun h => by rcases h.lead with h | h; exact c13 h; exact c15 h.2]; rfl
      · rw [if_neg c14, cdec_f (p := RightC x) fun h => by rcases h.lead with h | h; exact c13 h; exact c14 h.1]
theorem p_mOwn (x : Co) (h : BdC x) : m_msg_Own x = some x := by
  have h1 := h.tup.1
  have h2 := h.lv
  have h3 := h.ln
  have h4 := h.lm
  have h5 := h.lc
  simp only [m_msg_Own, m_tuple_Own, m_slices_Clone___api_Entry_api_Entry_, m_slices_Clone___bool_bool_, m_slices_Clone___int_int_, Option.bind_some, fewI_ok _ (show x.tuple.log.length ≤ 1000000000 by omega), fewI_ok _ (show x.votes.length ≤ 1000000000 by omega), fewI_ok _ (show x.next.length ≤ 1000000000 by omega), fewI_ok _ (show x.mtch.length ≤ 1000000000 by omega), fewI_ok _ (show x.caps.length ≤ 1000000000 by omega)]
/-- A core that may be is not too great. -/
theorem RightC.bd {x : Co} (h : RightC x) : BdC x := by
  have h1 := tupB_bd _ h.tup
  have := h.n
  have := h.lv
  have := h.ln
  have := h.lm
  have := h.lc
  exact ⟨⟨by omega, h1.1, by omega⟩, by omega, by omega, by omega, by omega⟩
end Go.Proofs.Ytamjlcaoieliaaa
/- Messages, in plain terms. -/
namespace Go.Proofs.Ytamjlcaoieliaaa
open Go Go.RowKit
set_option maxRecDepth 100000
theorem p_eNumber (x : Int) : m_entry_number x = some (numB x) := by
  unfold m_entry_number numB
  by_cases h : 0 ≤ x <;> simp [h]
theorem p_eFine (x : St) : m_entry_Fine x = some (fineB x) := by
  obtain ⟨i, t, s, l, f⟩ := x
  simp only [m_entry_Fine, m_entry_First, p_eNumber, Option.bind_some, fineB, firstS, numB, St.mk.injEq, Bool.cond_not, Bool.cond_decide]
  cases f <;> (repeat' split) <;> simp_all <;> omega
def entB (last term : Int) : List En → Prop
  | [] => True
  | e :: l => rightB e = true ∧ (last ≤ e.term ∧ e.term ≤ term) ∧ entB e.term term l
/-- A message that may be. -/
structure FineM (m : Ms) (n : Int) : Prop where
  many : 1 ≤ n ∧ n ≤ 5
  frm : 1 ≤ m.frm ∧ m.frm ≤ n
  dst : 1 ≤ m.dst ∧ m.dst ≤ n
  ne : m.frm ≠ m.dst
  kind : 1 ≤ m.kind ∧ m.kind ≤ 5
  term : 1 ≤ m.term ∧ m.term ≤ 1073741824
  cap : 1 ≤ m.cap ∧ m.cap ≤ 2
  last : 0 ≤ m.last ∧ m.last ≤ 1073741824
  lastTerm : 0 ≤ m.lastTerm ∧ m.lastTerm ≤ 1073741824
  commit : 0 ≤ m.commit ∧ m.commit ≤ 1073741824
  ents : entB m.lastTerm m.term m.entries
  few : m.entries.length ≤ 4
  app : m.kind ≠ 3 → m.entries.length = 0 ∧ m.commit = 0
  okk : m.okk = true → m.kind = 2 ∨ m.kind = 4
  snap : m.kind = 5 → 0 < m.snap.index ∧ fineB m.snap = true
  nosnap : m.kind ≠ 5 → m.snap = ⟨0, 0, 0, 0, false⟩
noncomputable def fineM (m : Ms) (n : Int) : Bool := cdec (FineM m n)
/-- A message that is not too great. -/
structure BdM (m : Ms) : Prop where
  kind : 0 ≤ m.kind ∧ m.kind ≤ 255
  ents : m.entries.length ≤ 1000000
theorem p_entries_l1 (x : Ms) (h : x.entries.length ≤ 1000000) : ∀ (m k n : Nat) (v : Bool) (last : Int), m = x.entries.length - k → k ≤ x.entries.length → m < n → m_msg_entries_l1 x n v last k = some (cdec (entB last x.term (x.entries.drop k) ∧ x.entries.length ≤ 4)) := by
  intro m
  induction m with
  | zero =>
    intro k n v last hm hk hn
    obtain ⟨n, rfl⟩ : ∃ n', n = n' + 1 := ⟨n - 1, by omega⟩
    rw [m_msg_entries_l1, List.drop_eq_nil_of_le (by omega)]
    simp only [Bool.cond_decide, if_neg (show ¬ ((k : Int) < (x.entries.length : Int)) by omega)]
    rw [dec_cdec]; congr 1
    exact cdec_congr ⟨fun h => ⟨trivial, by omega⟩, fun h => by have := h.2; omega⟩
  | succ m ih =>
    intro k n v last hm hk hn
    obtain ⟨n, rfl⟩ : ∃ n', n = n' + 1 := ⟨n - 1, by omega⟩
    obtain ⟨e, he, hd⟩ := drop_step (show k < x.entries.length by omega)
    rw [m_msg_entries_l1, hd]
    simp only [Bool.cond_decide, if_pos (show ((k : Int) < (x.entries.length : Int)) by omega), idx_nat, he, Option.bind_some, p_eRight, p_within]
    rw [w64i (by omega), show ((k : Int) + 1) = ((k + 1 : Nat) : Int) by omega, ih (k + 1) n v e.term (by omega) (by omega) (by omega)]
    cases c1 : rightB e with
    | false => rw [cdec_f (p := entB last x.term (e :: x.entries.drop (k + 1)) ∧ x.entries.length ≤ 4) fun h => by have h2 := h.1.1; rw [c1] at h2; cases h2]; rfl
    | true =>
      by_cases c2 : last ≤ e.term ∧ e.term ≤ x.term
      · rw [cdec_t c2]; show some _ = some _; congr 1
        exact cdec_congr ⟨fun h => ⟨⟨c1, c2, h.1⟩, h.2⟩, fun h => ⟨h.1.2.2, h.2⟩⟩
      · rw [cdec_f c2, cdec_f (p := entB last x.term (e :: x.entries.drop (k + 1)) ∧ x.entries.length ≤ 4) fun h => c2 h.1.2.1]; rfl
theorem p_entries (x : Ms) (h : x.entries.length ≤ 1000000) : m_msg_entries x = some (cdec (entB x.lastTerm x.term x.entries ∧ x.entries.length ≤ 4)) := by
  have := p_entries_l1 x h x.entries.length 0 fuelN false x.lastTerm (by omega) (by omega) (by unfold fuelN; omega)
  unfold m_msg_entries
  simpa using this
theorem st_zero (s : St) : (decide (s.index = 0) && (decide (s.term = 0) && (decide (s.sum = 0) && (decide (s.level = 0) && decide (s.final = false))))) = decide (s = ⟨0, 0, 0, 0, false⟩) := by
  obtain ⟨a1, a2, a3, a4, a5⟩ := s
  rw [Bool.eq_iff_iff]; simp
theorem p_mFine (m : Ms) (n : Int) (h : BdM m) : m_msg_Fine m n = some (fineM m n) := by
  have hw : IntKind.wrap .i64 m.kind = m.kind := w64i (by have := h.kind; omega)
  simp only [m_msg_Fine, p_within, p_each [m.frm, m.dst] _ _ _ (by simp), p_each [m.last, m.lastTerm, m.commit] _ _ _ (by simp), p_entries m h.ents, p_eFine, Option.bind_some, hw, st_zero]
  unfold fineM
  by_cases c1 : 1 ≤ n ∧ n ≤ 5
  case neg => rw [cdec_f c1, cdec_f (p := FineM m n) fun h => c1 h.many]; rfl
  rw [cdec_t c1]
  by_cases c2 : (([m.frm, m.dst].length : Nat) : Int) = 2 ∧ InB [m.frm, m.dst] 1 n
  case neg => rw [cdec_f c2, cdec_f (p := FineM m n) fun h => c2 ⟨rfl, InB_cons.2 ⟨h.frm, InB_cons.2 ⟨h.dst, InB_nil⟩⟩⟩]; rfl
  rw [cdec_t c2]
  have c21 := (InB_cons.1 c2.2).1
  have c22 := (InB_cons.1 (InB_cons.1 c2.2).2).1
  by_cases c3 : m.frm = m.dst
  case pos => rw [decide_eq_true c3, cdec_f (p := FineM m n) fun h => h.ne c3]; rfl
  rw [decide_eq_false c3]
  by_cases c4 : 1 ≤ m.kind ∧ m.kind ≤ 5
  case neg => rw [cdec_f c4, cdec_f (p := FineM m n) fun h => c4 h.kind]; rfl
  rw [cdec_t c4]
  by_cases c5 : 1 ≤ m.term ∧ m.term ≤ 1073741824
  case neg => rw [cdec_f c5, cdec_f (p := FineM m n) fun h => c5 h.term]; rfl
  rw [cdec_t c5]
  by_cases c6 : 1 ≤ m.cap ∧ m.cap ≤ 2
  case neg => rw [cdec_f c6, cdec_f (p := FineM m n) fun h => c6 h.cap]; rfl
  rw [cdec_t c6]
  by_cases c7 : (([m.last, m.lastTerm, m.commit].length : Nat) : Int) = 3 ∧ InB [m.last, m.lastTerm, m.commit] 0 1073741824
  case neg => rw [cdec_f c7, cdec_f (p := FineM m n) fun h => c7 ⟨rfl, InB_cons.2 ⟨h.last, InB_cons.2 ⟨h.lastTerm, InB_cons.2 ⟨h.commit, InB_nil⟩⟩⟩⟩]; rfl
  rw [cdec_t c7]
  have c71 := (InB_cons.1 c7.2).1
  have c72 := (InB_cons.1 (InB_cons.1 c7.2).2).1
  have c73 := (InB_cons.1 (InB_cons.1 (InB_cons.1 c7.2).2).2).1
  by_cases c8 : entB m.lastTerm m.term m.entries ∧ m.entries.length ≤ 4
  case neg => rw [cdec_f c8, cdec_f (p := FineM m n) fun h => c8 ⟨h.ents, h.few⟩]; rfl
  rw [cdec_t c8]
  have yes : ∀ (d1 : m.kind ≠ 3 → m.entries.length = 0 ∧ m.commit = 0) (d2 : m.okk = true → m.kind = 2 ∨ m.kind = 4), (if m.kind = 5 then (if 0 < m.snap.index then some (fineB m.snap) else some false) else some (decide (m.snap = ⟨0, 0, 0, 0, false⟩))) = some (cdec (FineM m n)) := by
    intro d1 d2
    by_cases e1 : m.kind = 5
    · rw [if_pos e1]
      by_cases e2 : 0 < m.snap.index
      · rw [if_pos e2]
        cases e3 : fineB m.snap with
        | true => rw [cdec_t (p := FineM m n) ⟨c1, c21, c22, c3, c4, c5, c6, c71, c72, c73, c8.1, c8.2, d1, d2, fun _ => ⟨e2, e3⟩, fun h => (h e1).elim⟩]
        | false => rw [cdec_f (p := FineM m n) fun h => by have h2 := (h.snap e1).2; rw [e3] at h2; cases h2]
      · rw [if_neg e2, cdec_f (p := FineM m n) fun h => e2 (h.snap e1).1]
    · rw [if_neg e1, dec_cdec]
      congr 1
      exact cdec_congr ⟨fun e2 => ⟨c1, c21, c22, c3, c4, c5, c6, c71, c72, c73, c8.1, c8.2, d1, d2, fun h => (e1 h).elim, fun _ => e2⟩, fun h => h.nosnap e1⟩
  simp only [Bool.not_true, cond_false, Bool.cond_decide]
  by_cases d1 : m.kind = 3
  · rw [if_neg (fun h => h d1)]
    cases d2 : m.okk with
    | false => exact yes (fun h => (h d1).elim) (fun h => by rw [d2] at h; cases h)
    | true =>
      rw [if_pos (by omega), if_pos (by omega), cdec_f (p := FineM m n) fun h => by have := h.okk d2; omega]; rfl
  · rw [if_pos d1]
    by_cases d3 : (0 : Int) < (m.entries.length : Int)
    · rw [if_pos d3, cdec_f (p := FineM m n) fun h => by have := (h.app d1).1; omega]
    rw [if_neg d3]
    by_cases d4 : 0 < m.commit
    · rw [if_pos d4, cdec_f (p := FineM m n) fun h => by have := (h.app d1).2; omega]
    rw [if_neg d4]
    have d5 : m.kind ≠ 3 → m.entries.length = 0 ∧ m.commit = 0 := fun _ => ⟨by omega, by omega⟩
    cases d2 : m.okk with
    | false => exact yes d5 (fun h => by rw [d2] at h; cases h)
    | true =>
      show (if m.kind ≠ 2 then _ else _) = _
      by_cases d6 : m.kind = 2
      · rw [if_neg (fun h => h d6)]; exact yes d5 (fun _ => .inl d6)
      · rw [if_pos d6]
        by_cases d7 : m.kind = 4
        · rw [if_neg (fun h => h d7)]; exact yes d5 (fun _ => .inr d7)
        · rw [if_pos d7, cdec_f (p := FineM m n) fun h => by have := h.okk d2; omega]
end Go.Proofs.Ytamjlcaoieliaaa
/- What was heard of binaries, in plain terms. -/
namespace Go.Proofs.Ytamjlcaoieliaaa
open Go Go.RowKit
set_option maxRecDepth 100000
/-- A message that comes to a core. -/
def ToC (x : Co) (m : Ms) : Prop := m.dst = x.id ∧ RightC x ∧ FineM m x.n
theorem p_To (x : Co) (m : Ms) (hx : BdC x) (hm : BdM m) : m_advert_To x m = some (cdec (ToC x m)) := by
  simp only [m_advert_To, p_mRight x hx, p_mFine m x.n hm, Option.bind_some, Bool.cond_decide]
  by_cases c1 : m.dst = x.id
  case neg => rw [if_pos c1, cdec_f fun h => c1 h.1]
  rw [if_neg (fun h => h c1)]
  unfold rightC fineM
  by_cases c2 : RightC x
  case neg => rw [cdec_f c2, cdec_f (p := ToC x m) fun h => c2 h.2.1]; rfl
  rw [cdec_t c2]
  show some _ = some _
  congr 1
  exact cdec_congr ⟨fun h => ⟨c1, c2, h⟩, fun h => h.2.2⟩
open Classical in
/-- A core that heard a message. -/
noncomputable def hearC (x : Co) (m : Ms) : Co := if ToC x m then { x with caps := x.caps.set (m.frm - 1).toNat m.cap } else x
theorem idx_in {α : Type} (l : List α) (i : Int) (h : 1 ≤ i ∧ i ≤ (l.length : Int)) (hl : l.length ≤ 1000000) : ∃ e, idx l (i - 1) = some e ∧ l[(i - 1).toNat]? = some e ∧ IntKind.wrap .i64 (i - 1) = i - 1 := by
  have hw : i - 1 = (((i - 1).toNat : Nat) : Int) := by omega
  obtain ⟨e, he, _⟩ := drop_step (show (i - 1).toNat < l.length by omega)
  exact ⟨e, by rw [hw, idx_nat]; exact he, he, w64i (by omega)⟩
theorem p_Hear (x : Co) (m : Ms) (hx : BdC x) (hm : BdM m) : m_advert_Hear x m = some (hearC x m) := by
  simp only [m_advert_Hear, p_To x m hx hm, p_mOwn x hx, p_mRight x hx, Option.bind_some]
  unfold hearC
  by_cases c1 : ToC x m
  · rw [cdec_t c1, if_pos c1]
    unfold rightC
    rw [cdec_t c1.2.1]
    obtain ⟨e, he, _, hw⟩ := idx_in x.caps m.frm (by have := c1.2.2.frm; have := c1.2.1.lc; omega) hx.lc
    simp only [cond_true, he, Option.bind_some, hw]
    rfl
  · rw [cdec_f c1, if_neg c1]; rfl
theorem hear_right (x : Co) (m : Ms) (h : RightC x) : RightC (hearC x m) := by
  unfold hearC
  split
  · rename_i c
    have hf := c.2.2
    refine ⟨h.n, h.id, h.role, h.bin, h.tup, h.st, h.lv, h.ln, h.lm, ?_, h.next, h.mtch, InB.set h.caps (by have := hf.cap; omega), ?_, h.lead⟩
    · dsimp only; rw [List.length_set]; exact h.lc
    · dsimp only
      rw [List.getElem?_set_ne]
      · exact h.own
      · have h1 := hf.ne; have h2 := c.1; have h3 := hf.frm; have h4 := h.id; omega
  · exact h
end Go.Proofs.Ytamjlcaoieliaaa
/- Tuples changed, in plain terms. -/
namespace Go.Proofs.Ytamjlcaoieliaaa
open Go Go.RowKit
set_option maxRecDepth 100000
theorem q_Append (x : Tu) (l : List En) (h : x.log.length ≤ 1000000 ∧ l.length ≤ 300) : m_tuple_Append x l = some (chgS x (some { x with log := x.log ++ l }), chgE x (some { x with log := x.log ++ l })) := by unfold m_tuple_Append; rw [decide_eq_true h]; rfl
theorem p_tTermAt (x : Tu) (i : Int) (h : bdT x) : m_tuple_TermAt x i = some ((termAt x i).getD 0, (termAt x i).isSome) := by
  obtain ⟨h1, h2, h3⟩ := h
  unfold m_tuple_TermAt m_tuple_At termAt
  rw [p_tLast x ⟨h1, h2, h3⟩]
  unfold Tu.last
  simp only [Option.bind_some, Bool.cond_decide]
  by_cases hi : i = x.snap.index
  · rw [if_pos hi, if_pos hi]; rfl
  · rw [if_neg hi, if_neg hi]
    by_cases h4 : i ≤ x.snap.index
    · rw [if_pos h4, if_neg (by omega)]; rfl
    · rw [if_neg h4]
      by_cases h5 : x.snap.index + (x.log.length : Int) < i
      · rw [if_pos h5, if_neg (by omega)]; rfl
      · rw [if_neg h5, if_pos (by omega)]
        obtain ⟨k, hk⟩ : ∃ k : Nat, i = x.snap.index + 1 + k := ⟨(i - x.snap.index - 1).toNat, by omega⟩
        have e1 : IntKind.wrap .i64 (i - x.snap.index) = i - x.snap.index := w64i (by omega)
        have e2 : IntKind.wrap .i64 (i - x.snap.index - 1) = (k : Int) := by rw [w64i (by omega)]; omega
        have e3 : (i - x.snap.index - 1).toNat = k := by omega
        rw [e1, e2, e3, idx_nat]
        obtain ⟨e, he, _⟩ := drop_step (show k < x.log.length by omega)
        rw [he]; rfl
theorem chg_eq (x : Tu) (res : Option Tu) : (chgS x res, chgE x res) = if tupB x = true then (match res with | some y => if tupB y = true then (y, (0 : Int)) else (x, 2) | none => (x, 2)) else (x, 2) := by
  unfold chgS chgE
  by_cases hT : tupB x = true
  · rw [if_pos hT]
    cases res with
    | none =>
      have : doneB x none = none := by unfold doneB; rw [if_pos hT]
      rw [this]
    | some y =>
      by_cases hy : tupB y = true
      · have : doneB x (some y) = some y := by unfold doneB; rw [if_pos hT]; exact if_pos hy
        rw [this]; dsimp only; rw [if_pos hy]
      · have : doneB x (some y) = none := by unfold doneB; rw [if_pos hT]; exact if_neg hy
        rw [this]; dsimp only; rw [if_neg hy]
  · have : doneB x res = none := if_neg hT
    rw [this, if_neg hT]
theorem chg_some (x y : Tu) : (chgS x (some y), chgE x (some y)) = if tupB x = true then (if tupB y = true then (y, (0 : Int)) else (x, 2)) else (x, 2) := by rw [chg_eq]
theorem commit_bd {x : Co} (h : RightC x) : x.tuple.snap.index ≤ x.commit ∧ x.commit ≤ x.tuple.last := by
  have := h.st
  unfold stOf at this
  split at this
  · assumption
  · cases this
theorem InB.mono {l : List Int} {a b c d : Int} (h : InB l a b) (h1 : c ≤ a) (h2 : b ≤ d) : InB l c d := fun x hx => by have := h x hx; omega
theorem add_tup (x : Co) (e : En) (h : RightC x) (he : rightB e = true) (ht : e.term = x.tuple.term) (hl : x.tuple.log.length < 200) : tupB { x.tuple with log := x.tuple.log ++ [e] } = true := by
  obtain ⟨h1, h2, h3, h4⟩ := (tupB_iff _).1 h.tup
  refine (tupB_iff _).2 ⟨h1, ?_, ?_, ?_⟩
  · dsimp only; rw [List.length_append]; simp only [List.length_cons, List.length_nil]; exact ⟨h2.1, by omega, h2.2.2⟩
  · dsimp only; rw [logB_snoc, h3, he, decide_eq_true (by omega)]; rfl
  · dsimp only; rw [lastT_snoc]; omega
end Go.Proofs.Ytamjlcaoieliaaa
/- Layers 22, 23 and 25: what is met, what fits, in plain terms. -/
namespace Go.Proofs.Ytamjlcaoieliaaa
open Go Go.RowKit
set_option maxRecDepth 100000
theorem q_Hard (x : Tu) (t v : Int) (h : x.log.length ≤ 1000000) : m_tuple_Hard x t v = some (chgS x (hardR x t v), chgE x (hardR x t v)) := by unfold m_tuple_Hard; rw [decide_eq_true h]; rfl
theorem p_fits (x : Co) (m : Ms) (hx : BdC x) (hm : BdM m) : m_elect_fits x m = some (cdec (ToC x m)) := by
  simp only [m_elect_fits, p_mRight x hx, p_mFine m x.n hm, Option.bind_some, Bool.cond_decide]
  by_cases c1 : m.dst = x.id
  case neg => rw [if_neg c1, cdec_f fun h => c1 h.1]
  rw [if_pos c1]
  unfold rightC fineM
  by_cases c2 : FineM m x.n
  case neg => rw [cdec_f c2, cdec_f (p := ToC x m) fun h => c2 h.2.2]; rfl
  rw [cdec_t c2]
  show some _ = some _
  congr 1
  exact cdec_congr ⟨fun h => ⟨c1, h, c2⟩, fun h => h.2.1⟩
/-- Another term, another vote. -/
theorem hard_yes (x : Tu) (t v : Int) (hx : tupB x = true) (h : x.term < t ∨ t = x.term ∧ (x.vote = 0 ∨ x.vote = v)) (ht : t ≤ 1073741824) (hv : 0 ≤ v ∧ v ≤ 5) : tupB { x with term := t, vote := v } = true ∧ m_tuple_Hard x t v = some ({ x with term := t, vote := v }, 0) := by
  obtain ⟨g1, g2, g3, g4⟩ := (tupB_iff x).1 hx
  have hT : tupB { x with term := t, vote := v } = true := (tupB_iff _).2 ⟨g1, ⟨g2.1, g2.2.1, hv.1, hv.2, ht⟩, g3, by dsimp only; omega⟩
  refine ⟨hT, ?_⟩
  rw [q_Hard x t v (by omega)]
  have hr : hardR x t v = some { x with term := t, vote := v } := by unfold hardR; rw [if_pos h]
  have := chg_yes x _ _ hx hr hT
  rw [this.1, this.2]
theorem hear_no (x : Co) (m : Ms) (h : ¬ ToC x m) : hearC x m = x := by unfold hearC; rw [if_neg h]
theorem hear_eq (x : Co) (m : Ms) (h : ToC x m) : hearC x m = { x with caps := x.caps.set (m.frm - 1).toNat m.cap } := by unfold hearC; rw [if_pos h]
open Classical in
/-- A core that met a message. -/
noncomputable def meetC (x : Co) (m : Ms) : Co := if ToC x m ∧ x.tuple.term < m.term then { x with caps := x.caps.set (m.frm - 1).toNat m.cap, tuple := { x.tuple with term := m.term, vote := 0 }, role := 0, votes := List.replicate x.n.toNat false } else hearC x m
theorem p_Meet (x : Co) (m : Ms) (hx : BdC x) (hm : BdM m) : m_elect_Meet x m = some (meetC x m) := by
  simp only [m_elect_Meet, p_mOwn x hx, p_fits x m hx hm, p_Hear x m hx hm, Option.bind_some, Bool.cond_decide]
  unfold meetC
  by_cases c1 : ToC x m
  case neg => rw [cdec_f c1, if_neg (show ¬ (ToC x m ∧ x.tuple.term < m.term) from fun h => c1 h.1), hear_no x m c1]; rfl
  rw [cdec_t c1]
  simp only [Bool.not_true, cond_false]
  rw [hear_eq x m c1]
  by_cases c2 : x.tuple.term < m.term
  · rw [if_pos (show ToC x m ∧ x.tuple.term < m.term from ⟨c1, c2⟩), if_pos (show x.tuple.term < m.term from c2)]
    have hH := (hard_yes x.tuple m.term 0 c1.2.1.tup (.inl c2) c1.2.2.term.2 (by omega)).2
    have hn := c1.2.1.n
    obtain ⟨N, hN⟩ : ∃ N : Nat, x.n = (N : Int) := ⟨x.n.toNat, by omega⟩
    have hk : makeI false x.n = some (List.replicate x.n.toNat false) := by rw [hN, makeI_nat _ N (by omega), Int.toNat_natCast]
    simp only [hH, hk, Option.bind_some]
  · rw [if_neg (show ¬ (ToC x m ∧ x.tuple.term < m.term) from fun h => c2 h.2), if_neg (show ¬ x.tuple.term < m.term from c2)]
theorem meet_right (x : Co) (m : Ms) (h : RightC x) : RightC (meetC x m) := by
  unfold meetC
  split
  · rename_i c
    have hh := hear_right x m h
    rw [hear_eq x m c.1] at hh
    have hn := h.n
    refine ⟨h.n, h.id, by show (0 : Int) ≤ 2; decide, h.bin, (hard_yes x.tuple m.term 0 h.tup (.inl c.2) c.1.2.2.term.2 (by omega)).1, h.st, ?_, h.ln, h.lm, hh.lc, h.next, h.mtch, hh.caps, hh.own, .inl rfl⟩
    dsimp only; rw [List.length_replicate]; omega
  · exact hear_right x m h
/-- What a meeting leaves. -/
structure MeetF (x y : Co) : Prop where
  id : y.id = x.id
  n : y.n = x.n
  binary : y.binary = x.binary
  commit : y.commit = x.commit
  applied : y.applied = x.applied
  next : y.next = x.next
  mtch : y.mtch = x.mtch
  snap : y.tuple.snap = x.tuple.snap
  log : y.tuple.log = x.tuple.log
  term : x.tuple.term ≤ y.tuple.term
theorem meet_f (x : Co) (m : Ms) : MeetF x (meetC x m) := by
  unfold meetC
  split
  · rename_i c
    exact ⟨rfl, rfl, rfl, rfl, rfl, rfl, rfl, rfl, rfl, by dsimp only; omega⟩
  · by_cases c : ToC x m
    · rw [hear_eq x m c]; exact ⟨rfl, rfl, rfl, rfl, rfl, rfl, rfl, rfl, rfl, Int.le_refl _⟩
    · rw [hear_no x m c]; exact ⟨rfl, rfl, rfl, rfl, rfl, rfl, rfl, rfl, rfl, Int.le_refl _⟩
theorem MeetF.last {x y : Co} (h : MeetF x y) : y.tuple.last = x.tuple.last := by unfold Tu.last; rw [h.snap, h.log]
/-- The term behind a meeting. -/
theorem meet_term (x : Co) (m : Ms) (h : ToC x m) : (x.tuple.term < m.term ∧ (meetC x m).tuple.term = m.term ∧ (meetC x m).tuple.vote = 0 ∧ (meetC x m).role = 0) ∨ (m.term ≤ x.tuple.term ∧ meetC x m = { x with caps := x.caps.set (m.frm - 1).toNat m.cap }) := by
  by_cases c : x.tuple.term < m.term
  · left
    unfold meetC
    rw [if_pos ⟨h, c⟩]
    exact ⟨c, rfl, rfl, rfl⟩
  · right
    unfold meetC
    rw [if_neg (fun h => c h.2), hear_eq x m h]
    exact ⟨by omega, rfl⟩
theorem meet_ge (x : Co) (m : Ms) (h : ToC x m) : m.term ≤ (meetC x m).tuple.term := by
  rcases meet_term x m h with ⟨_, h2, _⟩ | ⟨h1, h2⟩
  · rw [h2]; exact Int.le_refl _
  · rw [h2]; exact h1
def mapTo (f : Int → Int) (k : Nat) (l : List Int) : List Int := (l.take k).map f ++ l.drop k
theorem mapTo_get (f : Int → Int) (l : List Int) (k : Nat) (e : Int) (h : l[k]? = some e) : (mapTo f k l)[k]? = some e := by
  have hk := (List.getElem?_eq_some_iff.1 h).1
  unfold mapTo
  rw [List.getElem?_append_right (by rw [List.length_map, List.length_take]; omega), List.length_map, List.length_take, List.getElem?_drop, ← h]
  congr 1; omega
theorem mapTo_set (f : Int → Int) (l : List Int) (k : Nat) (e : Int) (h : l[k]? = some e) : (mapTo f k l).set k (f e) = mapTo f (k + 1) l := by
  have hk := (List.getElem?_eq_some_iff.1 h).1
  obtain ⟨e', he', hd⟩ := drop_step hk
  rw [h] at he'
  obtain rfl := Option.some.inj he'
  unfold mapTo
  rw [List.set_append, if_neg (by rw [List.length_map, List.length_take]; omega), hd, List.take_add_one, h]
  have : k - ((l.take k).map f).length = 0 := by rw [List.length_map, List.length_take]; omega
  rw [this]
  simp
theorem mapTo_all (f : Int → Int) (l : List Int) (k : Nat) (h : l.length ≤ k) : mapTo f k l = l.map f := by
  unfold mapTo
  rw [List.take_of_length_le h, List.drop_eq_nil_of_le h, List.append_nil]
theorem mapTo_zero (f : Int → Int) (l : List Int) : mapTo f 0 l = l := by simp [mapTo]
theorem setI_nat {α : Type} (l : List α) (k : Nat) (v : α) : setI l (k : Int) v = l.set k v := by unfold setI; simp
/-- What is told back. -/
def backM (y : Co) (m : Ms) (k : Int) (ok : Bool) (last : Int) : Ms := ⟨k, y.id, m.frm, y.tuple.term, y.binary, last, 0, 0, ok, [], ⟨0, 0, 0, 0, false⟩⟩
theorem back_fine (x y : Co) (m : Ms) (ok : Bool) (k last : Int) (h : ToC x m) (h1 : y.id = x.id) (h2 : y.binary = x.binary) (ht : 1 ≤ y.tuple.term ∧ y.tuple.term ≤ 1073741824) (hk : k = 2 ∨ k = 4) (hl : 0 ≤ last ∧ last ≤ 1073741824) : FineM (backM y m k ok last) x.n := by
  have hf := h.2.2
  have hid := h.2.1.id
  have hb := h.2.1.bin
  have he := h.1
  have hne := hf.ne
  unfold backM
  refine ⟨hf.many, by dsimp only; omega, hf.frm, by dsimp only; omega, by dsimp only; omega, ht, by dsimp only; omega, hl, ⟨Int.le_refl 0, (by decide : (0 : Int) ≤ 1073741824)⟩, ⟨Int.le_refl 0, (by decide : (0 : Int) ≤ 1073741824)⟩, trivial, by simp, fun _ => ⟨rfl, rfl⟩, fun _ => hk, fun h5 => by dsimp only at h5; omega, fun _ => rfl⟩
end Go.Proofs.Ytamjlcaoieliaaa
/- The references of messages, in plain terms. -/
namespace Go.Proofs.Ytamjlcaoieliaaa
open Go Go.RowKit
set_option maxRecDepth 100000
end Go.Proofs.Ytamjlcaoieliaaa
/- Layer 22's functions, in plain terms. -/
namespace Go.Proofs.Ytamjlcaoieliaaa
open Go Go.RowKit
set_option maxRecDepth 100000
/-- The term at the end. -/
def endT (t : Tu) : Int := lastT t.snap.term t.log
theorem termAt_last (t : Tu) : termAt t t.last = some (endT t) := by
  have := termAt_log t t.log.length (Nat.le_refl _)
  rw [List.take_length] at this
  exact this
theorem p_end (x : Co) (h : BdC x) : m_elect_end x = some (x.tuple.last, endT x.tuple) := by
  simp only [m_elect_end, p_tLast x.tuple h.tup, p_tTermAt x.tuple _ h.tup, termAt_last, Option.bind_some, Option.getD_some]
/-- A log is no older. -/
def NewP (x : Co) (lt la : Int) : Prop := endT x.tuple < lt ∨ (lt = endT x.tuple ∧ x.tuple.last ≤ la)
theorem p_Newer (x : Co) (lt la : Int) (h : RightC x) : m_elect_Newer x lt la = some (cdec (NewP x lt la)) := by
  simp only [m_elect_Newer, p_mRight x h.bd, rightC, cdec_t h, p_end x h.bd, Option.bind_some, Bool.not_true, cond_false, Bool.cond_decide]
  by_cases c : endT x.tuple = lt
  · rw [if_neg (fun h => h c), dec_cdec]
    congr 1
    exact cdec_congr ⟨fun h => .inr ⟨c.symm, h⟩, fun h => by rcases h with h | h; omega; exact h.2⟩
  · rw [if_pos c, dec_cdec]
    congr 1
    exact cdec_congr ⟨fun h => .inl h, fun h => by rcases h with h | h; exact h; omega⟩
def leadC (x : Co) : Co := { x with role := 2, tuple := { x.tuple with log := x.tuple.log ++ [⟨x.tuple.term, 0, 0⟩] }, next := x.next.map (fun _ => x.tuple.last + 1 + 1), mtch := (x.mtch.map fun _ => 0).set (x.id - 1).toNat (x.tuple.last + 1) }
theorem p_Lead_l1 (x : Co) (t : Tu × Int) (r : Int) (h : RightC x) (hr : -3000000000000 ≤ r ∧ r ≤ 3000000000000) : ∀ (q k n : Nat), q = x.next.length - k → k ≤ x.next.length → q < n →
    m_elect_Lead_l1 x t r n k (mapTo (fun _ => r + 1) k x.next) (mapTo (fun _ => 0) k x.mtch) = some { x with role := 2, tuple := t.1, next := x.next.map (fun _ => r + 1), mtch := (x.mtch.map fun _ => 0).set (x.id - 1).toNat r } := by
  have hn := h.n
  have hl := h.ln
  have hm := h.lm
  have hid := h.id
  have hw : IntKind.wrap .i64 (x.id - 1) = (((x.id - 1).toNat : Nat) : Int) := by rw [w64i (by omega)]; omega
  intro q
  induction q with
  | zero =>
    intro k n hq hk hn'
    obtain ⟨n, rfl⟩ : ∃ n', n = n' + 1 := ⟨n - 1, by omega⟩
    obtain ⟨e, he, _⟩ := drop_step (show (x.id - 1).toNat < (x.mtch.map fun _ => (0 : Int)).length by rw [List.length_map]; omega)
    rw [m_elect_Lead_l1, mapTo_all _ _ _ (by omega), mapTo_all _ _ _ (by omega)]
    simp only [Bool.cond_decide, if_neg (show ¬ (k : Int) < x.n by omega), hw, idx_nat, he, Option.bind_some, setI_nat]
  | succ q ih =>
    intro k n hq hk hn'
    obtain ⟨n, rfl⟩ : ∃ n', n = n' + 1 := ⟨n - 1, by omega⟩
    obtain ⟨e, he, _⟩ := drop_step (show k < x.next.length by omega)
    obtain ⟨f, hf, _⟩ := drop_step (show k < x.mtch.length by omega)
    have s1 := mapTo_set (fun _ => r + 1) x.next k e he
    have s2 := mapTo_set (fun _ => 0) x.mtch k f hf
    rw [m_elect_Lead_l1]
    simp only [Bool.cond_decide, if_pos (show (k : Int) < x.n by omega), idx_nat, mapTo_get _ _ _ _ he, mapTo_get _ _ _ _ hf, Option.bind_some, setI_nat, w64i (n := r + 1) (by omega), s1, s2, w64i (n := (k : Int) + 1) (by omega)]
    rw [show ((k : Int) + 1) = ((k + 1 : Nat) : Int) by omega, ih (k + 1) n (by omega) (by omega) (by omega)]
theorem noop_right (x : Co) (h : RightC x) (hr : x.role ≠ 0) : rightB ⟨x.tuple.term, 0, 0⟩ = true ∧ 0 < x.tuple.term ∧ x.tuple.vote = x.id := by
  have h1 := h.lead
  have h2 := ((tupB_iff _).1 h.tup).2.1.2.2.2.2
  rcases h1 with h1 | h1
  · exact (hr h1).elim
  · refine ⟨?_, h1⟩
    unfold rightB
    exact decide_eq_true ⟨Int.le_refl 0, (by decide : (0 : Int) ≤ 4), h1.1, h2, Int.le_refl 0, (by decide : (0 : Int) ≤ 1073741824), .inl rfl⟩
theorem p_Lead_no (x : Co) (h : RightC x) (hr : x.role ≠ 1) : m_elect_Lead x = some x := by
  simp only [m_elect_Lead, p_mOwn x h.bd, Option.bind_some, Bool.cond_decide, if_pos hr]
theorem p_Lead_full (x : Co) (h : RightC x) (hr : x.role = 1) (hl : 200 ≤ x.tuple.log.length) : m_elect_Lead x = some { x with role := 0 } := by
  have hbd := h.bd
  have happ := q_Append x.tuple [⟨x.tuple.term, 0, 0⟩] ⟨hbd.tup.1, by simp⟩
  rw [chg_some, if_pos h.tup, if_neg (fun h2 => by have := ((tupB_iff _).1 h2).2.1.2.1; dsimp only at this; rw [List.length_append] at this; simp only [List.length_cons, List.length_nil] at this; omega)] at happ
  simp only [m_elect_Lead, p_mOwn x hbd, p_mRight x hbd, rightC, cdec_t h, happ, Option.bind_some, Bool.cond_decide, if_neg (show ¬ x.role ≠ 1 from fun h => h hr), Bool.not_true, cond_false, if_pos (show (2 : Int) ≠ 0 by decide)]
theorem lead_tup (x : Co) (h : RightC x) (hr : x.role = 1) (hl : x.tuple.log.length < 200) : tupB { x.tuple with log := x.tuple.log ++ [⟨x.tuple.term, 0, 0⟩] } = true :=
  add_tup x _ h (noop_right x h (by omega)).1 rfl hl
theorem lead_last (x : Co) : ({ x.tuple with log := x.tuple.log ++ [⟨x.tuple.term, 0, 0⟩] } : Tu).last = x.tuple.last + 1 := by unfold Tu.last; dsimp only; rw [List.length_append]; simp only [List.length_cons, List.length_nil]; omega
theorem p_Lead (x : Co) (h : RightC x) (hr : x.role = 1) (hl : x.tuple.log.length < 200) : m_elect_Lead x = some (leadC x) := by
  have hbd := h.bd
  have hlb := last_bd hbd.tup
  have ha := lead_tup x h hr hl
  have hxb := tupB_bd _ h.tup
  have hlen : x.tuple.last = x.tuple.snap.index + x.tuple.log.length := rfl
  have hbd' : bdT { x.tuple with log := x.tuple.log ++ [⟨x.tuple.term, 0, 0⟩] } := by
    refine ⟨?_, hbd.tup.2⟩
    show (x.tuple.log ++ [(⟨x.tuple.term, 0, 0⟩ : En)]).length ≤ 1000000
    rw [List.length_append]
    simp only [List.length_cons, List.length_nil]
    omega
  have happ := q_Append x.tuple [⟨x.tuple.term, 0, 0⟩] ⟨hbd.tup.1, by simp⟩
  rw [chg_some, if_pos h.tup, if_pos ha] at happ
  have hloop := p_Lead_l1 x ({ x.tuple with log := x.tuple.log ++ [⟨x.tuple.term, 0, 0⟩] }, 0) (x.tuple.last + 1) h (by omega) x.next.length 0 fuelN (by omega) (by omega) (by have := hbd.ln; unfold fuelN; omega)
  rw [mapTo_zero, mapTo_zero] at hloop
  simp only [m_elect_Lead, p_mOwn x hbd, p_mRight x hbd, rightC, cdec_t h, happ, Option.bind_some, Bool.cond_decide, if_neg (show ¬ x.role ≠ 1 from fun h => h hr), Bool.not_true, cond_false, if_neg (show ¬ (0 : Int) ≠ 0 by decide), p_tLast _ hbd', lead_last]
  exact hloop
theorem lead_right (x : Co) (h : RightC x) (hr : x.role = 1) (hl : x.tuple.log.length < 200) : RightC (leadC x) := by
  have ha := lead_tup x h hr hl
  have hcb := commit_bd h
  have hlen : x.tuple.last = x.tuple.snap.index + x.tuple.log.length := rfl
  have hxb := tupB_bd _ h.tup
  have hn := h.n
  have hid := h.id
  unfold leadC
  refine ⟨h.n, h.id, by show (2 : Int) ≤ 2; omega, h.bin, ha, ?_, h.lv, ?_, ?_, h.lc, ?_, ?_, h.caps, h.own, .inr ⟨(noop_right x h (by omega)).2.1, (noop_right x h (by omega)).2.2⟩⟩
  · dsimp only
    rw [← h.st]
    unfold stOf
    rw [lead_last, if_pos (by dsimp only; omega), if_pos hcb, List.take_append_of_le_length (by dsimp only; omega)]
  · dsimp only; rw [List.length_map]; exact h.ln
  · dsimp only; rw [List.length_set, List.length_map]; exact h.lm
  · dsimp only; rw [lead_last]
    intro a ha'
    obtain ⟨_, _, rfl⟩ := List.mem_map.1 ha'
    omega
  · dsimp only; rw [lead_last]
    refine InB.set (fun a ha' => ?_) (by omega)
    obtain ⟨_, _, rfl⟩ := List.mem_map.1 ha'
    omega
/-! ### Voting -/
def FreeP (y : Co) (m : Ms) : Prop := (y.tuple.vote = 0 ∨ y.tuple.vote = m.frm) ∧ y.role = 0 ∧ m.term = y.tuple.term ∧ NewP y m.lastTerm m.last
def votedC (y : Co) (m : Ms) : Co := { y with tuple := { y.tuple with term := m.term, vote := m.frm } }
theorem p_Vote_no (x : Co) (m : Ms) (hx : BdC x) (hm : BdM m) (h : ¬ (ToC x m ∧ m.kind = 1)) : m_elect_Vote x m = some (x, []) := by
  simp only [m_elect_Vote, p_fits x m hx hm, p_mOwn x hx, Option.bind_some, Bool.cond_decide]
  by_cases c1 : ToC x m
  case neg => rw [cdec_f c1]; rfl
  rw [cdec_t c1]
  simp only [Bool.not_true, cond_false]
  rw [if_pos (fun h2 => h ⟨c1, h2⟩)]
theorem p_Vote_yes (x : Co) (m : Ms) (hm : BdM m) (h : ToC x m) (hk : m.kind = 1) (hf : FreeP (meetC x m) m) : m_elect_Vote x m = some (votedC (meetC x m) m, [backM (votedC (meetC x m) m) m 2 true 0]) := by
  have hx := h.2.1.bd
  have hy := meet_right x m h.2.1
  obtain ⟨f1, f2, f3, f4⟩ := hf
  have hd := (hard_yes (meetC x m).tuple m.term m.frm hy.tup (.inr ⟨f3, f1⟩) h.2.2.term.2 (by have := h.2.2.frm; have := h.2.2.many; omega)).2
  simp only [m_elect_Vote, p_fits x m hx hm, p_Meet x m hx hm, cdec_t h, Option.bind_some, Bool.cond_decide, Bool.not_true, cond_false, if_neg (show ¬ m.kind ≠ 1 from fun h => h hk), if_pos f2, if_pos f3, p_Newer _ _ _ hy, cdec_t f4, cond_true, hd, m_msg_Back]
  rcases f1 with f1 | f1
  · rw [if_pos f1]; rfl
  · by_cases c : (meetC x m).tuple.vote = 0
    · rw [if_pos c]; rfl
    · rw [if_neg c, if_pos f1]; rfl
theorem p_Vote_none (x : Co) (m : Ms) (hm : BdM m) (h : ToC x m) (hk : m.kind = 1) (hf : ¬ FreeP (meetC x m) m) : m_elect_Vote x m = some (meetC x m, [backM (meetC x m) m 2 false 0]) := by
  have hx := h.2.1.bd
  have hy := meet_right x m h.2.1
  have key : ((meetC x m).tuple.vote = 0 ∨ (meetC x m).tuple.vote = m.frm) → (meetC x m).role = 0 → m.term = (meetC x m).tuple.term → cdec (NewP (meetC x m) m.lastTerm m.last) = false := fun a b c => cdec_f fun d => hf ⟨a, b, c, d⟩
  simp only [m_elect_Vote, p_fits x m hx hm, p_Meet x m hx hm, cdec_t h, Option.bind_some, Bool.cond_decide, Bool.not_true, cond_false, if_neg (show ¬ m.kind ≠ 1 from fun h => h hk), p_Newer _ _ _ hy, m_msg_Back]
  by_cases c1 : (meetC x m).tuple.vote = 0
  · rw [if_pos c1]
    by_cases c2 : (meetC x m).role = 0
    · rw [if_pos c2]
      by_cases c3 : m.term = (meetC x m).tuple.term
      · rw [if_pos c3, key (.inl c1) c2 c3]; rfl
      · rw [if_neg c3]; rfl
    · rw [if_neg c2]; rfl
  · rw [if_neg c1]
    by_cases c4 : (meetC x m).tuple.vote = m.frm
    · rw [if_pos c4]
      by_cases c2 : (meetC x m).role = 0
      · rw [if_pos c2]
        by_cases c3 : m.term = (meetC x m).tuple.term
        · rw [if_pos c3, key (.inr c4) c2 c3]; rfl
        · rw [if_neg c3]; rfl
      · rw [if_neg c2]; rfl
    · rw [if_neg c4]; rfl
theorem voted_right (x : Co) (m : Ms) (h : ToC x m) (hf : FreeP (meetC x m) m) : RightC (votedC (meetC x m) m) := by
  have hy := meet_right x m h.2.1
  obtain ⟨f1, f2, f3, f4⟩ := hf
  have hd := (hard_yes (meetC x m).tuple m.term m.frm hy.tup (.inr ⟨f3, f1⟩) h.2.2.term.2 (by have := h.2.2.frm; have := h.2.2.many; omega)).1
  exact ⟨hy.n, hy.id, hy.role, hy.bin, hd, hy.st, hy.lv, hy.ln, hy.lm, hy.lc, hy.next, hy.mtch, hy.caps, hy.own, .inl f2⟩
end Go.Proofs.Ytamjlcaoieliaaa
/- Layer 22's statements, in plain terms: votes, leading. -/
namespace Go.Proofs.Ytamjlcaoieliaaa
open Go Go.RowKit
set_option maxRecDepth 100000
theorem p_wakes22 : m_law22_wakes = some true := by decide +kernel
end Go.Proofs.Ytamjlcaoieliaaa
/- Layer 20's statements, in plain terms: new cores, what is told to others. -/
namespace Go.Proofs.Ytamjlcaoieliaaa
open Go Go.RowKit
set_option maxRecDepth 100000
def toM (x : Co) (m : Ms) (d : Int) : Ms := ⟨m.kind, x.id, d, x.tuple.term, x.binary, m.last, m.lastTerm, m.commit, m.okk, m.entries, m.snap⟩
theorem others_r1 (x : Co) (m : Ms) (hm : m.entries.length ≤ 1000000) (l : List Int) : ∀ (v : List Ms), v.length + l.length ≤ 1000000 → m_msg_Others_r1 x m l v = some (v ++ l.map (toM x m)) := by
  induction l with
  | nil => intro v _; rw [m_msg_Others_r1]; simp
  | cons d l ih =>
    intro v hv
    rw [List.length_cons] at hv
    rw [m_msg_Others_r1, m_slices_Clone___api_Entry_api_Entry_, fewI_ok _ (by omega), Option.bind_some, fewI_ok _ (by rw [List.length_append]; simp only [List.length_cons, List.length_nil]; omega), Option.bind_some]
    have := ih (v ++ [toM x m d]) (by rw [List.length_append]; simp only [List.length_cons, List.length_nil]; omega)
    rw [List.append_assoc] at this
    exact this
theorem others_all : ∀ n : Fin 6, ∀ i : Fin 6, 1 ≤ i.val → i.val ≤ n.val → (othersL (i.val : Int) 1 n.val).length = n.val - 1 ∧ ∀ k : Fin 6, ∀ d, (othersL (i.val : Int) 1 n.val)[k.val]? = some d → (1 ≤ d ∧ d ≤ (n.val : Int) ∧ d ≠ (i.val : Int)) ∧ (1 ≤ k.val → ∀ c, (othersL (i.val : Int) 1 n.val)[k.val - 1]? = some c → c < d) := by
  intro n i h1 h2
  have hn : n.val = 1 ∨ n.val = 2 ∨ n.val = 3 ∨ n.val = 4 ∨ n.val = 5 := by omega
  have key : ∀ (L : List Int) (i n : Int), (∀ k : Fin 6, (match L[k.val]? with | some d => decide ((1 ≤ d ∧ d ≤ n ∧ d ≠ i)) && (if 1 ≤ k.val then (match L[k.val - 1]? with | some c => decide (c < d) | none => true) else true) | none => true) = true) → ∀ k : Fin 6, ∀ d, L[k.val]? = some d → (1 ≤ d ∧ d ≤ n ∧ d ≠ i) ∧ (1 ≤ k.val → ∀ c, L[k.val - 1]? = some c → c < d) := by
    intro L i n h k d hd
    have h3 := h k
    rw [hd] at h3
    simp only [Bool.and_eq_true, decide_eq_true_eq] at h3
    refine ⟨h3.1, fun h4 c hc => ?_⟩
    have h5 := h3.2
    rw [if_pos h4, hc] at h5
    exact of_decide_eq_true h5
  have fin : ∀ n : Fin 6, ∀ i : Fin 6, 1 ≤ i.val → i.val ≤ n.val → (othersL (i.val : Int) 1 n.val).length = n.val - 1 ∧ (∀ k : Fin 6, (match (othersL (i.val : Int) 1 n.val)[k.val]? with | some d => decide ((1 ≤ d ∧ d ≤ (n.val : Int) ∧ d ≠ (i.val : Int))) && (if 1 ≤ k.val then (match (othersL (i.val : Int) 1 n.val)[k.val - 1]? with | some c => decide (c < d) | none => true) else true) | none => true) = true) := by decide +kernel
  exact ⟨(fin n i h1 h2).1, key _ _ _ (fin n i h1 h2).2⟩
end Go.Proofs.Ytamjlcaoieliaaa
/- The document's answers of layers 12, 20 and 22 that others lean on, in plain terms. -/
namespace Go.Proofs.Ytamjlcaoieliaaa
open Go Go.RowKit
set_option maxRecDepth 100000
end Go.Proofs.Ytamjlcaoieliaaa
/- ElectTells, in plain terms. -/
namespace Go.Proofs.Ytamjlcaoieliaaa
open Go Go.RowKit
set_option maxRecDepth 100000
/-! ### Halves -/
def halfB (l : List Bool) : Bool := decide (l.length < 2 * l.count true)
theorem votesL_len (l : List Bool) : ∀ k, (votesL k l).length = l.count true := by
  induction l with
  | nil => intro k; rfl
  | cons a l ih =>
    intro k
    rw [votesL]
    cases a with
    | true => rw [if_pos rfl, List.length_cons, ih, List.count_cons_self]
    | false => rw [if_neg (by decide), ih, List.count_cons_of_ne (by decide)]
theorem half_r1 (x : List Bool) (l : List Int) : ∀ v : Int, 0 ≤ v → v + l.length ≤ 2000000 → m_elect_Half_r1 x l v = some (decide ((x.length : Int) < 2 * (v + l.length))) := by
  induction l with
  | nil => intro v h1 h2; rw [m_elect_Half_r1, w64i (by simp at h2; omega)]; simp
  | cons a l ih =>
    intro v h1 h2
    rw [List.length_cons] at h2 ⊢
    rw [m_elect_Half_r1, w64i (by omega), ih (v + 1) (by omega) (by omega)]
    congr 3
    omega
theorem p_Half (l : List Bool) (h : l.length ≤ 1000000) : m_elect_Half l = some (halfB l) := by
  have h1 := votesL_len l 0
  have h2 : l.count true ≤ l.length := List.count_le_length
  unfold m_elect_Half m_it_votes
  rw [if_pos h, Option.bind_some, half_r1 l _ 0 (by omega) (by rw [h1]; omega), h1]
  unfold halfB
  congr 1
  rw [Bool.eq_iff_iff, decide_eq_true_eq, decide_eq_true_eq]
  omega
theorem p_Others_is (x : Co) (m : Ms) (h : RightC x) (hm : m.entries.length ≤ 1000000) : m_msg_Others x m = some ((othersL x.id 1 x.n.toNat).map (toM x m)) ∧ (othersL x.id 1 x.n.toNat).length ≤ 5 := by
  have hn := h.n
  have hi := h.id
  obtain ⟨N, hN⟩ : ∃ N : Nat, x.n = (N : Int) := ⟨x.n.toNat, by omega⟩
  obtain ⟨J, hJ⟩ : ∃ J : Nat, x.id = (J : Int) := ⟨x.id.toNat, by omega⟩
  obtain ⟨h1, h2⟩ := others_all ⟨N, by omega⟩ ⟨J, by omega⟩ (by show 1 ≤ J; omega) (by show J ≤ N; omega)
  dsimp only at h1 h2
  have e : x.n.toNat = N := by omega
  rw [e, hJ]
  refine ⟨?_, by omega⟩
  unfold m_msg_Others m_it_others
  rw [Option.bind_some, show (min x.n 5).toNat = N by omega, others_r1 x m hm _ [] (by rw [hJ, h1]; simp; omega), hJ]
  rfl
def timeC (x : Co) : Co := { x with tuple := { x.tuple with term := x.tuple.term + 1, vote := x.id }, role := 1, votes := (List.replicate x.n.toNat false).set (x.id - 1).toNat true }
theorem time_right (x : Co) (h : RightC x) (ht : x.tuple.term < 1073741824) : RightC (timeC x) ∧ m_tuple_Hard x.tuple (x.tuple.term + 1) x.id = some ({ x.tuple with term := x.tuple.term + 1, vote := x.id }, 0) := by
  have hid := h.id
  have hn := h.n
  have hs := (tupB_iff _).1 h.tup
  have h0 : 0 ≤ x.tuple.term := by
    have h1 := lastT_mono _ _ hs.2.2.1
    have h2 := hs.2.2.2
    rcases hs.1 with h3 | h3
    · rw [h3] at h1 h2; have : firstS.term = 0 := rfl; omega
    · omega
  have hh := hard_yes x.tuple (x.tuple.term + 1) x.id h.tup (.inl (by omega)) (by omega) (by omega)
  refine ⟨⟨h.n, h.id, by show (1 : Int) ≤ 2; decide, h.bin, hh.1, h.st, ?_, h.ln, h.lm, h.lc, h.next, h.mtch, h.caps, h.own, .inr ⟨by show 0 < x.tuple.term + 1; omega, rfl⟩⟩, hh.2⟩
  show (((List.replicate x.n.toNat false).set _ true).length : Int) = x.n
  rw [List.length_set, List.length_replicate]
  omega
end Go.Proofs.Ytamjlcaoieliaaa
/- ElectRight, in plain terms. -/
namespace Go.Proofs.Ytamjlcaoieliaaa
open Go Go.RowKit
set_option maxRecDepth 100000
/-- What a core leads to. -/
structure LeadWay (x o : Co) : Prop where
  right : RightC o
  id : o.id = x.id
  n : o.n = x.n
  commit : o.commit = x.commit
  snap : o.tuple.snap = x.tuple.snap
  term : o.tuple.term = x.tuple.term
  vote : o.tuple.vote = x.tuple.vote
  len : x.tuple.log.length ≤ o.tuple.log.length
  pre : o.tuple.log.take x.tuple.log.length = x.tuple.log
theorem LeadWay.refl {x : Co} (h : RightC x) : LeadWay x x := ⟨h, rfl, rfl, rfl, rfl, rfl, rfl, Nat.le_refl _, List.take_length⟩
theorem follow_right (x : Co) (h : RightC x) : RightC { x with role := 0 } := ⟨h.n, h.id, by show (0 : Int) ≤ 2; decide, h.bin, h.tup, h.st, h.lv, h.ln, h.lm, h.lc, h.next, h.mtch, h.caps, h.own, .inl rfl⟩
theorem lead_step (x : Co) (h : RightC x) : ∃ z, m_elect_Lead x = some z ∧ LeadWay x z := by
  by_cases hr : x.role = 1
  · by_cases hl : 200 ≤ x.tuple.log.length
    · exact ⟨_, p_Lead_full x h hr hl, follow_right x h, rfl, rfl, rfl, rfl, rfl, rfl, Nat.le_refl _, List.take_length⟩
    · refine ⟨_, p_Lead x h hr (by omega), lead_right x h hr (by omega), rfl, rfl, rfl, rfl, rfl, rfl, ?_, ?_⟩
      · show _ ≤ (x.tuple.log ++ [_]).length
        rw [List.length_append]; omega
      · show (x.tuple.log ++ [_]).take _ = _
        exact List.take_left
  · exact ⟨x, p_Lead_no x h hr, LeadWay.refl h⟩
/-- What a step leads to. -/
structure StepWay (x o : Co) : Prop where
  right : RightC o
  id : o.id = x.id
  n : o.n = x.n
  commit : o.commit = x.commit
  snap : o.tuple.snap = x.tuple.snap
  term : x.tuple.term ≤ o.tuple.term
  vote : o.tuple.term = x.tuple.term → 0 < x.tuple.vote → o.tuple.vote = x.tuple.vote
  len : x.tuple.log.length ≤ o.tuple.log.length
  pre : o.tuple.log.take x.tuple.log.length = x.tuple.log
theorem StepWay.refl {x : Co} (h : RightC x) : StepWay x x := ⟨h, rfl, rfl, rfl, rfl, Int.le_refl _, fun _ _ => rfl, Nat.le_refl _, List.take_length⟩
theorem StepWay.lead {x y z : Co} (h : StepWay x y) (g : LeadWay y z) : StepWay x z :=
  ⟨g.right, g.id.trans h.id, g.n.trans h.n, g.commit.trans h.commit, g.snap.trans h.snap, by rw [g.term]; exact h.term, fun a b => by rw [g.vote]; exact h.vote (by rw [← g.term]; exact a) b, Nat.le_trans h.len g.len, by
    have e := h.pre
    rw [← g.pre, List.take_take, Nat.min_eq_left h.len] at e
    exact e⟩
/-- What is told. -/
structure ToldWay (o : Co) (l : List Ms) : Prop where
  few : l.length ≤ 1000
  many : (l.length : Int) ≤ o.n
  all : ∀ m ∈ l, FineM m o.n ∧ m.frm = o.id ∧ m.term = o.tuple.term ∧ BdM m
theorem ToldWay.nil {o : Co} (h : RightC o) : ToldWay o [] := ⟨Nat.zero_le _, by have := h.n; simp only [List.length_nil]; omega, fun _ h => by cases h⟩
theorem meet_step (x : Co) (m : Ms) (h : RightC x) : StepWay x (meetC x m) := by
  have hf := meet_f x m
  refine ⟨meet_right x m h, hf.id, hf.n, hf.commit, hf.snap, hf.term, fun h1 h2 => ?_, by rw [hf.log]; exact Nat.le_refl _, by rw [hf.log]; exact List.take_length⟩
  by_cases c : ToC x m
  · rcases meet_term x m c with ⟨h3, h4, _⟩ | ⟨_, h4⟩
    · omega
    · rw [h4]
  · unfold meetC
    rw [if_neg (fun h => c h.1), hear_no x m c]
theorem vote_step (x : Co) (m : Ms) (h : RightC x) (hm : BdM m) : ∃ o l, m_elect_Vote x m = some (o, l) ∧ StepWay x o ∧ ToldWay o l := by
  by_cases c : ToC x m ∧ m.kind = 1
  case neg => exact ⟨x, [], p_Vote_no x m h.bd hm c, StepWay.refl h, ToldWay.nil h⟩
  obtain ⟨c1, hk⟩ := c
  have hs := meet_step x m h
  have hf := meet_f x m
  have hge := meet_ge x m c1
  have hmt := c1.2.2.term
  have hn := h.n
  have htb := ((tupB_iff _).1 hs.right.tup).2.1.2.2.2.2
  have told : ∀ (o : Co) (ok : Bool), o.id = x.id → o.n = x.n → o.binary = x.binary → o.tuple.term = (meetC x m).tuple.term → ToldWay o [backM o m 2 ok 0] := fun o ok h1 h2 h3 h4 => by
    refine ⟨by simp, by rw [h2]; simp only [List.length_cons, List.length_nil]; omega, fun a ha => ?_⟩
    obtain rfl : a = backM o m 2 ok 0 := by simpa using ha
    refine ⟨?_, rfl, rfl, ⟨by show (0 : Int) ≤ 2 ∧ (2 : Int) ≤ 255; decide, by show (0 : Nat) ≤ 1000000; omega⟩⟩
    rw [h2]
    exact back_fine x o m ok 2 0 c1 h1 h3 (by rw [h4]; omega) (.inl rfl) ⟨Int.le_refl 0, by decide⟩
  by_cases hF : FreeP (meetC x m) m
  · refine ⟨_, _, p_Vote_yes x m hm c1 hk hF, ?_, told _ true hf.id hf.n hf.binary hF.2.2.1⟩
    obtain ⟨f1, f2, f3, f4⟩ := hF
    refine ⟨voted_right x m c1 ⟨f1, f2, f3, f4⟩, hf.id, hf.n, hf.commit, hf.snap, by show x.tuple.term ≤ m.term; rw [f3]; exact hs.term, fun h1 h2 => ?_, hs.len, hs.pre⟩
    have h3 : (meetC x m).tuple.term = x.tuple.term := by rw [← f3]; exact h1
    have h4 := hs.vote h3 h2
    show m.frm = x.tuple.vote
    rcases f1 with f1 | f1 <;> omega
  · exact ⟨_, _, p_Vote_none x m hm c1 hk hF, hs, told _ false hf.id hf.n hf.binary rfl⟩
theorem others_mem (x : Co) (h : RightC x) : (((othersL x.id 1 x.n.toNat).length : Nat) : Int) ≤ x.n ∧ ∀ d ∈ othersL x.id 1 x.n.toNat, 1 ≤ d ∧ d ≤ x.n ∧ d ≠ x.id := by
  have hn := h.n
  have hi := h.id
  obtain ⟨N, hN⟩ : ∃ N : Nat, x.n = (N : Int) := ⟨x.n.toNat, by omega⟩
  obtain ⟨J, hJ⟩ : ∃ J : Nat, x.id = (J : Int) := ⟨x.id.toNat, by omega⟩
  obtain ⟨h1, h2⟩ := others_all ⟨N, by omega⟩ ⟨J, by omega⟩ (by show 1 ≤ J; omega) (by show J ≤ N; omega)
  dsimp only at h1 h2
  rw [show x.n.toNat = N by omega, hJ, hN]
  refine ⟨by omega, fun d hd => ?_⟩
  obtain ⟨k, hk⟩ := List.getElem?_of_mem hd
  have hkl := (List.getElem?_eq_some_iff.1 hk).1
  exact (h2 ⟨k, by omega⟩ d hk).1
end Go.Proofs.Ytamjlcaoieliaaa
/- Layer 23's functions and statements, in plain terms: what came of entries, what fits. -/
namespace Go.Proofs.Ytamjlcaoieliaaa
open Go Go.RowKit
set_option maxRecDepth 100000
end Go.Proofs.Ytamjlcaoieliaaa
/- Layer 23: entries taken in, in plain terms. -/
namespace Go.Proofs.Ytamjlcaoieliaaa
open Go Go.RowKit
set_option maxRecDepth 100000
end Go.Proofs.Ytamjlcaoieliaaa
/- Layers 23 and 25: what a leader sends, in plain terms. -/
namespace Go.Proofs.Ytamjlcaoieliaaa
open Go Go.RowKit
set_option maxRecDepth 100000
end Go.Proofs.Ytamjlcaoieliaaa
/- Layer 23: what a leader sends is taken in, in plain terms. -/
namespace Go.Proofs.Ytamjlcaoieliaaa
open Go Go.RowKit
set_option maxRecDepth 100000
def newS (a n b : Int) (t : Tu) : Co := ⟨a, n, 0, b, t, t.snap.index, t.snap, List.replicate n.toNat false, List.replicate n.toNat (t.last + 1), List.replicate n.toNat 0, (List.replicate n.toNat 0).set (a - 1).toNat b⟩
theorem newS_l1 (a b : Int) (N : Nat) (t : Tu) (ht : bdT t) (ha : 1 ≤ a ∧ a ≤ N) (hN : N ≤ 5) : ∀ (q k n : Nat), k + q = N → q < n →
    m_ref20_New_l1 a N b t t n ((k : Int) + 1) (List.replicate k false) (List.replicate k (t.last + 1)) (List.replicate k 0) (List.replicate k 0) = some (newS a N b t) := by
  have hlb := last_bd ht
  intro q
  induction q with
  | zero =>
    intro k n hk hn
    obtain ⟨n, rfl⟩ : ∃ n', n = n' + 1 := ⟨n - 1, by omega⟩
    obtain rfl : k = N := by omega
    obtain ⟨e, he, _, hw⟩ := idx_in (List.replicate k (0 : Int)) a (by rw [List.length_replicate]; exact ha) (by rw [List.length_replicate]; omega)
    rw [m_ref20_New_l1, hw, he]
    simp only [Bool.cond_decide, if_neg (show ¬ (k : Int) + 1 ≤ (k : Int) by omega), Option.bind_some]
    unfold newS setI
    rw [Int.toNat_natCast]
  | succ q ih =>
    intro k n hk hn
    obtain ⟨n, rfl⟩ : ∃ n', n = n' + 1 := ⟨n - 1, by omega⟩
    have hf : ∀ {α : Type} (c : α), fewI (List.replicate k c ++ [c]) = some (List.replicate (k + 1) c) := fun c => by
      rw [fewI_ok _ (by rw [List.length_append, List.length_replicate]; simp only [List.length_cons, List.length_nil]; omega), ← List.replicate_succ']
    rw [m_ref20_New_l1, p_Last12 t ht]
    simp only [Bool.cond_decide, if_pos (show (k : Int) + 1 ≤ (N : Int) by omega), Option.bind_some, w64i (n := t.last + 1) (by omega), hf, w64i (n := (k : Int) + 1 + 1) (by omega)]
    exact ih (k + 1) n (by omega) (by omega)
theorem p_New20 (a n b : Int) (t : Tu) (ht : bdT t) (ha : 1 ≤ a ∧ a ≤ n) (hn : n ≤ 5) : m_ref20_New a n b t = some (newS a n b t) := by
  obtain ⟨N, rfl⟩ : ∃ N : Nat, n = (N : Int) := ⟨n.toNat, by omega⟩
  unfold m_ref20_New
  simp only [Bool.cond_decide, if_neg (show ¬ (N : Int) < 0 by omega), if_neg (show ¬ (5 : Int) < (N : Int) by omega), if_neg (show ¬ a < 1 by omega), if_neg (show ¬ (N : Int) < a by omega), p_Own12 t ht.1, Option.bind_some]
  exact newS_l1 a b N t ht ha (by omega) N 0 fuelN (by omega) (by unfold fuelN; omega)
theorem newS_right (a n b : Int) (t : Tu) (ht : tupB t = true) (ha : 1 ≤ a ∧ a ≤ n) (hn : n ≤ 5) (hb : 1 ≤ b ∧ b ≤ 2) : RightC (newS a n b t) := by
  have hxb := tupB_bd _ ht
  have hlen : t.last = t.snap.index + t.log.length := rfl
  unfold newS
  refine ⟨⟨by dsimp only; omega, hn⟩, ha, by show (0 : Int) ≤ 2; decide, hb, ht, ?_, ?_, ?_, ?_, ?_, InB.repl (by dsimp only; omega), InB.repl (by dsimp only; omega), InB.set (InB.repl (by omega)) (by omega), List.getElem?_set_self (by rw [List.length_replicate]; omega), .inl rfl⟩
  · dsimp only
    unfold stOf
    rw [if_pos (by omega), Int.sub_self]
    rfl
  · dsimp only; rw [List.length_replicate]; omega
  · dsimp only; rw [List.length_replicate]; omega
  · dsimp only; rw [List.length_replicate]; omega
  · dsimp only; rw [List.length_set, List.length_replicate]; omega
/-! ### What is sent is taken in -/
end Go.Proofs.Ytamjlcaoieliaaa
/- ElectOne, in plain terms. -/
namespace Go.Proofs.Ytamjlcaoieliaaa
open Go Go.RowKit
set_option maxRecDepth 100000
theorem lead_step2 (x : Co) (h : RightC x) (hr : x.role = 1) : ∃ z, m_elect_Lead x = some z ∧ LeadWay x z ∧ z.role ≠ 1 := by
  by_cases hl : 200 ≤ x.tuple.log.length
  · exact ⟨_, p_Lead_full x h hr hl, ⟨follow_right x h, rfl, rfl, rfl, rfl, rfl, rfl, Nat.le_refl _, List.take_length⟩, fun h => by cases h⟩
  · refine ⟨_, p_Lead x h hr (by omega), ⟨lead_right x h hr (by omega), rfl, rfl, rfl, rfl, rfl, rfl, ?_, ?_⟩, fun h => by cases h⟩
    · show _ ≤ (x.tuple.log ++ [_]).length
      rw [List.length_append]; omega
    · show (x.tuple.log ++ [_]).take _ = _
      exact List.take_left
/-- What a timeout comes to. -/
def TimeWay (x o : Co) (l : List Ms) : Prop := (o = x ∧ l = []) ∨ (o.tuple.term = x.tuple.term + 1 ∧ o.tuple.vote = x.id ∧ (∀ m ∈ l, m.kind = 1) ∧ (o.role = 1 → o.votes = (timeC x).votes) ∧ (o.role = 2 → halfB (timeC x).votes = true))
/-- What a vote that is told comes to. -/
def VotedWay (x : Co) (m : Ms) (o : Co) : Prop := o = x ∨ (ToC x m ∧ (o = meetC x m ∨ (m.kind = 2 ∧ m.okk = true ∧ (meetC x m).role = 1 ∧ m.term = (meetC x m).tuple.term ∧ o.tuple.term = (meetC x m).tuple.term ∧ o.tuple.vote = (meetC x m).tuple.vote ∧ (o.role = 1 → o.votes = (meetC x m).votes.set (m.frm - 1).toNat true) ∧ (o.role = 2 → halfB ((meetC x m).votes.set (m.frm - 1).toNat true) = true))))
theorem time_spec (x : Co) (h : RightC x) : ∃ o l, m_elect_Timeout x = some (o, l) ∧ StepWay x o ∧ ToldWay o l ∧ TimeWay x o l := by
  have hx := h.bd
  have htb := ((tupB_iff _).1 h.tup).2.1.2.2.2.2
  by_cases hr : x.role = 2
  · refine ⟨x, [], ?_, StepWay.refl h, ToldWay.nil h, .inl ⟨rfl, rfl⟩⟩
    simp only [m_elect_Timeout, p_mOwn x hx, p_mRight x hx, rightC, cdec_t h, Option.bind_some, Bool.not_true, cond_false, Bool.cond_decide, if_pos hr]
  by_cases ht : x.tuple.term = 1073741824
  · refine ⟨x, [], ?_, StepWay.refl h, ToldWay.nil h, .inl ⟨rfl, rfl⟩⟩
    simp only [m_elect_Timeout, p_mOwn x hx, p_mRight x hx, rightC, cdec_t h, Option.bind_some, Bool.not_true, cond_false, Bool.cond_decide, if_neg hr, if_pos ht]
  obtain ⟨hR, hH⟩ := time_right x h (by omega)
  have hid := h.id
  have hn := h.n
  have hbd := hR.bd
  obtain ⟨N, hN⟩ : ∃ N : Nat, x.n = (N : Int) := ⟨x.n.toNat, by omega⟩
  have hk : makeI false x.n = some (List.replicate x.n.toNat false) := by rw [hN, makeI_nat _ N (by omega), Int.toNat_natCast]
  have hw : IntKind.wrap .i64 (x.id - 1) = (((x.id - 1).toNat : Nat) : Int) := by rw [w64i (by omega)]; omega
  have hg : idx (List.replicate x.n.toNat false) (((x.id - 1).toNat : Nat) : Int) = some false := by rw [idx_nat, List.getElem?_replicate, if_pos (by omega)]
  have hi : idx [x.id] 0 = some x.id := rfl
  have hlv : ((List.replicate x.n.toNat false).set (x.id - 1).toNat true).length ≤ 1000000 := by rw [List.length_set, List.length_replicate]; omega
  have h00 : 0 ≤ endT x.tuple ∧ endT x.tuple ≤ x.tuple.term := by
    have h0 := ((tupB_iff _).1 h.tup).2.2
    have h1 := lastT_mono _ _ h0.1
    have hs := ((tupB_iff _).1 h.tup).1
    unfold endT
    rcases hs with h3 | h3
    · rw [h3] at h1 h0 ⊢; have : firstS.term = 0 := rfl; omega
    · omega
  have hwt : IntKind.wrap .i64 (x.tuple.term + 1) = x.tuple.term + 1 := w64i (by omega)
  have hend := p_end (timeC x) hbd
  have hot := p_Others_is (timeC x) ⟨1, 0, 0, 0, 0, (timeC x).tuple.last, endT (timeC x).tuple, 0, false, [], ⟨0, 0, 0, 0, false⟩⟩ hR (by simp)
  have hom := others_mem (timeC x) hR
  obtain ⟨z, hz1, hz2, hz3⟩ := lead_step2 (timeC x) hR rfl
  have e1 : m_elect_Timeout x = (cond (halfB (timeC x).votes) ((m_elect_Lead (timeC x)).bind fun r78 => some (r78, [])) ((m_elect_end (timeC x)).bind fun r101 => (m_msg_Others (timeC x) ⟨1, 0, 0, 0, 0, r101.1, r101.2, 0, false, [], ⟨0, 0, 0, 0, false⟩⟩).bind fun r104 => some (timeC x, r104))) := by
    simp only [m_elect_Timeout, p_mOwn x hx, p_mRight x hx, rightC, cdec_t h, Option.bind_some, Bool.not_true, cond_false, Bool.cond_decide, if_neg hr, if_neg ht, hwt, hH, hk, hi, hw, hg, setI_nat, p_Half _ hlv]
    rfl
  have hS : StepWay x (timeC x) := ⟨hR, rfl, rfl, rfl, rfl, by show x.tuple.term ≤ x.tuple.term + 1; omega, fun h1 _ => by have h2 : x.tuple.term + 1 = x.tuple.term := h1; omega, Nat.le_refl _, List.take_length⟩
  rw [e1, hend, Option.bind_some, hot.1, Option.bind_some, hz1, Option.bind_some]
  cases hhb : halfB (timeC x).votes with
  | true => exact ⟨_, _, rfl, hS.lead hz2, ToldWay.nil hz2.right, .inr ⟨hz2.term, hz2.vote, (fun _ h => by cases h), (fun h => (hz3 h).elim), fun _ => hhb⟩⟩
  | false =>
    refine ⟨_, _, rfl, hS, ?_, .inr ⟨rfl, rfl, (fun a ha => by obtain ⟨d, _, rfl⟩ := List.mem_map.1 ha; rfl), (fun _ => rfl), fun h => by cases h⟩⟩
    refine ⟨by rw [List.length_map]; omega, by rw [List.length_map]; exact hom.1, fun a ha => ?_⟩
    obtain ⟨d, hd, rfl⟩ := List.mem_map.1 ha
    obtain ⟨d1, d2, d3⟩ := hom.2 d hd
    have hxb := tupB_bd _ h.tup
    have hlen : x.tuple.last = x.tuple.snap.index + x.tuple.log.length := rfl
    have hla : (timeC x).tuple.last = x.tuple.last := rfl
    have he : endT (timeC x).tuple = endT x.tuple := rfl
    refine ⟨⟨hR.n, hR.id, ⟨d1, d2⟩, fun hh => d3 hh.symm, by show (1 : Int) ≤ 1 ∧ (1 : Int) ≤ 5; decide, by show 1 ≤ x.tuple.term + 1 ∧ x.tuple.term + 1 ≤ 1073741824; omega, h.bin, by show 0 ≤ (timeC x).tuple.last ∧ (timeC x).tuple.last ≤ 1073741824; rw [hla]; omega, by show 0 ≤ endT (timeC x).tuple ∧ endT (timeC x).tuple ≤ 1073741824; rw [he]; omega, ⟨Int.le_refl 0, by show (0 : Int) ≤ 1073741824; decide⟩, trivial, by show (0 : Nat) ≤ 4; omega, fun _ => ⟨rfl, rfl⟩, fun hh => absurd (show (false : Bool) = true from hh) (by decide), fun hh => absurd (show (1 : Int) = 5 from hh) (by decide), fun _ => rfl⟩, rfl, rfl, ⟨by show (0 : Int) ≤ 1 ∧ (1 : Int) ≤ 255; decide, by show (0 : Nat) ≤ 1000000; omega⟩⟩
theorem voted_spec (x : Co) (m : Ms) (h : RightC x) (hm : BdM m) : ∃ o, m_elect_Voted x m = some (o, []) ∧ StepWay x o ∧ VotedWay x m o := by
  have hx := h.bd
  by_cases c : ToC x m
  case neg =>
    refine ⟨x, ?_, StepWay.refl h, .inl rfl⟩
    simp only [m_elect_Voted, p_mOwn x hx, p_fits x m hx hm, cdec_f c, Option.bind_some, Bool.not_false, cond_true]
  by_cases hk : m.kind = 2
  case neg =>
    refine ⟨x, ?_, StepWay.refl h, .inl rfl⟩
    simp only [m_elect_Voted, p_mOwn x hx, p_fits x m hx hm, cdec_t c, Option.bind_some, Bool.not_true, cond_false, Bool.cond_decide, if_pos (show m.kind ≠ 2 from hk)]
  have hs := meet_step x m h
  have hy := hs.right
  have hmf := meet_f x m
  have hbdy := hy.bd
  have hlv := hy.lv
  have hn := h.n
  have hfr := c.2.2.frm
  have hw : IntKind.wrap .i64 (m.frm - 1) = (((m.frm - 1).toNat : Nat) : Int) := by rw [w64i (by omega)]; omega
  have hnn := hmf.n
  obtain ⟨e, he, _⟩ := drop_step (show (m.frm - 1).toNat < (meetC x m).votes.length by omega)
  have hl : ((meetC x m).votes.set (m.frm - 1).toNat true).length ≤ 1000000 := by rw [List.length_set]; exact hbdy.lv
  have hzR : RightC { meetC x m with votes := (meetC x m).votes.set (m.frm - 1).toNat true } := ⟨hy.n, hy.id, hy.role, hy.bin, hy.tup, hy.st, by dsimp only; rw [List.length_set]; exact hy.lv, hy.ln, hy.lm, hy.lc, hy.next, hy.mtch, hy.caps, hy.own, hy.lead⟩
  have hzS : StepWay x { meetC x m with votes := (meetC x m).votes.set (m.frm - 1).toNat true } := ⟨hzR, hs.id, hs.n, hs.commit, hs.snap, hs.term, hs.vote, hs.len, hs.pre⟩
  
  have hlead : (meetC x m).role = 1 → ∃ z, m_elect_Lead { meetC x m with votes := (meetC x m).votes.set (m.frm - 1).toNat true } = some z ∧ LeadWay { meetC x m with votes := (meetC x m).votes.set (m.frm - 1).toNat true } z ∧ z.role ≠ 1 := fun hr => lead_step2 _ hzR hr
  have hlead' : ∃ z, m_elect_Lead { meetC x m with votes := (meetC x m).votes.set (m.frm - 1).toNat true } = some z ∧ LeadWay { meetC x m with votes := (meetC x m).votes.set (m.frm - 1).toNat true } z ∧ ((meetC x m).role = 1 → z.role ≠ 1) := by
    by_cases hr : (meetC x m).role = 1
    · obtain ⟨z, a, b, c⟩ := hlead hr; exact ⟨z, a, b, fun _ => c⟩
    · obtain ⟨z, a, b⟩ := lead_step _ hzR; exact ⟨z, a, b, fun h => (hr h).elim⟩
  obtain ⟨z, hz1, hz2, hz3⟩ := hlead'
  have k1 : m_elect_Voted x m = cond (!m.okk) (some (meetC x m, [])) (if (meetC x m).role ≠ 1 then some (meetC x m, []) else if m.term ≠ (meetC x m).tuple.term then some (meetC x m, []) else cond (halfB ((meetC x m).votes.set (m.frm - 1).toNat true)) (some (z, [])) (some ({ meetC x m with votes := (meetC x m).votes.set (m.frm - 1).toNat true }, []))) := by
    simp only [m_elect_Voted, p_fits x m hx hm, p_Meet x m hx hm, cdec_t c, Option.bind_some, Bool.cond_decide, Bool.not_true, cond_false, if_neg (show ¬ m.kind ≠ 2 from fun h => h hk), hw, idx_nat, he, setI_nat, p_Half _ hl, hz1]
  rw [k1]
  by_cases c1 : (meetC x m).role = 1
  case neg => simp only [ne_eq, if_pos (show ¬ (meetC x m).role = 1 from c1)]; exact ⟨meetC x m, by cases m.okk <;> rfl, hs, .inr ⟨c, .inl rfl⟩⟩
  simp only [ne_eq, if_neg (show ¬ ¬ (meetC x m).role = 1 from fun h => h c1)]
  by_cases c2 : m.term = (meetC x m).tuple.term
  case neg => simp only [if_pos (show ¬ m.term = (meetC x m).tuple.term from c2)]; exact ⟨meetC x m, by cases m.okk <;> rfl, hs, .inr ⟨c, .inl rfl⟩⟩
  simp only [if_neg (show ¬ ¬ m.term = (meetC x m).tuple.term from fun h => h c2)]
  cases hok : m.okk with
  | false => exact ⟨_, rfl, hs, .inr ⟨c, .inl rfl⟩⟩
  | true =>
    cases hhb : halfB ((meetC x m).votes.set (m.frm - 1).toNat true) with
    | true => exact ⟨_, rfl, hzS.lead hz2, .inr ⟨c, .inr ⟨hk, hok, c1, c2, hz2.term, hz2.vote, (fun h => (hz3 c1 h).elim), fun _ => hhb⟩⟩⟩
    | false => exact ⟨_, rfl, hzS, .inr ⟨c, .inr ⟨hk, hok, c1, c2, rfl, rfl, (fun _ => rfl), fun h => by have h' : (meetC x m).role = 2 := h; rw [c1] at h'; cases h'⟩⟩⟩
/-! ### Who voted for whom -/
def cntV (V : Int → Int → Int) (n : Nat) (t c : Int) : Nat := (List.range' 0 n).countP fun (j : Nat) => decide (V t ((j : Int) + 1) = c)
/-- More than half voted for this one. -/
def MajV (V : Int → Int → Int) (n : Nat) (t c : Int) : Prop := n < 2 * cntV V n t c
theorem countP_two (l : List Nat) (p q : Nat → Bool) (h : ∀ x, p x = true → q x = true → False) : l.countP p + l.countP q ≤ l.length := by
  induction l with
  | nil => exact Nat.le_refl _
  | cons a l ih =>
    rw [List.countP_cons, List.countP_cons, List.length_cons]
    have := h a
    cases hp : p a <;> cases hq : q a <;> simp [hp, hq] at this ⊢ <;> omega
theorem maj_two {V : Int → Int → Int} {n : Nat} {t c d : Int} (h1 : MajV V n t c) (h2 : MajV V n t d) : c = d := by
  by_cases h : c = d
  · exact h
  · have := countP_two (List.range' 0 n) (fun (j : Nat) => decide (V t ((j : Int) + 1) = c)) (fun (j : Nat) => decide (V t ((j : Int) + 1) = d)) (fun x hp hq => h ((of_decide_eq_true hp).symm.trans (of_decide_eq_true hq)))
    rw [List.length_range'] at this
    unfold MajV cntV at h1 h2
    omega
/-- Who voted before did not vote for another one. -/
structure ExtV (V V' : Int → Int → Int) (id : Int) : Prop where
  keep : ∀ t v, V t v ≠ 0 → V' t v = V t v
  other : ∀ t v, v ≠ id → V' t v = V t v
theorem ExtV.refl (V : Int → Int → Int) (id : Int) : ExtV V V id := ⟨fun _ _ _ => rfl, fun _ _ _ => rfl⟩
theorem maj_ext {V V' : Int → Int → Int} {id : Int} (he : ExtV V V' id) {n : Nat} {t c : Int} (hc : c ≠ 0) (h : MajV V n t c) : MajV V' n t c := by
  unfold MajV cntV at *
  have := List.countP_mono_left (l := List.range' 0 n) (p := fun (j : Nat) => decide (V t ((j : Int) + 1) = c)) (q := fun (j : Nat) => decide (V' t ((j : Int) + 1) = c)) fun j _ hj => by
    have hj := of_decide_eq_true hj
    exact decide_eq_true ((he.keep t _ (by rw [hj]; exact hc)).trans hj)
  omega
theorem votes_cnt (V : Int → Int → Int) (t c : Int) : ∀ (l : List Bool) (s : Nat), (∀ j : Nat, l[j]? = some true → V t (((s + j : Nat) : Int) + 1) = c) → l.count true ≤ (List.range' s l.length).countP fun (j : Nat) => decide (V t ((j : Int) + 1) = c)
  | [], _, _ => Nat.zero_le _
  | b :: l, s, h => by
    have ih := votes_cnt V t c l (s + 1) fun j hj => by
      have := h (j + 1) (by simpa using hj)
      rw [show s + 1 + j = s + (j + 1) by omega]
      exact this
    rw [List.length_cons, List.range'_succ, List.countP_cons, List.count_cons]
    cases b with
    | false => simp; omega
    | true =>
      have := h 0 rfl
      rw [Nat.add_zero] at this
      simp [this]
      omega
theorem half_maj {V : Int → Int → Int} {n : Nat} {t c : Int} {l : List Bool} (hl : l.length = n) (hh : halfB l = true) (h : ∀ j : Nat, l[j]? = some true → V t ((j : Int) + 1) = c) : MajV V n t c := by
  have h1 := of_decide_eq_true hh
  have h2 := votes_cnt V t c l 0 fun j hj => by rw [Nat.zero_add]; exact h j hj
  unfold MajV cntV
  rw [hl] at h1 h2
  omega
structure NodeV (V : Int → Int → Int) (N : Nat) (k : Int) (i : Nat) (x : Co) : Prop where
  right : RightC x
  id : x.id = (i : Int) + 1
  n : x.n = (N : Int)
  term : x.tuple.term ≤ k
  vote : V x.tuple.term x.id = x.tuple.vote
  later : ∀ t, x.tuple.term < t → V t x.id = 0
  cand : x.role = 1 → ∀ j : Nat, x.votes[j]? = some true → V x.tuple.term ((j : Int) + 1) = x.id
  lead : x.role = 2 → MajV V N x.tuple.term x.id
structure MsgV (V : Int → Int → Int) (n : Nat) (k : Int) (m : Ms) : Prop where
  fine : FineM m n
  bd : BdM m
  term : m.term ≤ k
  kind : m.kind = 1 ∨ m.kind = 2
  given : m.kind = 2 → m.okk = true → V m.term m.frm = m.dst
theorem NodeV.more {V : Int → Int → Int} {n : Nat} {k k' : Int} {i : Nat} {x : Co} (h : NodeV V n k i x) (hk : k ≤ k') : NodeV V n k' i x := ⟨h.right, h.id, h.n, Int.le_trans h.term hk, h.vote, h.later, h.cand, h.lead⟩
theorem NodeV.ext {V V' : Int → Int → Int} {n : Nat} {k k' id : Int} {i : Nat} {x : Co} (h : NodeV V n k i x) (hk : k ≤ k') (he : ExtV V V' id) (hne : x.id ≠ id) : NodeV V' n k' i x := by
  have hid := h.right.id
  exact ⟨h.right, h.id, h.n, Int.le_trans h.term hk, (he.other _ _ hne).trans h.vote, fun t ht => (he.other _ _ hne).trans (h.later t ht), fun hr j hj => by
    have := h.cand hr j hj
    exact (he.keep _ _ (by omega)).trans this, fun hr => maj_ext he (by omega) (h.lead hr)⟩
theorem MsgV.ext {V V' : Int → Int → Int} {n : Nat} {k k' id : Int} {m : Ms} (h : MsgV V n k m) (hk : k ≤ k') (he : ExtV V V' id) : MsgV V' n k' m :=
  ⟨h.fine, h.bd, Int.le_trans h.term hk, h.kind, fun h1 h2 => by
    have := h.given h1 h2
    have hd := h.fine.dst
    exact (he.keep _ _ (by omega)).trans this⟩
/-- What a step comes to. -/
def DoneV (V : Int → Int → Int) (n : Nat) (k : Int) (i : Nat) (x o : Co) (l : List Ms) : Prop := ∃ V', ExtV V V' x.id ∧ NodeV V' n (k + 1) i o ∧ (∀ m ∈ l, MsgV V' n (k + 1) m) ∧ (l.length : Int) ≤ n
theorem DoneV.same {V : Int → Int → Int} {n : Nat} {k : Int} {i : Nat} {x : Co} (h : NodeV V n k i x) : DoneV V n k i x x [] := ⟨V, ExtV.refl V _, h.more (by omega), (fun _ h => by cases h), by simp⟩
theorem lvotes {V : Int → Int → Int} {n : Nat} {k : Int} {i : Nat} {x : Co} (h : NodeV V n k i x) : x.votes.length = n := by
  have h1 := h.right.lv
  have h2 := h.n
  omega
theorem time_do {V : Int → Int → Int} {n : Nat} {k : Int} {i : Nat} {x : Co} (h : NodeV V n k i x) : ∃ o l, m_elect_Timeout x = some (o, l) ∧ DoneV V n k i x o l := by
  obtain ⟨o, l, h1, h2, h3, h4⟩ := time_spec x h.right
  refine ⟨o, l, h1, ?_⟩
  rcases h4 with ⟨rfl, rfl⟩ | ⟨a1, a2, a3, a4, a5⟩
  · exact DoneV.same h
  have hid := h.right.id
  have hn := h.n
  have hl1 : (timeC x).votes.length = n := by
    have : (timeC x).votes = (List.replicate x.n.toNat false).set (x.id - 1).toNat true := rfl
    rw [this, List.length_set, List.length_replicate, hn]
    exact Int.toNat_natCast n
  have hv : ∀ j : Nat, (timeC x).votes[j]? = some true → (j : Int) + 1 = x.id := fun j hj => by
    have e : (timeC x).votes = (List.replicate x.n.toNat false).set (x.id - 1).toNat true := rfl
    rw [e, List.getElem?_set] at hj
    by_cases hj1 : (x.id - 1).toNat = j
    · omega
    · rw [if_neg hj1, List.getElem?_replicate] at hj
      split at hj <;> cases hj
  refine ⟨fun t v => if t = x.tuple.term + 1 ∧ v = x.id then x.id else V t v, ⟨fun t v hne => ?_, fun t v hne => if_neg fun h => hne h.2⟩, ⟨h2.right, h2.id.trans h.id, h2.n.trans h.n, by have := h.term; omega, ?_, fun t ht => ?_, fun hr j hj => ?_, fun hr => ?_⟩, fun m hm => ?_, ?_⟩
  · refine if_neg fun hc => hne ?_
    rw [hc.1, hc.2]
    exact h.later _ (by omega)
  · rw [a1, h2.id, if_pos ⟨rfl, rfl⟩, a2]
  · rw [a1] at ht
    rw [h2.id, if_neg (fun hc => by omega)]
    exact h.later t (by omega)
  · rw [a4 hr] at hj
    rw [a1, if_pos ⟨rfl, hv j hj⟩, h2.id]
  · rw [a1, h2.id]
    exact half_maj hl1 (a5 hr) fun j hj => if_pos ⟨rfl, hv j hj⟩
  · obtain ⟨m1, m2, m3, m4⟩ := h3.all m hm
    have hk1 := a3 m hm
    rw [h2.n, h.n] at m1
    exact ⟨m1, m4, by have := h.term; omega, .inl hk1, fun hk2 => by omega⟩
  · have := h3.many
    rw [h2.n, h.n] at this
    exact this
theorem meet_node {V : Int → Int → Int} {n : Nat} {k : Int} {i : Nat} {x : Co} {m : Ms} (h : NodeV V n k i x) (hm : m.term ≤ k) (c : ToC x m) : NodeV V n k i (meetC x m) := by
  have hs := meet_step x m h.right
  rcases meet_term x m c with ⟨h1, h2, h3, h4⟩ | ⟨h1, h2⟩
  · refine ⟨hs.right, hs.id.trans h.id, hs.n.trans h.n, by omega, ?_, fun t ht => ?_, fun hr => ?_, fun hr => ?_⟩
    · rw [h2, h3, hs.id]
      exact h.later _ h1
    · rw [hs.id]
      exact h.later t (by omega)
    · rw [h4] at hr; cases hr
    · rw [h4] at hr; cases hr
  · have hR := hs.right
    rw [h2] at hR ⊢
    exact ⟨hR, h.id, h.n, h.term, h.vote, h.later, h.cand, h.lead⟩
theorem vote_do {V : Int → Int → Int} {n : Nat} {k : Int} {i : Nat} {x : Co} {m : Ms} (h : NodeV V n k i x) (hm : MsgV V n k m) : ∃ o l, m_elect_Vote x m = some (o, l) ∧ DoneV V n k i x o l := by
  by_cases c : ToC x m ∧ m.kind = 1
  case neg => exact ⟨x, [], p_Vote_no x m h.right.bd hm.bd c, DoneV.same h⟩
  obtain ⟨c1, hk⟩ := c
  have hy := meet_node h hm.term c1
  have hyid : (meetC x m).id = x.id := (meet_f x m).id
  obtain ⟨o, l, h1, h2, h3⟩ := vote_step x m h.right hm.bd
  refine ⟨o, l, h1, ?_⟩
  have hn1 : (l.length : Int) ≤ n := by have := h3.many; rw [h2.n, h.n] at this; exact this
  by_cases hF : FreeP (meetC x m) m
  · have e := p_Vote_yes x m hm.bd c1 hk hF
    rw [h1] at e
    obtain ⟨rfl, rfl⟩ := Prod.mk.inj (Option.some.inj e)
    obtain ⟨f1, f2, f3, f4⟩ := hF
    have hfr := hm.fine.frm
    refine ⟨fun t v => if t = m.term ∧ v = x.id then m.frm else V t v, ⟨fun t v hne => ?_, fun t v hne => if_neg fun h => hne h.2⟩, ⟨h2.right, hyid.trans h.id, hy.n, by show m.term ≤ k + 1; have := hm.term; omega, ?_, fun t ht => ?_, fun hr => ?_, fun hr => ?_⟩, fun a ha => ?_, hn1⟩
    · by_cases hc : t = m.term ∧ v = x.id
      · rw [if_pos hc]
        rw [hc.1, hc.2, f3, ← hyid, hy.vote] at hne ⊢
        rcases f1 with f1 | f1
        · exact (hne f1).elim
        · exact f1.symm
      · exact if_neg hc
    · show (if m.term = m.term ∧ (meetC x m).id = x.id then m.frm else _) = m.frm
      rw [if_pos ⟨rfl, hyid⟩]
    · have ht : m.term < t := ht
      show (if t = m.term ∧ (meetC x m).id = x.id then m.frm else V t (meetC x m).id) = 0
      rw [if_neg (fun hc => by omega)]
      exact hy.later t (by omega)
    · have hr : (meetC x m).role = 1 := hr
      rw [f2] at hr; cases hr
    · have hr : (meetC x m).role = 2 := hr
      rw [f2] at hr; cases hr
    · obtain ⟨m1, m2, m3, m4⟩ := h3.all a ha
      rw [h2.n, h.n] at m1
      obtain rfl : a = backM (votedC (meetC x m) m) m 2 true 0 := by simpa using ha
      refine ⟨m1, m4, by show m.term ≤ k + 1; have := hm.term; omega, .inr rfl, fun _ _ => ?_⟩
      show (if m.term = m.term ∧ (meetC x m).id = x.id then m.frm else _) = m.frm
      rw [if_pos ⟨rfl, hyid⟩]
  · have e := p_Vote_none x m hm.bd c1 hk hF
    rw [h1] at e
    obtain ⟨rfl, rfl⟩ := Prod.mk.inj (Option.some.inj e)
    refine ⟨V, ExtV.refl V _, hy.more (by omega), fun a ha => ?_, hn1⟩
    obtain ⟨m1, m2, m3, m4⟩ := h3.all a ha
    rw [h2.n, h.n] at m1
    obtain rfl : a = backM (meetC x m) m 2 false 0 := by simpa using ha
    exact ⟨m1, m4, by show (meetC x m).tuple.term ≤ k + 1; have := hy.term; omega, .inr rfl, fun _ h => by cases h⟩
theorem voted_do {V : Int → Int → Int} {n : Nat} {k : Int} {i : Nat} {x : Co} {m : Ms} (h : NodeV V n k i x) (hm : MsgV V n k m) : ∃ o, m_elect_Voted x m = some (o, []) ∧ DoneV V n k i x o [] := by
  obtain ⟨o, h1, h2, h3⟩ := voted_spec x m h.right hm.bd
  refine ⟨o, h1, ?_⟩
  rcases h3 with rfl | ⟨c, h3⟩
  · exact DoneV.same h
  have hy := meet_node h hm.term c
  have hyid : (meetC x m).id = x.id := (meet_f x m).id
  rcases h3 with rfl | ⟨a1, a2, a3, a4, a5, a6, a7, a8⟩
  · exact ⟨V, ExtV.refl V _, hy.more (by omega), (fun _ h => by cases h), by simp⟩
  have hv : ∀ j : Nat, ((meetC x m).votes.set (m.frm - 1).toNat true)[j]? = some true → V (meetC x m).tuple.term ((j : Int) + 1) = x.id := fun j hj => by
    rw [List.getElem?_set] at hj
    by_cases hj1 : (m.frm - 1).toNat = j
    · have hfr := hm.fine.frm
      have hg := hm.given a1 a2
      have e1 : (j : Int) + 1 = m.frm := by omega
      rw [e1, ← a4, hg]
      exact c.1
    · rw [if_neg hj1] at hj
      rw [hy.cand a3 j hj, hyid]
  refine ⟨V, ExtV.refl V _, ⟨h2.right, h2.id.trans h.id, h2.n.trans h.n, by have := hy.term; omega, ?_, fun t ht => ?_, fun hr j hj => ?_, fun hr => ?_⟩, (fun _ h => by cases h), by simp⟩
  · rw [a5, a6, h2.id, ← hyid]
    exact hy.vote
  · rw [h2.id, ← hyid]
    exact hy.later t (by omega)
  · rw [a7 hr] at hj
    rw [a5, h2.id]
    exact hv j hj
  · rw [a5, h2.id]
    exact half_maj (by rw [List.length_set]; exact lvotes hy) (a8 hr) hv
/-! ### The law -/
def leadO (K : List Int → Option Bool) (ld : List Int) (e : Co) : Option Bool :=
  cond (decide (e.role = 2)) (cond (decide (e.tuple.term < 1)) (some false) (cond (decide (50 ≤ e.tuple.term)) (some false) ((idx ld e.tuple.term).bind fun e1 => cond (decide (e1 ≠ 0)) ((idx ld e.tuple.term).bind fun e2 => cond (decide (e2 ≠ e.id)) (some false) ((idx ld e.tuple.term).bind fun _ => K (setI ld e.tuple.term e.id))) ((idx ld e.tuple.term).bind fun _ => K (setI ld e.tuple.term e.id))))) (K ld)
def tailO (K : List Ms → List Int → List Co → Option Bool) (n : Int) (told : List Ms) (ld : List Int) (c : List Co) (at_ : Int) (r : Co × List Ms) : Option Bool :=
  (idx c at_).bind fun _ => cond (decide ((r.2.length : Int) ≤ n)) ((fewI (told ++ r.2)).bind fun l => (idx (setI c at_ r.1) at_).bind fun e => leadO (fun ld' => K l ld' (setI c at_ r.1)) ld e) ((idx (setI c at_ r.1) at_).bind fun e => leadO (fun ld' => K told ld' (setI c at_ r.1)) ld e)
structure InvV (V : Int → Int → Int) (n : Nat) (k : Nat) (c : List Co) (told : List Ms) (ld : List Int) : Prop where
  len : c.length = 5
  node : ∀ (i : Nat) (x : Co), i < n → c[i]? = some x → NodeV V n k i x
  msg : ∀ m ∈ told, MsgV V n k m
  few : told.length ≤ 5 * k
  ldl : ld.length = 50
  ld : ∀ (t : Nat) (e : Int), ld[t]? = some e → e ≠ 0 → MajV V n t e
theorem tail_ok {V : Int → Int → Int} {n k : Nat} {c : List Co} {told : List Ms} {ld : List Int} (hn : n ≤ 5) (hk : k < 40) (hI : InvV V n k c told ld) {i : Nat} {x o : Co} {l : List Ms} (hi : i < n) (hx : c[i]? = some x) (hD : DoneV V n k i x o l) (K : List Ms → List Int → List Co → Option Bool)
    (hK : ∀ V' told' ld' c', InvV V' n (k + 1) c' told' ld' → K told' ld' c' = some true) : tailO K n told ld c (i : Int) (o, l) = some true := by
  obtain ⟨V', he, hno, hms, hln⟩ := hD
  have hil : i < c.length := by rw [hI.len]; omega
  have hxid : x.id = (i : Int) + 1 := (hI.node i x hi hx).id
  have hc' : ∀ (j : Nat) (y : Co), j < n → (c.set i o)[j]? = some y → NodeV V' n ((k : Int) + 1) j y := fun j y hj hy => by
    rw [List.getElem?_set] at hy
    by_cases hij : i = j
    · subst hij
      rw [if_pos rfl, if_pos hil] at hy
      cases hy
      exact hno
    · rw [if_neg hij] at hy
      have := hI.node j y hj hy
      exact this.ext (by omega) he (by rw [this.id, hxid]; omega)
  have hfew : (told ++ l).length ≤ 5 * (k + 1) := by have := hI.few; rw [List.length_append]; omega
  have hbase : ∀ ld', ld'.length = 50 → (∀ (t : Nat) (e : Int), ld'[t]? = some e → e ≠ 0 → MajV V' n t e) → InvV V' n (k + 1) (c.set i o) (told ++ l) ld' := fun ld' h1 h2 => ⟨by rw [List.length_set]; exact hI.len, fun j y hj hy => hc' j y hj hy, fun m hm => by
    rcases List.mem_append.1 hm with hm | hm
    · exact (hI.msg m hm).ext (by omega) he
    · exact hms m hm, hfew, h1, h2⟩
  have hld : ∀ (t : Nat) (e : Int), ld[t]? = some e → e ≠ 0 → MajV V' n t e := fun t e h1 h2 => maj_ext he h2 (hI.ld t e h1 h2)
  have hs : setI c (i : Int) o = c.set i o := setI_nat c i o
  have hg : idx (c.set i o) (i : Int) = some o := by rw [idx_nat, List.getElem?_set_self hil]
  unfold tailO
  rw [idx_nat, hx, Option.bind_some]
  dsimp only
  rw [decide_eq_true hln, cond_true, fewI_ok _ (by omega), Option.bind_some, hs, hg, Option.bind_some]
  unfold leadO
  by_cases hr : o.role = 2
  case neg =>
    rw [decide_eq_false hr, cond_false]
    exact hK _ _ _ _ (hbase ld hI.ldl hld)
  have hmaj := hno.lead hr
  have hlead := hno.right.lead
  have ht : 0 < o.tuple.term ∧ o.tuple.vote = o.id := by
    rcases hlead with h | h
    · rw [hr] at h; cases h
    · exact h
  have htk := hno.term
  have hoid := hno.right.id
  obtain ⟨t, htt⟩ : ∃ t : Nat, o.tuple.term = (t : Int) := ⟨o.tuple.term.toNat, by omega⟩
  obtain ⟨e, he1, _⟩ := drop_step (l := ld) (k := t) (by rw [hI.ldl]; omega)
  have hset : setI ld (t : Int) o.id = ld.set t o.id := setI_nat ld t o.id
  have hfin : K (told ++ l) (ld.set t o.id) (c.set i o) = some true := hK _ _ _ _ (hbase _ (by rw [List.length_set]; exact hI.ldl) fun t2 e2 h1 h2 => by
    rw [List.getElem?_set] at h1
    by_cases htt2 : t = t2
    · subst htt2
      rw [if_pos rfl] at h1
      split at h1
      · cases h1
        rw [← htt]
        exact hmaj
      · cases h1
    · rw [if_neg htt2] at h1
      exact hld t2 e2 h1 h2)
  rw [decide_eq_true hr, cond_true, decide_eq_false (by omega), cond_false, decide_eq_false (by omega), cond_false, htt, idx_nat, he1, Option.bind_some, Option.bind_some, Option.bind_some, hset]
  dsimp only
  rw [hfin]
  by_cases he0 : e = 0
  · rw [decide_eq_false (fun h => h he0), cond_false]
  · have := maj_two (hld t e he1 he0) (by rw [← htt]; exact hmaj)
    rw [decide_eq_true he0, cond_true, decide_eq_false (fun h => h this), cond_false]
theorem and_bits (e : Int) : 0 ≤ bits .and .i64 e 1073741823 ∧ bits .and .i64 e 1073741823 ≤ 1073741823 := by
  have h : ∀ a : BitVec 64, (a &&& 1073741823#64).toNat ≤ 1073741823 := fun a => by
    rw [BitVec.toNat_and]
    exact Nat.and_le_right
  have h1 := h (BitVec.ofInt 64 e)
  have h2 : bits .and .i64 e 1073741823 = IntKind.wrap .i64 (((BitVec.ofInt 64 e) &&& 1073741823#64).toNat : Int) := rfl
  rw [h2, w64i (by omega)]
  omega
theorem one_l2 (n : Nat) (l : List Int) (hn : 1 ≤ n ∧ n ≤ 5) (hl : l.length ≤ 40) : ∀ (q k f : Nat) (v : Bool) (V : Int → Int → Int) (c : List Co) (told : List Ms) (ld : List Int), q + k = l.length → q < f → InvV V n k c told ld → m_law22_ElectOne_l2 n l f v told k ld c = some true := by
  intro q
  induction q with
  | zero =>
    intro k f v V c told ld hk hf hI
    obtain ⟨f, rfl⟩ : ∃ f', f = f' + 1 := ⟨f - 1, by omega⟩
    rw [m_law22_ElectOne_l2, decide_eq_false (show ¬ ((k : Int) < (l.length : Int)) by omega), cond_false, p_wakes22]
    rfl
  | succ q ih =>
    intro k f v V c told ld hk hf hI
    obtain ⟨f, rfl⟩ : ∃ f', f = f' + 1 := ⟨f - 1, by omega⟩
    obtain ⟨e, he, _⟩ := drop_step (show k < l.length by omega)
    have w1 : IntKind.wrap .i64 ((k : Int) + 1) = ((k + 1 : Nat) : Int) := by rw [w64i (by omega)]; omega
    have hzb := and_bits e
    have hlen := hI.len
    have hK : ∀ V' told' ld' c', InvV V' n (k + 1) c' told' ld' → m_law22_ElectOne_l2 n l f v told' ((k + 1 : Nat) : Int) ld' c' = some true := fun V' told' ld' c' h => ih (k + 1) f v V' c' told' ld' (by omega) (by omega) h
    rw [m_law22_ElectOne_l2, decide_eq_true (show ((k : Int) < (l.length : Int)) by omega), cond_true, idx_nat, he, Option.bind_some, w1]
    generalize bits .and .i64 e 1073741823 = z at hzb
    have e1 : Int.tdiv z 2 = z / 2 := Int.tdiv_eq_ediv_of_nonneg hzb.1
    rw [e1, w64i (n := z / 2) (by omega)]
    have hz2 : 0 ≤ z / 2 := by omega
    generalize z / 2 = y at hz2
    have hm1 : Int.tmod y n = y % n := Int.tmod_eq_emod_of_nonneg hz2
    have hm2 := Int.emod_nonneg y (by omega : (n : Int) ≠ 0)
    have hm3 := Int.emod_lt_of_pos y (by omega : (0 : Int) < n)
    obtain ⟨i, hi⟩ : ∃ i : Nat, Int.tmod y n = (i : Int) := ⟨(y % n).toNat, by omega⟩
    have hin : i < n := by omega
    obtain ⟨x, hx, _⟩ := drop_step (l := c) (k := i) (by omega)
    obtain ⟨o, lo, ht1, ht2⟩ := time_do (hI.node i x hin hx)
    have hT := tail_ok hn.2 (by omega) hI hin hx ht2 (fun a b d => m_law22_ElectOne_l2 n l f v a ((k + 1 : Nat) : Int) b d) hK
    have hTT : ((idx c (i : Int)).bind fun e116 => (m_elect_Timeout e116).bind fun r => tailO (fun a b d => m_law22_ElectOne_l2 n l f v a ((k + 1 : Nat) : Int) b d) n told ld c (i : Int) r) = some true := by
      rw [idx_nat, hx, Option.bind_some, ht1, Option.bind_some, hT]
    rw [remI_ok _ _ (by omega), Option.bind_some, hi]
    by_cases hz : Int.tmod z 2 = 0
    · rw [decide_eq_true hz, cond_true]
      exact hTT
    rw [decide_eq_false hz, cond_false]
    rcases Nat.eq_zero_or_pos told.length with h0 | h0
    · rw [decide_eq_true (by omega), cond_true]
      exact hTT
    have hq1 : Int.tmod y told.length = y % told.length := Int.tmod_eq_emod_of_nonneg hz2
    have hq2 := Int.emod_nonneg y (by omega : (told.length : Int) ≠ 0)
    have hq3 := Int.emod_lt_of_pos y (by omega : (0 : Int) < told.length)
    obtain ⟨j, hj⟩ : ∃ j : Nat, Int.tmod y told.length = (j : Int) := ⟨(y % told.length).toNat, by omega⟩
    obtain ⟨m, hm, _⟩ := drop_step (l := told) (k := j) (by omega)
    have hMV := hI.msg m (List.mem_of_getElem? hm)
    have hd := hMV.fine.dst
    obtain ⟨a, ha⟩ : ∃ a : Nat, m.dst - 1 = (a : Int) := ⟨(m.dst - 1).toNat, by omega⟩
    have wd : IntKind.wrap .i64 (m.dst - 1) = (a : Int) := by rw [w64i (by omega)]; exact ha
    have han : a < n := by omega
    obtain ⟨x2, hx2, _⟩ := drop_step (l := c) (k := a) (by omega)
    have hN2 := hI.node a x2 han hx2
    rw [decide_eq_false (by omega), cond_false, remI_ok _ _ (by omega), Option.bind_some, hj, idx_nat, hm, Option.bind_some, wd, decide_eq_false (by omega), decide_eq_false (by omega), Bool.or_self, cond_false]
    by_cases hk1 : m.kind = 1
    · rw [decide_eq_true hk1, cond_true]
      obtain ⟨o2, l2, hv1, hv2⟩ := vote_do hN2 hMV
      have := tail_ok hn.2 (by omega) hI han hx2 hv2 (fun a b d => m_law22_ElectOne_l2 n l f v a ((k + 1 : Nat) : Int) b d) hK
      have hVV : ((idx c (a : Int)).bind fun e449 => (m_elect_Vote e449 m).bind fun r => tailO (fun a b d => m_law22_ElectOne_l2 n l f v a ((k + 1 : Nat) : Int) b d) n told ld c (a : Int) r) = some true := by
        rw [idx_nat, hx2, Option.bind_some, hv1, Option.bind_some, this]
      exact hVV
    · rw [decide_eq_false hk1, cond_false]
      obtain ⟨o2, hv1, hv2⟩ := voted_do hN2 hMV
      have := tail_ok hn.2 (by omega) hI han hx2 hv2 (fun a b d => m_law22_ElectOne_l2 n l f v a ((k + 1 : Nat) : Int) b d) hK
      have hVV : ((idx c (a : Int)).bind fun e449 => (m_elect_Voted e449 m).bind fun r => tailO (fun a b d => m_law22_ElectOne_l2 n l f v a ((k + 1 : Nat) : Int) b d) n told ld c (a : Int) r) = some true := by
        rw [idx_nat, hx2, Option.bind_some, hv1, Option.bind_some, this]
      exact hVV
def firstT : Tu := ⟨⟨0, 0, 0, 1, false⟩, [], 0, 0⟩
theorem first_tup : tupB firstT = true := by decide
theorem new_node (n i : Nat) (hn : 1 ≤ n ∧ n ≤ 5) (hi : i < n) : NodeV (fun _ _ => 0) n 0 i (newS ((i : Int) + 1) n 1 firstT) := by
  refine ⟨newS_right _ _ _ _ first_tup (by omega) (by omega) (by decide), rfl, rfl, Int.le_refl 0, rfl, (fun _ _ => rfl), (fun h => by cases h), (fun h => by cases h)⟩
theorem one_l1 (n : Nat) (l : List Int) (hn : 1 ≤ n ∧ n ≤ 5) (hl : l.length ≤ 40) : ∀ (q k f : Nat) (c : List Co), q + k = n → q < f → c.length = 5 → (∀ (i : Nat) (x : Co), i < k → c[i]? = some x → NodeV (fun _ _ => 0) n 0 i x) → m_law22_ElectOne_l1 n l f k c = some true := by
  intro q
  induction q with
  | zero =>
    intro k f c hk hf hc hI
    obtain ⟨f, rfl⟩ : ∃ f', f = f' + 1 := ⟨f - 1, by omega⟩
    rw [m_law22_ElectOne_l1, decide_eq_false (show ¬ ((k : Int) < (n : Int)) by omega), cond_false]
    have : InvV (fun _ _ => 0) n 0 c [] (List.replicate 50 (0 : Int)) := ⟨hc, fun i x hi hx => hI i x (by omega) hx, (fun _ h => by cases h), Nat.zero_le _, List.length_replicate .., fun t e h1 h2 => by
      rw [List.getElem?_replicate] at h1
      split at h1
      · cases h1; exact (h2 rfl).elim
      · cases h1⟩
    exact one_l2 n l hn hl l.length 0 fuelN false _ c [] _ (by omega) (by unfold fuelN; omega) this
  | succ q ih =>
    intro k f c hk hf hc hI
    obtain ⟨f, rfl⟩ : ∃ f', f = f' + 1 := ⟨f - 1, by omega⟩
    have w1 : IntKind.wrap .i64 ((k : Int) + 1) = ((k + 1 : Nat) : Int) := by rw [w64i (by omega)]; omega
    have hF : m_ref12_First = some firstT := rfl
    have hN := p_New20 ((k : Int) + 1) n 1 firstT (by unfold bdT firstT; decide) (by omega) (by omega)
    obtain ⟨x, hx, _⟩ := drop_step (l := c) (k := k) (by omega)
    rw [m_law22_ElectOne_l1, decide_eq_true (show ((k : Int) < (n : Int)) by omega), cond_true, hF, Option.bind_some, w1, show (((k + 1 : Nat) : Int)) = (k : Int) + 1 by omega, hN, Option.bind_some, idx_nat, hx, Option.bind_some, setI_nat, show (k : Int) + 1 = ((k + 1 : Nat) : Int) by omega]
    refine ih (k + 1) f _ (by omega) (by omega) (by rw [List.length_set]; exact hc) fun i y hi hy => ?_
    rw [List.getElem?_set] at hy
    by_cases hik : k = i
    · subst hik
      rw [if_pos rfl, if_pos (by omega)] at hy
      cases hy
      exact new_node n k hn (by omega)
    · rw [if_neg hik] at hy
      exact hI i y (by omega) hy
theorem p_ElectOne (n : Int) (l : List Int) : m_law22_ElectOne n l = some true := by
  unfold m_law22_ElectOne
  by_cases h1 : n < 1
  · rw [decide_eq_true h1, cond_true, p_wakes22]; rfl
  rw [decide_eq_false h1, cond_false]
  by_cases h2 : 5 < n
  · rw [decide_eq_true h2, cond_true, p_wakes22]; rfl
  rw [decide_eq_false h2, cond_false]
  by_cases h3 : (40 : Int) < (l.length : Int)
  · rw [decide_eq_true h3, cond_true, p_wakes22]; rfl
  rw [decide_eq_false h3, cond_false]
  obtain ⟨N, rfl⟩ : ∃ N : Nat, n = (N : Int) := ⟨n.toNat, by omega⟩
  exact one_l1 N l (by omega) (by omega) N 0 fuelN _ (by omega) (by unfold fuelN; omega) (List.length_replicate ..) fun i x hi _ => by omega
end Go.Proofs.Ytamjlcaoieliaaa
