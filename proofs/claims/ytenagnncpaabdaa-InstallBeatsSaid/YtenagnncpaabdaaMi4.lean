/- Texts of one claim put together. -/
import Derived.Test.YtenagnncpaabdaaMi1
import Derived.Test.YtenagnncpaabdaaMi2
import Derived.Test.YtenagnncpaabdaaMi3
import Derived.Test.YtenagnncpaabdaaMi0
namespace Go.Proofs.Ytenagnncpaabdaa
open Go Go.RowKit
set_option maxRecDepth 100000
set_option maxHeartbeats 4000000
theorem Zbr (x0 : Co) (x1 : Ms) (A0_ : Option Addr) (c0_ : Nat) (A1_ : Option Addr) (c1_ : Nat) (A2_ : Option Addr) (c2_ : Nat) (A3_ : Option Addr) (c3_ : Nat) (A4_ : Option Addr) (c4_ : Nat) (A5_ : Option Addr) (c5_ : Nat) (w0 : World) (s0_ : SlI w0 Jv A0_ c0_ x0.tuple.log) (s1_ : SlI w0 enO A1_ c1_ x0.votes) (s2_ : SlI w0 Vu A2_ c2_ x0.next) (s3_ : SlI w0 Vu A3_ c3_ x0.mtch) (s4_ : SlI w0 Vu A4_ c4_ x0.caps) (s5_ : SlI w0 Jv A5_ c5_ x1.entries) {r : Co × List Ms} (H : X3 x0 x1 = some r) : Calls Try.prog 10 #[.agg #[.int .i64 x0.id, .int .i64 x0.n, .int .u8 x0.role, .int .i64 x0.binary, .int .i64 x0.tuple.snap.index, .int .i64 x0.tuple.snap.term, .int .i64 x0.tuple.snap.sum, .int .i64 x0.tuple.snap.level, .bool x0.tuple.snap.final, .slice A0_ x0.tuple.log.length c0_, .int .i64 x0.tuple.term, .int .i64 x0.tuple.vote, .int .i64 x0.commit, .int .i64 x0.applied.index, .int .i64 x0.applied.term, .int .i64 x0.applied.sum, .int .i64 x0.applied.level, .bool x0.applied.final, .slice A1_ x0.votes.length c1_, .slice A2_ x0.next.length c2_, .slice A3_ x0.mtch.length c3_, .slice A4_ x0.caps.length c4_], .agg #[.int .u8 x1.kind, .int .i64 x1.frm, .int .i64 x1.dst, .int .i64 x1.term, .int .i64 x1.cap, .int .i64 x1.last, .int .i64 x1.lastTerm, .int .i64 x1.commit, .bool x1.okk, .slice A5_ x1.entries.length c5_, .int .i64 x1.snap.index, .int .i64 x1.snap.term, .int .i64 x1.snap.sum, .int .i64 x1.snap.level, .bool x1.snap.final]] w0 fun e w' => ∃ (A0 : Option Addr) (c0 : Nat) (A1 : Option Addr) (c1 : Nat) (A2 : Option Addr) (c2 : Nat) (A3 : Option Addr) (c3 : Nat) (A4 : Option Addr) (c4 : Nat) (A5 : Option Addr) (c5 : Nat) (q5 : List Mq), e = .returned (.tuple #[.agg #[.int .i64 r.1.id, .int .i64 r.1.n, .int .u8 r.1.role, .int .i64 r.1.binary, .int .i64 r.1.tuple.snap.index, .int .i64 r.1.tuple.snap.term, .int .i64 r.1.tuple.snap.sum, .int .i64 r.1.tuple.snap.level, .bool r.1.tuple.snap.final, .slice A0 r.1.tuple.log.length c0, .int .i64 r.1.tuple.term, .int .i64 r.1.tuple.vote, .int .i64 r.1.commit, .int .i64 r.1.applied.index, .int .i64 r.1.applied.term, .int .i64 r.1.applied.sum, .int .i64 r.1.applied.level, .bool r.1.applied.final, .slice A1 r.1.votes.length c1, .slice A2 r.1.next.length c2, .slice A3 r.1.mtch.length c3, .slice A4 r.1.caps.length c4], .slice A5 r.2.length c5]) ∧ (r.1.tuple.log.length ≤ c0 ∧ c0 ≤ maxLen) ∧ (r.1.votes.length ≤ c1 ∧ c1 ≤ maxLen) ∧ (r.1.next.length ≤ c2 ∧ c2 ≤ maxLen) ∧ (r.1.mtch.length ≤ c3 ∧ c3 ≤ maxLen) ∧ (r.1.caps.length ≤ c4 ∧ c4 ≤ maxLen) ∧ (r.2.length ≤ c5 ∧ c5 ≤ maxLen) ∧ q5.map Mq.m = r.2 ∧ (∀ y ∈ q5, okQ y) ∧ St0 All w0 w' [.rd A0 (Ym Jv r.1.tuple.log), .row (.slice A1 r.1.votes.length c1) 4 1 r.1.votes.length (Ym enO r.1.votes), .row (.slice A2 r.1.next.length c2) 3 1 r.1.next.length (Ym Vu r.1.next), .row (.slice A3 r.1.mtch.length c3) 3 1 r.1.mtch.length (Ym Vu r.1.mtch), .row (.slice A4 r.1.caps.length c4) 3 1 r.1.caps.length (Ym Vu r.1.caps), .rd A5 (Ym enQ q5), .rds (q5.map subQ)] := by
 unfold X3 at H
 refine Yw Try.func10 rfl Try.ntmps10 rfl ?_
 have hS := St0.start All w0
 refine Zd (fun K hK1 => ?_)
 refine Zf ?_
 refine Z9 rfl rfl rfl CellsOf.agg hS (fun b2 w hS hB => ?_)
 refine Z9 rfl rfl rfl CellsOf.agg hS (fun b4 w hS hB => ?_)
 refine Z6 rfl rfl Zc0 hS (fun b6 w hS hB => ?_)
 refine Zb 1 rfl ?_
 refine Zg ?_
 refine Zc hK1 ?_
 refine wpC_scope1 0 rfl ?_
 refine Zd (fun K hK8 => ?_)
 refine Zf ?_
 refine Z6 rfl rfl zc_26 hS (fun b9 w hS hB => ?_)
 refine Zg ?_
 refine Zc hK8 ?_
 refine Zd (fun K hK11 => ?_)
 refine Zf ?_
 refine Zb 1 rfl ?_
 refine Zg ?_
 refine Zc hK11 ?_
 refine Zd (fun K hK12 => ?_)
 refine Zd (fun K hK13 => ?_)
 refine Zf ?_
 refine Za rfl rfl rfl (Zj Yp rfl (RW.here _) hS hs3 trivial Yb) ?_
 refine Za rfl rfl rfl (Zj X7 rfl (RW.here _) hS Vh trivial Xj) ?_
 obtain ⟨r14, hm15, H⟩ := bind_some H
 refine Zr rfl rfl rfl rfl (by kernel_rfl) rfl (c_advert_To x0 x1 A0_ c0_ A1_ c1_ A2_ c2_ A3_ c3_ A4_ c4_ A5_ c5_ _ (SlI.of_rd s0_.k (hS.rd0 s0_.rd) (hS.blk0 s0_.blk)) (SlI.of_rd s1_.k (hS.rd0 s1_.rd) (hS.blk0 s1_.blk)) (SlI.of_rd s2_.k (hS.rd0 s2_.rd) (hS.blk0 s2_.blk)) (SlI.of_rd s3_.k (hS.rd0 s3_.rd) (hS.blk0 s3_.blk)) (SlI.of_rd s4_.k (hS.rd0 s4_.rd) (hS.blk0 s4_.blk)) (SlI.of_rd s5_.k (hS.rd0 s5_.rd) (hS.blk0 s5_.blk)) hm15) ?_
 rintro e w ⟨rfl, hN⟩; refine ⟨_, rfl, ?_⟩; have hB := hN.pure; have hS := hS.join hN; clear hN
 refine Za rfl rfl rfl (Yt rfl) ?_
 refine Zb 1 rfl ?_
 refine Zt 13 rfl (fun hb => ?_) (fun hb => ?_)
 ·replace H := Zq H hb
  refine Zb 4 rfl ?_
  refine Zg ?_
  refine Zc hK13 ?_
  refine Zs rfl rfl ?_
  refine Zd (fun K hK16 => ?_)
  refine Zf ?_
  refine Za rfl rfl rfl (Zj Yp rfl (RW.here _) hS hs3 trivial Yb) ?_
  obtain ⟨r17, hm18, H⟩ := bind_some H
  refine Zr rfl rfl rfl rfl (by kernel_rfl) rfl (Zeo x0 A0_ c0_ A1_ c1_ A2_ c2_ A3_ c3_ A4_ c4_ _ (SlI.of_rd s0_.k (hS.rd0 s0_.rd) (hS.blk0 s0_.blk)) (SlI.of_rd s1_.k (hS.rd0 s1_.rd) (hS.blk0 s1_.blk)) (SlI.of_rd s2_.k (hS.rd0 s2_.rd) (hS.blk0 s2_.blk)) (SlI.of_rd s3_.k (hS.rd0 s3_.rd) (hS.blk0 s3_.blk)) (SlI.of_rd s4_.k (hS.rd0 s4_.rd) (hS.blk0 s4_.blk)) hm18) ?_
  rintro e w ⟨A19, c20, A23, c24, A27, c28, A31, c32, A35, c36, rfl, k21, k25, k29, k33, k37, hN⟩; refine ⟨_, rfl, ?_⟩; have hB := hN.pure; have hS := hS.join hN; clear hN
  refine Zo rfl rfl rfl CellsOf.agg hS ps6 Xq (by kernel_rfl) rfl (fun w hS hB => ?_)
  refine Zb 1 rfl ?_
  refine Zg ?_
  refine Zc hK16 ?_
  refine Zk ?_
  refine Zi ?_
  refine Yd ?_
  refine Zl rfl (RV.cell rfl (Z3 Yp hS hs6 Yb) (RV.tmp rfl RV.nil)) rfl ?_
  obtain rfl := Option.some.inj H
  have hS := hS.nilRds
  replace hS := hS.nilRd
  have hS := hS.front 6 rfl
  have hS := hS.front 6 rfl
  have hS := hS.front 6 rfl
  have hS := hS.front 6 rfl
  have hS := hS.front 6 rfl
  replace hS := hS.weak Weak.rowRd
  replace hS := hS.cut 7
  exact ⟨A19, c20, A23, c24, A27, c28, A31, c32, A35, c36, none, 0, ([] : List Mq), rfl, k21, k25, k29, k33, k37, ⟨Nat.le_refl _, Nat.zero_le _⟩, rfl, Ze7, hS⟩
 replace H := Zp H hb
 refine Za rfl rfl rfl (Ze Vf rfl) ?_
 refine Za rfl rfl rfl (Zh Zai rfl (RW.here _) hS Vh trivial Y2) ?_
 refine Za rfl rfl rfl (Xk rfl rfl) ?_
 refine Zb 1 rfl ?_
 refine Zg ?_
 refine Zc hK13 ?_
 refine Z0 rfl (fun hb => ?_) (fun hb => ?_)
 ·replace H := Zq H hb
  refine Zd (fun K hK39 => ?_)
  refine Zf ?_
  refine Za rfl rfl rfl (Zj Yp rfl (RW.here _) hS hs3 trivial Yb) ?_
  obtain ⟨r40, hm41, H⟩ := bind_some H
  refine Zr rfl rfl rfl rfl (by kernel_rfl) rfl (Zeo x0 A0_ c0_ A1_ c1_ A2_ c2_ A3_ c3_ A4_ c4_ _ (SlI.of_rd s0_.k (hS.rd0 s0_.rd) (hS.blk0 s0_.blk)) (SlI.of_rd s1_.k (hS.rd0 s1_.rd) (hS.blk0 s1_.blk)) (SlI.of_rd s2_.k (hS.rd0 s2_.rd) (hS.blk0 s2_.blk)) (SlI.of_rd s3_.k (hS.rd0 s3_.rd) (hS.blk0 s3_.blk)) (SlI.of_rd s4_.k (hS.rd0 s4_.rd) (hS.blk0 s4_.blk)) hm41) ?_
  rintro e w ⟨A42, c43, A46, c47, A50, c51, A54, c55, A58, c59, rfl, k44, k48, k52, k56, k60, hN⟩; refine ⟨_, rfl, ?_⟩; have hB := hN.pure; have hS := hS.join hN; clear hN
  refine Zo rfl rfl rfl CellsOf.agg hS ps6 Xq (by kernel_rfl) rfl (fun w hS hB => ?_)
  refine Zb 1 rfl ?_
  refine Zg ?_
  refine Zc hK39 ?_
  refine Zk ?_
  refine Zi ?_
  refine Yd ?_
  refine Zl rfl (RV.cell rfl (Z3 Yp hS hs6 Yb) (RV.tmp rfl RV.nil)) rfl ?_
  obtain rfl := Option.some.inj H
  have hS := hS.nilRds
  replace hS := hS.nilRd
  have hS := hS.front 6 rfl
  have hS := hS.front 6 rfl
  have hS := hS.front 6 rfl
  have hS := hS.front 6 rfl
  have hS := hS.front 6 rfl
  replace hS := hS.weak Weak.rowRd
  replace hS := hS.cut 7
  exact ⟨A42, c43, A46, c47, A50, c51, A54, c55, A58, c59, none, 0, ([] : List Mq), rfl, k44, k48, k52, k56, k60, ⟨Nat.le_refl _, Nat.zero_le _⟩, rfl, Ze7, hS⟩
 replace H := Zp H hb
 refine Zu ?_
 refine Zc hK12 ?_
 refine Zd (fun K hK62 => ?_)
 refine Zf ?_
 refine Za rfl rfl rfl (Zj Yp rfl (RW.here _) hS hs3 trivial Yb) ?_
 refine Za rfl rfl rfl (Zj X7 rfl (RW.here _) hS Vh trivial Xj) ?_
 obtain ⟨r63, hm64, H⟩ := bind_some H
 refine Zr rfl rfl rfl rfl (by kernel_rfl) rfl (c_elect_Meet x0 x1 A0_ c0_ A1_ c1_ A2_ c2_ A3_ c3_ A4_ c4_ A5_ c5_ _ (SlI.of_rd s0_.k (hS.rd0 s0_.rd) (hS.blk0 s0_.blk)) (SlI.of_rd s1_.k (hS.rd0 s1_.rd) (hS.blk0 s1_.blk)) (SlI.of_rd s2_.k (hS.rd0 s2_.rd) (hS.blk0 s2_.blk)) (SlI.of_rd s3_.k (hS.rd0 s3_.rd) (hS.blk0 s3_.blk)) (SlI.of_rd s4_.k (hS.rd0 s4_.rd) (hS.blk0 s4_.blk)) (SlI.of_rd s5_.k (hS.rd0 s5_.rd) (hS.blk0 s5_.blk)) hm64) ?_
 rintro e w ⟨A65, c66, A69, c70, A73, c74, A77, c78, A81, c82, rfl, k67, k71, k75, k79, k83, hN⟩; refine ⟨_, rfl, ?_⟩; have hB := hN.pure; have hS := hS.join hN; clear hN
 refine Zo rfl rfl rfl CellsOf.agg hS ps8 Xq (by kernel_rfl) rfl (fun w hS hB => ?_)
 refine Zg ?_
 refine Zc hK62 ?_
 refine Zd (fun K hK85 => ?_)
 refine Zf ?_
 refine Za rfl rfl rfl (X9 rfl rfl) ?_
 refine Zb 1 rfl ?_
 refine Zg ?_
 refine Zc hK85 ?_
 refine Zd (fun K hK86 => ?_)
 refine Zd (fun K hK87 => ?_)
 refine Zf ?_
 refine Za rfl rfl rfl (Ze Za8 rfl) ?_
 refine Za rfl rfl rfl (Zh Zx rfl (RW.here _) hS hs7 trivial Zag) ?_
 refine Za rfl rfl rfl (Ze Yu rfl) ?_
 refine Za rfl rfl rfl (Ze Xs rfl) ?_
 refine Za rfl rfl rfl (Zh Zx rfl (RW.here _) hS hs8 trivial V0) ?_
 refine Za rfl rfl rfl (Xv rfl rfl) ?_
 refine Zg ?_
 refine Zc hK87 ?_
 refine Z0 rfl (fun hb => ?_) (fun hb => ?_)
 ·replace H := Zq H hb
  refine Vv ?_
  refine Xr ?_
  refine Jr ?_
  refine Zd (fun K hK88 => ?_)
  refine Zu ?_
  refine Zc hK88 ?_
  refine Zd (fun K hK89 => ?_)
  refine Yo 8 [6] (fun i b => (i = 6 → b ≠ b6)) ⟨by kernel_rfl, by kernel_rfl⟩ hS (fun w hS hB => ?_)
  refine Zm [true] (by decide +kernel) (by repeat (first | exact PF.body | exact PF.round | apply PF.then | apply PF.inBlock | apply PF.jump)) ?_
  refine LtK.put rfl rfl rfl (Zj Yp rfl (RW.below _) hS hs8 trivial Yb) ?_
  refine LtK.nil ?_
  refine Xz [false, true, true, true] [6] (fun b => b ≠ b6) (by decide +kernel) (by intro j hj b hb; simp only [List.mem_cons, List.not_mem_nil, or_false] at hj; (try rcases hj with rfl | rfl | rfl | rfl | rfl) <;> simp_all) (by repeat (first | exact PF.body | exact PF.round | apply PF.then | apply PF.inBlock | apply PF.jump)) ?_
  refine LtK.put rfl rfl rfl (Zn rfl) ?_
  refine LtK.put rfl rfl rfl (Ze Yu rfl) ?_
  refine LtK.put rfl rfl rfl (Zj Xg rfl (RW.keepB _ _) hS hs8 (hS.ne 8 6 rfl rfl rfl) Zbl) ?_
  refine LtK.nil ?_
  refine Z7 [false, false, false, false, true] 4 ⟨by decide, by kernel_rfl, by kernel_rfl⟩ rfl rfl ?_
  try dsimp only [Z2]
  obtain ⟨r90, hm91, H⟩ := bind_some H
  refine Zr rfl rfl rfl rfl (by kernel_rfl) rfl (Zdh r63.tuple A65 c66 _ (SlI.of_rd k67 (hS.rd hs0) (hS.rd_blk hs0)) hm91) ?_
  rintro e w ⟨rfl, hN⟩; refine ⟨_, rfl, ?_⟩; have hB := hN.pure; have hS := hS.join hN; clear hN
  refine Zg ?_
  refine Yf hB ?_
  refine Z7 [false, false, false, false, false, true] 5 ⟨by decide, by kernel_rfl, by kernel_rfl⟩ rfl rfl ?_
  try dsimp only [Z2]
  have hO92 := hS
  rename World => wS93
  have hS := St0.start All wS93
  refine Zbi rfl rfl rfl rfl (by kernel_rfl) rfl ?_
  show Calls _ _ #[_, _, _, _] _ _
  refine Zd2 Try.func30 rfl Try.ntmps30 rfl ?_
  refine Zd (fun K hK94 => ?_)
  refine Zf ?_
  refine Zb 1 rfl ?_
  refine Zg ?_
  refine Zc hK94 ?_
  refine Zd (fun K hK95 => ?_)
  refine Zf ?_
  refine Za rfl rfl rfl (Zj Yp rfl (RW.here _) (hO92.join hS) hs8 trivial Yb) ?_
  refine Za rfl rfl rfl (Zj X7 rfl (RW.here _) (hO92.join hS) hs7 trivial Xj) ?_
  refine Zb 2 rfl ?_
  obtain ⟨r96, hm97, H⟩ := bind_some H
  refine Zr rfl rfl rfl rfl (by kernel_rfl) rfl (c_msg_Back r63 x1 4 false r90 A65 c66 A69 c70 A73 c74 A77 c78 A81 c82 A5_ c5_ _ (SlI.of_rd k67 ((hO92.join hS).rd hs0) ((hO92.join hS).rd_blk hs0)) (SlI.of_rd k71 ((hO92.join hS).row_rd Xt) ((hO92.join hS).row_blk Xt)) (SlI.of_rd k75 ((hO92.join hS).row_rd Vh) ((hO92.join hS).row_blk Vh)) (SlI.of_rd k79 ((hO92.join hS).row_rd hs3) ((hO92.join hS).row_blk hs3)) (SlI.of_rd k83 ((hO92.join hS).row_rd hs4) ((hO92.join hS).row_blk hs4)) (SlI.of_rd s5_.k ((hO92.join hS).rd0 s5_.rd) ((hO92.join hS).blk0 s5_.blk)) hm97) ?_
  rintro e w ⟨A98, c99, rfl, k100, hN⟩; refine ⟨_, rfl, ?_⟩; have hB := hN.pure; have hS := hS.join hN; clear hN
  refine Vq (ps := [(0, .tmp 11)]) [.int .u8 r96.kind, .int .i64 r96.frm, .int .i64 r96.dst, .int .i64 r96.term, .int .i64 r96.cap, .int .i64 r96.last, .int .i64 r96.lastTerm, .int .i64 r96.commit, .bool r96.okk, .slice A98 r96.entries.length c99, .int .i64 r96.snap.index, .int .i64 r96.snap.term, .int .i64 r96.snap.sum, .int .i64 r96.snap.level, .bool r96.snap.final] Zam Zfy rfl rfl rfl rfl rfl (by kernel_rfl) hS (fun b102 w hS hB => ?_)
  refine Zb 1 rfl ?_
  refine Zg ?_
  refine Zc hK95 ?_
  refine Zk ?_
  refine Zl rfl (RV.tmp rfl RV.nil) rfl ?_
  refine ⟨_, rfl, ?_⟩
  have hB := hS.pure
  have hS := hO92.join hS
  dsimp only [List.cons_append, List.nil_append] at hS
  refine Zg ?_
  refine Yf hB ?_
  refine Xh [false, false, false, false, false, false, true] 6 ⟨by decide, by kernel_rfl, by kernel_rfl⟩ rfl rfl ?_
  try dsimp only [Z2]
  refine Zo rfl rfl rfl CellsOf.agg hS ps8 Xq (by kernel_rfl) rfl (fun w hS hB => ?_)
  refine Zg ?_
  refine Xc (hB.sub (fun _ _ h => by simpa using h)) ?_
  refine Zm [false, false, false, false, false, false, false, true] (by decide +kernel) (by repeat (first | exact PF.body | exact PF.round | apply PF.then | apply PF.inBlock | apply PF.jump)) ?_
  refine LtK.put rfl rfl rfl (Z4 rfl) ?_
  refine LtK.nil ?_
  refine Z8 (by kernel_rfl) ?_
  refine Zc hK89 ?_
  refine Zk ?_
  refine Yd ?_
  refine Zl rfl (RV.cell rfl (Z3 Yp hS hs8 Yb) (RV.tmp rfl RV.nil)) rfl ?_
  obtain rfl := Option.some.inj H
  have hS := hS.nilRds
  replace hS := hS.front 2 rfl
  replace hS := hS.absorbQ ⟨r96, A98, c99⟩
  replace hS := hS.front 1 rfl
  replace hS := hS.weak Weak.boxRd
  have hS := hS.front 6 rfl
  have hS := hS.front 6 rfl
  have hS := hS.front 6 rfl
  have hS := hS.front 6 rfl
  have hS := hS.front 6 rfl
  replace hS := hS.cut 7
  exact ⟨A65, c66, A69, c70, A73, c74, A77, c78, A81, c82, (some ⟨b102, 0, none⟩), 1, ([⟨r96, A98, c99⟩] : List Mq), rfl, k67, k71, k75, k79, k83, ⟨Nat.le_refl 1, by decide⟩, rfl, (okq_cons k100 Ze7), hS⟩
 replace H := Zp H hb
 refine Zu ?_
 refine Zc hK86 ?_
 refine Zd (fun K hK104 => ?_)
 refine Zd (fun K hK105 => ?_)
 refine Zf ?_
 refine Za rfl rfl rfl (Ze J6 rfl) ?_
 refine Za rfl rfl rfl (Zh Zai rfl (RW.here _) hS hs8 trivial J9) ?_
 refine Za rfl rfl rfl (Yy rfl rfl) ?_
 refine Zg ?_
 refine Zc hK105 ?_
 refine Z0 rfl (fun hb => ?_) (fun hb => ?_)
 ·replace H := Zq H hb
  refine Zd (fun K hK106 => ?_)
  refine Zf ?_
  refine Za rfl rfl rfl (Zj Yp rfl (RW.here _) hS hs8 trivial Yb) ?_
  refine Zo rfl rfl rfl CellsOf.agg hS ps6 Xq (by kernel_rfl) rfl (fun w hS hB => ?_)
  refine Zb 1 rfl ?_
  refine Zg ?_
  refine Zc hK106 ?_
  refine Zk ?_
  refine Zi ?_
  refine Yd ?_
  refine Zl rfl (RV.cell rfl (Z3 Yp hS hs6 Yb) (RV.tmp rfl RV.nil)) rfl ?_
  obtain rfl := Option.some.inj H
  have hS := hS.nilRds
  replace hS := hS.nilRd
  have hS := hS.front 6 rfl
  have hS := hS.front 6 rfl
  have hS := hS.front 6 rfl
  have hS := hS.front 6 rfl
  have hS := hS.front 6 rfl
  replace hS := hS.cut 7
  exact ⟨A65, c66, A69, c70, A73, c74, A77, c78, A81, c82, none, 0, ([] : List Mq), rfl, k67, k71, k75, k79, k83, ⟨Nat.le_refl _, Nat.zero_le _⟩, rfl, Ze7, hS⟩
 replace H := Zp H hb
 refine Zu ?_
 refine Zc hK104 ?_
 refine Zd (fun K hK107 => ?_)
 refine Zd (fun K hK108 => ?_)
 refine Zf ?_
 refine Za rfl rfl rfl (Ze J6 rfl) ?_
 refine Zo rfl rfl rfl CellsOf.int hS ps8 st2_1 (by kernel_rfl) rfl (fun w hS hB => ?_)
 refine Zg ?_
 refine Zc hK108 ?_
 refine Zd (fun K hK109 => ?_)
 refine Zf ?_
 refine Za rfl rfl rfl (Ze Y3 rfl) ?_
 refine Za rfl rfl rfl (Ze Z5 rfl) ?_
 refine Za rfl rfl rfl (Zh Zx rfl (RW.here _) hS hs7 trivial V0) ?_
 refine Za rfl rfl rfl (Ze Zah rfl) ?_
 refine Za rfl rfl rfl (Zh Zx rfl (RW.here _) hS hs8 trivial Zbs) ?_
 refine Za rfl rfl rfl (Za1 rfl rfl) ?_
 refine Zg ?_
 refine Zc hK109 ?_
 refine Z0 rfl (fun hb => ?_) (fun hb => ?_)
 ·replace H := Zq H hb
  refine Zd (fun K hK110 => ?_)
  refine Yo 7 [5] (fun i b => (i = 5 → b ≠ b6)) ⟨by kernel_rfl, by kernel_rfl⟩ hS (fun w hS hB => ?_)
  refine Zm [true] (by decide +kernel) (by repeat (first | exact PF.body | exact PF.round | apply PF.then | apply PF.inBlock | apply PF.jump)) ?_
  refine LtK.put rfl rfl rfl (Zj Yp rfl (RW.below _) hS hs8 trivial Yb) ?_
  refine LtK.nil ?_
  refine Xz [false, true, true, true] [5] (fun b => b ≠ b6) (by decide +kernel) (by intro j hj b hb; simp only [List.mem_cons, List.not_mem_nil, or_false] at hj; (try rcases hj with rfl | rfl | rfl | rfl | rfl) <;> simp_all) (by repeat (first | exact PF.body | exact PF.round | apply PF.then | apply PF.inBlock | apply PF.jump)) ?_
  refine LtK.put rfl rfl rfl (Zn rfl) ?_
  refine LtK.put rfl rfl rfl (Ze Zah rfl) ?_
  refine LtK.put rfl rfl rfl (Zh Zx rfl (RW.keepB _ _) hS hs8 (hS.ne 8 6 rfl rfl rfl) Zbs) ?_
  refine LtK.nil ?_
  refine Z7 [false, false, false, false, true] 4 ⟨by decide, by kernel_rfl, by kernel_rfl⟩ rfl rfl ?_
  try dsimp only [Z2]
  have hO111 := hS
  rename World => wS112
  have hS := St0.start All wS112
  refine Zbi rfl rfl rfl rfl (by kernel_rfl) rfl ?_
  show Calls _ _ #[_, _, _, _] _ _
  refine Zd2 Try.func30 rfl Try.ntmps30 rfl ?_
  refine Zd (fun K hK113 => ?_)
  refine Zf ?_
  refine Zb 1 rfl ?_
  refine Zg ?_
  refine Zc hK113 ?_
  refine Zd (fun K hK114 => ?_)
  refine Zf ?_
  refine Za rfl rfl rfl (Zj Yp rfl (RW.here _) (hO111.join hS) hs8 trivial Yb) ?_
  refine Za rfl rfl rfl (Zj X7 rfl (RW.here _) (hO111.join hS) hs7 trivial Xj) ?_
  refine Zb 2 rfl ?_
  obtain ⟨r115, hm116, H⟩ := bind_some H
  refine Zr rfl rfl rfl rfl (by kernel_rfl) rfl (c_msg_Back (⟨r63.id, r63.n, 0, r63.binary, r63.tuple, r63.commit, r63.applied, r63.votes, r63.next, r63.mtch, r63.caps⟩ : Co) x1 4 true r63.commit A65 c66 A69 c70 A73 c74 A77 c78 A81 c82 A5_ c5_ _ (SlI.of_rd k67 ((hO111.join hS).rd hs0) ((hO111.join hS).rd_blk hs0)) (SlI.of_rd k71 ((hO111.join hS).row_rd Xt) ((hO111.join hS).row_blk Xt)) (SlI.of_rd k75 ((hO111.join hS).row_rd Vh) ((hO111.join hS).row_blk Vh)) (SlI.of_rd k79 ((hO111.join hS).row_rd hs3) ((hO111.join hS).row_blk hs3)) (SlI.of_rd k83 ((hO111.join hS).row_rd hs4) ((hO111.join hS).row_blk hs4)) (SlI.of_rd s5_.k ((hO111.join hS).rd0 s5_.rd) ((hO111.join hS).blk0 s5_.blk)) hm116) ?_
  rintro e w ⟨A117, c118, rfl, k119, hN⟩; refine ⟨_, rfl, ?_⟩; have hB := hN.pure; have hS := hS.join hN; clear hN
  refine Vq (ps := [(0, .tmp 11)]) [.int .u8 r115.kind, .int .i64 r115.frm, .int .i64 r115.dst, .int .i64 r115.term, .int .i64 r115.cap, .int .i64 r115.last, .int .i64 r115.lastTerm, .int .i64 r115.commit, .bool r115.okk, .slice A117 r115.entries.length c118, .int .i64 r115.snap.index, .int .i64 r115.snap.term, .int .i64 r115.snap.sum, .int .i64 r115.snap.level, .bool r115.snap.final] Zam Zfy rfl rfl rfl rfl rfl (by kernel_rfl) hS (fun b121 w hS hB => ?_)
  refine Zb 1 rfl ?_
  refine Zg ?_
  refine Zc hK114 ?_
  refine Zk ?_
  refine Zl rfl (RV.tmp rfl RV.nil) rfl ?_
  refine ⟨_, rfl, ?_⟩
  have hB := hS.pure
  have hS := hO111.join hS
  dsimp only [List.cons_append, List.nil_append] at hS
  refine Zg ?_
  refine Yf hB ?_
  refine Xh [false, false, false, false, false, true] 5 ⟨by decide, by kernel_rfl, by kernel_rfl⟩ rfl rfl ?_
  try dsimp only [Z2]
  refine Zo rfl rfl rfl CellsOf.agg hS ps8 Xq (by kernel_rfl) rfl (fun w hS hB => ?_)
  refine Zg ?_
  refine Xc (hB.sub (fun _ _ h => by simpa using h)) ?_
  refine Zm [false, false, false, false, false, false, true] (by decide +kernel) (by repeat (first | exact PF.body | exact PF.round | apply PF.then | apply PF.inBlock | apply PF.jump)) ?_
  refine LtK.put rfl rfl rfl (Z4 rfl) ?_
  refine LtK.nil ?_
  refine Z8 (by kernel_rfl) ?_
  refine Zc hK110 ?_
  refine Zk ?_
  refine Zi ?_
  refine Yd ?_
  refine Zl rfl (RV.cell rfl (Z3 Yp hS hs8 Yb) (RV.tmp rfl RV.nil)) rfl ?_
  obtain rfl := Option.some.inj H
  have hS := hS.nilRds
  replace hS := hS.front 2 rfl
  replace hS := hS.absorbQ ⟨r115, A117, c118⟩
  replace hS := hS.front 1 rfl
  replace hS := hS.weak Weak.boxRd
  have hS := hS.front 6 rfl
  have hS := hS.front 6 rfl
  have hS := hS.front 6 rfl
  have hS := hS.front 6 rfl
  have hS := hS.front 6 rfl
  replace hS := hS.cut 7
  exact ⟨A65, c66, A69, c70, A73, c74, A77, c78, A81, c82, (some ⟨b121, 0, none⟩), 1, ([⟨r115, A117, c118⟩] : List Mq), rfl, k67, k71, k75, k79, k83, ⟨Nat.le_refl 1, by decide⟩, rfl, (okq_cons k119 Ze7), hS⟩
 replace H := Zp H hb
 refine Zu ?_
 refine Zc hK107 ?_
 refine Zd (fun K hK123 => ?_)
 refine Zd (fun K hK124 => ?_)
 refine Zf ?_
 refine Za rfl rfl rfl (Ze Yu rfl) ?_
 refine Za rfl rfl rfl (Zj Xg rfl (RW.here _) hS hs8 trivial Zbl) ?_
 refine Za rfl rfl rfl (Ze Y3 rfl) ?_
 refine Za rfl rfl rfl (Zj Yn rfl (RW.here _) hS hs7 trivial Ja) ?_
 obtain ⟨r125, hm126, H⟩ := bind_some H
 refine Zr rfl rfl rfl rfl (by kernel_rfl) rfl (c_tuple_Install r63.tuple x1.snap A65 c66 _ (SlI.of_rd k67 (hS.rd hs0) (hS.rd_blk hs0)) hm126) ?_
 rintro e w ⟨A127, c128, rfl, k129, hN⟩; refine ⟨_, rfl, ?_⟩; have hB := hN.pure; have hS := hS.join hN; clear hN
 refine Zb 1 rfl ?_
 refine Za rfl rfl rfl (Ya rfl rfl) ?_
 refine Za rfl rfl rfl (Ya rfl rfl) ?_
 refine Zo rfl rfl rfl CellsOf.agg hS ps6 st0_8 (by kernel_rfl) rfl (fun w hS hB => ?_)
 refine Zb 1 rfl ?_
 refine Zg ?_
 refine Zc hK124 ?_
 refine Zd (fun K hK131 => ?_)
 refine Zf ?_
 refine Zb 1 rfl ?_
 refine Za rfl rfl rfl (Xk rfl rfl) ?_
 refine Zg ?_
 refine Zc hK131 ?_
 refine Z0 rfl (fun hb => ?_) (fun hb => ?_)
 ·replace H := Zq H hb
  refine Vv ?_
  refine Xr ?_
  refine Jr ?_
  refine Zd (fun K hK132 => ?_)
  refine Zu ?_
  refine Zc hK132 ?_
  refine Zd (fun K hK133 => ?_)
  refine Yo 8 [6] (fun i b => (i = 6 → b ≠ b6)) ⟨by kernel_rfl, by kernel_rfl⟩ hS (fun w hS hB => ?_)
  refine Zm [true] (by decide +kernel) (by repeat (first | exact PF.body | exact PF.round | apply PF.then | apply PF.inBlock | apply PF.jump)) ?_
  refine LtK.put rfl rfl rfl (Zj Yp rfl (RW.below _) hS hs9 trivial Yb) ?_
  refine LtK.nil ?_
  refine Xz [false, true, true, true] [6] (fun b => b ≠ b6) (by decide +kernel) (by intro j hj b hb; simp only [List.mem_cons, List.not_mem_nil, or_false] at hj; (try rcases hj with rfl | rfl | rfl | rfl | rfl) <;> simp_all) (by repeat (first | exact PF.body | exact PF.round | apply PF.then | apply PF.inBlock | apply PF.jump)) ?_
  refine LtK.put rfl rfl rfl (Zn rfl) ?_
  refine LtK.put rfl rfl rfl (Ze Yu rfl) ?_
  refine LtK.put rfl rfl rfl (Zj Xg rfl (RW.keepB _ _) hS hs9 (hS.ne 9 7 rfl rfl rfl) Zbl) ?_
  refine LtK.nil ?_
  refine Z7 [false, false, false, false, true] 4 ⟨by decide, by kernel_rfl, by kernel_rfl⟩ rfl rfl ?_
  try dsimp only [Z2]
  obtain ⟨r134, hm135, H⟩ := bind_some H
  refine Zr rfl rfl rfl rfl (by kernel_rfl) rfl (Zdh r63.tuple A65 c66 _ (SlI.of_rd k67 (hS.rd Xt) (hS.rd_blk Xt)) hm135) ?_
  rintro e w ⟨rfl, hN⟩; refine ⟨_, rfl, ?_⟩; have hB := hN.pure; have hS := hS.join hN; clear hN
  refine Zg ?_
  refine Yf hB ?_
  refine Z7 [false, false, false, false, false, true] 5 ⟨by decide, by kernel_rfl, by kernel_rfl⟩ rfl rfl ?_
  try dsimp only [Z2]
  have hO136 := hS
  rename World => wS137
  have hS := St0.start All wS137
  refine Zbi rfl rfl rfl rfl (by kernel_rfl) rfl ?_
  show Calls _ _ #[_, _, _, _] _ _
  refine Zd2 Try.func30 rfl Try.ntmps30 rfl ?_
  refine Zd (fun K hK138 => ?_)
  refine Zf ?_
  refine Zb 1 rfl ?_
  refine Zg ?_
  refine Zc hK138 ?_
  refine Zd (fun K hK139 => ?_)
  refine Zf ?_
  refine Za rfl rfl rfl (Zj Yp rfl (RW.here _) (hO136.join hS) hs9 trivial Yb) ?_
  refine Za rfl rfl rfl (Zj X7 rfl (RW.here _) (hO136.join hS) hs8 trivial Xj) ?_
  refine Zb 2 rfl ?_
  obtain ⟨r140, hm141, H⟩ := bind_some H
  refine Zr rfl rfl rfl rfl (by kernel_rfl) rfl (c_msg_Back (⟨r63.id, r63.n, 0, r63.binary, r63.tuple, r63.commit, r63.applied, r63.votes, r63.next, r63.mtch, r63.caps⟩ : Co) x1 4 false r134 A65 c66 A69 c70 A73 c74 A77 c78 A81 c82 A5_ c5_ _ (SlI.of_rd k67 ((hO136.join hS).rd Xt) ((hO136.join hS).rd_blk Xt)) (SlI.of_rd k71 ((hO136.join hS).row_rd Vh) ((hO136.join hS).row_blk Vh)) (SlI.of_rd k75 ((hO136.join hS).row_rd hs3) ((hO136.join hS).row_blk hs3)) (SlI.of_rd k79 ((hO136.join hS).row_rd hs4) ((hO136.join hS).row_blk hs4)) (SlI.of_rd k83 ((hO136.join hS).row_rd hs5) ((hO136.join hS).row_blk hs5)) (SlI.of_rd s5_.k ((hO136.join hS).rd0 s5_.rd) ((hO136.join hS).blk0 s5_.blk)) hm141) ?_
  rintro e w ⟨A142, c143, rfl, k144, hN⟩; refine ⟨_, rfl, ?_⟩; have hB := hN.pure; have hS := hS.join hN; clear hN
  refine Vq (ps := [(0, .tmp 11)]) [.int .u8 r140.kind, .int .i64 r140.frm, .int .i64 r140.dst, .int .i64 r140.term, .int .i64 r140.cap, .int .i64 r140.last, .int .i64 r140.lastTerm, .int .i64 r140.commit, .bool r140.okk, .slice A142 r140.entries.length c143, .int .i64 r140.snap.index, .int .i64 r140.snap.term, .int .i64 r140.snap.sum, .int .i64 r140.snap.level, .bool r140.snap.final] Zam Zfy rfl rfl rfl rfl rfl (by kernel_rfl) hS (fun b146 w hS hB => ?_)
  refine Zb 1 rfl ?_
  refine Zg ?_
  refine Zc hK139 ?_
  refine Zk ?_
  refine Zl rfl (RV.tmp rfl RV.nil) rfl ?_
  refine ⟨_, rfl, ?_⟩
  have hB := hS.pure
  have hS := hO136.join hS
  dsimp only [List.cons_append, List.nil_append] at hS
  refine Zg ?_
  refine Yf hB ?_
  refine Xh [false, false, false, false, false, false, true] 6 ⟨by decide, by kernel_rfl, by kernel_rfl⟩ rfl rfl ?_
  try dsimp only [Z2]
  refine Zo rfl rfl rfl CellsOf.agg hS ps9 Xq (by kernel_rfl) rfl (fun w hS hB => ?_)
  refine Zg ?_
  refine Xc (hB.sub (fun _ _ h => by simpa using h)) ?_
  refine Zm [false, false, false, false, false, false, false, true] (by decide +kernel) (by repeat (first | exact PF.body | exact PF.round | apply PF.then | apply PF.inBlock | apply PF.jump)) ?_
  refine LtK.put rfl rfl rfl (Z4 rfl) ?_
  refine LtK.nil ?_
  refine Z8 (by kernel_rfl) ?_
  refine Zc hK133 ?_
  refine Zk ?_
  refine Yd ?_
  refine Zl rfl (RV.cell rfl (Z3 Yp hS hs9 Yb) (RV.tmp rfl RV.nil)) rfl ?_
  obtain rfl := Option.some.inj H
  have hS := hS.nilRds
  replace hS := hS.front 2 rfl
  replace hS := hS.absorbQ ⟨r140, A142, c143⟩
  replace hS := hS.front 1 rfl
  replace hS := hS.weak Weak.boxRd
  have hS := hS.front 7 rfl
  have hS := hS.front 7 rfl
  have hS := hS.front 7 rfl
  have hS := hS.front 7 rfl
  have hS := hS.front 7 rfl
  replace hS := hS.cut 7
  exact ⟨A65, c66, A69, c70, A73, c74, A77, c78, A81, c82, (some ⟨b146, 0, none⟩), 1, ([⟨r140, A142, c143⟩] : List Mq), rfl, k67, k71, k75, k79, k83, ⟨Nat.le_refl 1, by decide⟩, rfl, (okq_cons k144 Ze7), hS⟩
 replace H := Zp H hb
 refine Zu ?_
 refine Zc hK123 ?_
 refine Zd (fun K hK148 => ?_)
 refine Yo 12 [7, 9, 11] (fun i b => (i = 7 → b ≠ b2) ∧ (i = 9 → b ≠ b2) ∧ (i = 11 → b ≠ b2)) ⟨by kernel_rfl, by kernel_rfl⟩ hS (fun w hS hB => ?_)
 refine Zm [true, false, false, false, false, false, true] (by decide +kernel) (by repeat (first | exact PF.body | exact PF.round | apply PF.then | apply PF.inBlock | apply PF.jump)) ?_
 refine LtK.put rfl rfl rfl (Zj Xg rfl (RW.below _) hS hs6 trivial Zfp) ?_
 refine LtK.put rfl rfl rfl (Ze Yu rfl) ?_
 refine LtK.nil ?_
 refine Xz [false, true, true, true, true, true] [7, 9] (fun b => b ≠ b2) (by decide +kernel) (by intro j hj b hb; simp only [List.mem_cons, List.not_mem_nil, or_false] at hj; (try rcases hj with rfl | rfl | rfl | rfl | rfl) <;> simp_all) (by repeat (first | exact PF.body | exact PF.round | apply PF.then | apply PF.inBlock | apply PF.jump)) ?_
 refine LtK.put rfl rfl rfl (Ze Y3 rfl) ?_
 refine LtK.put rfl rfl rfl (Ze Z5 rfl) ?_
 refine LtK.put rfl rfl rfl (Zh Zx rfl (RW.keepB _ _) hS hs8 (hS.ne 8 9 rfl rfl rfl) V0) ?_
 refine LtK.put rfl rfl rfl (Ze Y3 rfl) ?_
 refine LtK.put rfl rfl rfl (Zj Yn rfl (RW.keepB _ _) hS hs8 (hS.ne 8 9 rfl rfl rfl) Ja) ?_
 refine LtK.nil ?_
 refine Xh [false, false, false, false, false, false, false, true] 7 ⟨by decide, by kernel_rfl, by kernel_rfl⟩ rfl rfl ?_
 try dsimp only [Z2]
 refine Zo rfl rfl rfl CellsOf.agg hS ps9 st4_8 (by kernel_rfl) rfl (fun w hS hB => ?_)
 refine Zg ?_
 refine Xc (hB.sub (fun _ _ h => by simpa using h)) ?_
 refine Zm [false, false, false, false, false, false, false, false, true] (by decide +kernel) (by repeat (first | exact PF.body | exact PF.round | apply PF.then | apply PF.inBlock | apply PF.jump)) ?_
 refine LtK.put rfl rfl rfl (Ze Zah rfl) ?_
 refine LtK.nil ?_
 refine Xh [false, false, false, false, false, false, false, false, false, true] 9 ⟨by decide, by kernel_rfl, by kernel_rfl⟩ rfl rfl ?_
 try dsimp only [Z2]
 refine Zo rfl rfl rfl CellsOf.int hS ps9 st12_1 (by kernel_rfl) rfl (fun w hS hB => ?_)
 refine Zg ?_
 refine Xc (hB.sub (fun _ _ h => by simpa using h)) ?_
 refine Zm [false, false, false, false, false, false, false, false, false, false, true] (by decide +kernel) (by repeat (first | exact PF.body | exact PF.round | apply PF.then | apply PF.inBlock | apply PF.jump)) ?_
 refine LtK.put rfl rfl rfl (Ze Zdt rfl) ?_
 refine LtK.nil ?_
 refine Xh [false, false, false, false, false, false, false, false, false, false, false, true] 11 ⟨by decide, by kernel_rfl, by kernel_rfl⟩ rfl rfl ?_
 try dsimp only [Z2]
 refine Zo rfl rfl rfl CellsOf.agg hS ps9 st13_5 (by kernel_rfl) rfl (fun w hS hB => ?_)
 refine Zg ?_
 refine Xc (hB.sub (fun _ _ h => by simpa using h)) ?_
 refine Z8 (by kernel_rfl) ?_
 refine Zc hK148 ?_
 refine Zd (fun K hK149 => ?_)
 refine Zd (fun K hK150 => ?_)
 refine Yo 9 [7] (fun i b => (i = 7 → b ≠ b6)) ⟨by kernel_rfl, by kernel_rfl⟩ hS (fun w hS hB => ?_)
 refine Zm [true] (by decide +kernel) (by repeat (first | exact PF.body | exact PF.round | apply PF.then | apply PF.inBlock | apply PF.jump)) ?_
 refine LtK.put rfl rfl rfl (Zj Yp rfl (RW.below _) hS hs9 trivial Yb) ?_
 refine LtK.nil ?_
 refine Xz [false, false, true, true, true, true] [7] (fun b => b ≠ b6) (by decide +kernel) (by intro j hj b hb; simp only [List.mem_cons, List.not_mem_nil, or_false] at hj; (try rcases hj with rfl | rfl | rfl | rfl | rfl) <;> simp_all) (by repeat (first | exact PF.body | exact PF.round | apply PF.then | apply PF.inBlock | apply PF.jump)) ?_
 refine LtK.put rfl rfl rfl (Zn rfl) ?_
 refine LtK.put rfl rfl rfl (Ze Y3 rfl) ?_
 refine LtK.put rfl rfl rfl (Ze Z5 rfl) ?_
 refine LtK.put rfl rfl rfl (Zh Zx rfl (RW.keepB _ _) hS hs8 (hS.ne 8 7 rfl rfl rfl) V0) ?_
 refine LtK.nil ?_
 refine Z7 [false, true] 1 ⟨by decide, by kernel_rfl, by kernel_rfl⟩ rfl rfl ?_
 try dsimp only [Z2]
 obtain ⟨r151, hm152, H⟩ := bind_some H
 refine Zr rfl rfl rfl rfl (by kernel_rfl) rfl (c_repl_Fit (⟨r63.id, r63.n, 0, r63.binary, r125.1, x1.snap.index, x1.snap, r63.votes, r63.next, r63.mtch, r63.caps⟩ : Co) A127 c128 A69 c70 A73 c74 A77 c78 A81 c82 _ (SlI.of_rd k129 (hS.rd hs0) (hS.rd_blk hs0)) (SlI.of_rd k71 (hS.row_rd Vh) (hS.row_blk Vh)) (SlI.of_rd k75 (hS.row_rd hs3) (hS.row_blk hs3)) (SlI.of_rd k79 (hS.row_rd hs4) (hS.row_blk hs4)) (SlI.of_rd k83 (hS.row_rd hs5) (hS.row_blk hs5)) hm152) ?_
 rintro e w ⟨A153, c154, A157, c158, A161, c162, A165, c166, A169, c170, rfl, k155, k159, k163, k167, k171, hN⟩; refine ⟨_, rfl, ?_⟩; have hB := hN.pure; have hS := hS.join hN; clear hN
 refine Zg ?_
 refine Yf hB ?_
 refine Z7 [false, false, false, false, false, false, true] 6 ⟨by decide, by kernel_rfl, by kernel_rfl⟩ rfl rfl ?_
 try dsimp only [Z2]
 have hO173 := hS
 rename World => wS174
 have hS := St0.start All wS174
 refine Zbi rfl rfl rfl rfl (by kernel_rfl) rfl ?_
 show Calls _ _ #[_, _, _, _] _ _
 refine Zd2 Try.func30 rfl Try.ntmps30 rfl ?_
 refine Zd (fun K hK175 => ?_)
 refine Zf ?_
 refine Zb 1 rfl ?_
 refine Zg ?_
 refine Zc hK175 ?_
 refine Zd (fun K hK176 => ?_)
 refine Zf ?_
 refine Za rfl rfl rfl (Zj Yp rfl (RW.here _) (hO173.join hS) hs14 trivial Yb) ?_
 refine Za rfl rfl rfl (Zj X7 rfl (RW.here _) (hO173.join hS) hs13 trivial Xj) ?_
 refine Zb 2 rfl ?_
 obtain ⟨r177, hm178, H⟩ := bind_some H
 refine Zr rfl rfl rfl rfl (by kernel_rfl) rfl (c_msg_Back (⟨r63.id, r63.n, 0, r63.binary, r125.1, x1.snap.index, x1.snap, r63.votes, r63.next, r63.mtch, r63.caps⟩ : Co) x1 4 true x1.snap.index A127 c128 A69 c70 A73 c74 A77 c78 A81 c82 A5_ c5_ _ (SlI.of_rd k129 ((hO173.join hS).rd hs5) ((hO173.join hS).rd_blk hs5)) (SlI.of_rd k71 ((hO173.join hS).row_rd hs7) ((hO173.join hS).row_blk hs7)) (SlI.of_rd k75 ((hO173.join hS).row_rd hs8) ((hO173.join hS).row_blk hs8)) (SlI.of_rd k79 ((hO173.join hS).row_rd hs9) ((hO173.join hS).row_blk hs9)) (SlI.of_rd k83 ((hO173.join hS).row_rd hs10) ((hO173.join hS).row_blk hs10)) (SlI.of_rd s5_.k ((hO173.join hS).rd0 s5_.rd) ((hO173.join hS).blk0 s5_.blk)) hm178) ?_
 rintro e w ⟨A179, c180, rfl, k181, hN⟩; refine ⟨_, rfl, ?_⟩; have hB := hN.pure; have hS := hS.join hN; clear hN
 refine Vq (ps := [(0, .tmp 11)]) [.int .u8 r177.kind, .int .i64 r177.frm, .int .i64 r177.dst, .int .i64 r177.term, .int .i64 r177.cap, .int .i64 r177.last, .int .i64 r177.lastTerm, .int .i64 r177.commit, .bool r177.okk, .slice A179 r177.entries.length c180, .int .i64 r177.snap.index, .int .i64 r177.snap.term, .int .i64 r177.snap.sum, .int .i64 r177.snap.level, .bool r177.snap.final] Zam Zfy rfl rfl rfl rfl rfl (by kernel_rfl) hS (fun b183 w hS hB => ?_)
 refine Zb 1 rfl ?_
 refine Zg ?_
 refine Zc hK176 ?_
 refine Zk ?_
 refine Zl rfl (RV.tmp rfl RV.nil) rfl ?_
 refine ⟨_, rfl, ?_⟩
 have hB := hS.pure
 have hS := hO173.join hS
 dsimp only [List.cons_append, List.nil_append] at hS
 refine Zg ?_
 refine Yf hB ?_
 refine Xh [false, false, false, false, false, false, false, true] 7 ⟨by decide, by kernel_rfl, by kernel_rfl⟩ rfl rfl ?_
 try dsimp only [Z2]
 refine Zo rfl rfl rfl CellsOf.agg hS ps14 Xq (by kernel_rfl) rfl (fun w hS hB => ?_)
 refine Zg ?_
 refine Xc (hB.sub (fun _ _ h => by simpa using h)) ?_
 refine Zm [false, false, false, false, false, false, false, false, true] (by decide +kernel) (by repeat (first | exact PF.body | exact PF.round | apply PF.then | apply PF.inBlock | apply PF.jump)) ?_
 refine LtK.put rfl rfl rfl (Z4 rfl) ?_
 refine LtK.nil ?_
 refine Z8 (by kernel_rfl) ?_
 refine Zc hK150 ?_
 refine Zk ?_
 refine Zi ?_
 refine Yd ?_
 refine Zl rfl (RV.cell rfl (Z3 Yp hS hs14 Yb) (RV.tmp rfl RV.nil)) rfl ?_
 obtain rfl := Option.some.inj H
 have hS := hS.nilRds
 replace hS := hS.front 2 rfl
 replace hS := hS.absorbQ ⟨r177, A179, c180⟩
 replace hS := hS.front 1 rfl
 replace hS := hS.weak Weak.boxRd
 have hS := hS.front 6 rfl
 have hS := hS.front 6 rfl
 have hS := hS.front 6 rfl
 have hS := hS.front 6 rfl
 have hS := hS.front 6 rfl
 replace hS := hS.weak Weak.rowRd
 replace hS := hS.cut 7
 exact ⟨A153, c154, A157, c158, A161, c162, A165, c166, A169, c170, (some ⟨b183, 0, none⟩), 1, ([⟨r177, A179, c180⟩] : List Mq), rfl, k155, k159, k163, k167, k171, ⟨Nat.le_refl 1, by decide⟩, rfl, (okq_cons k181 Ze7), hS⟩
theorem c_repl_from (x0 : Tu) (x1 : Int) (x2 : Int) (A0_ : Option Addr) (c0_ : Nat) (w0 : World) (s0_ : SlI w0 Jv A0_ c0_ x0.log) : Calls Try.prog 77 #[.agg #[.int .i64 x0.snap.index, .int .i64 x0.snap.term, .int .i64 x0.snap.sum, .int .i64 x0.snap.level, .bool x0.snap.final, .slice A0_ x0.log.length c0_, .int .i64 x0.term, .int .i64 x0.vote], .int .i64 x1, .int .i64 x2] w0 fun e w' => ∃ (b0_ : Nat) (b1_ : Nat) (b2_ : Nat), e = .returned (.func (.func 93) #[] #[.pointer (some ⟨b0_, 0, none⟩), .pointer (some ⟨b1_, 0, none⟩), .pointer (some ⟨b2_, 0, none⟩)]) ∧ St0 All w0 w' [.box b0_ [.int .i64 x0.snap.index, .int .i64 x0.snap.term, .int .i64 x0.snap.sum, .int .i64 x0.snap.level, .bool x0.snap.final, .slice A0_ x0.log.length c0_, .int .i64 x0.term, .int .i64 x0.vote] 26, .box b1_ [.int .i64 x1] 3, .box b2_ [.int .i64 x2] 3] := by
 refine Zb1 Try.func77 rfl Try.ntmps77 rfl ?_
 have hS := St0.start All w0
 refine Zd (fun K hK1 => ?_)
 refine Zf ?_
 refine Z9 rfl rfl rfl CellsOf.agg hS (fun b2 w hS hB => ?_)
 refine Z9 rfl rfl rfl CellsOf.int hS (fun b4 w hS hB => ?_)
 refine Z9 rfl rfl rfl CellsOf.int hS (fun b6 w hS hB => ?_)
 refine Zb 1 rfl ?_
 refine Zg ?_
 refine Zc hK1 ?_
 refine Zd (fun K hK8 => ?_)
 refine Zf ?_
 refine Za rfl rfl rfl (X9 rfl rfl) ?_
 refine Zb 1 rfl ?_
 refine Zg ?_
 refine Zc hK8 ?_
 refine Zk ?_
 refine Zl rfl (RV.tmp rfl RV.nil) rfl ?_
 have hS := hS.front 0 rfl
 have hS := hS.front 1 rfl
 have hS := hS.front 2 rfl
 exact ⟨b2, b4, b6, rfl, hS.sub (List.Sublist.cons_cons _ (List.Sublist.cons_cons _ (List.Sublist.cons_cons _ List.Sublist.slnil)))⟩
theorem c_repl_Message (x0 : Co) (x1 : Int) (A0_ : Option Addr) (c0_ : Nat) (A1_ : Option Addr) (c1_ : Nat) (A2_ : Option Addr) (c2_ : Nat) (A3_ : Option Addr) (c3_ : Nat) (A4_ : Option Addr) (c4_ : Nat) (w0 : World) (s0_ : SlI w0 Jv A0_ c0_ x0.tuple.log) (s1_ : SlI w0 enO A1_ c1_ x0.votes) (s2_ : SlI w0 Vu A2_ c2_ x0.next) (s3_ : SlI w0 Vu A3_ c3_ x0.mtch) (s4_ : SlI w0 Vu A4_ c4_ x0.caps) {r : Ms × Bool} (H : Jt x0 x1 = some r) : Calls Try.prog 45 #[.agg #[.int .i64 x0.id, .int .i64 x0.n, .int .u8 x0.role, .int .i64 x0.binary, .int .i64 x0.tuple.snap.index, .int .i64 x0.tuple.snap.term, .int .i64 x0.tuple.snap.sum, .int .i64 x0.tuple.snap.level, .bool x0.tuple.snap.final, .slice A0_ x0.tuple.log.length c0_, .int .i64 x0.tuple.term, .int .i64 x0.tuple.vote, .int .i64 x0.commit, .int .i64 x0.applied.index, .int .i64 x0.applied.term, .int .i64 x0.applied.sum, .int .i64 x0.applied.level, .bool x0.applied.final, .slice A1_ x0.votes.length c1_, .slice A2_ x0.next.length c2_, .slice A3_ x0.mtch.length c3_, .slice A4_ x0.caps.length c4_], .int .i64 x1] w0 fun e w' => ∃ (A0 : Option Addr) (c0 : Nat), e = .returned (.tuple #[.agg #[.int .u8 r.1.kind, .int .i64 r.1.frm, .int .i64 r.1.dst, .int .i64 r.1.term, .int .i64 r.1.cap, .int .i64 r.1.last, .int .i64 r.1.lastTerm, .int .i64 r.1.commit, .bool r.1.okk, .slice A0 r.1.entries.length c0, .int .i64 r.1.snap.index, .int .i64 r.1.snap.term, .int .i64 r.1.snap.sum, .int .i64 r.1.snap.level, .bool r.1.snap.final], .bool r.2]) ∧ (r.1.entries.length ≤ c0 ∧ c0 ≤ maxLen) ∧ St0 All w0 w' [.row (.slice A0 r.1.entries.length c0) 46 3 r.1.entries.length (Ym Jv r.1.entries)] := by
 unfold Jt at H
 refine Yw Try.func45 rfl Try.ntmps45 rfl ?_
 have hS := St0.start All w0
 refine Zd (fun K hK1 => ?_)
 refine Zf ?_
 refine Z9 rfl rfl rfl CellsOf.agg hS (fun b2 w hS hB => ?_)
 refine Z6 rfl rfl Zfy hS (fun b4 w hS hB => ?_)
 refine Zb 1 rfl ?_
 refine Zg ?_
 refine Zc hK1 ?_
 refine Zd (fun K hK6 => ?_)
 refine Zd (fun K hK7 => ?_)
 refine Yo 37 [] (fun _ _ => True) ⟨by kernel_rfl, by kernel_rfl⟩ hS (fun w hS hB => ?_)
 refine Zm [true] (by decide +kernel) (by repeat (first | exact PF.body | exact PF.round | apply PF.then | apply PF.inBlock | apply PF.jump)) ?_
 refine LtK.put rfl rfl rfl (Zj Yp rfl (RW.below _) hS Xt trivial Yb) ?_
 refine LtK.nil ?_
 refine Z7 [false, true] 1 ⟨by decide, by kernel_rfl, by kernel_rfl⟩ rfl rfl ?_
 try dsimp only [Z2]
 obtain ⟨r8, hm9, H⟩ := bind_some H
 refine Zr rfl rfl rfl rfl (by kernel_rfl) rfl (Zc3 x0 A0_ c0_ A1_ c1_ A2_ c2_ A3_ c3_ A4_ c4_ _ (SlI.of_rd s0_.k (hS.rd0 s0_.rd) (hS.blk0 s0_.blk)) (SlI.of_rd s1_.k (hS.rd0 s1_.rd) (hS.blk0 s1_.blk)) (SlI.of_rd s2_.k (hS.rd0 s2_.rd) (hS.blk0 s2_.blk)) (SlI.of_rd s3_.k (hS.rd0 s3_.rd) (hS.blk0 s3_.blk)) (SlI.of_rd s4_.k (hS.rd0 s4_.rd) (hS.blk0 s4_.blk)) hm9) ?_
 rintro e w ⟨rfl, hN⟩; refine ⟨_, rfl, ?_⟩; have hB := hN.pure; have hS := hS.join hN; clear hN
 refine Zg ?_
 refine Yf hB ?_
 refine Zm [false, false, true, true] (by decide +kernel) (by repeat (first | exact PF.body | exact PF.round | apply PF.then | apply PF.inBlock | apply PF.jump)) ?_
 refine LtK.put rfl rfl rfl (Yt rfl) ?_
 refine LtK.put rfl rfl rfl (Zn rfl) ?_
 refine LtK.nil ?_
 refine Y8 11 rfl (fun hb => ?_) (fun hb => ?_)
 ·replace H := Zq H hb
  refine Zm [false, false, false, false, true, true, true, true, true, true, true, true, true, true, true, true, true, true, true, true, true, true, true, true, true, true, true, true, true, true, true, true, true, true, true, true, true] (by decide +kernel) (by repeat (first | exact PF.body | exact PF.round | apply PF.then | apply PF.inBlock | apply PF.jump)) ?_
  refine LtK.skip rfl rfl rfl ?_
  refine LtK.skip rfl rfl rfl ?_
  refine LtK.skip rfl rfl rfl ?_
  refine LtK.put rfl rfl rfl (Zw rfl rfl rfl) ?_
  refine LtK.put rfl rfl rfl (Zn rfl) ?_
  refine LtK.skip rfl rfl rfl ?_
  refine LtK.skip rfl rfl rfl ?_
  refine LtK.put rfl rfl rfl (Zw rfl rfl rfl) ?_
  refine LtK.put rfl rfl rfl (Zn rfl) ?_
  refine LtK.skip rfl rfl rfl ?_
  refine LtK.skip rfl rfl rfl ?_
  refine LtK.skip rfl rfl rfl ?_
  refine LtK.skip rfl rfl rfl ?_
  refine LtK.put rfl rfl rfl (Zw rfl rfl rfl) ?_
  refine LtK.put rfl rfl rfl (Zn rfl) ?_
  refine LtK.skip rfl rfl rfl ?_
  refine LtK.skip rfl rfl rfl ?_
  refine LtK.skip rfl rfl rfl ?_
  refine LtK.skip rfl rfl rfl ?_
  refine LtK.put rfl rfl rfl (Zw rfl rfl rfl) ?_
  refine LtK.put rfl rfl rfl (Zn rfl) ?_
  refine LtK.skip rfl rfl rfl ?_
  refine LtK.skip rfl rfl rfl ?_
  refine LtK.skip rfl rfl rfl ?_
  refine LtK.skip rfl rfl rfl ?_
  refine LtK.skip rfl rfl rfl ?_
  refine LtK.skip rfl rfl rfl ?_
  refine LtK.skip rfl rfl rfl ?_
  refine LtK.skip rfl rfl rfl ?_
  refine LtK.skip rfl rfl rfl ?_
  refine LtK.skip rfl rfl rfl ?_
  refine LtK.skip rfl rfl rfl ?_
  refine LtK.put rfl rfl rfl (Zw rfl rfl rfl) ?_
  refine LtK.nil ?_
  refine Z8 (by kernel_rfl) ?_
  refine Zc hK7 ?_
  refine Zs rfl rfl ?_
  refine Zd (fun K hK10 => ?_)
  refine Zf ?_
  refine Za rfl rfl rfl (Zj X7 rfl (RW.here _) hS hs0 trivial Xj) ?_
  refine Zo rfl rfl rfl CellsOf.agg hS ps0 Zax (by kernel_rfl) rfl (fun w hS hB => ?_)
  refine Zb 1 rfl ?_
  refine Zg ?_
  refine Zc hK10 ?_
  refine Zk ?_
  refine Zi ?_
  refine Zl rfl (RV.cell rfl (Z3 X7 hS hs0 Xj) (RV.tmp rfl RV.nil)) rfl ?_
  obtain rfl := Option.some.inj H
  have hS := hS.nilRow 46 3
  replace hS := hS.cut 1
  exact ⟨none, 0, rfl, ⟨Nat.le_refl _, Nat.zero_le _⟩, hS⟩
 replace H := Zp H hb
 refine Zm [false, false, false, false, true, true, true, true, true] (by decide +kernel) (by repeat (first | exact PF.body | exact PF.round | apply PF.then | apply PF.inBlock | apply PF.jump)) ?_
 refine LtK.put rfl rfl rfl (Ze J6 rfl) ?_
 refine LtK.put rfl rfl rfl (Zh Zai rfl (RW.below _) hS Xt trivial J9) ?_
 refine LtK.put rfl rfl rfl (Xk rfl rfl) ?_
 refine LtK.put rfl rfl rfl (Zz rfl rfl rfl) ?_
 refine LtK.put rfl rfl rfl (Zn rfl) ?_
 refine LtK.nil ?_
 refine Y8 16 rfl (fun hb => ?_) (fun hb => ?_)
 ·replace H := Zq H hb
  refine Zm [false, false, false, false, false, false, false, false, false, true, true, true, true, true, true, true, true, true, true, true, true, true, true, true, true, true, true, true, true, true, true, true, true, true, true, true, true] (by decide +kernel) (by repeat (first | exact PF.body | exact PF.round | apply PF.then | apply PF.inBlock | apply PF.jump)) ?_
  refine LtK.skip rfl rfl rfl ?_
  refine LtK.skip rfl rfl rfl ?_
  refine LtK.put rfl rfl rfl (Zw rfl rfl rfl) ?_
  refine LtK.put rfl rfl rfl (Zn rfl) ?_
  refine LtK.skip rfl rfl rfl ?_
  refine LtK.skip rfl rfl rfl ?_
  refine LtK.skip rfl rfl rfl ?_
  refine LtK.skip rfl rfl rfl ?_
  refine LtK.put rfl rfl rfl (Zw rfl rfl rfl) ?_
  refine LtK.put rfl rfl rfl (Zn rfl) ?_
  refine LtK.skip rfl rfl rfl ?_
  refine LtK.skip rfl rfl rfl ?_
  refine LtK.skip rfl rfl rfl ?_
  refine LtK.skip rfl rfl rfl ?_
  refine LtK.put rfl rfl rfl (Zw rfl rfl rfl) ?_
  refine LtK.put rfl rfl rfl (Zn rfl) ?_
  refine LtK.skip rfl rfl rfl ?_
  refine LtK.skip rfl rfl rfl ?_
  refine LtK.skip rfl rfl rfl ?_
  refine LtK.skip rfl rfl rfl ?_
  refine LtK.skip rfl rfl rfl ?_
  refine LtK.skip rfl rfl rfl ?_
  refine LtK.skip rfl rfl rfl ?_
  refine LtK.skip rfl rfl rfl ?_
  refine LtK.skip rfl rfl rfl ?_
  refine LtK.skip rfl rfl rfl ?_
  refine LtK.skip rfl rfl rfl ?_
  refine LtK.put rfl rfl rfl (Zw rfl rfl rfl) ?_
  refine LtK.nil ?_
  refine Z8 (by kernel_rfl) ?_
  refine Zc hK7 ?_
  refine Zs rfl rfl ?_
  refine Zd (fun K hK11 => ?_)
  refine Zf ?_
  refine Za rfl rfl rfl (Zj X7 rfl (RW.here _) hS hs0 trivial Xj) ?_
  refine Zo rfl rfl rfl CellsOf.agg hS ps0 Zax (by kernel_rfl) rfl (fun w hS hB => ?_)
  refine Zb 1 rfl ?_
  refine Zg ?_
  refine Zc hK11 ?_
  refine Zk ?_
  refine Zi ?_
  refine Zl rfl (RV.cell rfl (Z3 X7 hS hs0 Xj) (RV.tmp rfl RV.nil)) rfl ?_
  obtain rfl := Option.some.inj H
  have hS := hS.nilRow 46 3
  replace hS := hS.cut 1
  exact ⟨none, 0, rfl, ⟨Nat.le_refl _, Nat.zero_le _⟩, hS⟩
 replace H := Zp H hb
 refine Zm [false, false, false, false, false, false, false, false, false, true, true, true, true] (by decide +kernel) (by repeat (first | exact PF.body | exact PF.round | apply PF.then | apply PF.inBlock | apply PF.jump)) ?_
 refine LtK.put rfl rfl rfl (Zn rfl) ?_
 refine LtK.put rfl rfl rfl (Xv rfl rfl) ?_
 refine LtK.put rfl rfl rfl (Zz rfl rfl rfl) ?_
 refine LtK.put rfl rfl rfl (Zn rfl) ?_
 refine LtK.nil ?_
 refine Y8 20 rfl (fun hb => ?_) (fun hb => ?_)
 ·replace H := Zq H hb
  refine Zm [false, false, false, false, false, false, false, false, false, false, false, false, false, true, true, true, true, true, true, true, true, true, true, true, true, true, true, true, true, true, true, true, true, true, true, true, true] (by decide +kernel) (by repeat (first | exact PF.body | exact PF.round | apply PF.then | apply PF.inBlock | apply PF.jump)) ?_
  refine LtK.skip rfl rfl rfl ?_
  refine LtK.skip rfl rfl rfl ?_
  refine LtK.skip rfl rfl rfl ?_
  refine LtK.skip rfl rfl rfl ?_
  refine LtK.put rfl rfl rfl (Zw rfl rfl rfl) ?_
  refine LtK.put rfl rfl rfl (Zn rfl) ?_
  refine LtK.skip rfl rfl rfl ?_
  refine LtK.skip rfl rfl rfl ?_
  refine LtK.skip rfl rfl rfl ?_
  refine LtK.skip rfl rfl rfl ?_
  refine LtK.put rfl rfl rfl (Zw rfl rfl rfl) ?_
  refine LtK.put rfl rfl rfl (Zn rfl) ?_
  refine LtK.skip rfl rfl rfl ?_
  refine LtK.skip rfl rfl rfl ?_
  refine LtK.skip rfl rfl rfl ?_
  refine LtK.skip rfl rfl rfl ?_
  refine LtK.skip rfl rfl rfl ?_
  refine LtK.skip rfl rfl rfl ?_
  refine LtK.skip rfl rfl rfl ?_
  refine LtK.skip rfl rfl rfl ?_
  refine LtK.skip rfl rfl rfl ?_
  refine LtK.skip rfl rfl rfl ?_
  refine LtK.skip rfl rfl rfl ?_
  refine LtK.put rfl rfl rfl (Zw rfl rfl rfl) ?_
  refine LtK.nil ?_
  refine Z8 (by kernel_rfl) ?_
  refine Zc hK7 ?_
  refine Zs rfl rfl ?_
  refine Zd (fun K hK12 => ?_)
  refine Zf ?_
  refine Za rfl rfl rfl (Zj X7 rfl (RW.here _) hS hs0 trivial Xj) ?_
  refine Zo rfl rfl rfl CellsOf.agg hS ps0 Zax (by kernel_rfl) rfl (fun w hS hB => ?_)
  refine Zb 1 rfl ?_
  refine Zg ?_
  refine Zc hK12 ?_
  refine Zk ?_
  refine Zi ?_
  refine Zl rfl (RV.cell rfl (Z3 X7 hS hs0 Xj) (RV.tmp rfl RV.nil)) rfl ?_
  obtain rfl := Option.some.inj H
  have hS := hS.nilRow 46 3
  replace hS := hS.cut 1
  exact ⟨none, 0, rfl, ⟨Nat.le_refl _, Nat.zero_le _⟩, hS⟩
 replace H := Zp H hb
 refine Zm [false, false, false, false, false, false, false, false, false, false, false, false, false, true, true, true, true, true, true] (by decide +kernel) (by repeat (first | exact PF.body | exact PF.round | apply PF.then | apply PF.inBlock | apply PF.jump)) ?_
 refine LtK.put rfl rfl rfl (Zn rfl) ?_
 refine LtK.put rfl rfl rfl (Ze Vy rfl) ?_
 refine LtK.put rfl rfl rfl (Zh Zx rfl (RW.below _) hS Xt trivial Vn) ?_
 refine LtK.put rfl rfl rfl (Xa rfl rfl) ?_
 refine LtK.put rfl rfl rfl (Zz rfl rfl rfl) ?_
 refine LtK.put rfl rfl rfl (Zn rfl) ?_
 refine LtK.nil ?_
 refine Y8 26 rfl (fun hb => ?_) (fun hb => ?_)
 ·replace H := Zq H hb
  refine Zm [false, false, false, false, false, false, false, false, false, false, false, false, false, false, false, false, false, false, false, true, true, true, true, true, true, true, true, true, true, true, true, true, true, true, true, true, true] (by decide +kernel) (by repeat (first | exact PF.body | exact PF.round | apply PF.then | apply PF.inBlock | apply PF.jump)) ?_
  refine LtK.skip rfl rfl rfl ?_
  refine LtK.skip rfl rfl rfl ?_
  refine LtK.skip rfl rfl rfl ?_
  refine LtK.skip rfl rfl rfl ?_
  refine LtK.put rfl rfl rfl (Zw rfl rfl rfl) ?_
  refine LtK.put rfl rfl rfl (Zn rfl) ?_
  refine LtK.skip rfl rfl rfl ?_
  refine LtK.skip rfl rfl rfl ?_
  refine LtK.skip rfl rfl rfl ?_
  refine LtK.skip rfl rfl rfl ?_
  refine LtK.skip rfl rfl rfl ?_
  refine LtK.skip rfl rfl rfl ?_
  refine LtK.skip rfl rfl rfl ?_
  refine LtK.skip rfl rfl rfl ?_
  refine LtK.skip rfl rfl rfl ?_
  refine LtK.skip rfl rfl rfl ?_
  refine LtK.skip rfl rfl rfl ?_
  refine LtK.put rfl rfl rfl (Zw rfl rfl rfl) ?_
  refine LtK.nil ?_
  refine Z8 (by kernel_rfl) ?_
  refine Zc hK7 ?_
  refine Zs rfl rfl ?_
  refine Zd (fun K hK13 => ?_)
  refine Zf ?_
  refine Za rfl rfl rfl (Zj X7 rfl (RW.here _) hS hs0 trivial Xj) ?_
  refine Zo rfl rfl rfl CellsOf.agg hS ps0 Zax (by kernel_rfl) rfl (fun w hS hB => ?_)
  refine Zb 1 rfl ?_
  refine Zg ?_
  refine Zc hK13 ?_
  refine Zk ?_
  refine Zi ?_
  refine Zl rfl (RV.cell rfl (Z3 X7 hS hs0 Xj) (RV.tmp rfl RV.nil)) rfl ?_
  obtain rfl := Option.some.inj H
  have hS := hS.nilRow 46 3
  replace hS := hS.cut 1
  exact ⟨none, 0, rfl, ⟨Nat.le_refl _, Nat.zero_le _⟩, hS⟩
 replace H := Zp H hb
 refine Zm [false, false, false, false, false, false, false, false, false, false, false, false, false, false, false, false, false, false, false, true, true, true, true, true, true] (by decide +kernel) (by repeat (first | exact PF.body | exact PF.round | apply PF.then | apply PF.inBlock | apply PF.jump)) ?_
 refine LtK.put rfl rfl rfl (Zn rfl) ?_
 refine LtK.put rfl rfl rfl (Ze Ji rfl) ?_
 refine LtK.put rfl rfl rfl (Zh Zx rfl (RW.below _) hS Xt trivial Y2) ?_
 refine LtK.put rfl rfl rfl (Yy rfl rfl) ?_
 refine LtK.put rfl rfl rfl (Zz rfl rfl rfl) ?_
 refine LtK.put rfl rfl rfl (Zn rfl) ?_
 refine LtK.nil ?_
 refine Y8 32 rfl (fun hb => ?_) (fun hb => ?_)
 ·replace H := Zq H hb
  refine Zm [false, false, false, false, false, false, false, false, false, false, false, false, false, false, false, false, false, false, false, false, false, false, false, false, false, true, true, true, true, true, true, true, true, true, true, true, true] (by decide +kernel) (by repeat (first | exact PF.body | exact PF.round | apply PF.then | apply PF.inBlock | apply PF.jump)) ?_
  refine LtK.skip rfl rfl rfl ?_
  refine LtK.skip rfl rfl rfl ?_
  refine LtK.skip rfl rfl rfl ?_
  refine LtK.skip rfl rfl rfl ?_
  refine LtK.skip rfl rfl rfl ?_
  refine LtK.skip rfl rfl rfl ?_
  refine LtK.skip rfl rfl rfl ?_
  refine LtK.skip rfl rfl rfl ?_
  refine LtK.skip rfl rfl rfl ?_
  refine LtK.skip rfl rfl rfl ?_
  refine LtK.skip rfl rfl rfl ?_
  refine LtK.put rfl rfl rfl (Zw rfl rfl rfl) ?_
  refine LtK.nil ?_
  refine Z8 (by kernel_rfl) ?_
  refine Zc hK7 ?_
  refine Zs rfl rfl ?_
  refine Zd (fun K hK14 => ?_)
  refine Zf ?_
  refine Za rfl rfl rfl (Zj X7 rfl (RW.here _) hS hs0 trivial Xj) ?_
  refine Zo rfl rfl rfl CellsOf.agg hS ps0 Zax (by kernel_rfl) rfl (fun w hS hB => ?_)
  refine Zb 1 rfl ?_
  refine Zg ?_
  refine Zc hK14 ?_
  refine Zk ?_
  refine Zi ?_
  refine Zl rfl (RV.cell rfl (Z3 X7 hS hs0 Xj) (RV.tmp rfl RV.nil)) rfl ?_
  obtain rfl := Option.some.inj H
  have hS := hS.nilRow 46 3
  replace hS := hS.cut 1
  exact ⟨none, 0, rfl, ⟨Nat.le_refl _, Nat.zero_le _⟩, hS⟩
 replace H := Zp H hb
 refine Zm [false, false, false, false, false, false, false, false, false, false, false, false, false, false, false, false, false, false, false, false, false, false, false, false, false, true, true, true, true, true, true, true, true, true, true, true, true] (by decide +kernel) (by repeat (first | exact PF.body | exact PF.round | apply PF.then | apply PF.inBlock | apply PF.jump)) ?_
 refine LtK.put rfl rfl rfl (Ze Zao rfl) ?_
 refine LtK.put rfl rfl rfl (Zh V1 rfl (RW.below _) hS Xt trivial Zdn) ?_
 refine LtK.put rfl rfl rfl (Zn rfl) ?_
 refine LtK.put rfl rfl rfl (Zct rfl rfl) ?_
 obtain ⟨e15, hi17, H⟩ := bind_some H
 obtain ⟨j16, hi17a, hi17b, hi17c⟩ := Y9 hi17
 refine LtK.put rfl rfl rfl (Xo Vd rfl rfl hi17a hi17c (Rd.el (hS.rd0 s2_.rd) Xd hi17b)) ?_
 refine LtK.put rfl rfl rfl (V4 Zx rfl (RW.below _) (Rd.el (hS.rd0 s2_.rd) Xd hi17b) rfl) ?_
 refine LtK.put rfl rfl rfl (Ze Yu rfl) ?_
 refine LtK.put rfl rfl rfl (Ze Yx rfl) ?_
 refine LtK.put rfl rfl rfl (Ze Z5 rfl) ?_
 refine LtK.put rfl rfl rfl (Zh Zx rfl (RW.below _) hS Xt trivial Zeg) ?_
 refine LtK.put rfl rfl rfl (Za1 rfl rfl) ?_
 refine LtK.put rfl rfl rfl (Zz rfl rfl rfl) ?_
 refine LtK.nil ?_
 refine Z8 (by kernel_rfl) ?_
 refine Zc hK7 ?_
 refine Z0 rfl (fun hb => ?_) (fun hb => ?_)
 ·replace H := Zq H hb
  refine Zd (fun K hK18 => ?_)
  refine Zf ?_
  refine Za rfl rfl rfl (Zj X7 rfl (RW.here _) hS hs0 trivial Xj) ?_
  refine Zo rfl rfl rfl CellsOf.agg hS ps0 Zax (by kernel_rfl) rfl (fun w hS hB => ?_)
  refine Zb 1 rfl ?_
  refine Zg ?_
  refine Zc hK18 ?_
  refine Zk ?_
  refine Zi ?_
  refine Zl rfl (RV.cell rfl (Z3 X7 hS hs0 Xj) (RV.tmp rfl RV.nil)) rfl ?_
  obtain rfl := Option.some.inj H
  have hS := hS.nilRow 46 3
  replace hS := hS.cut 1
  exact ⟨none, 0, rfl, ⟨Nat.le_refl _, Nat.zero_le _⟩, hS⟩
 replace H := Zp H hb
 refine Zu ?_
 refine Zc hK6 ?_
 refine Zd (fun K hK19 => ?_)
 refine Zf ?_
 refine Za rfl rfl rfl (Ze Zao rfl) ?_
 refine Za rfl rfl rfl (Zh V1 rfl (RW.here _) hS Xt trivial Zdn) ?_
 refine Zb 1 rfl ?_
 refine Za rfl rfl rfl (Zct rfl rfl) ?_
 obtain ⟨e20, hi22, H⟩ := bind_some H
 obtain ⟨j21, hi22a, hi22b, hi22c⟩ := Y9 hi22
 refine Za rfl rfl rfl (Xo Vd rfl rfl hi22a hi22c (Rd.el (hS.rd0 s2_.rd) Xd hi22b)) ?_
 refine Za rfl rfl rfl (V4 Zx rfl (RW.here _) (Rd.el (hS.rd0 s2_.rd) Xd hi22b) rfl) ?_
 refine Zb 1 rfl ?_
 refine Zg ?_
 refine Zc hK19 ?_
 refine Zd (fun K hK23 => ?_)
 refine Zf ?_
 refine Za rfl rfl rfl (Ze Ji rfl) ?_
 refine Za rfl rfl rfl (Zh Zx rfl (RW.here _) hS Xt trivial Y2) ?_
 refine Zb 1 rfl ?_
 refine Za rfl rfl rfl (Ze Yu rfl) ?_
 refine Za rfl rfl rfl (Ze Xs rfl) ?_
 refine Za rfl rfl rfl (Zh Zx rfl (RW.here _) hS Xt trivial V0) ?_
 refine Za rfl rfl rfl (Ze Zdj rfl) ?_
 refine Za rfl rfl rfl (Zh Zx rfl (RW.here _) hS Xt trivial Zag) ?_
 refine Zb 1 rfl ?_
 refine Za rfl rfl rfl (Zct rfl rfl) ?_
 refine Za rfl rfl rfl (Ze Zah rfl) ?_
 refine Za rfl rfl rfl (Zh Zx rfl (RW.here _) hS Xt trivial Zbs) ?_
 refine Za rfl rfl rfl (Xx (cells := [.int .u8 3, .int .i64 x0.id, .int .i64 x1, .int .i64 x0.tuple.term, .int .i64 x0.binary, .int .i64 (IntKind.wrap .i64 (e20 - 1)), .int .i64 0, .int .i64 x0.commit, .bool false, .slice none 0 0, .int .i64 0, .int .i64 0, .int .i64 0, .int .i64 0, .bool false]) rfl (by kernel_rfl)) ?_
 refine Zo rfl rfl rfl CellsOf.agg hS ps0 Zax (by kernel_rfl) rfl (fun w hS hB => ?_)
 refine Zg ?_
 refine Zc hK23 ?_
 refine Zd (fun K hK24 => ?_)
 refine Zf ?_
 refine Za rfl rfl rfl (Ze Yu rfl) ?_
 refine Za rfl rfl rfl (Zj Xg rfl (RW.here _) hS Xt trivial Zbl) ?_
 refine Za rfl rfl rfl (Ze fo_32_5 rfl) ?_
 refine Za rfl rfl rfl (Zh Zx rfl (RW.here _) hS hs0 trivial Zdw) ?_
 obtain ⟨r25, hm26, H⟩ := bind_some H
 refine Zr rfl rfl rfl rfl (by kernel_rfl) rfl (c_tuple_TermAt x0.tuple (IntKind.wrap .i64 (e20 - 1)) A0_ c0_ _ (SlI.of_rd s0_.k (hS.rd0 s0_.rd) (hS.blk0 s0_.blk)) hm26) ?_
 rintro e w ⟨rfl, hN⟩; refine ⟨_, rfl, ?_⟩; have hB := hN.pure; have hS := hS.join hN; clear hN
 refine Zb 1 rfl ?_
 refine Za rfl rfl rfl (Ya rfl rfl) ?_
 refine Za rfl rfl rfl (Ya rfl rfl) ?_
 refine Za rfl rfl rfl (Ze fo_32_6 rfl) ?_
 refine Zo rfl rfl rfl CellsOf.int hS ps0 st6_1 (by kernel_rfl) rfl (fun w hS hB => ?_)
 refine Zg ?_
 refine Zc hK24 ?_
 refine Zd (fun K hK27 => ?_)
 refine Zd (fun K hK28 => ?_)
 refine Zf ?_
 refine Za rfl rfl rfl (Ze Yu rfl) ?_
 refine Za rfl rfl rfl (Zj Xg rfl (RW.here _) hS Xt trivial Zbl) ?_
 refine Zb 1 rfl ?_
 have hM29 := hS
 refine Zr rfl rfl rfl rfl (by kernel_rfl) rfl (c_repl_from x0.tuple e20 4 A0_ c0_ _ (SlI.of_rd s0_.k (hS.rd0 s0_.rd) (hS.blk0 s0_.blk))) ?_
 rintro e w ⟨b31, b32, b33, rfl, hN30⟩; refine ⟨_, rfl, ?_⟩; have hB := hN30.pure; have hS := hS.join hN30
 refine Zg ?_
 refine Zc hK28 ?_
 refine Yj ?_
 replace hS := hS.nilRow 46 3
 replace hM29 := hM29.nilRow 46 3
 obtain ⟨xs43, hx44, H⟩ := bind_some H
 refine wpC_range (w0 := w0) (X := List En × Option Addr × Nat) rfl (by kernel_rfl) (it_from x0.tuple e20 4 _ _ _ s0_ hM29.pure b31 b32 b33 hN30 hx44) ⟨hM29.size, hN30.size⟩ (fun _ => rfl) (by kernel_rfl) (fun k x => .row (.slice x.2.1 x.1.length x.2.2) 46 3 x.1.length (Ym Jv x.1) :: .box b4 [.int .u8 3, .int .i64 x0.id, .int .i64 x1, .int .i64 x0.tuple.term, .int .i64 x0.binary, .int .i64 (IntKind.wrap .i64 (e20 - 1)), .int .i64 r25.1, .int .i64 x0.commit, .bool false, .slice x.2.1 x.1.length x.2.2, .int .i64 0, .int .i64 0, .int .i64 0, .int .i64 0, .bool false] 32 :: .box b2 [.int .i64 x0.id, .int .i64 x0.n, .int .u8 x0.role, .int .i64 x0.binary, .int .i64 x0.tuple.snap.index, .int .i64 x0.tuple.snap.term, .int .i64 x0.tuple.snap.sum, .int .i64 x0.tuple.snap.level, .bool x0.tuple.snap.final, .slice A0_ x0.tuple.log.length c0_, .int .i64 x0.tuple.term, .int .i64 x0.tuple.vote, .int .i64 x0.commit, .int .i64 x0.applied.index, .int .i64 x0.applied.term, .int .i64 x0.applied.sum, .int .i64 x0.applied.level, .bool x0.applied.final, .slice A1_ x0.votes.length c1_, .slice A2_ x0.next.length c2_, .slice A3_ x0.mtch.length c3_, .slice A4_ x0.caps.length c4_] 30 :: []) (fun k x => (x.1.length ≤ x.2.2 ∧ x.2.2 ≤ maxLen) ∧ Vs x0 x1 e20 r25 (xs43.drop k) x.1 = some r) (fun _ _ => []) (fun _ _ => False) (fun _ => False) ([], none, 0) ⟨hS.sub (List.Sublist.cons_cons _ (List.Sublist.cons _ (List.Sublist.cons _ (List.Sublist.cons _ (List.Sublist.cons_cons _ (List.Sublist.cons_cons _ List.Sublist.slnil)))))), fun e he k hk => .inl (hM29.rng e he k hk).1⟩ ⟨⟨Nat.le_refl _, Nat.zero_le _⟩, H⟩ ?_ ?_ (fun _ _ _ h _ => h.elim) (fun _ _ h _ => h.elim)
 ·rintro lo k e37 ⟨v38, A39, c40⟩ A hke ⟨k41, H⟩ hzB hRB hS
  dsimp only at hRB k41 H ⊢
  rw [drop_of_get hke, Vs] at H
  dsimp only [List.zip, List.zipWith, List.foldl]
  refine Zaa (by repeat (first | exact NL.round | exact NL.false | exact NL.body (by intro _ h; simp at h) | apply NL.then | apply NL.inBlock | apply NL.jump)) (by kernel_rfl) ?_
  refine Z6 rfl rfl Zb6 hS (fun b45 w hS hB => ?_)
  refine Zo rfl rfl rfl CellsOf.agg hS ps0 st0_3 (by kernel_rfl) rfl (fun w hS hB => ?_)
  refine Zg ?_
  refine QH_asg hS ?_
  rintro A2 hS hBase hE
  dsimp only [List.cons_append, List.nil_append] at hS
  refine Yj ?_
  refine Zaa (by repeat (first | exact NL.round | exact NL.false | exact NL.body (by intro _ h; simp at h) | apply NL.then | apply NL.inBlock | apply NL.jump)) (by kernel_rfl) ?_
  refine Za rfl rfl rfl (Ze Zb5 rfl) ?_
  refine Za rfl rfl rfl (Zh V8 rfl (RW.here _) hS Vh trivial sg9_1) ?_
  refine Za rfl rfl rfl (Zj V3 rfl (RW.here _) hS hs0 trivial Zcl) ?_
  refine Vq (ps := [(0, .tmp 81)]) [.int .i64 e37.term, .int .i64 e37.kind, .int .i64 e37.value] Va Zb6 rfl rfl rfl rfl rfl (by kernel_rfl) hS (fun b47 w hS hB => ?_)
  obtain ⟨l49, hf50, H⟩ := bind_some H
  refine Za3 (ys := ([e37] : List En)) Vi oc_enE em_24 (by decide) rfl rfl rfl rfl hS (fun _ => ps2) (hS.box_rd hs0) hf50 (fun A51 c52 w k53 hS => ?_)
  refine Za rfl rfl rfl (Ze Zb5 rfl) ?_
  refine Zo rfl rfl rfl CellsOf.slice hS ps3 st9_1 (by kernel_rfl) rfl (fun w hS hB => ?_)
  refine Zg ?_
  refine Z1 ?_
  exact QH_round hBase hE hS (l49, A51, c52) (List.Sublist.cons _ (List.Sublist.cons _ (List.Sublist.cons_cons _ (List.Sublist.cons_cons _ (List.Sublist.cons_cons _ List.Sublist.slnil))))) ⟨k53, H⟩
 ·rintro ⟨v38, A39, c40⟩ A ⟨k41, H⟩ hS
  dsimp only at hS k41 H ⊢
  rw [List.drop_length, Vs] at H
  refine Z1 ?_
  refine Zc hK27 ?_
  refine Zd (fun K hK55 => ?_)
  refine Zf ?_
  refine Za rfl rfl rfl (Zj X7 rfl (RW.here _) hS Vh trivial Xj) ?_
  refine Zo rfl rfl rfl CellsOf.agg hS ps2 Zax (by kernel_rfl) rfl (fun w hS hB => ?_)
  refine Zb 1 rfl ?_
  refine Zg ?_
  refine Zc hK55 ?_
  refine Zk ?_
  refine QH_shut (.inl rfl) hS ps0 (fun w hS => ?_)
  replace hS := hS.sub (List.Sublist.cons _ (List.Sublist.cons_cons _ (List.Sublist.cons_cons _ (List.Sublist.cons_cons _ List.Sublist.slnil))))
  refine Zl rfl (RV.cell rfl (Z3 X7 hS Xt Xj) (RV.tmp rfl RV.nil)) rfl ?_
  obtain rfl := Option.some.inj H
  have hS := hS.front 0 rfl
  replace hS := hS.cut 1
  exact ⟨A39, c40, rfl, k41, hS⟩
end Go.Proofs.Ytenagnncpaabdaa
namespace Go.Proofs.Ytenagnncpaabdaa
open Go Go.RowKit
set_option maxRecDepth 100000
theorem em_36 : Elem Try.prog 36 32 (.agg #[.int .u8 0, .int .i64 0, .int .i64 0, .int .i64 0, .int .i64 0, .int .i64 0, .int .i64 0, .int .i64 0, .bool false, .slice none 0 0, .int .i64 0, .int .i64 0, .int .i64 0, .int .i64 0, .bool false]) 15 136 := ⟨by kernel_rfl, by kernel_rfl, rfl, by omega⟩
theorem hs15 {a0 a1 a2 a3 a4 a5 a6 a7 a8 a9 a10 a11 a12 a13 a14 a15 : Ent} {H : List Ent} : Has (a0 :: a1 :: a2 :: a3 :: a4 :: a5 :: a6 :: a7 :: a8 :: a9 :: a10 :: a11 :: a12 :: a13 :: a14 :: a15 :: H) a15 := .tail (.tail (.tail (.tail (.tail (.tail (.tail (.tail (.tail (.tail (.tail (.tail (.tail (.tail (.tail (.head)))))))))))))))
theorem hs17 {a0 a1 a2 a3 a4 a5 a6 a7 a8 a9 a10 a11 a12 a13 a14 a15 a16 a17 : Ent} {H : List Ent} : Has (a0 :: a1 :: a2 :: a3 :: a4 :: a5 :: a6 :: a7 :: a8 :: a9 :: a10 :: a11 :: a12 :: a13 :: a14 :: a15 :: a16 :: a17 :: H) a17 := .tail (.tail (.tail (.tail (.tail (.tail (.tail (.tail (.tail (.tail (.tail (.tail (.tail (.tail (.tail (.tail (.tail (.head)))))))))))))))))
theorem hs18 {a0 a1 a2 a3 a4 a5 a6 a7 a8 a9 a10 a11 a12 a13 a14 a15 a16 a17 a18 : Ent} {H : List Ent} : Has (a0 :: a1 :: a2 :: a3 :: a4 :: a5 :: a6 :: a7 :: a8 :: a9 :: a10 :: a11 :: a12 :: a13 :: a14 :: a15 :: a16 :: a17 :: a18 :: H) a18 := .tail (.tail (.tail (.tail (.tail (.tail (.tail (.tail (.tail (.tail (.tail (.tail (.tail (.tail (.tail (.tail (.tail (.tail (.head))))))))))))))))))
theorem hs19 {a0 a1 a2 a3 a4 a5 a6 a7 a8 a9 a10 a11 a12 a13 a14 a15 a16 a17 a18 a19 : Ent} {H : List Ent} : Has (a0 :: a1 :: a2 :: a3 :: a4 :: a5 :: a6 :: a7 :: a8 :: a9 :: a10 :: a11 :: a12 :: a13 :: a14 :: a15 :: a16 :: a17 :: a18 :: a19 :: H) a19 := .tail (.tail (.tail (.tail (.tail (.tail (.tail (.tail (.tail (.tail (.tail (.tail (.tail (.tail (.tail (.tail (.tail (.tail (.tail (.head)))))))))))))))))))
theorem hs20 {a0 a1 a2 a3 a4 a5 a6 a7 a8 a9 a10 a11 a12 a13 a14 a15 a16 a17 a18 a19 a20 : Ent} {H : List Ent} : Has (a0 :: a1 :: a2 :: a3 :: a4 :: a5 :: a6 :: a7 :: a8 :: a9 :: a10 :: a11 :: a12 :: a13 :: a14 :: a15 :: a16 :: a17 :: a18 :: a19 :: a20 :: H) a20 := .tail (.tail (.tail (.tail (.tail (.tail (.tail (.tail (.tail (.tail (.tail (.tail (.tail (.tail (.tail (.tail (.tail (.tail (.tail (.tail (.head))))))))))))))))))))
theorem hs21 {a0 a1 a2 a3 a4 a5 a6 a7 a8 a9 a10 a11 a12 a13 a14 a15 a16 a17 a18 a19 a20 a21 : Ent} {H : List Ent} : Has (a0 :: a1 :: a2 :: a3 :: a4 :: a5 :: a6 :: a7 :: a8 :: a9 :: a10 :: a11 :: a12 :: a13 :: a14 :: a15 :: a16 :: a17 :: a18 :: a19 :: a20 :: a21 :: H) a21 := .tail (.tail (.tail (.tail (.tail (.tail (.tail (.tail (.tail (.tail (.tail (.tail (.tail (.tail (.tail (.tail (.tail (.tail (.tail (.tail (.tail (.head)))))))))))))))))))))
theorem hs22 {a0 a1 a2 a3 a4 a5 a6 a7 a8 a9 a10 a11 a12 a13 a14 a15 a16 a17 a18 a19 a20 a21 a22 : Ent} {H : List Ent} : Has (a0 :: a1 :: a2 :: a3 :: a4 :: a5 :: a6 :: a7 :: a8 :: a9 :: a10 :: a11 :: a12 :: a13 :: a14 :: a15 :: a16 :: a17 :: a18 :: a19 :: a20 :: a21 :: a22 :: H) a22 := .tail (.tail (.tail (.tail (.tail (.tail (.tail (.tail (.tail (.tail (.tail (.tail (.tail (.tail (.tail (.tail (.tail (.tail (.tail (.tail (.tail (.tail (.head))))))))))))))))))))))
theorem hs23 {a0 a1 a2 a3 a4 a5 a6 a7 a8 a9 a10 a11 a12 a13 a14 a15 a16 a17 a18 a19 a20 a21 a22 a23 : Ent} {H : List Ent} : Has (a0 :: a1 :: a2 :: a3 :: a4 :: a5 :: a6 :: a7 :: a8 :: a9 :: a10 :: a11 :: a12 :: a13 :: a14 :: a15 :: a16 :: a17 :: a18 :: a19 :: a20 :: a21 :: a22 :: a23 :: H) a23 := .tail (.tail (.tail (.tail (.tail (.tail (.tail (.tail (.tail (.tail (.tail (.tail (.tail (.tail (.tail (.tail (.tail (.tail (.tail (.tail (.tail (.tail (.tail (.head)))))))))))))))))))))))
theorem ps11 {a0 a1 a2 a3 a4 a5 a6 a7 a8 a9 a10 a11 b : Ent} {H : List Ent} : Pos (a0 :: a1 :: a2 :: a3 :: a4 :: a5 :: a6 :: a7 :: a8 :: a9 :: a10 :: a11 :: H) a11 (a0 :: a1 :: a2 :: a3 :: a4 :: a5 :: a6 :: a7 :: a8 :: a9 :: a10 :: b :: H) b := .tail (.tail (.tail (.tail (.tail (.tail (.tail (.tail (.tail (.tail (.tail (.head)))))))))))
theorem st1_1 {a0 a1 b0 : Value} {H : List Value} : SetC (a0 :: a1 :: H) 1 [b0] (a0 :: b0 :: H) := .succ (.here (.cons (.nil)))
theorem st3_1 {a0 a1 a2 a3 b0 : Value} {H : List Value} : SetC (a0 :: a1 :: a2 :: a3 :: H) 3 [b0] (a0 :: a1 :: a2 :: b0 :: H) := .succ (.succ (.succ (.here (.cons (.nil)))))
theorem st4_1 {a0 a1 a2 a3 a4 b0 : Value} {H : List Value} : SetC (a0 :: a1 :: a2 :: a3 :: a4 :: H) 4 [b0] (a0 :: a1 :: a2 :: a3 :: b0 :: H) := .succ (.succ (.succ (.succ (.here (.cons (.nil))))))
theorem zc_60 : ZcC Try.prog 60 [.nilFunc] := ⟨by kernel_rfl⟩
theorem eqT_46 (a0 : Int) (a1 : Int) (a2 : Int) (b0 : Int) (b1 : Int) (b2 : Int) (w : World) : (Op.equalIn 10000 46 (.agg #[.int .i64 a0, .int .i64 a1, .int .i64 a2]) (.agg #[.int .i64 b0, .int .i64 b1, .int .i64 b2])).run Try.prog w = .ok (decide (a0 = b0) && (decide (a1 = b1) && (decide (a2 = b2)))) w := by
 by_cases h0 : a0 = b0 <;> by_cases h1 : a1 = b1 <;> by_cases h2 : a2 = b2 <;> go_simp
end Go.Proofs.Ytenagnncpaabdaa
namespace Go.Proofs.Ytenagnncpaabdaa
open Go Go.RowKit
set_option maxRecDepth 100000
section
variable {P : Program}
def IterQ {α : Type} (P : Program) (g : Nat) (lb : Array Value) (G : World → Prop) (Enc : α → List Value → World → World → Prop) (xs : List α) (n0 M : Nat) (w : World) : Prop :=
 ∀ (l : Nat) (J : Nat → World → Prop) (Jx : World → Prop) (Jp : List PanicEntry → World → Prop) (W : World),
  Below w.heap.size w W →
  (∀ k A, J k A → G A) →
  (∀ k A B, J k A → KeepB (fun b => b < M ∨ w.heap.size ≤ b) A B → J k B) →
  (∀ A B, Jx A → KeepB (fun b => b < M ∨ w.heap.size ≤ b) A B → Jx B) →
  (∀ c A B, Jp c A → KeepB (fun b => b < M ∨ w.heap.size ≤ b) A B → Jp c B) →
  (∀ k x A0 A v, xs[k]? = some x → J k A0 → w.heap.size ≤ A0.heap.size → KeepB (fun b => b < M ∨ w.heap.size ≤ b) A0 A → Enc x v A0 A → YieldAt Fence.wide 8 P l v.toArray A fun e B =>
   (e = .returned (.bool true) ∧ J (k + 1) B ∧ KeepB (fun b => b < n0 ∨ (M ≤ b ∧ b < w.heap.size)) A B) ∨
   (e = .returned (.bool false) ∧ Jx B ∧ KeepB (fun b => b < n0 ∨ (M ≤ b ∧ b < w.heap.size)) A B) ∨
   (∃ c, e = .panicked c ∧ Jp c B)) →
  J 0 W → Calls P g (#[.func (.yield l) #[] #[]] ++ lb) W fun e B => ((∃ v, e = .returned v) ∧ (J xs.length B ∨ Jx B)) ∨ (∃ c, e = .panicked c ∧ Jp c B)
set_option maxHeartbeats 1000000 in
theorem range_oQ {α : Type} {g : Operand} {ps : Array Tmp} {assign body : Code} {Q : Exit → Act → World → Prop} {a : Act} {w : World}
  {gf : Nat} {lb : Array Value} (hg : a.eval g = .func (.func gf) #[] lb) (eg : ∀ args w, (callFunc gf args).run P w = .ok (.enter gf args) w)
  {G : World → Prop} {Enc : α → List Value → World → World → Prop} {xs : List α} {n0 M : Nat} (hit : IterQ P gf lb G Enc xs n0 M w) (hnM : n0 ≤ M) (hM : M ≤ w.heap.size) (hps : ∀ x v A B, Enc x v A B → v.length = ps.size)
  (I : Nat → World → Prop) (Ix : Code → World → Prop) (Ip : List PanicEntry → World → Prop)
  (hG : ∀ k A, I k A → G A)
  (hI : ∀ k A B, I k A → KeepB (fun b => b < M ∨ w.heap.size + 2 ≤ b) A B → I k B)
  (hIx : ∀ c A B, Ix c A → KeepB (fun b => b < M ∨ w.heap.size + 2 ≤ b) A B → Ix c B)
  (hIp : ∀ c A B, Ip c A → KeepB (fun b => b < M ∨ w.heap.size + 2 ≤ b) A B → Ip c B)
  (h0 : I 0 w)
  (hround : ∀ l k x A0 A v, xs[k]? = some x → I k A0 → w.heap.size + 2 ≤ A0.heap.size → KeepB (fun b => b < M ∨ w.heap.size + 2 ≤ b) A0 A → Enc x v A0 A →
   wpo P (some l) assign (Exit.then (fun a1 A1 => KeepB (fun _ => True) A A1 ∧
    ∀ A2, KeepB (fun b => b < w.heap.size ∨ w.heap.size + 2 ≤ b) A1 A2 → I k A2 →
     wpo P (some l) body (Zcy (fun b => b < n0 ∨ (M ≤ b ∧ b < w.heap.size + 2)) (I (k + 1)) Ix Ip A2) a1 A2) (fun _ _ _ => False))
    { tmps := (ps.zip v.toArray).foldl (fun t (p, v) => t.setIfInBounds p v) a.tmps, defers := [] } A)
  (hdone : ∀ A, I xs.length A → A.heap[w.heap.size]? = some (.deferred (some [])) → Q .normal { a with defers := { target := .collected w.heap.size, args := #[] } :: a.defers } A)
  (hstop : ∀ c A, Ix c A → A.heap[w.heap.size]? = some (.deferred (some [])) → wpo P none c Q { a with defers := { target := .collected w.heap.size, args := #[] } :: a.defers } A)
  (hpan : ∀ c A, Ip c A → A.heap[w.heap.size]? = some (.deferred (some [])) → Q (.panic c) { a with defers := { target := .collected w.heap.size, args := #[] } :: a.defers } A) :
  wpo P none (.rangeFunc g ps assign body) Q a w := by
 refine wpo_rangeFunc ?_
 intro fn hfn
 obtain ⟨rec, hrec⟩ : ∃ rec : LoopState → Option Code → Loop, rec = fun st pe => { state := st, pending := pe, fn, tmps := a.tmps, params := ps, assign, body, defers := w.heap.size } := ⟨_, rfl⟩
 obtain ⟨W1, hW1⟩ : ∃ W1, (w.alloc (.deferred (some []))).alloc (.loop (rec .ready none)) = W1 := ⟨_, rfl⟩
 have hL1 : W1.heap[w.heap.size + 1]? = some (.loop (rec .ready none)) := by
  rw [← hW1]; have := World.alloc_heap_new (w.alloc (.deferred (some []))) (.loop (rec .ready none)); rwa [World.size_alloc] at this
 have hK1 : W1.heap[w.heap.size]? = some (.deferred (some [])) := by
  rw [← hW1]; exact (Below.heap_alloc _ _ _ (by simp)).trans (World.alloc_heap_new w _)
 have Xt : W1.heap.size = w.heap.size + 2 := by rw [← hW1]; simp
 have hkw : ∀ S, KeepB S w W1 := fun S => by rw [← hW1]; exact ((KeepB.refl S w).alloc _).alloc _
 have hb1 : Below w.heap.size w W1 := (hkw (fun _ => True)).to_below (Nat.le_refl _) (fun _ _ => trivial)
 have hI1 : I 0 W1 := hI 0 _ _ h0 (hkw _)
 refine ⟨w.heap.size + 1, [{ target := .collected w.heap.size, args := #[] }], W1, { target := .fn (.func gf) lb, args := #[.func (.yield (w.heap.size + 1)) #[] #[]] }, W1, gf,
  #[.func (.yield (w.heap.size + 1)) #[] #[]] ++ lb, W1, ?_, ?_, ?_, ?_⟩
 ·rw [← hW1, hrec]; exact run_enterLoop_outer _ _ _ _ _
 ·simp only [resolve, hg]
  simp [go_sem]
 ·simp [invoke, go_sem, eg]
 ·have hit' := hit (w.heap.size + 1)
   (fun k W => I k W ∧ W.heap[w.heap.size + 1]? = some (.loop (rec .ready none)) ∧ W.heap[w.heap.size]? = some (.deferred (some [])))
   (fun W => ∃ c, Ix c W ∧ W.heap[w.heap.size + 1]? = some (.loop (rec .done (some c))) ∧ W.heap[w.heap.size]? = some (.deferred (some [])))
   (fun c W => Ip c W ∧ W.heap[w.heap.size]? = some (.deferred (some [])))
   W1 hb1
   (fun k A hs => hG k A hs.1)
   (fun k A B hs hk => ⟨hI k A B hs.1 (hk.sub (fun b _ h => by omega)), hk.heap (by omega) hs.2.1, hk.heap (by omega) hs.2.2⟩)
   (fun A B hs hk => by
    obtain ⟨c, hc, h2, h3⟩ := hs
    exact ⟨c, hIx c A B hc (hk.sub (fun b _ h => by omega)), hk.heap (by omega) h2, hk.heap (by omega) h3⟩)
   (fun c A B hs hk => ⟨hIp c A B hs.1 (hk.sub (fun b _ h => by omega)), hk.heap (by omega) hs.2⟩)
   ?_ ⟨hI1, hL1, hK1⟩
  ·refine hit'.mono ?_
   rintro e W2 (⟨⟨v, rfl⟩, (⟨hi, hl, hk⟩ | ⟨c, hi, hl, hk⟩)⟩ | ⟨c, rfl, hi, hk⟩)
   ·exact ⟨none, _, by have := run_endLoop (P := P) hl (by rw [hrec]; simp); rw [hrec] at this; exact this,
     hdone _ (hI _ _ _ hi ((KeepB.refl _ _).putObj _ _ (by omega))) ((World.putObj_heap_other (by omega)).trans hk)⟩
   ·exact ⟨some c, _, by have := run_endLoop (P := P) hl (by rw [hrec]; simp); rw [hrec] at this; exact this,
     hstop c _ (hIx _ _ _ hi ((KeepB.refl _ _).putObj _ _ (by omega))) ((World.putObj_heap_other (by omega)).trans hk)⟩
   ·exact hpan c _ hi hk
  ·rintro k x W0 W v hx ⟨hi0, hl0, hk0⟩ hsz0 hkp hE
   have hi : I k W := hI k _ _ hi0 (hkp.sub (fun b _ h => by omega))
   have hl := hkp.heap (.inr (by omega)) hl0
   have hk := hkp.heap (.inr (Nat.le_refl _)) hk0
   have hlt0 : w.heap.size + 1 < W0.heap.size := (Array.getElem?_eq_some_iff.1 hl0).1
   have hlt : w.heap.size + 1 < W.heap.size := (Array.getElem?_eq_some_iff.1 hl).1
   have hy := run_yield (P := P) (args := v.toArray) hl (by rw [hrec]; simpa using hps x v _ _ hE)
   rw [hrec] at hy
   refine ⟨fn, _, assign, body, hy, round_of_wpo hfn ?_⟩
   refine Zbd (hround (w.heap.size + 1) k x W0 W v hx hi0 (by omega) (hkp.sub (fun b _ h => by omega)) hE) ?_
   rintro e a1 A1 hp
   cases e with
   | normal =>
    obtain ⟨hk1, hbody⟩ := hp
    have hl1 : A1.heap[w.heap.size + 1]? = some (.loop (rec .ready none)) := hk1.heap trivial hl
    have hd1 : A1.heap[w.heap.size]? = some (.deferred (some [])) := hk1.heap trivial hk
    have hlt1 : w.heap.size + 1 < A1.heap.size := (Array.getElem?_eq_some_iff.1 hl1).1
    refine ⟨_, run_beginRound hl1 (by rw [hrec]), ?_⟩
    obtain ⟨A2, hA2⟩ : ∃ A2, A1.putObj (w.heap.size + 1) (.loop { rec .ready none with state := .busy }) = A2 := ⟨_, rfl⟩
    rw [hA2]
    have hk2 : KeepB (fun b => b ≠ w.heap.size + 1) A1 A2 := by rw [← hA2]; exact (KeepB.refl _ _).putObj _ _ (by omega)
    have hl2 : A2.heap[w.heap.size + 1]? = some (.loop { rec .ready none with state := .busy }) := by rw [← hA2]; exact World.putObj_heap_same hlt1
    have hd2 : A2.heap[w.heap.size]? = some (.deferred (some [])) := hk2.heap (by omega) hd1
    have hkeep12 : KeepB (fun b => b < n0 ∨ (M ≤ b ∧ b < w.heap.size)) W A2 := (hk1.sub (fun _ _ _ => trivial)).trans (hk2.sub (fun b _ h => by omega))
    have fin : ∀ (jump : Option Code) (W3 : World), KeepB (fun b => b < n0 ∨ (M ≤ b ∧ b < w.heap.size + 2)) A2 W3 →
      (Instr.endRound (w.heap.size + 1) jump).run P W3 = .ok (.bool jump.isNone) (W3.putObj (w.heap.size + 1) (.loop (rec (if jump.isNone then .ready else .done) jump))) ∧
      (W3.putObj (w.heap.size + 1) (.loop (rec (if jump.isNone then .ready else .done) jump))).heap[w.heap.size + 1]? = some (.loop (rec (if jump.isNone then .ready else .done) jump)) ∧
      (W3.putObj (w.heap.size + 1) (.loop (rec (if jump.isNone then .ready else .done) jump))).heap[w.heap.size]? = some (.deferred (some [])) ∧
      KeepB (fun b => b < n0 ∨ (M ≤ b ∧ b < w.heap.size)) W (W3.putObj (w.heap.size + 1) (.loop (rec (if jump.isNone then .ready else .done) jump))) := fun jump W3 hk3 => by
     have hl3 := hk3.heap (by omega) hl2
     have := run_endRound (P := P) jump hl3
     rw [hrec] at this ⊢
     refine ⟨this, World.putObj_heap_same (Array.getElem?_eq_some_iff.1 hl3).1, (World.putObj_heap_other (by omega)).trans (hk3.heap (by omega) hd2), ?_⟩
     exact (hkeep12.trans (hk3.sub (fun b _ h => by omega))).putObj _ _ (by omega)
    have hiA2 : I k A2 := hI k A1 A2 (hI k W A1 hi (hk1.sub (fun _ _ _ => trivial))) (hk2.sub (fun b _ h => by omega))
    refine Zbd (hbody A2 (hk2.sub (fun b _ h => by omega)) hiA2) ?_
    have hst : ∀ (jump : Option Code) (W3 : World), KeepB (fun b => b < M ∨ w.heap.size + 2 ≤ b) W3 (W3.putObj (w.heap.size + 1) (.loop (rec (if jump.isNone then .ready else .done) jump))) := fun jump W3 => (KeepB.refl _ _).putObj _ _ (by omega)
    rintro e a3 W3 hp
    cases e with
    | normal =>
     obtain ⟨hk3, hi3⟩ := hp
     obtain ⟨hr, hl4, hk4, hk5⟩ := fin none W3 hk3
     exact ⟨_, _, hr, .inl ⟨rfl, ⟨hI _ _ _ hi3 (hst none W3), hl4, hk4⟩, hk5⟩⟩
    | ret =>
     obtain ⟨hk3, hi3⟩ := hp
     obtain ⟨hr, hl4, hk4, hk5⟩ := fin (some .ret) W3 hk3
     exact ⟨_, _, hr, .inr (.inl ⟨rfl, ⟨.ret, hIx _ _ _ hi3 (hst _ W3), hl4, hk4⟩, hk5⟩)⟩
    | exit id =>
     obtain ⟨hk3, hi3⟩ := hp
     obtain ⟨hr, hl4, hk4, hk5⟩ := fin (some (.exit id)) W3 hk3
     exact ⟨_, _, hr, .inr (.inl ⟨rfl, ⟨.exit id, hIx _ _ _ hi3 (hst _ W3), hl4, hk4⟩, hk5⟩)⟩
    | goto t =>
     obtain ⟨hk3, hi3⟩ := hp
     obtain ⟨hr, hl4, hk4, hk5⟩ := fin (some (.goto t)) W3 hk3
     exact ⟨_, _, hr, .inr (.inl ⟨rfl, ⟨.goto t, hIx _ _ _ hi3 (hst _ W3), hl4, hk4⟩, hk5⟩)⟩
    | panic ch =>
     obtain ⟨hdf, hk3, hip⟩ := hp
     exact ⟨hdf, .inr (.inr ⟨ch, rfl, hip, hk3.heap (by omega) hd2⟩)⟩
    | outgrown => exact hp.elim
   | _ => exact hp.elim
variable {ops : Array Oper} {Q : Exit → Act → World → Prop} {N : FS} {L : List (Nat × Value)} {w w0 : World} {S : Nat → Prop} {H H' : List Ent} {ro : Option Nat}
theorem Rnd.more {M E : Nat} {A0 A : World} {a : Option Addr} {ys : List Value} (h0 : Rnd w0 M E A0 H) (hM : w0.heap.size ≤ M) (hE : E ≤ A0.heap.size) (hk : KeepB (fun b => b < M ∨ E ≤ b) A0 A) (hr : Rd A a ys) (hb : ∀ p, a = some p → A0.heap.size ≤ p.block ∧ p.block < A.heap.size) : Rnd w0 M E A (.rd a ys :: H) := by
 have h := h0.keep hM hk
 have hz := h0.st.size
 refine ⟨⟨h.st.base, fun e he => ?_, fun e he k hx => ?_, List.pairwise_cons.2 ⟨fun e he k hx hx' => ?_, h.st.dis⟩⟩, fun e he k hx => ?_⟩
 ·rcases List.mem_cons.1 he with rfl | he
  ·exact hr
  ·exact h.st.ok e he
 ·rcases List.mem_cons.1 he with rfl | he
  ·obtain ⟨p, hp, rfl⟩ := hx
   have := hb p hp
   exact ⟨this.2, fun hlt => (by omega)⟩
  ·exact h.st.rng e he k hx
 ·obtain ⟨p, hp, rfl⟩ := hx
  have := hb p hp
  have := (h0.st.rng e he _ hx').1
  omega
 ·rcases List.mem_cons.1 he with rfl | he
  ·obtain ⟨p, hp, rfl⟩ := hx
   have := hb p hp
   exact .inr (by omega)
  ·exact h.off e he k hx
theorem wpC_rangeQ {α X : Type} {g : Operand} {ps : Array Tmp} {assign body : Code} {gf : Nat} {lb : Array Value} (hg : ev L g = some (.func (.func gf) #[] lb)) (eg : Zed P gf = true)
  {G : World → Prop} {Enc : α → List Value → World → World → Prop} {xs : List α} {M : Nat} (hit : IterQ P gf lb G Enc xs w0.heap.size M w) (hM : w0.heap.size ≤ M ∧ M ≤ w.heap.size) (hps : ∀ x v A B, Enc x v A B → v.length = ps.size) (hpn : (ps.toList.all fun p => Nat.ble (p + 1) N.n) = true)
  (Hk : Nat → X → List Ent) (Jk : Nat → X → Prop) (Hx : Code → X → List Ent) (Jx : Code → X → Prop) (Ip : List PanicEntry → Prop)
  (hG : ∀ k x A, Rnd w0 M (w.heap.size + 2) A (Hk k x) → G A)
  (x0 : X) (h0 : Rnd w0 M (w.heap.size + 2) w (Hk 0 x0)) (j0 : Jk 0 x0)
  (hround : ∀ l k e x A0 A v, xs[k]? = some e → Jk k x → w.heap.size + 2 ≤ A0.heap.size → w.heap.size + 2 ≤ A.heap.size → Rnd w0 M (w.heap.size + 2) A0 (Hk k x) → KeepB (fun b => b < M ∨ w.heap.size + 2 ≤ b) A0 A → Enc e v A0 A → Rnd w0 M (w.heap.size + 2) A (Hk k x) → St0 All A A [] →
   ∃ H1, Rnd w0 M (w.heap.size + 2) A H1 ∧ wpC P (some l) assign (Exit.then (AsgK P l body ⟨N.n, []⟩ w0 M (w.heap.size + 2) H1 A (fun A2 => Zcy (Zd1 w0.heap.size M (w.heap.size + 2)) (fun B => ∃ x', Rnd w0 M (w.heap.size + 2) B (Hk (k + 1) x') ∧ Jk (k + 1) x') (fun c B => ∃ x', Rnd w0 M (w.heap.size + 2) B (Hx c x') ∧ Jx c x') (fun c B => Below w0.heap.size w0 B ∧ Ip c) A2)) (fun _ _ _ => False))
    ⟨N.n, []⟩ ((ps.toList.zip v).foldl (fun L p => p :: L) L) A)
  (hdone : ∀ x A, Jk xs.length x → St0 All w0 A (.obj w.heap.size (.deferred (some [])) :: Hk xs.length x) → QH Q .normal ⟨N.n, { target := .collected w.heap.size, args := #[] } :: N.d⟩ L A)
  (hstop : ∀ c x A, Jx c x → St0 All w0 A (.obj w.heap.size (.deferred (some [])) :: Hx c x) → wpC P none c Q ⟨N.n, { target := .collected w.heap.size, args := #[] } :: N.d⟩ L A)
  (hpan : ∀ c A, Ip c → St0 All w0 A [.obj w.heap.size (.deferred (some []))] → QH Q (.panic c) ⟨N.n, { target := .collected w.heap.size, args := #[] } :: N.d⟩ L A) :
  wpC P none (.rangeFunc g ps assign body) Q N L w := ⟨fun a hF => by
 have hmark : ∀ A H1, Rnd w0 M (w.heap.size + 2) A H1 → A.heap[w.heap.size]? = some (.deferred (some [])) → St0 All w0 A (.obj w.heap.size (.deferred (some [])) :: H1) := fun A H1 hR hd => by
  refine ⟨hR.st.base, fun e he => ?_, fun e he k hx => ?_, List.pairwise_cons.2 ⟨fun e he k hx hx' => ?_, hR.st.dis⟩⟩
  ·rcases List.mem_cons.1 he with rfl | he
   ·exact hd
   ·exact hR.st.ok e he
  ·rcases List.mem_cons.1 he with rfl | he
   ·obtain rfl : k = w.heap.size := hx
    exact ⟨(Array.getElem?_eq_some_iff.1 hd).1, fun hlt => (by omega)⟩
   ·exact hR.st.rng e he k hx
  ·obtain rfl : k = w.heap.size := hx
   have := hR.off e he _ hx'
   omega
 have hF' : ∀ A : World, Fr ⟨N.n, { target := .collected w.heap.size, args := #[] } :: N.d⟩ L { a with defers := { target := .collected w.heap.size, args := #[] } :: a.defers } := fun A => ⟨hF.size, by rw [hF.defers], hF.at_⟩
 refine range_oQ (n0 := w0.heap.size) (M := M) (hF.eval hg) (fun args w => Zbu eg args) hit hM.1 hM.2 hps
  (fun k A => ∃ x, Rnd w0 M (w.heap.size + 2) A (Hk k x) ∧ Jk k x) (fun c A => ∃ x, Rnd w0 M (w.heap.size + 2) A (Hx c x) ∧ Jx c x) (fun c A => Below w0.heap.size w0 A ∧ Ip c)
  (fun k A h => h.elim fun x h => hG k x A h.1) (fun k A B h hk => h.imp fun x h => ⟨h.1.keep hM.1 hk, h.2⟩) (fun c A B h hk => h.imp fun x h => ⟨h.1.keep hM.1 hk, h.2⟩)
  (fun c A B h hk => ⟨h.1.trans (hk.to_below h.1.size (fun _ hb => .inl (by omega))), h.2⟩) ⟨x0, h0, j0⟩ ?_ ?_ ?_ ?_
 ·rintro l k e A0 A v hxk ⟨x, hR0, hJ⟩ hsz0 hkp hE
  have hsz : w.heap.size + 2 ≤ A.heap.size := Nat.le_trans hsz0 hkp.size
  obtain ⟨H1, hR, hwp⟩ := hround l k e x A0 A v hxk hJ hsz0 hsz hR0 hkp hE (hR0.keep hM.1 hkp) (St0.start _ _)
  have hfr : Fr ⟨N.n, []⟩ ((ps.toList.zip v).foldl (fun L p => p :: L) L) { tmps := (ps.zip v.toArray).foldl (fun t (p, v) => t.setIfInBounds p v) a.tmps, defers := [] } := by
   have := put_frame (N := ⟨N.n, []⟩) (ps := ps.toList) (vs := v) (tm := a.tmps) (L := L) ⟨hF.size, rfl, hF.at_⟩ hpn
   have e1 : (ps.zip v.toArray) = (ps.toList.zip v).toArray := by
    rw [← Array.toList_inj]; simp
   rw [e1]
   simpa using this
  refine Zbd (hwp.go _ hfr) ?_
  rintro ex a1 A1 hp
  cases ex with
  | normal =>
   obtain ⟨L1, Hn, hF1, hSn, hbody⟩ := hp.go
   refine ⟨hSn.base, fun A2 hk _ => ?_⟩
   have hk' : KeepB (fun b => b < M ∨ w.heap.size + 2 ≤ b) A1 A2 := hk.sub (fun b _ h => by omega)
   obtain ⟨h1, h2⟩ := hR.begin hM.1 hsz hSn hk'
   exact (hbody A2 h1 h2 (by have := hSn.size; have := hk.size; omega)).go _ hF1
  | _ => exact hp.elim
 ·rintro A ⟨x, hR, hJ⟩ hd
  exact (hdone x A hJ (hmark _ _ hR hd)).go _ (hF' A)
 ·rintro c A ⟨x, hR, hJ⟩ hd
  exact (hstop c x A hJ (hmark _ _ hR hd)).go _ (hF' A)
 ·rintro c A ⟨hb, hc⟩ hd
  have hR : Rnd w0 M (w.heap.size + 2) A [] := ⟨⟨KeepB.of_below hb (fun _ hk _ => hk), fun _ h => (by cases h), fun _ h => (by cases h), List.Pairwise.nil⟩, fun _ h => (by cases h)⟩
  exact (hpan c A hc (hmark _ _ hR hd)).go _ (hF' A)⟩
end
end Go.Proofs.Ytenagnncpaabdaa
namespace Go.Proofs.Ytenagnncpaabdaa
open Go Go.RowKit
set_option maxRecDepth 100000
def enF (f : Nat) : List Value := [.func (.func f) #[] #[]]
theorem he_enF : ∀ x, (enF x).length = 0 + 1 := fun _ => rfl
def sendOf (f : Nat) : Co → Int → Option (Ms × Bool) := if f = 45 then Jt else if f = 26 then X4 else fun _ _ => none
theorem send_c (f : Nat) (x0 : Co) (x1 : Int) (A0 : Option Addr) (c0 : Nat) (A1 : Option Addr) (c1 : Nat) (A2 : Option Addr) (c2 : Nat) (A3 : Option Addr) (c3 : Nat) (A4 : Option Addr) (c4 : Nat) (w0 : World) (s0 : SlI w0 Jv A0 c0 x0.tuple.log) (s1 : SlI w0 enO A1 c1 x0.votes) (s2 : SlI w0 Vu A2 c2 x0.next) (s3 : SlI w0 Vu A3 c3 x0.mtch) (s4 : SlI w0 Vu A4 c4 x0.caps) {r : Ms × Bool} (H : sendOf f x0 x1 = some r) :
  Zed Try.prog f = true ∧ Calls Try.prog f #[.agg #[.int .i64 x0.id, .int .i64 x0.n, .int .u8 x0.role, .int .i64 x0.binary, .int .i64 x0.tuple.snap.index, .int .i64 x0.tuple.snap.term, .int .i64 x0.tuple.snap.sum, .int .i64 x0.tuple.snap.level, .bool x0.tuple.snap.final, .slice A0 x0.tuple.log.length c0, .int .i64 x0.tuple.term, .int .i64 x0.tuple.vote, .int .i64 x0.commit, .int .i64 x0.applied.index, .int .i64 x0.applied.term, .int .i64 x0.applied.sum, .int .i64 x0.applied.level, .bool x0.applied.final, .slice A1 x0.votes.length c1, .slice A2 x0.next.length c2, .slice A3 x0.mtch.length c3, .slice A4 x0.caps.length c4], .int .i64 x1] w0 fun e w' => ∃ (A : Option Addr) (c : Nat), e = .returned (.tuple #[.agg #[.int .u8 r.1.kind, .int .i64 r.1.frm, .int .i64 r.1.dst, .int .i64 r.1.term, .int .i64 r.1.cap, .int .i64 r.1.last, .int .i64 r.1.lastTerm, .int .i64 r.1.commit, .bool r.1.okk, .slice A r.1.entries.length c, .int .i64 r.1.snap.index, .int .i64 r.1.snap.term, .int .i64 r.1.snap.sum, .int .i64 r.1.snap.level, .bool r.1.snap.final], .bool r.2]) ∧ (r.1.entries.length ≤ c ∧ c ≤ maxLen) ∧ Below w0.heap.size w0 w' ∧ Rd w' A (Ym Jv r.1.entries) ∧ ∀ q, A = some q → w0.heap.size ≤ q.block ∧ q.block < w'.heap.size := by
 unfold sendOf at H
 split at H
 ·rename_i h
  subst h
  refine ⟨by kernel_rfl, (c_repl_Message x0 x1 A0 c0 A1 c1 A2 c2 A3 c3 A4 c4 w0 s0 s1 s2 s3 s4 H).mono ?_⟩
  rintro e w' ⟨A, c, rfl, hk, hS⟩
  refine ⟨A, c, rfl, hk, hS.pure, hS.row_rd Has.head, fun q hq => ?_⟩
  have h := hS.rng _ (List.mem_cons_self ..) q.block (by subst hq; rfl)
  exact ⟨Nat.le_of_not_lt fun hlt => h.2 hlt trivial, h.1⟩
 ·split at H
  ·rename_i h
   subst h
   refine ⟨by kernel_rfl, (Zdk x0 x1 A0 c0 A1 c1 A2 c2 A3 c3 A4 c4 w0 s0 s1 s2 s3 s4 H).mono ?_⟩
   rintro e w' ⟨A, c, rfl, hk, hS⟩
   refine ⟨A, c, rfl, hk, hS.pure, hS.rd Has.head, fun q hq => ?_⟩
   have h := hS.rng _ (List.mem_cons_self ..) q.block ⟨q, hq, rfl⟩
   exact ⟨Nat.le_of_not_lt fun hlt => h.2 hlt trivial, h.1⟩
  ·cases H
def Za0 (x0 : Co) (i : Nat) : List Nat → Option (List (Int × Ms))
 | [] => some []
 | f :: t => (sendOf f x0 ((i : Int) + 1)).bind fun r => (Za0 x0 i t).bind fun l => some (if r.2 = true then ((i : Int) + 1, r.1) :: l else l)
def Zdz (x0 : Co) (fs : List Nat) : Nat → Nat → Option (List (Int × Ms))
 | 0, _ => some []
 | n + 1, i => (Za0 x0 i fs).bind fun a => (Zdz x0 fs n (i + 1)).bind fun l => some (a ++ l)
def Zdy (x0 : Co) (fs : List Nat) : Option (List (Int × Ms)) := if fs.length ≤ 1000 then Zdz x0 fs (min (max x0.n 0) 5).toNat 0 else none
def encN (p : Int × Ms) (v : List Value) (A0 A : World) : Prop := ∃ (a : Option Addr) (c : Nat), v = [.int .i64 p.1, .agg #[.int .u8 p.2.kind, .int .i64 p.2.frm, .int .i64 p.2.dst, .int .i64 p.2.term, .int .i64 p.2.cap, .int .i64 p.2.last, .int .i64 p.2.lastTerm, .int .i64 p.2.commit, .bool p.2.okk, .slice a p.2.entries.length c, .int .i64 p.2.snap.index, .int .i64 p.2.snap.term, .int .i64 p.2.snap.sum, .int .i64 p.2.snap.level, .bool p.2.snap.final]] ∧ (p.2.entries.length ≤ c ∧ c ≤ maxLen) ∧ Rd A a (Ym Jv p.2.entries) ∧ ∀ q, a = some q → A0.heap.size ≤ q.block ∧ q.block < A.heap.size
theorem encN_len (p : Int × Ms) (v : List Value) (A0 A : World) (h : encN p v A0 A) : v.length = 2 := by
 obtain ⟨a, c, rfl, _⟩ := h
 rfl
structure NodeW (x0 : Co) (fs : List Nat) (A0 A1 A2 A3 A4 A5 : Option Addr) (c0 c1 c2 c3 c4 c5 b b' : Nat) (B : World) : Prop where
 rf : Rd B A5 (Ym enF fs)
 core : B.heap[b]? = some (.cells #[.int .i64 x0.id, .int .i64 x0.n, .int .u8 x0.role, .int .i64 x0.binary, .int .i64 x0.tuple.snap.index, .int .i64 x0.tuple.snap.term, .int .i64 x0.tuple.snap.sum, .int .i64 x0.tuple.snap.level, .bool x0.tuple.snap.final, .slice A0 x0.tuple.log.length c0, .int .i64 x0.tuple.term, .int .i64 x0.tuple.vote, .int .i64 x0.commit, .int .i64 x0.applied.index, .int .i64 x0.applied.term, .int .i64 x0.applied.sum, .int .i64 x0.applied.level, .bool x0.applied.final, .slice A1 x0.votes.length c1, .slice A2 x0.next.length c2, .slice A3 x0.mtch.length c3, .slice A4 x0.caps.length c4] 30)
 sl : B.heap[b']? = some (.cells #[.slice A5 fs.length c5] 94)
 s0 : SlI B Jv A0 c0 x0.tuple.log
 s1 : SlI B enO A1 c1 x0.votes
 s2 : SlI B Vu A2 c2 x0.next
 s3 : SlI B Vu A3 c3 x0.mtch
 s4 : SlI B Vu A4 c4 x0.caps
theorem SlI.keepS {α : Type} {S : Nat → Prop} {e : α → List Value} {A : Option Addr} {c : Nat} {l : List α} {w w' : World} (h : SlI w e A c l) (hk : KeepB S w w') (hs : ∀ p, A = some p → S p.block) : SlI w' e A c l := ⟨h.le, h.cap, hk.rd h.rd hs, fun p hp => Nat.lt_of_lt_of_le (h.blk p hp) hk.size⟩
theorem NodeW.keep {S : Nat → Prop} {x0 : Co} {fs : List Nat} {A0 A1 A2 A3 A4 A5 : Option Addr} {c0 c1 c2 c3 c4 c5 b b' n : Nat} {B B' : World} (h : NodeW x0 fs A0 A1 A2 A3 A4 A5 c0 c1 c2 c3 c4 c5 b b' B) (hk : KeepB S B B') (hn : ∀ k, k < n → S k) (hb : S b) (hb' : S b') (hbl : b < B.heap.size) (hbl' : b' < B.heap.size) (n0 : ∀ p, A0 = some p → p.block < n) (n1 : ∀ p, A1 = some p → p.block < n) (n2 : ∀ p, A2 = some p → p.block < n) (n3 : ∀ p, A3 = some p → p.block < n) (n4 : ∀ p, A4 = some p → p.block < n) (hf : Rd B' A5 (Ym enF fs)) : NodeW x0 fs A0 A1 A2 A3 A4 A5 c0 c1 c2 c3 c4 c5 b b' B' :=
 ⟨hf, (hk.block b hbl hb).trans h.core, (hk.block b' hbl' hb').trans h.sl, h.s0.keepS hk fun p hp => hn _ (n0 p hp), h.s1.keepS hk fun p hp => hn _ (n1 p hp), h.s2.keepS hk fun p hp => hn _ (n2 p hp), h.s3.keepS hk fun p hp => hn _ (n3 p hp), h.s4.keepS hk fun p hp => hn _ (n4 p hp)⟩
theorem SlI.below {α : Type} {e : α → List Value} {A : Option Addr} {c : Nat} {l : List α} {w w' : World} (h : SlI w e A c l) (hB : Below w.heap.size w w') : SlI w' e A c l := ⟨h.le, h.cap, h.rd.below hB, fun p hp => Nat.lt_of_lt_of_le (h.blk p hp) hB.size⟩
set_option maxHeartbeats 1000000 in
theorem it_nodes (x0 : Co) (fs : List Nat) {A0 A1 A2 A3 A4 A5 : Option Addr} {c0 c1 c2 c3 c4 c5 : Nat} (wB wM wI : World) (s0 : SlI wB Jv A0 c0 x0.tuple.log) (s1 : SlI wB enO A1 c1 x0.votes) (s2 : SlI wB Vu A2 c2 x0.next) (s3 : SlI wB Vu A3 c3 x0.mtch) (s4 : SlI wB Vu A4 c4 x0.caps) (hB0 : Below wB.heap.size wB wM) (b b' : Nat) (hN : St0 All wM wI [.box b [.int .i64 x0.id, .int .i64 x0.n, .int .u8 x0.role, .int .i64 x0.binary, .int .i64 x0.tuple.snap.index, .int .i64 x0.tuple.snap.term, .int .i64 x0.tuple.snap.sum, .int .i64 x0.tuple.snap.level, .bool x0.tuple.snap.final, .slice A0 x0.tuple.log.length c0, .int .i64 x0.tuple.term, .int .i64 x0.tuple.vote, .int .i64 x0.commit, .int .i64 x0.applied.index, .int .i64 x0.applied.term, .int .i64 x0.applied.sum, .int .i64 x0.applied.level, .bool x0.applied.final, .slice A1 x0.votes.length c1, .slice A2 x0.next.length c2, .slice A3 x0.mtch.length c3, .slice A4 x0.caps.length c4] 30, .box b' [.slice A5 fs.length c5] 94]) {xs : List (Int × Ms)} (H : Zdy x0 fs = some xs) :
  IterQ Try.prog 76 #[.pointer (some ⟨b, 0, none⟩), .pointer (some ⟨b', 0, none⟩)] (fun A => Rd A A5 (Ym enF fs)) encN xs wB.heap.size wM.heap.size wI := by
 unfold Zdy at H
 split at H
 case isFalse => cases H
 rename_i hlf
 have nbb := hN.ne 0 1 rfl rfl rfl
 obtain ⟨hb, hbM, hbl⟩ := hN.cap
 obtain ⟨hc, hcM, hcl⟩ := (hN.front 1 rfl).cap
 have hBs := hB0.size
 have n0 := s0.blk
 have n1 := s1.blk
 have n2 := s2.blk
 have n3 := s3.blk
 have n4 := s4.blk
 intro lo J Jx Jp W hW hG hJ hJx hJp hy h0
 have hNW : NodeW x0 fs A0 A1 A2 A3 A4 A5 c0 c1 c2 c3 c4 c5 b b' W :=
  ⟨hG 0 W h0, (hW.block b hbl).trans hb, (hW.block b' hcl).trans hc, ((s0.below hB0).below hN.pure).below hW, ((s1.below hB0).below hN.pure).below hW, ((s2.below hB0).below hN.pure).below hW, ((s3.below hB0).below hN.pure).below hW, ((s4.below hB0).below hN.pure).below hW⟩
 have hbW := hNW.core
 obtain ⟨N, hNe⟩ : ∃ N : Nat, min (max x0.n 0) 5 = (N : Int) := ⟨(min (max x0.n 0) 5).toNat, by omega⟩
 have hN5 : N ≤ 5 := by omega
 rw [hNe, Int.toNat_natCast] at H
 show Calls _ _ #[_, _, _] _ _
 refine Zb1 Try.func76 rfl Try.ntmps76 rfl ?_
 have hS := St0.start All W
 repeat (first | apply Zg | (apply Zc; assumption) | (apply Zd; intro K hK) | apply Zf | (apply Yk; refine Za rfl rfl rfl (by first | exact Zn rfl | exact Ze (by first | exact Z5 | exact Vy) rfl | (apply Zy; first | exact Xi (by first | exact Zx) rfl (RW.here _) hS (by first | trivial) (by first | trivial) (by assumption) (by repeat (first | exact Seg.here (Pre.succ Pre.zero) | apply Seg.succ))) | (apply Zb3; first | exact yv_min rfl rfl | exact yv_max rfl rfl)) ?_) | apply Yj)
 rw [hNe]
 refine Jq (X := Nat × List (Int × Ms)) (fun z => [(13, .int .i64 z.1), (12, .int .i64 N), (2, .pointer (some ⟨b', 0, none⟩)), (1, .pointer (some ⟨b, 0, none⟩)), (0, .func (.yield lo) #[] #[])])
  (fun z B => z.1 ≤ N ∧ (∃ rest, Zdz x0 fs (N - z.1) z.1 = some rest ∧ xs = z.2 ++ rest) ∧ J z.2.length B ∧ NodeW x0 fs A0 A1 A2 A3 A4 A5 c0 c1 c2 c3 c4 c5 b b' B ∧ wI.heap.size ≤ B.heap.size) (fun z => N - z.1) (0, []) (by repeat (first | exact Sub.nil | refine Sub.cons rfl ?_)) ⟨Nat.zero_le _, ⟨xs, H, rfl⟩, h0, hNW, hW.size⟩ ?_
 rintro ⟨i, done⟩ B ⟨hi, ⟨rest, hrest, hxs⟩, hJk, hNB, hz⟩
 dsimp only at hi hrest hxs hJk
 dsimp only
 clear hbW hNW hS h0
 have hS := St0.start All B
 rcases Nat.lt_or_ge i N with hlt | hge
 ·obtain ⟨n, hn⟩ : ∃ n, N - i = n + 1 := ⟨N - i - 1, by omega⟩
  have hn' : N - (i + 1) = n := by omega
  rw [hn, Zdz] at hrest
  obtain ⟨a1, ha1, hrest⟩ := bind_some hrest
  obtain ⟨b1, hb1, hrest⟩ := bind_some hrest
  obtain rfl := Option.some.inj hrest
  have hcB := hNB.sl
  repeat (first | apply Zg | (apply Zc; assumption) | (apply Zd; intro K hK) | apply Zf | (apply Yk; refine Za rfl rfl rfl (by first | exact Zn rfl | exact Z4 rfl | (apply Zy; first | exact Xi (by first | exact sc_94) rfl (RW.here _) hS (by first | trivial) (by first | trivial) (by assumption) (by repeat (first | exact Seg.here (Pre.succ Pre.zero)))) | (apply Yi; first | exact yv_lss_t rfl rfl (by omega)) | (apply Zb3; first | exact Y1 (by first | exact el_94) rfl)) ?_) | apply Zs rfl rfl | apply Zu | apply Yj)
  refine Jq (X := Nat × List (Int × Ms)) (fun z => [(18, .int .i64 z.1), (17, .int .i64 fs.length), (16, .slice A5 fs.length c5), (4, .int .i64 i), (13, .int .i64 i), (12, .int .i64 N), (2, .pointer (some ⟨b', 0, none⟩)), (1, .pointer (some ⟨b, 0, none⟩)), (0, .func (.yield lo) #[] #[])])
   (fun z B => z.1 ≤ fs.length ∧ (∃ rest, Za0 x0 i (fs.drop z.1) = some rest ∧ a1 = z.2 ++ rest) ∧ J (done.length + z.2.length) B ∧ NodeW x0 fs A0 A1 A2 A3 A4 A5 c0 c1 c2 c3 c4 c5 b b' B ∧ wI.heap.size ≤ B.heap.size) (fun z => fs.length - z.1) (0, []) (by repeat (first | exact Sub.nil | refine Sub.cons rfl ?_)) ⟨Nat.zero_le _, ⟨a1, ha1, rfl⟩, hJ _ _ _ hJk (hS.base.sub fun _ _ _ => trivial), hNB, hz⟩ ?_
  clear hJk hNB hcB hS hz
  rintro ⟨j, done2⟩ B ⟨hj, ⟨rest2, hrest2, ha2⟩, hJk, hNB, hz⟩
  dsimp only at hj hrest2 ha2 hJk
  dsimp only
  have hS := St0.start All B
  rcases Nat.lt_or_ge j fs.length with hjl | hjg
  ·obtain ⟨f, hf, hd⟩ := Xw hjl
   rw [hd, Za0] at hrest2
   obtain ⟨⟨m, ok⟩, hsend, hrest2⟩ := bind_some hrest2
   obtain ⟨l2, hl2, hrest2⟩ := bind_some hrest2
   obtain rfl := Option.some.inj hrest2
   have hEl := Rd.el hNB.rf he_enF hf
   have hbB := hNB.core
   have hsc := send_c f x0 ((i : Int) + 1) A0 c0 A1 c1 A2 c2 A3 c3 A4 c4 B hNB.s0 hNB.s1 hNB.s2 hNB.s3 hNB.s4 hsend
   repeat (first | (apply Zd; intro K hK))
   apply Zf
   repeat (first | apply Zg | (apply Zc; assumption) | (apply Zd; intro K hK) | (apply Yk; refine Za rfl rfl rfl (by first | (apply Yi; first | exact yv_lss_t rfl rfl (by omega))) ?_) | apply Zs rfl rfl | apply Zu | apply Yj)
   apply Zf
   repeat (first | apply Zg | (apply Zc; assumption) | (apply Zd; intro K hK) | (apply Yk; refine Za rfl rfl rfl (by first | exact Xo (by first | exact el_27 | exact el_94) rfl rfl rfl hjl hEl | exact V4 (by first | exact Za2 | exact sc_60) rfl (RW.here _) hEl rfl | exact Z4 rfl) ?_))
   apply Zf
   repeat (first | (apply Yk; refine Za rfl rfl rfl (by first | exact Zn rfl | (apply Zy; first | exact Zaq (by first | exact Yp) rfl (RW.here _) hS (by first | trivial) (by first | trivial) (by assumption) (by repeat (first | exact Seg.here (by repeat (first | exact Pre.zero | apply Pre.succ))))) | (apply Yi; first | exact Zfd rfl rfl (by omega))) ?_))
   refine Zr rfl rfl rfl rfl hsc.1 rfl hsc.2 ?_
   rintro e w1 ⟨a, c, rfl, hkc, hBl, hrd, hblk⟩
   refine ⟨_, rfl, ?_⟩
   have hS := St0.start All w1
   dsimp only at hrd hkc hblk
   repeat (first | (apply Yk; refine Za rfl rfl rfl (by first | exact Zn rfl | exact Ya rfl rfl) ?_))
   first | (apply Xp; refine Z6 rfl rfl (by first | exact Zfy) hS (fun b7 w hS hB => ?_))
   repeat (first | apply Zg | (apply Zc; assumption) | (apply Zd; intro K hK) | (apply Yg; refine Zo rfl rfl rfl (by first | exact CellsOf.agg) hS (by repeat (first | exact Pos.head)) (by repeat (first | exact SetC.here (by repeat (first | exact Ovr.nil | apply Ovr.cons)))) (by kernel_rfl) rfl (fun w hS hB => ?_)) | (apply Yk; refine Za rfl rfl rfl (by first | exact Z4 rfl) ?_))
   have hrdB : Rd w1 a (Ym Jv m.entries) := hrd
   have hk1 : KeepB All B w1 := KeepB.of_below hBl (fun _ h _ => h)
   cases ok with
   | true =>
    refine Zea 6 (by repeat (first | exact NL.body (by intro _ h; simp at h) | apply NL.then | apply NL.inBlock)) (by kernel_rfl) ?_
    dsimp only [List.take, List.drop]
    repeat (first | apply Zg | (apply Yk; refine Za rfl rfl rfl (by first | exact Zn rfl | (apply Zy; first | exact Zj (by first | exact X7) rfl (RW.here _) hS (by repeat (first | exact Has.head)) (by first | trivial) (by repeat (first | exact Seg.here (by repeat (first | exact Pre.zero | apply Pre.succ))))) | (apply Yi; first | exact Zfd rfl rfl (by omega))) ?_))
    refine QH_Y ?_
    have hk2 := hk1.trans hS.base
    have hx2 : xs[done.length + done2.length]? = some ((i : Int) + 1, m) := by rw [hxs, ha2]; simp
    refine wpSI_yield rfl rfl rfl rfl (hy _ _ B _ _ hx2 hJk hz (hk2.sub fun _ _ _ => trivial) ⟨a, c, rfl, hkc, hS.base.rd hrdB (fun _ _ => trivial), fun q hq => ⟨(hblk q hq).1, Nat.lt_of_lt_of_le (hblk q hq).2 hS.base.size⟩⟩) ?_
    have hz1 := Nat.le_trans hz hk2.size
    have hNw : NodeW x0 fs A0 A1 A2 A3 A4 A5 c0 c1 c2 c3 c4 c5 b b' _ := hNB.keep (n := wB.heap.size) hk2 (fun _ _ => trivial) trivial trivial (Nat.lt_of_lt_of_le hbl hz) (Nat.lt_of_lt_of_le hcl hz) n0 n1 n2 n3 n4 (hk2.rd hNB.rf fun _ _ => trivial)
    rintro ex w2 (⟨rfl, hJ2, hk3⟩ | ⟨rfl, hJ2, hk3⟩ | ⟨ch, rfl, hJ2⟩)
    ·refine .inl ⟨_, rfl, Zb0 (by repeat (first | exact NL.body (by intro _ h; simp at h) | apply NL.then | apply NL.inBlock)) (by kernel_rfl) ?_⟩
     have hNw2 := hNw.keep (n := wB.heap.size) hk3 (fun _ h => .inl h) (.inr ⟨hbM, hbl⟩) (.inr ⟨hcM, hcl⟩) (Nat.lt_of_lt_of_le hbl hz1) (Nat.lt_of_lt_of_le hcl hz1) n0 n1 n2 n3 n4 (hG _ _ hJ2)
     have hS := St0.start All w2
     repeat (first | apply Zg | (apply Zc; assumption) | apply Zf | (apply Yk; refine Za rfl rfl rfl (by first | exact Zn rfl | (apply Yi; first | exact Zfd rfl rfl (by omega)) | (apply Ys; first | exact Zw rfl rfl rfl) | exact Yt rfl) ?_) | apply Yq rfl rfl | apply Zu | apply Z1)
     refine Vp (j + 1, done2 ++ [((i : Int) + 1, m)]) (by repeat (first | exact Sub.nil | refine Sub.cons rfl ?_)) ⟨hjl, ⟨l2, hl2, by dsimp only; rw [ha2]; simp⟩, ?_, hNw2, Nat.le_trans hz1 hk3.size⟩ (by dsimp only; omega)
     dsimp only; rw [List.length_append]; exact hJ2
    ·refine .inl ⟨_, rfl, Zb0 (by repeat (first | exact NL.body (by intro _ h; simp at h) | apply NL.then | apply NL.inBlock)) (by kernel_rfl) ?_⟩
     have hS := St0.start All w2
     repeat (first | apply Zg | (apply Zc; assumption) | (apply Yk; refine Za rfl rfl rfl (by first | (apply Ys; first | exact Zw rfl rfl rfl) | exact Yt rfl) ?_) | apply Zs rfl rfl | apply Zk | apply Zi | apply Zv)
     refine Zl rfl (by first | exact RV.nil) rfl ?_
     exact .inl ⟨⟨_, rfl⟩, .inr hJ2⟩
    ·refine .inr ⟨ch, rfl, ?_⟩
     repeat (first | apply Y4 | apply Zbo)
     exact X8 rfl (.inr ⟨ch, rfl, hJ2⟩)
   | false =>
    refine Zea 6 (by repeat (first | exact NL.body (by intro _ h; simp at h) | apply NL.then | apply NL.inBlock)) (by kernel_rfl) ?_
    dsimp only [List.take, List.drop]
    repeat (first | apply Zg | (apply Yk; refine Yz rfl rfl rfl ?_) | (apply Yk; refine Za rfl rfl rfl (by first | exact Zn rfl) ?_))
    refine QH_Y ?_
    refine Zb0 (by repeat (first | exact NL.body (by intro _ h; simp at h) | apply NL.then | apply NL.inBlock)) (by kernel_rfl) ?_
    repeat (first | apply Zg | (apply Zc; assumption) | apply Zf | (apply Yk; refine Yz rfl rfl rfl ?_) | (apply Yk; refine Za rfl rfl rfl (by first | exact Zn rfl | (apply Yi; first | exact Zfd rfl rfl (by omega)) | (apply Ys; first | exact Zz rfl rfl rfl)) ?_) | apply Yq rfl rfl | apply Zu | apply Z1)
    have hk2 := hk1.trans hS.base
    have hNw : NodeW x0 fs A0 A1 A2 A3 A4 A5 c0 c1 c2 c3 c4 c5 b b' _ := hNB.keep (n := wB.heap.size) hk2 (fun _ _ => trivial) trivial trivial (Nat.lt_of_lt_of_le hbl hz) (Nat.lt_of_lt_of_le hcl hz) n0 n1 n2 n3 n4 (hk2.rd hNB.rf fun _ _ => trivial)
    refine Vp (j + 1, done2) (by repeat (first | exact Sub.nil | refine Sub.cons rfl ?_)) ⟨hjl, ⟨l2, hl2, ha2⟩, hJ _ _ _ hJk (hk2.sub fun _ _ _ => trivial), hNw, Nat.le_trans hz hk2.size⟩ (by dsimp only; omega)
  ·obtain rfl : j = fs.length := by omega
   rw [List.drop_length, Za0] at hrest2
   obtain rfl := Option.some.inj hrest2
   rw [List.append_nil] at ha2
   repeat (first | apply Zg | (apply Zc; assumption) | (apply Zd; intro K hK) | apply Zf | (apply Yk; refine Za rfl rfl rfl (by first | exact Zn rfl | (apply Yi; first | exact yv_lss_f rfl rfl (by omega) | exact Zfd rfl rfl (by omega))) ?_) | apply Yq rfl rfl | apply Vo | apply Ye | apply Z1 | apply Xf)
   refine Vp (i + 1, done ++ a1) (by repeat (first | exact Sub.nil | refine Sub.cons rfl ?_)) ⟨by dsimp only; omega, ⟨b1, by dsimp only; rw [hn']; exact hb1, by dsimp only; rw [hxs, List.append_assoc]⟩, ?_, ?_, ?_⟩ (by dsimp only; omega)
   ·dsimp only; rw [List.length_append, ha2]; exact hJ _ _ _ hJk (hS.base.sub fun _ _ _ => trivial)
   ·exact hNB.keep (n := wB.heap.size) hS.base (fun _ _ => trivial) trivial trivial (Nat.lt_of_lt_of_le hbl hz) (Nat.lt_of_lt_of_le hcl hz) n0 n1 n2 n3 n4 (hS.base.rd hNB.rf fun _ _ => trivial)
   ·exact Nat.le_trans hz hS.base.size
 ·have hi0 : N - i = 0 := by omega
  rw [hi0, Zdz] at hrest
  obtain rfl := Option.some.inj hrest
  rw [List.append_nil] at hxs
  repeat (first | apply Zg | (apply Zc; assumption) | (apply Zd; intro K hK) | apply Zf | (apply Yk; refine Za rfl rfl rfl (by first | (apply Yi; first | exact yv_lss_f rfl rfl (by omega))) ?_) | apply Yq rfl rfl | apply Vo | apply Ye | apply Xf)
  refine Zb9 rfl (by first | exact RV.nil) rfl ?_
  refine .inl ⟨⟨_, rfl⟩, .inl ?_⟩
  rw [hxs]
  exact hJ _ _ _ hJk (hS.base.sub fun _ _ _ => trivial)
end Go.Proofs.Ytenagnncpaabdaa
namespace Go.Proofs.Ytenagnncpaabdaa
open Go Go.RowKit
set_option maxRecDepth 100000
def Zcm (x0 : Tu) : Option (Bool) :=
  some (decide (250 < (x0.log.length : Int)))
def Jj (x0 : Co) : Option (Bool) := (Zcm x0.tuple).bind fun r5 =>
  cond r5 (some true) (cond (decide (9 < (x0.votes.length : Int))) (some true) (cond (decide (9 < (x0.next.length : Int))) (some true) (cond (decide (9 < (x0.mtch.length : Int))) (some true) (cond (decide (9 < (x0.caps.length : Int))) (some true) (cond (decide (1099511627776 < x0.tuple.snap.index)) (some true) (some (decide (x0.tuple.snap.index < (-1099511627776)))))))))
def Zcc (x0 : Co) (x1 : Ms) : Option (Bool) := (Jj x0).bind fun r7 =>
  cond r7 (some true) (some (decide (20 < (x1.entries.length : Int))))
def V5 (x0 : Int) : Option (Bool) :=
  cond (decide (0 ≤ x0)) (some (decide (x0 ≤ 1073741824))) (some false)
def J8 : Option (St) :=
  some (⟨0, 0, 0, 1, false⟩ : St)
def Vx (x0 : St) : Option (Bool) := (V5 x0.index).bind fun r6 =>
  cond (!r6) (some false) ((V5 x0.term).bind fun r9 =>
  cond (!r9) (some false) ((V5 x0.sum).bind fun r12 =>
  cond (!r12) (some false) (cond (decide ((decide (x0.term = 0)) ≠ (decide (x0.index = 0)))) (some false) (cond (decide (x0.level ≠ 1)) (cond (decide (x0.level ≠ 2)) (some false) (cond x0.final (cond (decide (x0.level ≠ 2)) (some false) (cond (decide (0 < x0.index)) (some true) ((J8).bind fun r19 =>
  some (decide (x0.index = r19.index) && (decide (x0.term = r19.term) && (decide (x0.sum = r19.sum) && (decide (x0.level = r19.level) && (decide (x0.final = r19.final))))))))) (cond (decide (0 < x0.index)) (some true) ((J8).bind fun r22 =>
  some (decide (x0.index = r22.index) && (decide (x0.term = r22.term) && (decide (x0.sum = r22.sum) && (decide (x0.level = r22.level) && (decide (x0.final = r22.final)))))))))) (cond x0.final (cond (decide (x0.level ≠ 2)) (some false) (cond (decide (0 < x0.index)) (some true) ((J8).bind fun r26 =>
  some (decide (x0.index = r26.index) && (decide (x0.term = r26.term) && (decide (x0.sum = r26.sum) && (decide (x0.level = r26.level) && (decide (x0.final = r26.final))))))))) (cond (decide (0 < x0.index)) (some true) ((J8).bind fun r29 =>
  some (decide (x0.index = r29.index) && (decide (x0.term = r29.term) && (decide (x0.sum = r29.sum) && (decide (x0.level = r29.level) && (decide (x0.final = r29.final)))))))))))))
def Zas (x0 : En) : Option (Bool) :=
  cond (decide (1 ≤ x0.term)) ((V5 x0.term).bind fun r5 =>
  cond r5 (cond (decide (0 ≤ x0.kind)) (cond (decide (x0.kind < 5)) ((V5 x0.value).bind fun r7 =>
  cond r7 (cond (decide (x0.kind = 1)) (some true) (some (decide (x0.value = 0)))) (some false)) (some false)) (some false)) (some false)) (some false)
def Jf (x0 : Tu) : Nat → Bool → Int → Int → Option (Bool)
 | 0, _, _, _ => none
 | n + 1, v16, v17, v18 =>
  cond (decide (v18 < (x0.log.length : Int))) ((idx x0.log v18).bind fun e24 =>
  (Zas e24).bind fun r27 =>
  cond (!r27) (some false) ((idx x0.log v18).bind fun e30 =>
  cond (decide (e30.term < v17)) (some false) ((idx x0.log v18).bind fun e34 =>
  Jf x0 n v16 e34.term (IntKind.wrap .i64 (v18 + 1))))) (cond (decide (v17 ≤ x0.term)) (cond (decide (0 ≤ x0.term)) (some (decide (x0.term ≤ 1073741824))) (some false)) (some false))
def Zck (x0 : Tu) : Option (Bool) := (Vx x0.snap).bind fun r6 =>
  cond (!r6) (some false) (cond (decide (1073740824 < x0.snap.index)) (some false) (cond (decide (200 < (x0.log.length : Int))) (some false) (cond (decide (x0.vote < 0)) (some false) (cond (decide (5 < x0.vote)) (some false) (Jf x0 X6 false x0.snap.term 0)))))
def Jn (x0 : Tu) : Option (Int) :=
  some (IntKind.wrap .i64 (x0.snap.index + (x0.log.length : Int)))
def Zb2 (x0 : St) (x1 : En) : Option (St) := (Zas x1).bind fun r10 =>
  cond (!r10) (some x0) ((Vx x0).bind fun r13 =>
  cond (!r13) (some x0) (cond (decide (1073741824 ≤ x0.index)) (some x0) (cond (decide (x1.kind = 1)) (some (⟨(IntKind.wrap .i64 (x0.index + 1)), x1.term, (Int.tmod (IntKind.wrap .i64 ((IntKind.wrap .i64 ((IntKind.wrap .i64 (31 * x0.sum)) + x1.value)) + 1)) 1073741824), x0.level, x0.final⟩ : St)) (cond (decide (x1.kind = 2)) (some (⟨(IntKind.wrap .i64 (x0.index + 1)), x1.term, x0.sum, 2, x0.final⟩ : St)) (cond (decide (x1.kind = 3)) (cond (!x0.final) (some (⟨(IntKind.wrap .i64 (x0.index + 1)), x1.term, x0.sum, 1, x0.final⟩ : St)) (some (⟨(IntKind.wrap .i64 (x0.index + 1)), x1.term, x0.sum, x0.level, x0.final⟩ : St))) (cond (decide (x1.kind = 4)) (some (⟨(IntKind.wrap .i64 (x0.index + 1)), x1.term, x0.sum, x0.level, (decide (x0.level = 2))⟩ : St)) (some (⟨(IntKind.wrap .i64 (x0.index + 1)), x1.term, x0.sum, x0.level, x0.final⟩ : St))))))))
def Zad (x1 : List En) : Nat → Int → Int → Int → Int → Int → Bool → Option (St)
 | 0, _, _, _, _, _, _ => none
 | n + 1, v8, v9, v10, v11, v12, v13 =>
  cond (decide (v8 < (x1.length : Int))) ((idx x1 v8).bind fun e17 =>
  (Zb2 (⟨v9, v10, v11, v12, v13⟩ : St) e17).bind fun r20 =>
  Zad x1 n (IntKind.wrap .i64 (v8 + 1)) r20.index r20.term r20.sum r20.level r20.final) (some (⟨v9, v10, v11, v12, v13⟩ : St))
def Zfa (x0 : St) (x1 : List En) : Option (St) :=
  Zad x1 X6 0 x0.index x0.term x0.sum x0.level x0.final
def Zbg (x0 : Tu) (x1 : Int) : Option (St × Bool) :=
  cond (decide (x1 < x0.snap.index)) (some ((⟨0, 0, 0, 0, false⟩ : St), false)) ((Jn x0).bind fun r9 =>
  cond (decide (r9 < x1)) (some ((⟨0, 0, 0, 0, false⟩ : St), false)) ((takeI x0.log (IntKind.wrap .i64 (x1 - x0.snap.index))).bind fun l13 =>
  (Zfa x0.snap l13).bind fun r15 =>
  some (r15, true)))
def Jd (x0 : Co) (r30 : Int) : Nat → Bool → Int → Option (Bool)
 | 0, _, _ => none
 | n + 1, v34, v35 =>
  cond (decide (v35 < x0.n)) ((idx x0.next v35).bind fun e40 =>
  cond (decide (e40 < 1)) (some false) ((idx x0.next v35).bind fun e44 =>
  cond (decide ((IntKind.wrap .i64 (r30 + 1)) < e44)) (some false) ((idx x0.mtch v35).bind fun e48 =>
  cond (decide (e48 < 0)) (some false) ((idx x0.mtch v35).bind fun e52 =>
  cond (decide (r30 < e52)) (some false) ((idx x0.caps v35).bind fun e56 =>
  cond (decide (e56 < 0)) (some false) ((idx x0.caps v35).bind fun e60 =>
  cond (decide (2 < e60)) (some false) (Jd x0 r30 n v34 (IntKind.wrap .i64 (v35 + 1))))))))) (cond (decide (x0.role ≠ 0)) (cond (decide (x0.tuple.term < 1)) (some false) (cond (decide (x0.tuple.vote ≠ x0.id)) (some false) ((idx x0.caps (IntKind.wrap .i64 (x0.id - 1))).bind fun e69 =>
  some (decide (e69 = x0.binary))))) ((idx x0.caps (IntKind.wrap .i64 (x0.id - 1))).bind fun e73 =>
  some (decide (e73 = x0.binary))))
def J7 (x0 : Co) : Option (Bool) :=
  cond (decide (x0.n < 1)) (some false) (cond (decide (5 < x0.n)) (some false) (cond (decide (x0.id < 1)) (some false) (cond (decide (x0.n < x0.id)) (some false) (cond (decide (2 < x0.role)) (some false) (cond (decide (x0.binary < 1)) (some false) (cond (decide (2 < x0.binary)) (some false) ((Zck x0.tuple).bind fun r13 =>
  cond (!r13) (some false) ((Zbg x0.tuple x0.commit).bind fun r17 =>
  cond (!r17.2) (some false) (cond (!(decide (r17.1.index = x0.applied.index) && (decide (r17.1.term = x0.applied.term) && (decide (r17.1.sum = x0.applied.sum) && (decide (r17.1.level = x0.applied.level) && (decide (r17.1.final = x0.applied.final))))))) (some false) (cond (decide ((x0.votes.length : Int) ≠ x0.n)) (some false) (cond (decide ((x0.next.length : Int) ≠ x0.n)) (some false) (cond (decide ((x0.mtch.length : Int) ≠ x0.n)) (some false) (cond (decide ((x0.caps.length : Int) ≠ x0.n)) (some false) ((Jn x0.tuple).bind fun r30 =>
  Jd x0 r30 X6 false 0))))))))))))))
def Zff : Option (Tu) := (J8).bind fun r5 =>
  some (⟨r5, [], 0, 0⟩ : Tu)
def m_ref12_Own (x0 : Tu) : Option (Tu) := (Zfc ([] ++ x0.log)).bind fun l9 =>
  some (⟨x0.snap, l9, x0.term, x0.vote⟩ : Tu)
def Zdl (x0 : Int) (x1 : Int) (x2 : Int) (x3 : Tu) (r13 : Tu) : Nat → Int → List Bool → List Int → List Int → List Int → Option (Co)
 | 0, _, _, _, _, _ => none
 | n + 1, v24, v25, v30, v35, v40 =>
  cond (decide (v24 ≤ x1)) ((Zfc (v25 ++ ([false] : List Bool))).bind fun l51 =>
  (Jn x3).bind fun r57 =>
  (Zfc (v30 ++ ([(IntKind.wrap .i64 (r57 + 1))] : List Int))).bind fun l61 =>
  (Zfc (v35 ++ ([0] : List Int))).bind fun l69 =>
  (Zfc (v40 ++ ([0] : List Int))).bind fun l76 =>
  Zdl x0 x1 x2 x3 r13 n (IntKind.wrap .i64 (v24 + 1)) l51 l61 l69 l76) ((idx v40 (IntKind.wrap .i64 (x0 - 1))).bind fun e82 =>
  some (⟨x0, x1, 0, x2, r13, x3.snap.index, x3.snap, v25, v30, v35, (setI v40 (IntKind.wrap .i64 (x0 - 1)) x2)⟩ : Co))
def Zfb (x0 : Int) (x1 : Int) (x2 : Int) (x3 : Tu) : Option (Co) :=
  cond (decide (x1 < 0)) (some (⟨0, 0, 0, 0, (⟨(⟨0, 0, 0, 0, false⟩ : St), [], 0, 0⟩ : Tu), 0, (⟨0, 0, 0, 0, false⟩ : St), [], [], [], []⟩ : Co)) (cond (decide (5 < x1)) (some (⟨0, 0, 0, 0, (⟨(⟨0, 0, 0, 0, false⟩ : St), [], 0, 0⟩ : Tu), 0, (⟨0, 0, 0, 0, false⟩ : St), [], [], [], []⟩ : Co)) (cond (decide (x0 < 1)) (some (⟨0, 0, 0, 0, (⟨(⟨0, 0, 0, 0, false⟩ : St), [], 0, 0⟩ : Tu), 0, (⟨0, 0, 0, 0, false⟩ : St), [], [], [], []⟩ : Co)) (cond (decide (x1 < x0)) (some (⟨0, 0, 0, 0, (⟨(⟨0, 0, 0, 0, false⟩ : St), [], 0, 0⟩ : Tu), 0, (⟨0, 0, 0, 0, false⟩ : St), [], [], [], []⟩ : Co)) ((m_ref12_Own x3).bind fun r13 =>
  Zdl x0 x1 x2 x3 r13 X6 1 [] [] [] []))))
def Ve : List (Int × Ms) → List Int → Option (List Int)
 | [], v17 =>
  some v17
 | e16 :: l0, v17 =>
  (Zfc (v17 ++ ([e16.1] : List Int))).bind fun l30 =>
  Ve l0 l30
def Vl (x0 : Co) : Option (List Int) := (Zdy x0 ([26] : List Nat)).bind fun xs22 =>
  Ve xs22 []
def Vt : List (Int × Ms) → List Ms → Option (List Ms)
 | [], v17 =>
  some v17
 | e16 :: l0, v17 =>
  (Zfc (v17 ++ [e16.2])).bind fun l36 =>
  Vt l0 l36
def Ju (x0 : Co) : Option (List Ms) := (Zdy x0 ([45, 26] : List Nat)).bind fun xs26 =>
  Vt xs26 []
def Xb : Option (Bool) := (Zff).bind fun r3 =>
  (Zfb 1 3 2 r3).bind fun r9 =>
  (Vg r9).bind fun r34 =>
  (Zfb 2 3 2 (⟨(⟨4, 2, 9, 2, false⟩ : St), [], 2, 2⟩ : Tu)).bind fun r62 =>
  (X4 (⟨r62.id, r62.n, 2, r62.binary, r62.tuple, r62.commit, r62.applied, r62.votes, ([1, 5, 5] : List Int), r62.mtch, r62.caps⟩ : Co) 1).bind fun r91 =>
  (X4 (⟨r62.id, r62.n, 2, r62.binary, r62.tuple, r62.commit, r62.applied, r62.votes, ([1, 5, 5] : List Int), r62.mtch, r62.caps⟩ : Co) 3).bind fun r100 =>
  (X3 r9 r91.1).bind fun r109 =>
  (Vl (⟨r62.id, r62.n, 2, r62.binary, r62.tuple, r62.commit, r62.applied, r62.votes, ([1, 5, 5] : List Int), r62.mtch, r62.caps⟩ : Co)).bind fun r142 =>
  cond (decide ((r109.2.length : Int) ≠ 1)) (some false) (cond (decide ((r142.length : Int) ≠ 1)) (some false) (cond (!r34.2) (cond r91.2 (cond (!r100.2) (cond (decide (r91.1.snap.index = 4) && (decide (r91.1.snap.term = 2) && (decide (r91.1.snap.sum = 9) && (decide (r91.1.snap.level = 2) && (decide (r91.1.snap.final = false)))))) (cond (decide (r109.1.tuple.snap.index = 4) && (decide (r109.1.tuple.snap.term = 2) && (decide (r109.1.tuple.snap.sum = 9) && (decide (r109.1.tuple.snap.level = 2) && (decide (r109.1.tuple.snap.final = false)))))) (cond (decide (r109.1.commit = 4)) (cond (decide (r109.1.applied.index = 4) && (decide (r109.1.applied.term = 2) && (decide (r109.1.applied.sum = 9) && (decide (r109.1.applied.level = 2) && (decide (r109.1.applied.final = false)))))) ((idx r109.2 0).bind fun e153 =>
  cond e153.okk ((idx r109.2 0).bind fun e158 =>
  cond (decide (e158.last = 4)) ((idx r142 0).bind fun e163 =>
  cond (decide (e163 = 1)) ((Ju (⟨r62.id, r62.n, 2, r62.binary, r62.tuple, r62.commit, r62.applied, r62.votes, ([1, 5, 5] : List Int), r62.mtch, r62.caps⟩ : Co)).bind fun r166 =>
  some (decide ((r166.length : Int) = 2))) (some false)) (some false)) (some false)) (some false)) (some false)) (some false)) (some false)) (some false)) (some false)) (some false)))
def Zae (x0 : Int) : Option (Bool) :=
  cond (decide (0 ≤ x0)) (some (decide (x0 ≤ 1073741824))) (some false)
def Vz (x0 : Ms) : Nat → Bool → Int → Int → Option (Bool)
 | 0, _, _, _ => none
 | n + 1, v7, v8, v9 =>
  cond (decide (v9 < (x0.entries.length : Int))) ((idx x0.entries v9).bind fun e15 =>
  (Zas e15).bind fun r18 =>
  cond (!r18) (some false) ((idx x0.entries v9).bind fun e21 =>
  cond (decide (e21.term < v8)) (some false) ((idx x0.entries v9).bind fun e25 =>
  cond (decide (x0.term < e25.term)) (some false) ((idx x0.entries v9).bind fun e29 =>
  Vz x0 n v7 e29.term (IntKind.wrap .i64 (v9 + 1)))))) (some (decide ((x0.entries.length : Int) ≤ 4)))
def Zbc (x0 : Ms) : Option (Bool) :=
  Vz x0 X6 false x0.lastTerm 0
def Zb4 (x0 : Ms) (x1 : Int) : Option (Bool) :=
  cond (decide (x1 < 1)) (some false) (cond (decide (5 < x1)) (some false) (cond (decide (x0.frm < 1)) (some false) (cond (decide (x1 < x0.frm)) (some false) (cond (decide (x0.dst < 1)) (some false) (cond (decide (x1 < x0.dst)) (some false) (cond (decide (x0.frm = x0.dst)) (some false) (cond (decide (x0.kind < 1)) (some false) (cond (decide (6 ≤ x0.kind)) (some false) (cond (decide (x0.term < 1)) (some false) (cond (decide (1073741824 < x0.term)) (some false) (cond (decide (x0.cap < 1)) (some false) (cond (decide (2 < x0.cap)) (some false) ((Zae x0.last).bind fun r21 =>
  cond (!r21) (some false) ((Zae x0.lastTerm).bind fun r24 =>
  cond (!r24) (some false) ((Zae x0.commit).bind fun r27 =>
  cond (!r27) (some false) ((Zbc x0).bind fun r30 =>
  cond (!r30) (some false) (cond (decide (x0.kind ≠ 3)) (cond (decide (0 < (x0.entries.length : Int))) (some false) (cond (decide (0 < x0.commit)) (some false) (cond x0.okk (cond (decide (x0.kind ≠ 2)) (cond (decide (x0.kind ≠ 4)) (some false) (cond (decide (x0.kind = 5)) ((Vx x0.snap).bind fun r41 =>
  cond r41 (some (decide (0 < x0.snap.index))) (some false)) (some (decide (x0.snap.index = 0) && (decide (x0.snap.term = 0) && (decide (x0.snap.sum = 0) && (decide (x0.snap.level = 0) && (decide (x0.snap.final = false))))))))) (cond (decide (x0.kind = 5)) ((Vx x0.snap).bind fun r47 =>
  cond r47 (some (decide (0 < x0.snap.index))) (some false)) (some (decide (x0.snap.index = 0) && (decide (x0.snap.term = 0) && (decide (x0.snap.sum = 0) && (decide (x0.snap.level = 0) && (decide (x0.snap.final = false))))))))) (cond (decide (x0.kind = 5)) ((Vx x0.snap).bind fun r53 =>
  cond r53 (some (decide (0 < x0.snap.index))) (some false)) (some (decide (x0.snap.index = 0) && (decide (x0.snap.term = 0) && (decide (x0.snap.sum = 0) && (decide (x0.snap.level = 0) && (decide (x0.snap.final = false))))))))))) (cond x0.okk (cond (decide (x0.kind ≠ 2)) (cond (decide (x0.kind ≠ 4)) (some false) (cond (decide (x0.kind = 5)) ((Vx x0.snap).bind fun r60 =>
  cond r60 (some (decide (0 < x0.snap.index))) (some false)) (some (decide (x0.snap.index = 0) && (decide (x0.snap.term = 0) && (decide (x0.snap.sum = 0) && (decide (x0.snap.level = 0) && (decide (x0.snap.final = false))))))))) (cond (decide (x0.kind = 5)) ((Vx x0.snap).bind fun r66 =>
  cond r66 (some (decide (0 < x0.snap.index))) (some false)) (some (decide (x0.snap.index = 0) && (decide (x0.snap.term = 0) && (decide (x0.snap.sum = 0) && (decide (x0.snap.level = 0) && (decide (x0.snap.final = false))))))))) (cond (decide (x0.kind = 5)) ((Vx x0.snap).bind fun r72 =>
  cond r72 (some (decide (0 < x0.snap.index))) (some false)) (some (decide (x0.snap.index = 0) && (decide (x0.snap.term = 0) && (decide (x0.snap.sum = 0) && (decide (x0.snap.level = 0) && (decide (x0.snap.final = false))))))))))))))))))))))))))
def J0 (x0 : List En) (x1 : List En) : Nat → Bool → Int → Option (Bool)
 | 0, _, _ => none
 | n + 1, v7, v8 =>
  cond (decide (v8 < (x0.length : Int))) ((idx x0 v8).bind fun e13 =>
  (idx x1 v8).bind fun e16 =>
  cond (!(decide (e13.term = e16.term) && (decide (e13.kind = e16.kind) && (decide (e13.value = e16.value))))) (some false) (J0 x0 x1 n v7 (IntKind.wrap .i64 (v8 + 1)))) (some true)
def Zdu (x0 : List En) (x1 : List En) : Option (Bool) :=
  cond (decide ((x0.length : Int) ≠ (x1.length : Int))) (some false) (J0 x0 x1 X6 false 0)
def Zdb (x0 : Tu) (x1 : Tu) : Option (Bool) :=
  cond (decide (x0.snap.index = x1.snap.index) && (decide (x0.snap.term = x1.snap.term) && (decide (x0.snap.sum = x1.snap.sum) && (decide (x0.snap.level = x1.snap.level) && (decide (x0.snap.final = x1.snap.final)))))) (cond (decide (x0.term = x1.term)) (cond (decide (x0.vote = x1.vote)) ((Zdu x0.log x1.log).bind fun r7 =>
  some r7) (some false)) (some false)) (some false)
def J1 (x0 : List Int) (x1 : List Int) : Nat → Bool → Int → Option (Bool)
 | 0, _, _ => none
 | n + 1, v7, v8 =>
  cond (decide (v8 < (x0.length : Int))) ((idx x0 v8).bind fun e13 =>
  (idx x1 v8).bind fun e16 =>
  cond (decide (e13 ≠ e16)) (some false) (J1 x0 x1 n v7 (IntKind.wrap .i64 (v8 + 1)))) (some true)
def Za9 (x0 : List Int) (x1 : List Int) : Option (Bool) :=
  cond (decide ((x0.length : Int) ≠ (x1.length : Int))) (some false) (J1 x0 x1 X6 false 0)
def J2 (x0 : Co) (x1 : Co) : Nat → Bool → Int → Option (Bool)
 | 0, _, _ => none
 | n + 1, v20, v21 =>
  cond (decide (v21 < (x0.votes.length : Int))) ((idx x0.votes v21).bind fun e26 =>
  (idx x1.votes v21).bind fun e29 =>
  cond (decide (e26 ≠ e29)) (some false) (J2 x0 x1 n v20 (IntKind.wrap .i64 (v21 + 1)))) ((Za9 x0.next x1.next).bind fun r34 =>
  cond r34 ((Za9 x0.mtch x1.mtch).bind fun r36 =>
  cond r36 ((Za9 x0.caps x1.caps).bind fun r38 =>
  some r38) (some false)) (some false))
def Vm (x0 : Co) (x1 : Co) : Option (Bool) :=
  cond (decide (x0.id ≠ x1.id)) (some false) (cond (decide (x0.n ≠ x1.n)) (some false) (cond (decide (x0.role ≠ x1.role)) (some false) (cond (decide (x0.binary ≠ x1.binary)) (some false) ((Zdb x0.tuple x1.tuple).bind fun r12 =>
  cond (!r12) (some false) (cond (decide (x0.commit ≠ x1.commit)) (some false) (cond (!(decide (x0.applied.index = x1.applied.index) && (decide (x0.applied.term = x1.applied.term) && (decide (x0.applied.sum = x1.applied.sum) && (decide (x0.applied.level = x1.applied.level) && (decide (x0.applied.final = x1.applied.final))))))) (some false) (cond (decide ((x0.votes.length : Int) ≠ (x1.votes.length : Int))) (some false) (J2 x0 x1 X6 false 0))))))))
def Jc (x0 : Tu) (x1 : Int) : Option (En × Bool) :=
  cond (decide (x1 ≤ x0.snap.index)) (some ((⟨0, 0, 0⟩ : En), false)) ((Jn x0).bind fun r9 =>
  cond (decide (r9 < x1)) (some ((⟨0, 0, 0⟩ : En), false)) ((idx x0.log (IntKind.wrap .i64 ((IntKind.wrap .i64 (x1 - x0.snap.index)) - 1))).bind fun e13 =>
  some (e13, true)))
def Zcs (x0 : Co) (x1 : Ms) : Option (Bool) := (J7 x0).bind fun r7 =>
  cond r7 ((Zb4 x1 x0.n).bind fun r9 =>
  cond r9 (some (decide (x1.dst = x0.id))) (some false)) (some false)
def Xu (x0 : Co) (r20 : Co × Bool) : Nat → Bool → Int → Option (Bool)
 | 0, _, _ => none
 | n + 1, v72, v73 =>
  (Jn x0.tuple).bind fun r76 =>
  cond (decide (v73 ≤ r76)) ((Jc x0.tuple v73).bind fun r80 =>
  (Jc r20.1.tuple v73).bind fun r85 =>
  cond (!(decide (r80.1.term = r85.1.term) && (decide (r80.1.kind = r85.1.kind) && (decide (r80.1.value = r85.1.value))))) (some false) (Xu x0 r20 n v72 (IntKind.wrap .i64 (v73 + 1)))) ((Vg r20.1).bind fun r92 =>
  (Jc r20.1.tuple x0.commit).bind fun r117 =>
  cond (!r92.2) (cond (!r117.2) ((Xb).bind fun r122 =>
  some r122) (some false)) (some false))
def Jw (x0 : Co) : Option (Bool) := (Jj x0).bind fun r6 =>
  cond r6 ((Xb).bind fun r9 =>
  some r9) ((J7 x0).bind fun r11 =>
  cond (!r11) ((Xb).bind fun r14 =>
  some r14) (cond (decide (1073739824 < x0.tuple.snap.index)) ((Xb).bind fun r17 =>
  some r17) ((Vg x0).bind fun r20 =>
  cond (decide (r20.2 ≠ (decide (x0.tuple.snap.index < x0.commit)))) (some false) (cond (!r20.2) ((Vm r20.1 x0).bind fun r50 =>
  cond r50 ((Xb).bind fun r52 =>
  some r52) (some false)) ((J7 r20.1).bind fun r56 =>
  cond (!r56) (some false) (cond (decide (r20.1.commit ≠ x0.commit)) (some false) (cond (!(decide (r20.1.applied.index = x0.applied.index) && (decide (r20.1.applied.term = x0.applied.term) && (decide (r20.1.applied.sum = x0.applied.sum) && (decide (r20.1.applied.level = x0.applied.level) && (decide (r20.1.applied.final = x0.applied.final))))))) (some false) (cond (!(decide (r20.1.tuple.snap.index = x0.applied.index) && (decide (r20.1.tuple.snap.term = x0.applied.term) && (decide (r20.1.tuple.snap.sum = x0.applied.sum) && (decide (r20.1.tuple.snap.level = x0.applied.level) && (decide (r20.1.tuple.snap.final = x0.applied.final))))))) (some false) (cond (decide (r20.1.tuple.term ≠ x0.tuple.term)) (some false) (cond (decide (r20.1.tuple.vote ≠ x0.tuple.vote)) (some false) ((Jn r20.1.tuple).bind fun r64 =>
  (Jn x0.tuple).bind fun r66 =>
  cond (decide (r64 ≠ r66)) (some false) (cond (decide (r20.1.role ≠ x0.role)) (some false) (Xu x0 r20 X6 false (IntKind.wrap .i64 (x0.commit + 1)))))))))))))))
def Y7 (x0 : Co) (r17 : List Ms) (r39 : List Int) : Nat → Bool → Int → Int → Int → Option (Bool)
 | 0, _, _, _, _ => none
 | n + 1, v48, v49, v50, v51 =>
  cond (decide (v51 ≤ x0.n)) (cond (decide (v51 = x0.id)) (Y7 x0 r17 r39 n v48 v49 v50 (IntKind.wrap .i64 (v51 + 1))) (cond (decide ((r17.length : Int) ≤ v49)) (some false) ((idx r17 v49).bind fun e60 =>
  cond (decide (e60.dst ≠ v51)) (some false) ((idx r17 v49).bind fun e66 =>
  (Zb4 e66 x0.n).bind fun r71 =>
  cond (!r71) (some false) ((idx r17 v49).bind fun e74 =>
  cond (decide (e74.term ≠ x0.tuple.term)) (some false) ((idx x0.next (IntKind.wrap .i64 (v51 - 1))).bind fun e81 =>
  (idx r17 v49).bind fun e86 =>
  cond (decide ((decide (e81 ≤ x0.tuple.snap.index)) ≠ (decide (e86.kind = 5)))) (some false) (cond (decide (e81 ≤ x0.tuple.snap.index)) (cond (decide ((r39.length : Int) ≤ v50)) (some false) ((idx r39 v50).bind fun e93 =>
  cond (decide (e93 ≠ v51)) (some false) ((idx r17 v49).bind fun e97 =>
  cond (!(decide (e97.snap.index = x0.tuple.snap.index) && (decide (e97.snap.term = x0.tuple.snap.term) && (decide (e97.snap.sum = x0.tuple.snap.sum) && (decide (e97.snap.level = x0.tuple.snap.level) && (decide (e97.snap.final = x0.tuple.snap.final))))))) (some false) (cond (decide (e81 ≤ x0.tuple.snap.index)) (Y7 x0 r17 r39 n v48 (IntKind.wrap .i64 (v49 + 1)) (IntKind.wrap .i64 (v50 + 1)) (IntKind.wrap .i64 (v51 + 1))) (Y7 x0 r17 r39 n v48 (IntKind.wrap .i64 (v49 + 1)) v50 (IntKind.wrap .i64 (v51 + 1))))))) (cond (decide (e81 ≤ x0.tuple.snap.index)) (Y7 x0 r17 r39 n v48 (IntKind.wrap .i64 (v49 + 1)) (IntKind.wrap .i64 (v50 + 1)) (IntKind.wrap .i64 (v51 + 1))) (Y7 x0 r17 r39 n v48 (IntKind.wrap .i64 (v49 + 1)) v50 (IntKind.wrap .i64 (v51 + 1))))))))))) (cond (decide (v49 = (r17.length : Int))) (cond (decide (v50 = (r39.length : Int))) ((Xb).bind fun r108 =>
  some r108) (some false)) (some false))
def Zal (x0 : Co) : Option (Bool) := (Jj x0).bind fun r6 =>
  cond r6 ((Xb).bind fun r9 =>
  some r9) ((J7 x0).bind fun r11 =>
  cond (!r11) ((Xb).bind fun r14 =>
  some r14) ((Ju x0).bind fun r17 =>
  cond (decide (x0.role ≠ 2)) (cond (decide ((r17.length : Int) = 0)) ((Vl x0).bind fun r30 =>
  cond (decide ((r30.length : Int) = 0)) ((Xb).bind fun r36 =>
  some r36) (some false)) (some false)) ((Vl x0).bind fun r39 =>
  Y7 x0 r17 r39 X6 false 0 0 1)))
def Za4 (x0 : Co) (x1 : Ms) (x2 : Int) : Option (Bool) := (Zcc x0 x1).bind fun r8 =>
  cond r8 ((Xb).bind fun r11 =>
  some r11) (cond (decide (x2 = x0.id)) ((X3 x0 (⟨x1.kind, x1.frm, (IntKind.wrap .i64 (x0.id + 1)), x1.term, x1.cap, x1.last, x1.lastTerm, x1.commit, x1.okk, x1.entries, x1.snap⟩ : Ms)).bind fun r20 =>
  (Vm r20.1 x0).bind fun r54 =>
  cond (!r54) (some false) (cond (decide ((r20.2.length : Int) ≠ 0)) (some false) ((X3 x0 x1).bind fun r59 =>
  cond (decide (x1.kind ≠ 5)) ((Vm r59.1 x0).bind fun r94 =>
  cond r94 (cond (decide ((r59.2.length : Int) = 0)) ((Xb).bind fun r96 =>
  some r96) (some false)) (some false)) ((Zcs x0 x1).bind fun r98 =>
  cond (!r98) ((Vm r59.1 x0).bind fun r101 =>
  cond r101 (cond (decide ((r59.2.length : Int) = 0)) ((Xb).bind fun r103 =>
  some r103) (some false)) (some false)) (cond (decide (x0.tuple.term ≤ x1.term)) (cond (decide (r59.1.tuple.term = x1.term)) ((Xb).bind fun r108 =>
  some r108) (some false)) (cond (decide ((r59.2.length : Int) = 1)) ((idx r59.2 0).bind fun e111 =>
  cond (!e111.okk) ((idx r59.2 0).bind fun e116 =>
  cond (decide (e116.term = x0.tuple.term)) (cond (decide (r59.1.commit = x0.commit)) (cond (decide (r59.1.role = x0.role)) ((Xb).bind fun r121 =>
  some r121) (some false)) (some false)) (some false)) (some false)) (some false))))))) ((X3 x0 (⟨x1.kind, x1.frm, x2, x1.term, x1.cap, x1.last, x1.lastTerm, x1.commit, x1.okk, x1.entries, x1.snap⟩ : Ms)).bind fun r124 =>
  (Vm r124.1 x0).bind fun r158 =>
  cond (!r158) (some false) (cond (decide ((r124.2.length : Int) ≠ 0)) (some false) ((X3 x0 x1).bind fun r163 =>
  cond (decide (x1.kind ≠ 5)) ((Vm r163.1 x0).bind fun r198 =>
  cond r198 (cond (decide ((r163.2.length : Int) = 0)) ((Xb).bind fun r200 =>
  some r200) (some false)) (some false)) ((Zcs x0 x1).bind fun r202 =>
  cond (!r202) ((Vm r163.1 x0).bind fun r205 =>
  cond r205 (cond (decide ((r163.2.length : Int) = 0)) ((Xb).bind fun r207 =>
  some r207) (some false)) (some false)) (cond (decide (x0.tuple.term ≤ x1.term)) (cond (decide (r163.1.tuple.term = x1.term)) ((Xb).bind fun r212 =>
  some r212) (some false)) (cond (decide ((r163.2.length : Int) = 1)) ((idx r163.2 0).bind fun e215 =>
  cond (!e215.okk) ((idx r163.2 0).bind fun e220 =>
  cond (decide (e220.term = x0.tuple.term)) (cond (decide (r163.1.commit = x0.commit)) (cond (decide (r163.1.role = x0.role)) ((Xb).bind fun r225 =>
  some r225) (some false)) (some false)) (some false)) (some false)) (some false))))))))
end Go.Proofs.Ytenagnncpaabdaa
