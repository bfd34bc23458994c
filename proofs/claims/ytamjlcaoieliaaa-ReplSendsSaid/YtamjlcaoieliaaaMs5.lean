/- Texts of one claim put together. -/
import Derived.Test.YtamjlcaoieliaaaMs1
import Derived.Test.YtamjlcaoieliaaaMs2
import Derived.Test.YtamjlcaoieliaaaMs4
namespace Go.Proofs.Ytamjlcaoieliaaa

section
open Go Go.RowKit
set_option maxRecDepth 100000
set_option maxHeartbeats 4000000
theorem Zbr (x0 : Co) (A0_ : OA) (c0_ : Nat) (A1_ : OA) (c1_ : Nat) (A2_ : OA) (c2_ : Nat) (A3_ : OA) (c3_ : Nat) (A4_ : OA) (c4_ : Nat) (w0 : World) (s0_ : SlI w0 Jv A0_ c0_ x0.tuple.log) (s1_ : SlI w0 enO A1_ c1_ x0.votes) (s2_ : SlI w0 V9 A2_ c2_ x0.next) (s3_ : SlI w0 V9 A3_ c3_ x0.mtch) (s4_ : SlI w0 V9 A4_ c4_ x0.caps) {r : Co} (H : Vv x0 = some r) : Calls Try.prog 31 #[.agg #[.int .i64 x0.id, .int .i64 x0.n, .int .u8 x0.role, .int .i64 x0.binary, .int .i64 x0.tuple.snap.index, .int .i64 x0.tuple.snap.term, .int .i64 x0.tuple.snap.sum, .int .i64 x0.tuple.snap.level, .bool x0.tuple.snap.final, .slice A0_ x0.tuple.log.length c0_, .int .i64 x0.tuple.term, .int .i64 x0.tuple.vote, .int .i64 x0.commit, .int .i64 x0.applied.index, .int .i64 x0.applied.term, .int .i64 x0.applied.sum, .int .i64 x0.applied.level, .bool x0.applied.final, .slice A1_ x0.votes.length c1_, .slice A2_ x0.next.length c2_, .slice A3_ x0.mtch.length c3_, .slice A4_ x0.caps.length c4_]] w0 fun e w' => ∃ (A0 : OA) (c0 : Nat) (A1 : OA) (c1 : Nat) (A2 : OA) (c2 : Nat) (A3 : OA) (c3 : Nat) (A4 : OA) (c4 : Nat), e = .returned (.agg #[.int .i64 r.id, .int .i64 r.n, .int .u8 r.role, .int .i64 r.binary, .int .i64 r.tuple.snap.index, .int .i64 r.tuple.snap.term, .int .i64 r.tuple.snap.sum, .int .i64 r.tuple.snap.level, .bool r.tuple.snap.final, .slice A0 r.tuple.log.length c0, .int .i64 r.tuple.term, .int .i64 r.tuple.vote, .int .i64 r.commit, .int .i64 r.applied.index, .int .i64 r.applied.term, .int .i64 r.applied.sum, .int .i64 r.applied.level, .bool r.applied.final, .slice A1 r.votes.length c1, .slice A2 r.next.length c2, .slice A3 r.mtch.length c3, .slice A4 r.caps.length c4]) ∧ (r.tuple.log.length ≤ c0 ∧ c0 ≤ maxLen) ∧ (r.votes.length ≤ c1 ∧ c1 ≤ maxLen) ∧ (r.next.length ≤ c2 ∧ c2 ≤ maxLen) ∧ (r.mtch.length ≤ c3 ∧ c3 ≤ maxLen) ∧ (r.caps.length ≤ c4 ∧ c4 ≤ maxLen) ∧ St0 All w0 w' [.row (.slice A0 r.tuple.log.length c0) 56 3 r.tuple.log.length (Yf Jv r.tuple.log), .row (.slice A1 r.votes.length c1) 4 1 r.votes.length (Yf enO r.votes), .row (.slice A2 r.next.length c2) 3 1 r.next.length (Yf V9 r.next), .row (.slice A3 r.mtch.length c3) 3 1 r.mtch.length (Yf V9 r.mtch), .row (.slice A4 r.caps.length c4) 3 1 r.caps.length (Yf V9 r.caps)] := by
 unfold Vv at H
 refine Yn Try.func31 rfl Try.ntmps31 rfl ?_
 have hS := St0.start All w0
 refine Zd (fun K hK1 => ?_)
 refine Zf ?_
 refine Yd rfl rfl rfl CellsOf.agg hS (fun b2 w hS hB => ?_)
 refine Yb rfl rfl Zex hS (fun b4 w hS hB => ?_)
 refine Zg ?_
 refine Zb hK1 ?_
 refine Zd (fun K hK6 => ?_)
 refine Zf ?_
 refine Za rfl rfl rfl (Zi Yh rfl (Zgy _) hS Xr trivial Z8) ?_
 obtain ⟨r7, hm8, H⟩ := bind_some H
 refine Zo rfl rfl rfl rfl (by kernel_rfl) rfl (Zd2 x0 A0_ c0_ A1_ c1_ A2_ c2_ A3_ c3_ A4_ c4_ _ (Zg1 s0_.k (hS.rd0 s0_.rd) (hS.blk0 s0_.blk)) (Zg1 s1_.k (hS.rd0 s1_.rd) (hS.blk0 s1_.blk)) (Zg1 s2_.k (hS.rd0 s2_.rd) (hS.blk0 s2_.blk)) (Zg1 s3_.k (hS.rd0 s3_.rd) (hS.blk0 s3_.blk)) (Zg1 s4_.k (hS.rd0 s4_.rd) (hS.blk0 s4_.blk)) hm8) ?_
 rintro e w ⟨A9, c10, A13, c14, A17, c18, A21, c22, A25, c26, rfl, k11, k15, k19, k23, k27, hN⟩; refine ⟨_, rfl, ?_⟩; obtain ⟨hB, hS⟩ := hS.jn hN
 refine Zm rfl rfl rfl CellsOf.agg hS ps6 Yy (by kernel_rfl) rfl (fun w hS hB => ?_)
 refine Zg ?_
 refine Zb hK6 ?_
 refine Zd (fun K hK29 => ?_)
 refine Zf ?_
 refine Za rfl rfl rfl (Ze Yz rfl) ?_
 refine Za rfl rfl rfl (Zi Yr rfl (Zgy _) hS hs6 trivial Jw) ?_
 obtain ⟨r30, hm31, H⟩ := bind_some H
 refine Zo rfl rfl rfl rfl (by kernel_rfl) rfl (Zdq r7.tuple A9 c10 _ (Zg1 k11 (hS.row_rd hs0) (hS.row_blk hs0)) hm31) ?_
 rintro e w ⟨rfl, hN⟩; refine ⟨_, rfl, ?_⟩; obtain ⟨hB, hS⟩ := hS.jn hN
 refine Zc 1 rfl ?_
 refine Zg ?_
 refine Zb hK29 ?_
 refine Zd (fun K hK32 => ?_)
 refine Zf ?_
 refine Zc 1 rfl ?_
 refine Zg ?_
 refine Zb hK32 ?_
 refine Zd (fun K hK33 => ?_)
 refine Zf ?_
 refine Zc 1 rfl ?_
 refine Za rfl rfl rfl (Ze Vm rfl) ?_
 refine Za rfl rfl rfl (Zh Xt rfl (Zgy _) hS hs6 trivial Jz) ?_
 refine Zc 1 rfl ?_
 refine Za rfl rfl rfl (Xf rfl rfl) ?_
 refine Za2 rfl rfl rfl rfl (by kernel_rfl) rfl ?_
 show Calls _ _ #[_, _] _ _
 refine Y0 Try.func64 rfl Try.ntmps64 rfl ?_
 refine Zd (fun K hK34 => ?_)
 refine Zf ?_
 refine Zc 1 rfl ?_
 refine Za rfl rfl rfl (Yu Xm rfl) ?_
 refine Zc 1 rfl ?_
 refine Zg ?_
 refine Zb hK34 ?_
 refine Yc ?_
 refine V0 (X := Nat × Int × List Int) (fun x => (0, .slice A17 r7.next.length c18) :: (1, .int .i64 (IntKind.wrap .i64 (r30 + 1))) :: (6, .int .i64 (r7.next.length : Int)) :: (7, .int .i64 x.2.1) :: []) (fun x w => St0 All w0 w (.row (.slice A9 r7.tuple.log.length c10) 56 3 r7.tuple.log.length (Yf Jv r7.tuple.log) :: .row (.slice A13 r7.votes.length c14) 4 1 r7.votes.length (Yf enO r7.votes) :: .row (.slice A17 r7.next.length c18) 3 1 r7.next.length (Yf V9 x.2.2) :: .row (.slice A21 r7.mtch.length c22) 3 1 r7.mtch.length (Yf V9 r7.mtch) :: .row (.slice A25 r7.caps.length c26) 3 1 r7.caps.length (Yf V9 r7.caps) :: .box b4 [.int .i64 0, .int .i64 0, .int .u8 0, .int .i64 0, .int .i64 0, .int .i64 0, .int .i64 0, .int .i64 0, .bool false, .slice none 0 0, .int .i64 0, .int .i64 0, .int .i64 0, .int .i64 0, .int .i64 0, .int .i64 0, .int .i64 0, .bool false, .slice none 0 0, .slice none 0 0, .slice none 0 0, .slice none 0 0] 30 :: .box b2 [.int .i64 r7.id, .int .i64 r7.n, .int .u8 r7.role, .int .i64 r7.binary, .int .i64 r7.tuple.snap.index, .int .i64 r7.tuple.snap.term, .int .i64 r7.tuple.snap.sum, .int .i64 r7.tuple.snap.level, .bool r7.tuple.snap.final, .slice A9 r7.tuple.log.length c10, .int .i64 r7.tuple.term, .int .i64 r7.tuple.vote, .int .i64 r7.commit, .int .i64 r7.applied.index, .int .i64 r7.applied.term, .int .i64 r7.applied.sum, .int .i64 r7.applied.level, .bool r7.applied.final, .slice A13 r7.votes.length c14, .slice A17 r7.next.length c18, .slice A21 r7.mtch.length c22, .slice A25 r7.caps.length c26] 30 :: []) ∧ (x.2.2.length ≤ c18 ∧ c18 ≤ maxLen) ∧ (x.2.2.length = r7.next.length) ∧ Za4 r7 r30 x.1 x.2.1 x.2.2 = some r) (fun x => x.1) (Xn, 0, r7.next) (by repeat (first | exact Sub.nil | refine Sub.cons rfl ?_)) ⟨hS, k19, rfl, H⟩ ?_
 rintro ⟨n, v35, v36⟩ w ⟨hS, k37, hl38, H⟩
 dsimp only at hS k37 hl38 H ⊢
 obtain _ | n := n
 ·have H0 : none = some r := H
  cases H0
 rw [Za4] at H
 refine Zd (fun K hK39 => ?_)
 refine Zf ?_
 refine Za rfl rfl rfl (Xh rfl rfl) ?_
 refine Zg ?_
 refine Zb hK39 ?_
 refine Zd (fun K hK40 => ?_)
 refine Zz rfl (fun hb => ?_) (fun hb => ?_)
 ·replace H := Zq H hb
  refine Zt ?_
  refine Zb hK40 ?_
  refine Zd (fun K hK41 => ?_)
  refine Yc ?_
  refine Zd (fun K hK42 => ?_)
  refine Zf ?_
  refine Zc 2 rfl ?_
  refine Zg ?_
  refine Zb hK42 ?_
  refine Zf ?_
  refine Zc 4 rfl ?_
  obtain ⟨e43, hi45, H⟩ := bind_some H
  obtain ⟨j44, hi45a, hi45b, hi45c⟩ := Yw hi45
  refine Za rfl rfl rfl (Y8 Xm rfl rfl hi45a (Nat.lt_of_lt_of_eq hi45c hl38) (Rd.el (hS.row_rd X0) Yl hi45b)) ?_
  refine Za rfl rfl rfl (X1 Z0 rfl (Zgy _) (Rd.el (hS.row_rd X0) Yl hi45b) rfl) ?_
  refine Zc 1 rfl ?_
  refine Za rfl rfl rfl (Zer rfl rfl) ?_
  obtain ⟨e46, hi48, H⟩ := bind_some H
  obtain ⟨j47, hi48a, hi48b, hi48c⟩ := Yw hi48
  refine Za rfl rfl rfl (Y8 Xm rfl rfl hi48a (Nat.lt_of_lt_of_eq hi48c hl38) (Rd.el (hS.row_rd X0) Yl hi48b)) ?_
  refine wpX_storeR (a' := (min e43 (IntKind.wrap .i64 (r30 + 1)))) (zs := (Zen v36 v35 (min e43 (IntKind.wrap .i64 (r30 + 1))))) Yl rfl rfl rfl CellsOf.int hS ps2 (Rd.el (hS.row_rd X0) Yl hi48b) hi48a hi48b rfl st0_1 (by kernel_rfl) rfl (fun w hS => ?_)
  have hi49b := setI_at (a := (min e43 (IntKind.wrap .i64 (r30 + 1)))) hi48a hi48b
  have hi49a := hi48a
  refine Zg ?_
  refine Z2 ?_
  refine Zb hK41 ?_
  refine Zf ?_
  refine Za rfl rfl rfl (Xf rfl rfl) ?_
  refine Zc 1 rfl ?_
  refine Zg ?_
  exact Va (n, (IntKind.wrap .i64 (v35 + 1)), (Zen v36 v35 (min e43 (IntKind.wrap .i64 (r30 + 1))))) (by repeat (first | exact Sub.nil | refine Sub.cons rfl ?_)) ⟨hS, (k_set k37), (Zcc hl38), H⟩ (Nat.lt_succ_self _)
 replace H := Zp H hb
 refine Vj ?_
 refine Ya ?_
 refine Ya ?_
 refine Y3 ?_
 refine Zcs rfl RV.nil rfl ?_
 refine ⟨_, rfl, ?_⟩
 refine Zg ?_
 refine Zb hK33 ?_
 refine Zd (fun K hK50 => ?_)
 refine Zf ?_
 refine Zc 1 rfl ?_
 refine Za rfl rfl rfl (Ze V3 rfl) ?_
 refine Za rfl rfl rfl (Zh Xt rfl (Zgy _) hS hs6 trivial Zat) ?_
 refine Zc 1 rfl ?_
 refine Za2 rfl rfl rfl rfl (by kernel_rfl) rfl ?_
 show Calls _ _ #[_, _] _ _
 refine Y0 Try.func64 rfl Try.ntmps64 rfl ?_
 refine Zd (fun K hK51 => ?_)
 refine Zf ?_
 refine Zc 1 rfl ?_
 refine Za rfl rfl rfl (Yu Xm rfl) ?_
 refine Zc 1 rfl ?_
 refine Zg ?_
 refine Zb hK51 ?_
 refine Yc ?_
 refine V0 (X := Nat × Int × List Int) (fun x => (0, .slice A21 r7.mtch.length c22) :: (1, .int .i64 r30) :: (6, .int .i64 (r7.mtch.length : Int)) :: (7, .int .i64 x.2.1) :: []) (fun x w => St0 All w0 w (.row (.slice A9 r7.tuple.log.length c10) 56 3 r7.tuple.log.length (Yf Jv r7.tuple.log) :: .row (.slice A13 r7.votes.length c14) 4 1 r7.votes.length (Yf enO r7.votes) :: .row (.slice A17 r7.next.length c18) 3 1 r7.next.length (Yf V9 v36) :: .row (.slice A21 r7.mtch.length c22) 3 1 r7.mtch.length (Yf V9 x.2.2) :: .row (.slice A25 r7.caps.length c26) 3 1 r7.caps.length (Yf V9 r7.caps) :: .box b4 [.int .i64 0, .int .i64 0, .int .u8 0, .int .i64 0, .int .i64 0, .int .i64 0, .int .i64 0, .int .i64 0, .bool false, .slice none 0 0, .int .i64 0, .int .i64 0, .int .i64 0, .int .i64 0, .int .i64 0, .int .i64 0, .int .i64 0, .bool false, .slice none 0 0, .slice none 0 0, .slice none 0 0, .slice none 0 0] 30 :: .box b2 [.int .i64 r7.id, .int .i64 r7.n, .int .u8 r7.role, .int .i64 r7.binary, .int .i64 r7.tuple.snap.index, .int .i64 r7.tuple.snap.term, .int .i64 r7.tuple.snap.sum, .int .i64 r7.tuple.snap.level, .bool r7.tuple.snap.final, .slice A9 r7.tuple.log.length c10, .int .i64 r7.tuple.term, .int .i64 r7.tuple.vote, .int .i64 r7.commit, .int .i64 r7.applied.index, .int .i64 r7.applied.term, .int .i64 r7.applied.sum, .int .i64 r7.applied.level, .bool r7.applied.final, .slice A13 r7.votes.length c14, .slice A17 r7.next.length c18, .slice A21 r7.mtch.length c22, .slice A25 r7.caps.length c26] 30 :: []) ∧ (x.2.2.length ≤ c22 ∧ c22 ≤ maxLen) ∧ (x.2.2.length = r7.mtch.length) ∧ Za7 r7 r30 v36 x.1 x.2.1 x.2.2 = some r) (fun x => x.1) (Xn, 0, r7.mtch) (by repeat (first | exact Sub.nil | refine Sub.cons rfl ?_)) ⟨hS, k23, rfl, H⟩ ?_
 rintro ⟨n, v52, v53⟩ w ⟨hS, k54, hl55, H⟩
 dsimp only at hS k54 hl55 H ⊢
 obtain _ | n := n
 ·have H0 : none = some r := H
  cases H0
 rw [Za7] at H
 refine Zd (fun K hK56 => ?_)
 refine Zf ?_
 refine Za rfl rfl rfl (Xh rfl rfl) ?_
 refine Zg ?_
 refine Zb hK56 ?_
 refine Zd (fun K hK57 => ?_)
 refine Zz rfl (fun hb => ?_) (fun hb => ?_)
 rotate_left
 ·replace H := Zp H hb
  refine Vj ?_
  refine Ya ?_
  refine Ya ?_
  refine Y3 ?_
  refine Zcs rfl RV.nil rfl ?_
  refine ⟨_, rfl, ?_⟩
  refine Zg ?_
  refine Zb hK50 ?_
  refine Zd (fun K hK67 => ?_)
  refine Zf ?_
  refine Za rfl rfl rfl (Zi Yh rfl (Zgy _) hS hs6 trivial Z8) ?_
  refine Zm rfl rfl rfl CellsOf.agg hS ps5 Yy (by kernel_rfl) rfl (fun w hS hB => ?_)
  refine Zg ?_
  refine Zb hK67 ?_
  refine Zk ?_
  refine Zl rfl (RV.cell rfl (Zx Yh hS hs5 Z8) RV.nil) rfl ?_
  obtain rfl := QJ H
  have hS := hS.front 4 rfl
  have hS := hS.front 4 rfl
  have hS := hS.front 4 rfl
  have hS := hS.front 4 rfl
  have hS := hS.front 4 rfl
  replace hS := hS.cut 5
  exact ⟨A9, c10, A13, c14, A17, c18, A21, c22, A25, c26, by rw [hl38, hl55]; rfl, k11, k15, k37, k54, k27, hS.eqv (by rw [hl38, hl55]; rfl)⟩
 replace H := Zq H hb
 refine Zt ?_
 refine Zb hK57 ?_
 refine Zd (fun K hK58 => ?_)
 refine Yc ?_
 refine Zd (fun K hK59 => ?_)
 refine Zf ?_
 refine Zc 2 rfl ?_
 refine Zg ?_
 refine Zb hK59 ?_
 refine Zf ?_
 refine Zc 4 rfl ?_
 obtain ⟨e60, hi62, H⟩ := bind_some H
 obtain ⟨j61, hi62a, hi62b, hi62c⟩ := Yw hi62
 refine Za rfl rfl rfl (Y8 Xm rfl rfl hi62a (Nat.lt_of_lt_of_eq hi62c hl55) (Rd.el (hS.row_rd hs3) Yl hi62b)) ?_
 refine Za rfl rfl rfl (X1 Z0 rfl (Zgy _) (Rd.el (hS.row_rd hs3) Yl hi62b) rfl) ?_
 refine Zc 1 rfl ?_
 refine Za rfl rfl rfl (Zer rfl rfl) ?_
 obtain ⟨e63, hi65, H⟩ := bind_some H
 obtain ⟨j64, hi65a, hi65b, hi65c⟩ := Yw hi65
 refine Za rfl rfl rfl (Y8 Xm rfl rfl hi65a (Nat.lt_of_lt_of_eq hi65c hl55) (Rd.el (hS.row_rd hs3) Yl hi65b)) ?_
 refine wpX_storeR (a' := (min e60 r30)) (zs := (Zen v53 v52 (min e60 r30))) Yl rfl rfl rfl CellsOf.int hS ps3 (Rd.el (hS.row_rd hs3) Yl hi65b) hi65a hi65b rfl st0_1 (by kernel_rfl) rfl (fun w hS => ?_)
 have hi66b := setI_at (a := (min e60 r30)) hi65a hi65b
 have hi66a := hi65a
 refine Zg ?_
 refine Z2 ?_
 refine Zb hK58 ?_
 refine Zf ?_
 refine Za rfl rfl rfl (Xf rfl rfl) ?_
 refine Zc 1 rfl ?_
 refine Zg ?_
 exact Va (n, (IntKind.wrap .i64 (v52 + 1)), (Zen v53 v52 (min e60 r30))) (by repeat (first | exact Sub.nil | refine Sub.cons rfl ?_)) ⟨hS, (k_set k54), (Zcc hl55), H⟩ (Nat.lt_succ_self _)
theorem Zgf (x0 : Co) (x1 : Ms) (A0_ : OA) (c0_ : Nat) (A1_ : OA) (c1_ : Nat) (A2_ : OA) (c2_ : Nat) (A3_ : OA) (c3_ : Nat) (A4_ : OA) (c4_ : Nat) (A5_ : OA) (c5_ : Nat) (w0 : World) (s0_ : SlI w0 Jv A0_ c0_ x0.tuple.log) (s1_ : SlI w0 enO A1_ c1_ x0.votes) (s2_ : SlI w0 V9 A2_ c2_ x0.next) (s3_ : SlI w0 V9 A3_ c3_ x0.mtch) (s4_ : SlI w0 V9 A4_ c4_ x0.caps) (s5_ : SlI w0 Jv A5_ c5_ x1.entries) {r : Co × List Ms} (H : Jt x0 x1 = some r) : Calls Try.prog 29 #[.agg #[.int .i64 x0.id, .int .i64 x0.n, .int .u8 x0.role, .int .i64 x0.binary, .int .i64 x0.tuple.snap.index, .int .i64 x0.tuple.snap.term, .int .i64 x0.tuple.snap.sum, .int .i64 x0.tuple.snap.level, .bool x0.tuple.snap.final, .slice A0_ x0.tuple.log.length c0_, .int .i64 x0.tuple.term, .int .i64 x0.tuple.vote, .int .i64 x0.commit, .int .i64 x0.applied.index, .int .i64 x0.applied.term, .int .i64 x0.applied.sum, .int .i64 x0.applied.level, .bool x0.applied.final, .slice A1_ x0.votes.length c1_, .slice A2_ x0.next.length c2_, .slice A3_ x0.mtch.length c3_, .slice A4_ x0.caps.length c4_], .agg #[.int .u8 x1.kind, .int .i64 x1.frm, .int .i64 x1.dst, .int .i64 x1.term, .int .i64 x1.cap, .int .i64 x1.last, .int .i64 x1.lastTerm, .int .i64 x1.commit, .bool x1.okk, .slice A5_ x1.entries.length c5_, .int .i64 x1.snap.index, .int .i64 x1.snap.term, .int .i64 x1.snap.sum, .int .i64 x1.snap.level, .bool x1.snap.final]] w0 fun e w' => ∃ (A0 : OA) (c0 : Nat) (A1 : OA) (c1 : Nat) (A2 : OA) (c2 : Nat) (A3 : OA) (c3 : Nat) (A4 : OA) (c4 : Nat) (A5 : OA) (c5 : Nat) (q5 : List Mq), e = .returned (.tuple #[.agg #[.int .i64 r.1.id, .int .i64 r.1.n, .int .u8 r.1.role, .int .i64 r.1.binary, .int .i64 r.1.tuple.snap.index, .int .i64 r.1.tuple.snap.term, .int .i64 r.1.tuple.snap.sum, .int .i64 r.1.tuple.snap.level, .bool r.1.tuple.snap.final, .slice A0 r.1.tuple.log.length c0, .int .i64 r.1.tuple.term, .int .i64 r.1.tuple.vote, .int .i64 r.1.commit, .int .i64 r.1.applied.index, .int .i64 r.1.applied.term, .int .i64 r.1.applied.sum, .int .i64 r.1.applied.level, .bool r.1.applied.final, .slice A1 r.1.votes.length c1, .slice A2 r.1.next.length c2, .slice A3 r.1.mtch.length c3, .slice A4 r.1.caps.length c4], .slice A5 r.2.length c5]) ∧ (r.1.tuple.log.length ≤ c0 ∧ c0 ≤ maxLen) ∧ (r.1.votes.length ≤ c1 ∧ c1 ≤ maxLen) ∧ (r.1.next.length ≤ c2 ∧ c2 ≤ maxLen) ∧ (r.1.mtch.length ≤ c3 ∧ c3 ≤ maxLen) ∧ (r.1.caps.length ≤ c4 ∧ c4 ≤ maxLen) ∧ (r.2.length ≤ c5 ∧ c5 ≤ maxLen) ∧ q5.map Mq.m = r.2 ∧ (∀ y ∈ q5, okQ y) ∧ St0 All w0 w' [.rd A0 (Yf Jv r.1.tuple.log), .row (.slice A1 r.1.votes.length c1) 4 1 r.1.votes.length (Yf enO r.1.votes), .row (.slice A2 r.1.next.length c2) 3 1 r.1.next.length (Yf V9 r.1.next), .row (.slice A3 r.1.mtch.length c3) 3 1 r.1.mtch.length (Yf V9 r.1.mtch), .row (.slice A4 r.1.caps.length c4) 3 1 r.1.caps.length (Yf V9 r.1.caps), .rd A5 (Yf enQ q5), .rds (q5.map subQ)] := by
 unfold Jt at H
 refine Y0 Try.func29 rfl Try.ntmps29 rfl ?_
 have hS := St0.start All w0
 refine Zd (fun K hK1 => ?_)
 refine Zf ?_
 refine Yd rfl rfl rfl CellsOf.agg hS (fun b2 w hS hB => ?_)
 refine Yd rfl rfl rfl CellsOf.agg hS (fun b4 w hS hB => ?_)
 refine Yb rfl rfl Zex hS (fun b6 w hS hB => ?_)
 refine Zc 1 rfl ?_
 refine Zg ?_
 refine Zb hK1 ?_
 refine wpC_scope1 0 rfl ?_
 refine Zd (fun K hK8 => ?_)
 refine Zf ?_
 refine Yb rfl rfl Zey hS (fun b9 w hS hB => ?_)
 refine Zg ?_
 refine Zb hK8 ?_
 refine Zd (fun K hK11 => ?_)
 refine Zf ?_
 refine Zc 1 rfl ?_
 refine Zg ?_
 refine Zb hK11 ?_
 refine Zd (fun K hK12 => ?_)
 refine Zf ?_
 refine Zc 2 rfl ?_
 refine Zg ?_
 refine Zb hK12 ?_
 refine Zd (fun K hK13 => ?_)
 refine Zd (fun K hK14 => ?_)
 refine Zf ?_
 refine Za rfl rfl rfl (Zi Yh rfl (Zgy _) hS hs3 trivial Z8) ?_
 refine Za rfl rfl rfl (Zi Vp rfl (Zgy _) hS X0 trivial Xv) ?_
 obtain ⟨r15, hm16, H⟩ := bind_some H
 refine Zo rfl rfl rfl rfl (by kernel_rfl) rfl (c_advert_To x0 x1 A0_ c0_ A1_ c1_ A2_ c2_ A3_ c3_ A4_ c4_ A5_ c5_ _ (Zg1 s0_.k (hS.rd0 s0_.rd) (hS.blk0 s0_.blk)) (Zg1 s1_.k (hS.rd0 s1_.rd) (hS.blk0 s1_.blk)) (Zg1 s2_.k (hS.rd0 s2_.rd) (hS.blk0 s2_.blk)) (Zg1 s3_.k (hS.rd0 s3_.rd) (hS.blk0 s3_.blk)) (Zg1 s4_.k (hS.rd0 s4_.rd) (hS.blk0 s4_.blk)) (Zg1 s5_.k (hS.rd0 s5_.rd) (hS.blk0 s5_.blk)) hm16) ?_
 rintro e w ⟨rfl, hN⟩; refine ⟨_, rfl, ?_⟩; obtain ⟨hB, hS⟩ := hS.jn hN
 refine Za rfl rfl rfl (Yt rfl) ?_
 refine Zc 1 rfl ?_
 refine Zu 19 rfl (fun hb => ?_) (fun hb => ?_)
 ·replace H := Zq H hb
  refine Zc 4 rfl ?_
  refine Zg ?_
  refine Zb hK14 ?_
  refine Zr rfl rfl ?_
  refine Zd (fun K hK17 => ?_)
  refine Zf ?_
  refine Za rfl rfl rfl (Zi Yh rfl (Zgy _) hS hs3 trivial Z8) ?_
  obtain ⟨r18, hm19, H⟩ := bind_some H
  refine Zo rfl rfl rfl rfl (by kernel_rfl) rfl (Zd2 x0 A0_ c0_ A1_ c1_ A2_ c2_ A3_ c3_ A4_ c4_ _ (Zg1 s0_.k (hS.rd0 s0_.rd) (hS.blk0 s0_.blk)) (Zg1 s1_.k (hS.rd0 s1_.rd) (hS.blk0 s1_.blk)) (Zg1 s2_.k (hS.rd0 s2_.rd) (hS.blk0 s2_.blk)) (Zg1 s3_.k (hS.rd0 s3_.rd) (hS.blk0 s3_.blk)) (Zg1 s4_.k (hS.rd0 s4_.rd) (hS.blk0 s4_.blk)) hm19) ?_
  rintro e w ⟨A20, c21, A24, c25, A28, c29, A32, c33, A36, c37, rfl, k22, k26, k30, k34, k38, hN⟩; refine ⟨_, rfl, ?_⟩; obtain ⟨hB, hS⟩ := hS.jn hN
  refine Zm rfl rfl rfl CellsOf.agg hS ps6 Yy (by kernel_rfl) rfl (fun w hS hB => ?_)
  refine Zc 1 rfl ?_
  refine Zg ?_
  refine Zb hK17 ?_
  refine Zk ?_
  refine Zj ?_
  refine Z5 ?_
  refine Zl rfl (RV.cell rfl (Zx Yh hS hs6 Z8) (RV.tmp rfl RV.nil)) rfl ?_
  obtain rfl := QJ H
  have hS := hS.nilRds
  replace hS := hS.nilRd
  have hS := hS.front 6 rfl
  have hS := hS.front 6 rfl
  have hS := hS.front 6 rfl
  have hS := hS.front 6 rfl
  have hS := hS.front 6 rfl
  replace hS := hS.weak Weak.rowRd
  replace hS := hS.cut 7
  exact ⟨A20, c21, A24, c25, A28, c29, A32, c33, A36, c37, none, 0, ([] : List Mq), rfl, k22, k26, k30, k34, k38, ⟨Nat.le_refl _, Nat.zero_le _⟩, rfl, Vf, hS⟩
 replace H := Zp H hb
 refine Za rfl rfl rfl (Ze Vq rfl) ?_
 refine Za rfl rfl rfl (Zh Zbs rfl (Zgy _) hS X0 trivial Y7) ?_
 refine Za rfl rfl rfl (Y5 rfl rfl) ?_
 refine Zc 1 rfl ?_
 refine Zg ?_
 refine Zb hK14 ?_
 refine Zz rfl (fun hb => ?_) (fun hb => ?_)
 ·replace H := Zq H hb
  refine Zd (fun K hK40 => ?_)
  refine Zf ?_
  refine Za rfl rfl rfl (Zi Yh rfl (Zgy _) hS hs3 trivial Z8) ?_
  obtain ⟨r41, hm42, H⟩ := bind_some H
  refine Zo rfl rfl rfl rfl (by kernel_rfl) rfl (Zd2 x0 A0_ c0_ A1_ c1_ A2_ c2_ A3_ c3_ A4_ c4_ _ (Zg1 s0_.k (hS.rd0 s0_.rd) (hS.blk0 s0_.blk)) (Zg1 s1_.k (hS.rd0 s1_.rd) (hS.blk0 s1_.blk)) (Zg1 s2_.k (hS.rd0 s2_.rd) (hS.blk0 s2_.blk)) (Zg1 s3_.k (hS.rd0 s3_.rd) (hS.blk0 s3_.blk)) (Zg1 s4_.k (hS.rd0 s4_.rd) (hS.blk0 s4_.blk)) hm42) ?_
  rintro e w ⟨A43, c44, A47, c48, A51, c52, A55, c56, A59, c60, rfl, k45, k49, k53, k57, k61, hN⟩; refine ⟨_, rfl, ?_⟩; obtain ⟨hB, hS⟩ := hS.jn hN
  refine Zm rfl rfl rfl CellsOf.agg hS ps6 Yy (by kernel_rfl) rfl (fun w hS hB => ?_)
  refine Zc 1 rfl ?_
  refine Zg ?_
  refine Zb hK40 ?_
  refine Zk ?_
  refine Zj ?_
  refine Z5 ?_
  refine Zl rfl (RV.cell rfl (Zx Yh hS hs6 Z8) (RV.tmp rfl RV.nil)) rfl ?_
  obtain rfl := QJ H
  have hS := hS.nilRds
  replace hS := hS.nilRd
  have hS := hS.front 6 rfl
  have hS := hS.front 6 rfl
  have hS := hS.front 6 rfl
  have hS := hS.front 6 rfl
  have hS := hS.front 6 rfl
  replace hS := hS.weak Weak.rowRd
  replace hS := hS.cut 7
  exact ⟨A43, c44, A47, c48, A51, c52, A55, c56, A59, c60, none, 0, ([] : List Mq), rfl, k45, k49, k53, k57, k61, ⟨Nat.le_refl _, Nat.zero_le _⟩, rfl, Vf, hS⟩
 replace H := Zp H hb
 refine Zt ?_
 refine Zb hK13 ?_
 refine Zd (fun K hK63 => ?_)
 refine Zf ?_
 refine Za rfl rfl rfl (Zi Yh rfl (Zgy _) hS hs3 trivial Z8) ?_
 refine Za rfl rfl rfl (Zi Vp rfl (Zgy _) hS X0 trivial Xv) ?_
 obtain ⟨r64, hm65, H⟩ := bind_some H
 refine Zo rfl rfl rfl rfl (by kernel_rfl) rfl (c_elect_Meet x0 x1 A0_ c0_ A1_ c1_ A2_ c2_ A3_ c3_ A4_ c4_ A5_ c5_ _ (Zg1 s0_.k (hS.rd0 s0_.rd) (hS.blk0 s0_.blk)) (Zg1 s1_.k (hS.rd0 s1_.rd) (hS.blk0 s1_.blk)) (Zg1 s2_.k (hS.rd0 s2_.rd) (hS.blk0 s2_.blk)) (Zg1 s3_.k (hS.rd0 s3_.rd) (hS.blk0 s3_.blk)) (Zg1 s4_.k (hS.rd0 s4_.rd) (hS.blk0 s4_.blk)) (Zg1 s5_.k (hS.rd0 s5_.rd) (hS.blk0 s5_.blk)) hm65) ?_
 rintro e w ⟨A66, c67, A70, c71, A74, c75, A78, c79, A82, c83, rfl, k68, k72, k76, k80, k84, hN⟩; refine ⟨_, rfl, ?_⟩; obtain ⟨hB, hS⟩ := hS.jn hN
 refine Zm rfl rfl rfl CellsOf.agg hS ps8 Yy (by kernel_rfl) rfl (fun w hS hB => ?_)
 refine Zg ?_
 refine Zb hK63 ?_
 refine Zd (fun K hK86 => ?_)
 refine Zf ?_
 refine Za rfl rfl rfl (Ze Yz rfl) ?_
 refine Za rfl rfl rfl (Zi Yr rfl (Zgy _) hS hs8 trivial Jw) ?_
 obtain ⟨r87, hm88, H⟩ := bind_some H
 refine Zo rfl rfl rfl rfl (by kernel_rfl) rfl (Zdq r64.tuple A66 c67 _ (Zg1 k68 (hS.rd hs0) (hS.rd_blk hs0)) hm88) ?_
 rintro e w ⟨rfl, hN⟩; refine ⟨_, rfl, ?_⟩; obtain ⟨hB, hS⟩ := hS.jn hN
 refine Zc 1 rfl ?_
 refine Zg ?_
 refine Zb hK86 ?_
 refine Zd (fun K hK89 => ?_)
 refine Zf ?_
 refine Zc 2 rfl ?_
 refine Zg ?_
 refine Zb hK89 ?_
 refine Zd (fun K hK90 => ?_)
 refine Zf ?_
 refine Za rfl rfl rfl (Ze Yz rfl) ?_
 refine Za rfl rfl rfl (Zi Yr rfl (Zgy _) hS hs8 trivial Jw) ?_
 refine Za rfl rfl rfl (Ze Vx rfl) ?_
 refine Za rfl rfl rfl (Zh Z0 rfl (Zgy _) hS hs7 trivial Js) ?_
 obtain ⟨r91, hm92, H⟩ := bind_some H
 refine Zo rfl rfl rfl rfl (by kernel_rfl) rfl (Zfo r64.tuple x1.last A66 c67 _ (Zg1 k68 (hS.rd hs0) (hS.rd_blk hs0)) hm92) ?_
 rintro e w ⟨rfl, hN⟩; refine ⟨_, rfl, ?_⟩; obtain ⟨hB, hS⟩ := hS.jn hN
 refine Zc 1 rfl ?_
 refine Za rfl rfl rfl (Z1 rfl rfl) ?_
 refine Za rfl rfl rfl (Z1 rfl rfl) ?_
 refine Zc 2 rfl ?_
 refine Zg ?_
 refine Zb hK90 ?_
 refine Zd (fun K hK93 => ?_)
 refine Yc ?_
 refine Zd (fun K hK94 => ?_)
 refine Zf ?_
 refine Za rfl rfl rfl (Ze Ze3 rfl) ?_
 refine Za rfl rfl rfl (Zh Z0 rfl (Zgy _) hS hs7 trivial Zbd) ?_
 refine Za rfl rfl rfl (Ze Yz rfl) ?_
 refine Za rfl rfl rfl (Ze Jb rfl) ?_
 refine Za rfl rfl rfl (Zh Z0 rfl (Zgy _) hS hs8 trivial Zbc) ?_
 refine Za rfl rfl rfl (Xh rfl rfl) ?_
 refine Zc 1 rfl ?_
 refine Zg ?_
 refine Zb hK94 ?_
 refine Zz rfl (fun hb => ?_) (fun hb => ?_)
 ·replace H := Zq H hb
  refine Vi ?_
  refine QH_block_goto ?_
  refine Xb ?_
  refine Vz ?_
  refine Zd (fun K hK95 => ?_)
  refine Zt ?_
  refine Zb hK95 ?_
  refine Zd (fun K hK96 => ?_)
  refine Yg 8 [6] (fun i b => (i = 6 → b ≠ b6)) ⟨by kernel_rfl, by kernel_rfl⟩ hS (fun w hS hB => ?_)
  refine Zn [true] (by decide +kernel) PFC.h ?_
  refine LtK.put rfl rfl rfl (Zi Yh rfl (Zgz _) hS hs8 trivial Z8) ?_
  refine LtK.nil ?_
  refine Y2 [false, true, true, true] [6] (fun b => b ≠ b6) (by decide +kernel) (by intro j hj b hb; simp only [List.mem_cons, List.not_mem_nil, or_false] at hj; (try rcases hj with rfl | rfl | rfl | rfl | rfl) <;> first | (simp [hb]; done) | simp_all) PFC.h ?_
  refine LtK.put rfl rfl rfl (Zi Yh rfl (Zg0 _ _) hS hs8 (hS.ne 8 6 rfl rfl rfl) Z8) ?_
  refine LtK.put rfl rfl rfl (Zi Vp rfl (Zg0 _ _) hS hs7 (hS.ne 7 6 rfl rfl rfl) Xv) ?_
  refine LtK.put rfl rfl rfl (Zs rfl) ?_
  refine LtK.nil ?_
  refine Z4 [false, false, false, false, true] 4 ⟨by decide, by kernel_rfl, by kernel_rfl⟩ rfl rfl ?_
  try dsimp only [Zw]
  obtain ⟨r97, hm98, H⟩ := bind_some H
  refine Zo rfl rfl rfl rfl (by kernel_rfl) rfl (Jq r64 x1 4 false r87 A66 c67 A70 c71 A74 c75 A78 c79 A82 c83 A5_ c5_ _ (Zg1 k68 (hS.rd hs0) (hS.rd_blk hs0)) (Zg1 k72 (hS.row_rd Xr) (hS.row_blk Xr)) (Zg1 k76 (hS.row_rd X0) (hS.row_blk X0)) (Zg1 k80 (hS.row_rd hs3) (hS.row_blk hs3)) (Zg1 k84 (hS.row_rd hs4) (hS.row_blk hs4)) (Zg1 s5_.k (hS.rd0 s5_.rd) (hS.blk0 s5_.blk)) hm98) ?_
  rintro e w ⟨A99, c100, rfl, k101, hN⟩; refine ⟨_, rfl, ?_⟩; obtain ⟨hB, hS⟩ := hS.jn hN
  refine Zg ?_
  refine Z7 hB ?_
  refine Zax [5, 6] ⟨by decide, by kernel_rfl⟩ rfl (.call [false, false, false, false, false, true] 5 rfl rfl rfl ?_ (.put [false, false, false, false, false, false, true] 6 rfl rfl rfl ?_ .nil))
  ·try dsimp only [Zw]
   refine Yx (ps := [(0, .tmp 146)]) [.int .u8 r97.kind, .int .i64 r97.frm, .int .i64 r97.dst, .int .i64 r97.term, .int .i64 r97.cap, .int .i64 r97.last, .int .i64 r97.lastTerm, .int .i64 r97.commit, .bool r97.okk, .slice A99 r97.entries.length c100, .int .i64 r97.snap.index, .int .i64 r97.snap.term, .int .i64 r97.snap.sum, .int .i64 r97.snap.level, .bool r97.snap.final] Je J9 rfl rfl rfl rfl rfl (by kernel_rfl) hS (fun b103 w hS hB => ?_)
   refine Zg ?_
   refine Z7 hB ?_
   refine Yp [false, false, false, false, false, false, true] 6 ⟨by decide, by kernel_rfl, by kernel_rfl⟩ rfl rfl ?_
   try dsimp only [Zw]
   refine Zm rfl rfl rfl CellsOf.agg hS ps8 Yy (by kernel_rfl) rfl (fun w hS hB => ?_)
   refine Zg ?_
   refine Ye (hB.sub (fun _ _ h => by simpa using h)) ?_
   refine Zn [false, false, false, false, false, false, false, true] (by decide +kernel) PFC.h ?_
   refine LtK.put rfl rfl rfl (Zy rfl) ?_
   refine LtK.nil ?_
   refine Z6 (by kernel_rfl) ?_
   refine Zb hK96 ?_
   refine Zk ?_
   refine Z5 ?_
   refine Zl rfl (RV.cell rfl (Zx Yh hS hs8 Z8) (RV.tmp rfl RV.nil)) rfl ?_
   obtain rfl := QJ H
   have hS := hS.nilRds
   replace hS := hS.front 2 rfl
   replace hS := hS.absorbQ ⟨r97, A99, c100⟩
   replace hS := hS.front 1 rfl
   replace hS := hS.weak Weak.boxRd
   have hS := hS.front 6 rfl
   have hS := hS.front 6 rfl
   have hS := hS.front 6 rfl
   have hS := hS.front 6 rfl
   have hS := hS.front 6 rfl
   replace hS := hS.cut 7
   exact ⟨A66, c67, A70, c71, A74, c75, A78, c79, A82, c83, (some ⟨b103, 0, none⟩), 1, ([⟨r97, A99, c100⟩] : List Mq), rfl, k68, k72, k76, k80, k84, ⟨Nat.le_refl 1, by decide⟩, rfl, (Vh k101 Vf), hS⟩
  ·try dsimp only [Zw]
   refine Zm rfl rfl rfl CellsOf.agg hS ps7 Yy (by kernel_rfl) rfl (fun w hS hB => ?_)
   refine Zg ?_
   refine Ye (hB.sub (fun _ _ h => by simpa using h)) ?_
   refine Z4 [false, false, false, false, false, true] 5 ⟨by decide, by kernel_rfl, by kernel_rfl⟩ rfl rfl ?_
   try dsimp only [Zw]
   refine Yx (ps := [(0, .tmp 146)]) [.int .u8 r97.kind, .int .i64 r97.frm, .int .i64 r97.dst, .int .i64 r97.term, .int .i64 r97.cap, .int .i64 r97.last, .int .i64 r97.lastTerm, .int .i64 r97.commit, .bool r97.okk, .slice A99 r97.entries.length c100, .int .i64 r97.snap.index, .int .i64 r97.snap.term, .int .i64 r97.snap.sum, .int .i64 r97.snap.level, .bool r97.snap.final] Je J9 rfl rfl rfl rfl rfl (by kernel_rfl) hS (fun b103 w hS hB => ?_)
   refine Zg ?_
   refine Z7 hB ?_
   refine Zn [false, false, false, false, false, false, false, true] (by decide +kernel) PFC.h ?_
   refine LtK.put rfl rfl rfl (Zy rfl) ?_
   refine LtK.nil ?_
   refine Z6 (by kernel_rfl) ?_
   refine Zb hK96 ?_
   refine Zk ?_
   refine Z5 ?_
   refine Zl rfl (RV.cell rfl (Zx Yh hS hs8 Z8) (RV.tmp rfl RV.nil)) rfl ?_
   obtain rfl := QJ H
   have hS := hS.nilRds
   replace hS := hS.front 2 rfl
   replace hS := hS.absorbQ ⟨r97, A99, c100⟩
   replace hS := hS.front 1 rfl
   replace hS := hS.weak Weak.boxRd
   have hS := hS.front 6 rfl
   have hS := hS.front 6 rfl
   have hS := hS.front 6 rfl
   have hS := hS.front 6 rfl
   have hS := hS.front 6 rfl
   replace hS := hS.cut 7
   exact ⟨A66, c67, A70, c71, A74, c75, A78, c79, A82, c83, (some ⟨b103, 0, none⟩), 1, ([⟨r97, A99, c100⟩] : List Mq), rfl, k68, k72, k76, k80, k84, ⟨Nat.le_refl 1, by decide⟩, rfl, (Vh k101 Vf), hS⟩
 replace H := Zp H hb
 refine Zd (fun K hK105 => ?_)
 refine Zf ?_
 refine Za rfl rfl rfl (Ze Zcj rfl) ?_
 refine Za rfl rfl rfl (Zh Zbs rfl (Zgy _) hS hs8 trivial Zbk) ?_
 refine Za rfl rfl rfl (Xo rfl rfl) ?_
 refine Zc 1 rfl ?_
 refine Zg ?_
 refine Zb hK105 ?_
 refine Zz rfl (fun hb => ?_) (fun hb => ?_)
 ·replace H := Zq H hb
  refine Zd (fun K hK106 => ?_)
  refine Zf ?_
  refine Za rfl rfl rfl (Zi Yh rfl (Zgy _) hS hs8 trivial Z8) ?_
  refine Zm rfl rfl rfl CellsOf.agg hS ps6 Yy (by kernel_rfl) rfl (fun w hS hB => ?_)
  refine Zc 1 rfl ?_
  refine Zg ?_
  refine Zb hK106 ?_
  refine Zk ?_
  refine Zv ?_
  refine Zj ?_
  refine Z5 ?_
  refine Zl rfl (RV.cell rfl (Zx Yh hS hs6 Z8) (RV.tmp rfl RV.nil)) rfl ?_
  obtain rfl := QJ H
  have hS := hS.nilRds
  replace hS := hS.nilRd
  have hS := hS.front 6 rfl
  have hS := hS.front 6 rfl
  have hS := hS.front 6 rfl
  have hS := hS.front 6 rfl
  have hS := hS.front 6 rfl
  replace hS := hS.cut 7
  exact ⟨A66, c67, A70, c71, A74, c75, A78, c79, A82, c83, none, 0, ([] : List Mq), rfl, k68, k72, k76, k80, k84, ⟨Nat.le_refl _, Nat.zero_le _⟩, rfl, Vf, hS⟩
 replace H := Zp H hb
 refine Zt ?_
 refine Z2 ?_
 refine Zb hK93 ?_
 refine Zd (fun K hK107 => ?_)
 refine Zd (fun K hK108 => ?_)
 refine Zf ?_
 refine Za rfl rfl rfl (Ze Zcj rfl) ?_
 refine Zm rfl rfl rfl CellsOf.int hS ps8 st2_1 (by kernel_rfl) rfl (fun w hS hB => ?_)
 refine Zg ?_
 refine Zb hK108 ?_
 refine Zd (fun K hK109 => ?_)
 refine Zf ?_
 refine Za rfl rfl rfl (Ze Vx rfl) ?_
 refine Za rfl rfl rfl (Zh Z0 rfl (Zgy _) hS hs7 trivial Js) ?_
 refine Zc 1 rfl ?_
 refine Za rfl rfl rfl (Xa rfl rfl) ?_
 refine Zg ?_
 refine Zb hK109 ?_
 refine Zz rfl (fun hb => ?_) (fun hb => ?_)
 ·replace H := Zq H hb
  refine Vi ?_
  refine Xb ?_
  refine Vz ?_
  refine Zd (fun K hK110 => ?_)
  refine Zt ?_
  refine Zb hK110 ?_
  refine Zd (fun K hK111 => ?_)
  refine Yg 8 [6] (fun i b => (i = 6 → b ≠ b6)) ⟨by kernel_rfl, by kernel_rfl⟩ hS (fun w hS hB => ?_)
  refine Zn [true] (by decide +kernel) PFC.h ?_
  refine LtK.put rfl rfl rfl (Zi Yh rfl (Zgz _) hS hs8 trivial Z8) ?_
  refine LtK.nil ?_
  refine Y2 [false, true, true, true] [6] (fun b => b ≠ b6) (by decide +kernel) (by intro j hj b hb; simp only [List.mem_cons, List.not_mem_nil, or_false] at hj; (try rcases hj with rfl | rfl | rfl | rfl | rfl) <;> first | (simp [hb]; done) | simp_all) PFC.h ?_
  refine LtK.put rfl rfl rfl (Zi Yh rfl (Zg0 _ _) hS hs8 (hS.ne 8 6 rfl rfl rfl) Z8) ?_
  refine LtK.put rfl rfl rfl (Zi Vp rfl (Zg0 _ _) hS hs7 (hS.ne 7 6 rfl rfl rfl) Xv) ?_
  refine LtK.put rfl rfl rfl (Zs rfl) ?_
  refine LtK.nil ?_
  refine Z4 [false, false, false, false, true] 4 ⟨by decide, by kernel_rfl, by kernel_rfl⟩ rfl rfl ?_
  try dsimp only [Zw]
  obtain ⟨r112, hm113, H⟩ := bind_some H
  refine Zo rfl rfl rfl rfl (by kernel_rfl) rfl (Jq (⟨r64.id, r64.n, 0, r64.binary, r64.tuple, r64.commit, r64.applied, r64.votes, r64.next, r64.mtch, r64.caps⟩ : Co) x1 4 false r87 A66 c67 A70 c71 A74 c75 A78 c79 A82 c83 A5_ c5_ _ (Zg1 k68 (hS.rd hs0) (hS.rd_blk hs0)) (Zg1 k72 (hS.row_rd Xr) (hS.row_blk Xr)) (Zg1 k76 (hS.row_rd X0) (hS.row_blk X0)) (Zg1 k80 (hS.row_rd hs3) (hS.row_blk hs3)) (Zg1 k84 (hS.row_rd hs4) (hS.row_blk hs4)) (Zg1 s5_.k (hS.rd0 s5_.rd) (hS.blk0 s5_.blk)) hm113) ?_
  rintro e w ⟨A114, c115, rfl, k116, hN⟩; refine ⟨_, rfl, ?_⟩; obtain ⟨hB, hS⟩ := hS.jn hN
  refine Zg ?_
  refine Z7 hB ?_
  refine Zax [5, 6] ⟨by decide, by kernel_rfl⟩ rfl (.call [false, false, false, false, false, true] 5 rfl rfl rfl ?_ (.put [false, false, false, false, false, false, true] 6 rfl rfl rfl ?_ .nil))
  ·try dsimp only [Zw]
   refine Yx (ps := [(0, .tmp 146)]) [.int .u8 r112.kind, .int .i64 r112.frm, .int .i64 r112.dst, .int .i64 r112.term, .int .i64 r112.cap, .int .i64 r112.last, .int .i64 r112.lastTerm, .int .i64 r112.commit, .bool r112.okk, .slice A114 r112.entries.length c115, .int .i64 r112.snap.index, .int .i64 r112.snap.term, .int .i64 r112.snap.sum, .int .i64 r112.snap.level, .bool r112.snap.final] Je J9 rfl rfl rfl rfl rfl (by kernel_rfl) hS (fun b118 w hS hB => ?_)
   refine Zg ?_
   refine Z7 hB ?_
   refine Yp [false, false, false, false, false, false, true] 6 ⟨by decide, by kernel_rfl, by kernel_rfl⟩ rfl rfl ?_
   try dsimp only [Zw]
   refine Zm rfl rfl rfl CellsOf.agg hS ps8 Yy (by kernel_rfl) rfl (fun w hS hB => ?_)
   refine Zg ?_
   refine Ye (hB.sub (fun _ _ h => by simpa using h)) ?_
   refine Zn [false, false, false, false, false, false, false, true] (by decide +kernel) PFC.h ?_
   refine LtK.put rfl rfl rfl (Zy rfl) ?_
   refine LtK.nil ?_
   refine Z6 (by kernel_rfl) ?_
   refine Zb hK111 ?_
   refine Zk ?_
   refine Z5 ?_
   refine Zl rfl (RV.cell rfl (Zx Yh hS hs8 Z8) (RV.tmp rfl RV.nil)) rfl ?_
   obtain rfl := QJ H
   have hS := hS.nilRds
   replace hS := hS.front 2 rfl
   replace hS := hS.absorbQ ⟨r112, A114, c115⟩
   replace hS := hS.front 1 rfl
   replace hS := hS.weak Weak.boxRd
   have hS := hS.front 6 rfl
   have hS := hS.front 6 rfl
   have hS := hS.front 6 rfl
   have hS := hS.front 6 rfl
   have hS := hS.front 6 rfl
   replace hS := hS.cut 7
   exact ⟨A66, c67, A70, c71, A74, c75, A78, c79, A82, c83, (some ⟨b118, 0, none⟩), 1, ([⟨r112, A114, c115⟩] : List Mq), rfl, k68, k72, k76, k80, k84, ⟨Nat.le_refl 1, by decide⟩, rfl, (Vh k116 Vf), hS⟩
  ·try dsimp only [Zw]
   refine Zm rfl rfl rfl CellsOf.agg hS ps7 Yy (by kernel_rfl) rfl (fun w hS hB => ?_)
   refine Zg ?_
   refine Ye (hB.sub (fun _ _ h => by simpa using h)) ?_
   refine Z4 [false, false, false, false, false, true] 5 ⟨by decide, by kernel_rfl, by kernel_rfl⟩ rfl rfl ?_
   try dsimp only [Zw]
   refine Yx (ps := [(0, .tmp 146)]) [.int .u8 r112.kind, .int .i64 r112.frm, .int .i64 r112.dst, .int .i64 r112.term, .int .i64 r112.cap, .int .i64 r112.last, .int .i64 r112.lastTerm, .int .i64 r112.commit, .bool r112.okk, .slice A114 r112.entries.length c115, .int .i64 r112.snap.index, .int .i64 r112.snap.term, .int .i64 r112.snap.sum, .int .i64 r112.snap.level, .bool r112.snap.final] Je J9 rfl rfl rfl rfl rfl (by kernel_rfl) hS (fun b118 w hS hB => ?_)
   refine Zg ?_
   refine Z7 hB ?_
   refine Zn [false, false, false, false, false, false, false, true] (by decide +kernel) PFC.h ?_
   refine LtK.put rfl rfl rfl (Zy rfl) ?_
   refine LtK.nil ?_
   refine Z6 (by kernel_rfl) ?_
   refine Zb hK111 ?_
   refine Zk ?_
   refine Z5 ?_
   refine Zl rfl (RV.cell rfl (Zx Yh hS hs8 Z8) (RV.tmp rfl RV.nil)) rfl ?_
   obtain rfl := QJ H
   have hS := hS.nilRds
   replace hS := hS.front 2 rfl
   replace hS := hS.absorbQ ⟨r112, A114, c115⟩
   replace hS := hS.front 1 rfl
   replace hS := hS.weak Weak.boxRd
   have hS := hS.front 6 rfl
   have hS := hS.front 6 rfl
   have hS := hS.front 6 rfl
   have hS := hS.front 6 rfl
   have hS := hS.front 6 rfl
   replace hS := hS.cut 7
   exact ⟨A66, c67, A70, c71, A74, c75, A78, c79, A82, c83, (some ⟨b118, 0, none⟩), 1, ([⟨r112, A114, c115⟩] : List Mq), rfl, k68, k72, k76, k80, k84, ⟨Nat.le_refl 1, by decide⟩, rfl, (Vh k116 Vf), hS⟩
 replace H := Zp H hb
 refine Zt ?_
 refine Zb hK107 ?_
 refine Zd (fun K hK120 => ?_)
 refine Zd (fun K hK121 => ?_)
 refine Zf ?_
 refine Zc 2 rfl ?_
 refine Zu 59 rfl (fun hb => ?_) (fun hb => ?_)
 rotate_left
 ·replace H := Zp H hb
  refine Zc 5 rfl ?_
  refine Zg ?_
  refine Zb hK121 ?_
  refine Yo rfl rfl ?_
  refine Zt ?_
  refine Zb hK120 ?_
  refine Zd (fun K hK307 => ?_)
  refine Yg 7 [6] (fun i b => (i = 6 → b ≠ b9)) ⟨by kernel_rfl, by kernel_rfl⟩ hS (fun w hS hB => ?_)
  refine Zn [true, true, false, true, true] (by decide +kernel) PFC.h ?_
  refine LtK.put rfl rfl rfl (Zi Yh rfl (Zgz _) hS hs8 trivial Z8) ?_
  refine LtK.put rfl rfl rfl (Zi Vp rfl (Zgz _) hS hs7 trivial Xv) ?_
  refine LtK.put rfl rfl rfl (Ze Yz rfl) ?_
  refine LtK.put rfl rfl rfl (Zi Yr rfl (Zgz _) hS hs8 trivial Jw) ?_
  refine LtK.nil ?_
  refine Z4 [false, false, true] 2 ⟨by decide, by kernel_rfl, by kernel_rfl⟩ rfl rfl ?_
  try dsimp only [Zw]
  obtain ⟨r308, hm309, H⟩ := bind_some H
  refine Zo rfl rfl rfl rfl (by kernel_rfl) rfl (c_repl_other (⟨r64.id, r64.n, 0, r64.binary, r64.tuple, r64.commit, r64.applied, r64.votes, r64.next, r64.mtch, r64.caps⟩ : Co) x1 A66 c67 A70 c71 A74 c75 A78 c79 A82 c83 A5_ c5_ _ (Zg1 k68 (hS.rd hs0) (hS.rd_blk hs0)) (Zg1 k72 (hS.row_rd Xr) (hS.row_blk Xr)) (Zg1 k76 (hS.row_rd X0) (hS.row_blk X0)) (Zg1 k80 (hS.row_rd hs3) (hS.row_blk hs3)) (Zg1 k84 (hS.row_rd hs4) (hS.row_blk hs4)) (Zg1 s5_.k (hS.rd0 s5_.rd) (hS.blk0 s5_.blk)) hm309) ?_
  rintro e w ⟨rfl, hN⟩; refine ⟨_, rfl, ?_⟩; obtain ⟨hB, hS⟩ := hS.jn hN
  refine Zg ?_
  refine Z7 hB ?_
  refine Zn [false, false, false, false, false, true] (by decide +kernel) PFC.h ?_
  refine LtK.put rfl rfl rfl (Zy rfl) ?_
  refine LtK.nil ?_
  refine Yp [false, false, false, false, false, false, true] 6 ⟨by decide, by kernel_rfl, by kernel_rfl⟩ rfl rfl ?_
  try dsimp only [Zw]
  refine Zm rfl rfl rfl CellsOf.agg hS ps5 Zb0 (by kernel_rfl) rfl (fun w hS hB => ?_)
  refine Zg ?_
  refine Ye (hB.sub (fun _ _ h => by simpa using h)) ?_
  refine Z6 (by kernel_rfl) ?_
  refine Zb hK307 ?_
  refine Zd (fun K hK310 => ?_)
  refine Zd (fun K hK311 => ?_)
  refine Zf ?_
  refine Za rfl rfl rfl (Ze Vx rfl) ?_
  refine Za rfl rfl rfl (Zh Z0 rfl (Zgy _) hS hs7 trivial Js) ?_
  refine Za rfl rfl rfl (Xf rfl rfl) ?_
  refine Zc 1 rfl ?_
  refine Za rfl rfl rfl (Xf rfl rfl) ?_
  refine Zc 1 rfl ?_
  refine Zg ?_
  refine Zb hK311 ?_
  refine Zd (fun K hK312 => ?_)
  refine Zf ?_
  refine Zc 1 rfl ?_
  refine Za rfl rfl rfl (Ze Vc rfl) ?_
  refine Za rfl rfl rfl (Zh Xp rfl (Zgy _) hS hs7 trivial Zak) ?_
  refine Za rfl rfl rfl (Yu Y6 rfl) ?_
  refine Za rfl rfl rfl (Xh rfl rfl) ?_
  refine Zg ?_
  refine Zb hK312 ?_
  refine Zz rfl (fun hb => ?_) (fun hb => ?_)
  rotate_left
  ·replace H := Zp H hb
   refine Zt ?_
   refine Zb hK310 ?_
   refine Zd (fun K hK442 => ?_)
   refine Zf ?_
   refine Za rfl rfl rfl (Zi Yr rfl (Zgy _) hS hs5 trivial Vl) ?_
   refine Za rfl rfl rfl (Ze Yz rfl) ?_
   refine Zm rfl rfl rfl CellsOf.agg hS ps8 st4_8 (by kernel_rfl) rfl (fun w hS hB => ?_)
   refine Zg ?_
   refine Zb hK442 ?_
   refine Zd (fun K hK443 => ?_)
   refine Zf ?_
   refine Za rfl rfl rfl (Zi Yh rfl (Zgy _) hS hs8 trivial Z8) ?_
   obtain ⟨r444, hm445, H⟩ := bind_some H
   refine Zo rfl rfl rfl rfl (by kernel_rfl) rfl (Zbr (⟨r64.id, r64.n, 0, r64.binary, r64.tuple, r64.commit, r64.applied, r64.votes, r64.next, r64.mtch, r64.caps⟩ : Co) A66 c67 A70 c71 A74 c75 A78 c79 A82 c83 _ (Zg1 k68 (hS.rd hs0) (hS.rd_blk hs0)) (Zg1 k72 (hS.row_rd Xr) (hS.row_blk Xr)) (Zg1 k76 (hS.row_rd X0) (hS.row_blk X0)) (Zg1 k80 (hS.row_rd hs3) (hS.row_blk hs3)) (Zg1 k84 (hS.row_rd hs4) (hS.row_blk hs4)) hm445) ?_
   rintro e w ⟨A446, c447, A450, c451, A454, c455, A458, c459, A462, c463, rfl, k448, k452, k456, k460, k464, hN⟩; refine ⟨_, rfl, ?_⟩; obtain ⟨hB, hS⟩ := hS.jn hN
   refine Zm rfl rfl rfl CellsOf.agg hS ps13 Yy (by kernel_rfl) rfl (fun w hS hB => ?_)
   refine Zg ?_
   refine Zb hK443 ?_
   refine Zd (fun K hK466 => ?_)
   refine Zf ?_
   refine Za rfl rfl rfl (Ze Vx rfl) ?_
   refine Za rfl rfl rfl (Zh Z0 rfl (Zgy _) hS hs12 trivial Js) ?_
   refine Za rfl rfl rfl (Ze Vc rfl) ?_
   refine Za rfl rfl rfl (Zh Xp rfl (Zgy _) hS hs12 trivial Zak) ?_
   refine Za rfl rfl rfl (Yu Y6 rfl) ?_
   refine Za rfl rfl rfl (Xf rfl rfl) ?_
   refine Zc 1 rfl ?_
   refine Zg ?_
   refine Zb hK466 ?_
   refine Zd (fun K hK467 => ?_)
   refine Zf ?_
   refine Za rfl rfl rfl (Ze V5 rfl) ?_
   refine Za rfl rfl rfl (Zh Z0 rfl (Zgy _) hS Zfw trivial Zbe) ?_
   refine Za rfl rfl rfl (Ze Zdn rfl) ?_
   refine Za rfl rfl rfl (Zh Z0 rfl (Zgy _) hS hs12 trivial Zfd) ?_
   refine Zc 1 rfl ?_
   refine Za rfl rfl rfl (Zer rfl rfl) ?_
   refine Za rfl rfl rfl (Zfp rfl rfl) ?_
   refine Za rfl rfl rfl (Ze V5 rfl) ?_
   refine Zm rfl rfl rfl CellsOf.int hS ps13 st12_1 (by kernel_rfl) rfl (fun w hS hB => ?_)
   refine Zg ?_
   refine Zb hK467 ?_
   refine Zd (fun K hK468 => ?_)
   refine Zf ?_
   refine Za rfl rfl rfl (Ze Yz rfl) ?_
   refine Za rfl rfl rfl (Zi Yr rfl (Zgy _) hS Zfw trivial Jw) ?_
   refine Za rfl rfl rfl (Ze V5 rfl) ?_
   refine Za rfl rfl rfl (Zh Z0 rfl (Zgy _) hS Zfw trivial Zbe) ?_
   obtain ⟨r469, hm470, H⟩ := bind_some H
   refine Zo rfl rfl rfl rfl (by kernel_rfl) rfl (Za5 r444.tuple (max r444.commit (min x1.commit (IntKind.wrap .i64 (x1.last + (x1.entries.length : Int))))) A446 c447 _ (Zg1 k448 (hS.row_rd hs0) (hS.row_blk hs0)) hm470) ?_
   rintro e w ⟨rfl, hN⟩; refine ⟨_, rfl, ?_⟩; obtain ⟨hB, hS⟩ := hS.jn hN
   refine Zc 1 rfl ?_
   refine Za rfl rfl rfl (Z1 rfl rfl) ?_
   refine Za rfl rfl rfl (Z1 rfl rfl) ?_
   refine Za rfl rfl rfl (Ze Zef rfl) ?_
   refine Zm rfl rfl rfl CellsOf.agg hS ps13 st13_5 (by kernel_rfl) rfl (fun w hS hB => ?_)
   refine Zg ?_
   refine Zb hK468 ?_
   refine Zd (fun K hK471 => ?_)
   refine Zd (fun K hK472 => ?_)
   refine Yg 8 [6] (fun i b => (i = 6 → b ≠ b6)) ⟨by kernel_rfl, by kernel_rfl⟩ hS (fun w hS hB => ?_)
   refine Zn [true] (by decide +kernel) PFC.h ?_
   refine LtK.put rfl rfl rfl (Zi Yh rfl (Zgz _) hS Zfw trivial Z8) ?_
   refine LtK.nil ?_
   refine Y2 [false, true, true, true] [6] (fun b => b ≠ b6) (by decide +kernel) (by intro j hj b hb; simp only [List.mem_cons, List.not_mem_nil, or_false] at hj; (try rcases hj with rfl | rfl | rfl | rfl | rfl) <;> first | (simp [hb]; done) | simp_all) PFC.h ?_
   refine LtK.put rfl rfl rfl (Zi Yh rfl (Zg0 _ _) hS Zfw (hS.ne 13 11 rfl rfl rfl) Z8) ?_
   refine LtK.put rfl rfl rfl (Zi Vp rfl (Zg0 _ _) hS hs12 (hS.ne 12 11 rfl rfl rfl) Xv) ?_
   refine LtK.put rfl rfl rfl (Zs rfl) ?_
   refine LtK.nil ?_
   refine Z4 [false, false, false, false, true] 4 ⟨by decide, by kernel_rfl, by kernel_rfl⟩ rfl rfl ?_
   try dsimp only [Zw]
   obtain ⟨r473, hm474, H⟩ := bind_some H
   refine Zo rfl rfl rfl rfl (by kernel_rfl) rfl (Jq (⟨r444.id, r444.n, r444.role, r444.binary, r444.tuple, (max r444.commit (min x1.commit (IntKind.wrap .i64 (x1.last + (x1.entries.length : Int))))), r469.1, r444.votes, r444.next, r444.mtch, r444.caps⟩ : Co) x1 4 true (IntKind.wrap .i64 (x1.last + (x1.entries.length : Int))) A446 c447 A450 c451 A454 c455 A458 c459 A462 c463 A5_ c5_ _ (Zg1 k448 (hS.row_rd hs0) (hS.row_blk hs0)) (Zg1 k452 (hS.row_rd Xr) (hS.row_blk Xr)) (Zg1 k456 (hS.row_rd X0) (hS.row_blk X0)) (Zg1 k460 (hS.row_rd hs3) (hS.row_blk hs3)) (Zg1 k464 (hS.row_rd hs4) (hS.row_blk hs4)) (Zg1 s5_.k (hS.rd0 s5_.rd) (hS.blk0 s5_.blk)) hm474) ?_
   rintro e w ⟨A475, c476, rfl, k477, hN⟩; refine ⟨_, rfl, ?_⟩; obtain ⟨hB, hS⟩ := hS.jn hN
   refine Zg ?_
   refine Z7 hB ?_
   refine Zax [5, 6] ⟨by decide, by kernel_rfl⟩ rfl (.call [false, false, false, false, false, true] 5 rfl rfl rfl ?_ (.put [false, false, false, false, false, false, true] 6 rfl rfl rfl ?_ .nil))
   ·try dsimp only [Zw]
    refine Yx (ps := [(0, .tmp 140)]) [.int .u8 r473.kind, .int .i64 r473.frm, .int .i64 r473.dst, .int .i64 r473.term, .int .i64 r473.cap, .int .i64 r473.last, .int .i64 r473.lastTerm, .int .i64 r473.commit, .bool r473.okk, .slice A475 r473.entries.length c476, .int .i64 r473.snap.index, .int .i64 r473.snap.term, .int .i64 r473.snap.sum, .int .i64 r473.snap.level, .bool r473.snap.final] Je J9 rfl rfl rfl rfl rfl (by kernel_rfl) hS (fun b479 w hS hB => ?_)
    refine Zg ?_
    refine Z7 hB ?_
    refine Yp [false, false, false, false, false, false, true] 6 ⟨by decide, by kernel_rfl, by kernel_rfl⟩ rfl rfl ?_
    try dsimp only [Zw]
    refine Zm rfl rfl rfl CellsOf.agg hS ps13 Yy (by kernel_rfl) rfl (fun w hS hB => ?_)
    refine Zg ?_
    refine Ye (hB.sub (fun _ _ h => by simpa using h)) ?_
    refine Zn [false, false, false, false, false, false, false, true] (by decide +kernel) PFC.h ?_
    refine LtK.put rfl rfl rfl (Zy rfl) ?_
    refine LtK.nil ?_
    refine Z6 (by kernel_rfl) ?_
    refine Zb hK472 ?_
    refine Zk ?_
    refine Zj ?_
    refine Z5 ?_
    refine Zl rfl (RV.cell rfl (Zx Yh hS Zfw Z8) (RV.tmp rfl RV.nil)) rfl ?_
    obtain rfl := QJ H
    have hS := hS.nilRds
    replace hS := hS.front 2 rfl
    replace hS := hS.absorbQ ⟨r473, A475, c476⟩
    replace hS := hS.front 1 rfl
    replace hS := hS.weak Weak.boxRd
    have hS := hS.front 6 rfl
    have hS := hS.front 6 rfl
    have hS := hS.front 6 rfl
    have hS := hS.front 6 rfl
    have hS := hS.front 6 rfl
    replace hS := hS.weak Weak.rowRd
    replace hS := hS.cut 7
    exact ⟨A446, c447, A450, c451, A454, c455, A458, c459, A462, c463, (some ⟨b479, 0, none⟩), 1, ([⟨r473, A475, c476⟩] : List Mq), rfl, k448, k452, k456, k460, k464, ⟨Nat.le_refl 1, by decide⟩, rfl, (Vh k477 Vf), hS⟩
   ·try dsimp only [Zw]
    refine Zm rfl rfl rfl CellsOf.agg hS ps12 Yy (by kernel_rfl) rfl (fun w hS hB => ?_)
    refine Zg ?_
    refine Ye (hB.sub (fun _ _ h => by simpa using h)) ?_
    refine Z4 [false, false, false, false, false, true] 5 ⟨by decide, by kernel_rfl, by kernel_rfl⟩ rfl rfl ?_
    try dsimp only [Zw]
    refine Yx (ps := [(0, .tmp 140)]) [.int .u8 r473.kind, .int .i64 r473.frm, .int .i64 r473.dst, .int .i64 r473.term, .int .i64 r473.cap, .int .i64 r473.last, .int .i64 r473.lastTerm, .int .i64 r473.commit, .bool r473.okk, .slice A475 r473.entries.length c476, .int .i64 r473.snap.index, .int .i64 r473.snap.term, .int .i64 r473.snap.sum, .int .i64 r473.snap.level, .bool r473.snap.final] Je J9 rfl rfl rfl rfl rfl (by kernel_rfl) hS (fun b479 w hS hB => ?_)
    refine Zg ?_
    refine Z7 hB ?_
    refine Zn [false, false, false, false, false, false, false, true] (by decide +kernel) PFC.h ?_
    refine LtK.put rfl rfl rfl (Zy rfl) ?_
    refine LtK.nil ?_
    refine Z6 (by kernel_rfl) ?_
    refine Zb hK472 ?_
    refine Zk ?_
    refine Zj ?_
    refine Z5 ?_
    refine Zl rfl (RV.cell rfl (Zx Yh hS Zfw Z8) (RV.tmp rfl RV.nil)) rfl ?_
    obtain rfl := QJ H
    have hS := hS.nilRds
    replace hS := hS.front 2 rfl
    replace hS := hS.absorbQ ⟨r473, A475, c476⟩
    replace hS := hS.front 1 rfl
    replace hS := hS.weak Weak.boxRd
    have hS := hS.front 6 rfl
    have hS := hS.front 6 rfl
    have hS := hS.front 6 rfl
    have hS := hS.front 6 rfl
    have hS := hS.front 6 rfl
    replace hS := hS.weak Weak.rowRd
    replace hS := hS.cut 7
    exact ⟨A446, c447, A450, c451, A454, c455, A458, c459, A462, c463, (some ⟨b479, 0, none⟩), 1, ([⟨r473, A475, c476⟩] : List Mq), rfl, k448, k452, k456, k460, k464, ⟨Nat.le_refl 1, by decide⟩, rfl, (Vh k477 Vf), hS⟩
  replace H := Zq H hb
  refine Zd (fun K hK313 => ?_)
  refine Zd (fun K hK314 => ?_)
  refine Zf ?_
  refine Zc 1 rfl ?_
  refine Za rfl rfl rfl (Ze V5 rfl) ?_
  refine Za rfl rfl rfl (Zh Z0 rfl (Zgy _) hS hs8 trivial Zbe) ?_
  refine Za rfl rfl rfl (Zah rfl rfl) ?_
  refine Zg ?_
  refine Zb hK314 ?_
  refine Zz rfl (fun hb => ?_) (fun hb => ?_)
  ·replace H := Zq H hb
   refine Zd (fun K hK315 => ?_)
   refine Zf ?_
   refine Za rfl rfl rfl (Zi Yh rfl (Zgy _) hS hs8 trivial Z8) ?_
   refine Zm rfl rfl rfl CellsOf.agg hS ps6 Yy (by kernel_rfl) rfl (fun w hS hB => ?_)
   refine Zc 1 rfl ?_
   refine Zg ?_
   refine Zb hK315 ?_
   refine Zk ?_
   refine Zj ?_
   refine Zj ?_
   refine Z5 ?_
   refine Zl rfl (RV.cell rfl (Zx Yh hS hs6 Z8) (RV.tmp rfl RV.nil)) rfl ?_
   obtain rfl := QJ H
   have hS := hS.nilRds
   replace hS := hS.nilRd
   have hS := hS.front 6 rfl
   have hS := hS.front 6 rfl
   have hS := hS.front 6 rfl
   have hS := hS.front 6 rfl
   have hS := hS.front 6 rfl
   replace hS := hS.cut 7
   exact ⟨A66, c67, A70, c71, A74, c75, A78, c79, A82, c83, none, 0, ([] : List Mq), rfl, k68, k72, k76, k80, k84, ⟨Nat.le_refl _, Nat.zero_le _⟩, rfl, Vf, hS⟩
  replace H := Zp H hb
  refine Zt ?_
  refine Zb hK313 ?_
  refine Zd (fun K hK316 => ?_)
  refine Zd (fun K hK317 => ?_)
  refine Zf ?_
  refine Zc 2 rfl ?_
  refine Za rfl rfl rfl (Zah rfl rfl) ?_
  refine Zg ?_
  refine Zb hK317 ?_
  refine Zz rfl (fun hb => ?_) (fun hb => ?_)
  rotate_left
  ·replace H := Zp H hb
   refine Zt ?_
   refine Zb hK316 ?_
   refine Zd (fun K hK383 => ?_)
   refine Yg 11 [9] (fun i b => (i = 9 → b ≠ b9)) ⟨by kernel_rfl, by kernel_rfl⟩ hS (fun w hS hB => ?_)
   refine Zn [true, true, true, true, true] (by decide +kernel) PFC.h ?_
   refine LtK.put rfl rfl rfl (Zi Yr rfl (Zgz _) hS hs5 trivial Vl) ?_
   refine LtK.put rfl rfl rfl (Ze Vc rfl) ?_
   refine LtK.put rfl rfl rfl (Zh Xp rfl (Zgz _) hS hs7 trivial Zak) ?_
   refine LtK.put rfl rfl rfl (Zs rfl) ?_
   obtain ⟨l384, hd385, H⟩ := bind_some H
   refine LtK.put rfl rfl rfl (yx_slice_l Y6 rfl rfl hd385) ?_
   refine LtK.nil ?_
   refine Z4 [false, false, false, false, false, true] 5 ⟨by decide, by kernel_rfl, by kernel_rfl⟩ rfl rfl ?_
   try dsimp only [Zw]
   obtain ⟨r386, hm387, H⟩ := bind_some H
   refine Zo rfl rfl rfl rfl (by kernel_rfl) rfl (Zdo r64.tuple l384 A66 c67 (cutA A5_ c5_ (Int.toNat r308) 3) (c5_ - Int.toNat r308) _ (Zg1 k68 (hS.rd hs0) (hS.rd_blk hs0)) (Zg1 (k_drop s5_.k hd385) (Rd.dropI X5 (hS.rd0 s5_.rd) s5_.k.1 hd385) (cutA_blk (hS.blk0 s5_.blk))) hm387) ?_
   rintro e w ⟨A388, c389, rfl, k390, hN⟩; refine ⟨_, rfl, ?_⟩; obtain ⟨hB, hS⟩ := hS.jn hN
   refine Zg ?_
   refine Z7 hB ?_
   refine Zn [false, false, false, false, false, false, true, true] (by decide +kernel) PFC.h ?_
   refine LtK.put rfl rfl rfl (Zs rfl) ?_
   refine LtK.put rfl rfl rfl (Z1 rfl rfl) ?_
   refine LtK.nil ?_
   refine Y2 [false, false, false, false, false, false, false, false, true] [9] (fun b => b ≠ b9) (by decide +kernel) (by intro j hj b hb; simp only [List.mem_cons, List.not_mem_nil, or_false] at hj; (try rcases hj with rfl | rfl | rfl | rfl | rfl) <;> first | (simp [hb]; done) | simp_all) PFC.h ?_
   refine LtK.put rfl rfl rfl (Z1 rfl rfl) ?_
   refine LtK.nil ?_
   refine Yp [false, false, false, false, false, false, false, false, false, true] 9 ⟨by decide, by kernel_rfl, by kernel_rfl⟩ rfl rfl ?_
   try dsimp only [Zw]
   refine Zm rfl rfl rfl CellsOf.agg hS ps6 Zb0 (by kernel_rfl) rfl (fun w hS hB => ?_)
   refine Zg ?_
   refine Ye (hB.sub (fun _ _ h => by simpa using h)) ?_
   refine Zn [false, false, false, false, false, false, false, false, false, false, true] (by decide +kernel) PFC.h ?_
   refine LtK.put rfl rfl rfl (Zy rfl) ?_
   refine LtK.nil ?_
   refine Z6 (by kernel_rfl) ?_
   refine Zb hK383 ?_
   refine Zd (fun K hK392 => ?_)
   refine Zf ?_
   refine Zc 1 rfl ?_
   refine Za rfl rfl rfl (Y5 rfl rfl) ?_
   refine Zg ?_
   refine Zb hK392 ?_
   refine Zz rfl (fun hb => ?_) (fun hb => ?_)
   ·replace H := Zq H hb
    refine Vi ?_
    refine Xb ?_
    refine Vz ?_
    refine Zd (fun K hK393 => ?_)
    refine Zt ?_
    refine Zb hK393 ?_
    refine Zd (fun K hK394 => ?_)
    refine Yg 8 [6] (fun i b => (i = 6 → b ≠ b6)) ⟨by kernel_rfl, by kernel_rfl⟩ hS (fun w hS hB => ?_)
    refine Zn [true] (by decide +kernel) PFC.h ?_
    refine LtK.put rfl rfl rfl (Zi Yh rfl (Zgz _) hS hs9 trivial Z8) ?_
    refine LtK.nil ?_
    refine Y2 [false, true, true, true] [6] (fun b => b ≠ b6) (by decide +kernel) (by intro j hj b hb; simp only [List.mem_cons, List.not_mem_nil, or_false] at hj; (try rcases hj with rfl | rfl | rfl | rfl | rfl) <;> first | (simp [hb]; done) | simp_all) PFC.h ?_
    refine LtK.put rfl rfl rfl (Zi Yh rfl (Zg0 _ _) hS hs9 (hS.ne 9 7 rfl rfl rfl) Z8) ?_
    refine LtK.put rfl rfl rfl (Zi Vp rfl (Zg0 _ _) hS hs8 (hS.ne 8 7 rfl rfl rfl) Xv) ?_
    refine LtK.put rfl rfl rfl (Zs rfl) ?_
    refine LtK.nil ?_
    refine Z4 [false, false, false, false, true] 4 ⟨by decide, by kernel_rfl, by kernel_rfl⟩ rfl rfl ?_
    try dsimp only [Zw]
    obtain ⟨r395, hm396, H⟩ := bind_some H
    refine Zo rfl rfl rfl rfl (by kernel_rfl) rfl (Jq (⟨r64.id, r64.n, 0, r64.binary, r64.tuple, r64.commit, r64.applied, r64.votes, r64.next, r64.mtch, r64.caps⟩ : Co) x1 4 false r87 A66 c67 A70 c71 A74 c75 A78 c79 A82 c83 A5_ c5_ _ (Zg1 k68 (hS.rd Xr) (hS.rd_blk Xr)) (Zg1 k72 (hS.row_rd X0) (hS.row_blk X0)) (Zg1 k76 (hS.row_rd hs3) (hS.row_blk hs3)) (Zg1 k80 (hS.row_rd hs4) (hS.row_blk hs4)) (Zg1 k84 (hS.row_rd hs5) (hS.row_blk hs5)) (Zg1 s5_.k (hS.rd0 s5_.rd) (hS.blk0 s5_.blk)) hm396) ?_
    rintro e w ⟨A397, c398, rfl, k399, hN⟩; refine ⟨_, rfl, ?_⟩; obtain ⟨hB, hS⟩ := hS.jn hN
    refine Zg ?_
    refine Z7 hB ?_
    refine Zax [5, 6] ⟨by decide, by kernel_rfl⟩ rfl (.call [false, false, false, false, false, true] 5 rfl rfl rfl ?_ (.put [false, false, false, false, false, false, true] 6 rfl rfl rfl ?_ .nil))
    ·try dsimp only [Zw]
     refine Yx (ps := [(0, .tmp 146)]) [.int .u8 r395.kind, .int .i64 r395.frm, .int .i64 r395.dst, .int .i64 r395.term, .int .i64 r395.cap, .int .i64 r395.last, .int .i64 r395.lastTerm, .int .i64 r395.commit, .bool r395.okk, .slice A397 r395.entries.length c398, .int .i64 r395.snap.index, .int .i64 r395.snap.term, .int .i64 r395.snap.sum, .int .i64 r395.snap.level, .bool r395.snap.final] Je J9 rfl rfl rfl rfl rfl (by kernel_rfl) hS (fun b401 w hS hB => ?_)
     refine Zg ?_
     refine Z7 hB ?_
     refine Yp [false, false, false, false, false, false, true] 6 ⟨by decide, by kernel_rfl, by kernel_rfl⟩ rfl rfl ?_
     try dsimp only [Zw]
     refine Zm rfl rfl rfl CellsOf.agg hS ps9 Yy (by kernel_rfl) rfl (fun w hS hB => ?_)
     refine Zg ?_
     refine Ye (hB.sub (fun _ _ h => by simpa using h)) ?_
     refine Zn [false, false, false, false, false, false, false, true] (by decide +kernel) PFC.h ?_
     refine LtK.put rfl rfl rfl (Zy rfl) ?_
     refine LtK.nil ?_
     refine Z6 (by kernel_rfl) ?_
     refine Zb hK394 ?_
     refine Zk ?_
     refine Z5 ?_
     refine Zl rfl (RV.cell rfl (Zx Yh hS hs9 Z8) (RV.tmp rfl RV.nil)) rfl ?_
     obtain rfl := QJ H
     have hS := hS.nilRds
     replace hS := hS.front 2 rfl
     replace hS := hS.absorbQ ⟨r395, A397, c398⟩
     replace hS := hS.front 1 rfl
     replace hS := hS.weak Weak.boxRd
     have hS := hS.front 7 rfl
     have hS := hS.front 7 rfl
     have hS := hS.front 7 rfl
     have hS := hS.front 7 rfl
     have hS := hS.front 7 rfl
     replace hS := hS.cut 7
     exact ⟨A66, c67, A70, c71, A74, c75, A78, c79, A82, c83, (some ⟨b401, 0, none⟩), 1, ([⟨r395, A397, c398⟩] : List Mq), rfl, k68, k72, k76, k80, k84, ⟨Nat.le_refl 1, by decide⟩, rfl, (Vh k399 Vf), hS⟩
    ·try dsimp only [Zw]
     refine Zm rfl rfl rfl CellsOf.agg hS ps8 Yy (by kernel_rfl) rfl (fun w hS hB => ?_)
     refine Zg ?_
     refine Ye (hB.sub (fun _ _ h => by simpa using h)) ?_
     refine Z4 [false, false, false, false, false, true] 5 ⟨by decide, by kernel_rfl, by kernel_rfl⟩ rfl rfl ?_
     try dsimp only [Zw]
     refine Yx (ps := [(0, .tmp 146)]) [.int .u8 r395.kind, .int .i64 r395.frm, .int .i64 r395.dst, .int .i64 r395.term, .int .i64 r395.cap, .int .i64 r395.last, .int .i64 r395.lastTerm, .int .i64 r395.commit, .bool r395.okk, .slice A397 r395.entries.length c398, .int .i64 r395.snap.index, .int .i64 r395.snap.term, .int .i64 r395.snap.sum, .int .i64 r395.snap.level, .bool r395.snap.final] Je J9 rfl rfl rfl rfl rfl (by kernel_rfl) hS (fun b401 w hS hB => ?_)
     refine Zg ?_
     refine Z7 hB ?_
     refine Zn [false, false, false, false, false, false, false, true] (by decide +kernel) PFC.h ?_
     refine LtK.put rfl rfl rfl (Zy rfl) ?_
     refine LtK.nil ?_
     refine Z6 (by kernel_rfl) ?_
     refine Zb hK394 ?_
     refine Zk ?_
     refine Z5 ?_
     refine Zl rfl (RV.cell rfl (Zx Yh hS hs9 Z8) (RV.tmp rfl RV.nil)) rfl ?_
     obtain rfl := QJ H
     have hS := hS.nilRds
     replace hS := hS.front 2 rfl
     replace hS := hS.absorbQ ⟨r395, A397, c398⟩
     replace hS := hS.front 1 rfl
     replace hS := hS.weak Weak.boxRd
     have hS := hS.front 7 rfl
     have hS := hS.front 7 rfl
     have hS := hS.front 7 rfl
     have hS := hS.front 7 rfl
     have hS := hS.front 7 rfl
     replace hS := hS.cut 7
     exact ⟨A66, c67, A70, c71, A74, c75, A78, c79, A82, c83, (some ⟨b401, 0, none⟩), 1, ([⟨r395, A397, c398⟩] : List Mq), rfl, k68, k72, k76, k80, k84, ⟨Nat.le_refl 1, by decide⟩, rfl, (Vh k399 Vf), hS⟩
   replace H := Zp H hb
   refine Zt ?_
   refine Zb hK310 ?_
   refine Zd (fun K hK403 => ?_)
   refine Zf ?_
   refine Za rfl rfl rfl (Zi Yr rfl (Zgy _) hS hs6 trivial Vl) ?_
   refine Za rfl rfl rfl (Ze Yz rfl) ?_
   refine Zm rfl rfl rfl CellsOf.agg hS ps9 st4_8 (by kernel_rfl) rfl (fun w hS hB => ?_)
   refine Zg ?_
   refine Zb hK403 ?_
   refine Zd (fun K hK404 => ?_)
   refine Zf ?_
   refine Za rfl rfl rfl (Zi Yh rfl (Zgy _) hS hs9 trivial Z8) ?_
   obtain ⟨r405, hm406, H⟩ := bind_some H
   refine Zo rfl rfl rfl rfl (by kernel_rfl) rfl (Zbr (⟨r64.id, r64.n, 0, r64.binary, r386.1, r64.commit, r64.applied, r64.votes, r64.next, r64.mtch, r64.caps⟩ : Co) A388 c389 A70 c71 A74 c75 A78 c79 A82 c83 _ (Zg1 k390 (hS.rd hs0) (hS.rd_blk hs0)) (Zg1 k72 (hS.row_rd X0) (hS.row_blk X0)) (Zg1 k76 (hS.row_rd hs3) (hS.row_blk hs3)) (Zg1 k80 (hS.row_rd hs4) (hS.row_blk hs4)) (Zg1 k84 (hS.row_rd hs5) (hS.row_blk hs5)) hm406) ?_
   rintro e w ⟨A407, c408, A411, c412, A415, c416, A419, c420, A423, c424, rfl, k409, k413, k417, k421, k425, hN⟩; refine ⟨_, rfl, ?_⟩; obtain ⟨hB, hS⟩ := hS.jn hN
   refine Zm rfl rfl rfl CellsOf.agg hS ps14 Yy (by kernel_rfl) rfl (fun w hS hB => ?_)
   refine Zg ?_
   refine Zb hK404 ?_
   refine Zd (fun K hK427 => ?_)
   refine Zf ?_
   refine Za rfl rfl rfl (Ze Vx rfl) ?_
   refine Za rfl rfl rfl (Zh Z0 rfl (Zgy _) hS Zfw trivial Js) ?_
   refine Za rfl rfl rfl (Ze Vc rfl) ?_
   refine Za rfl rfl rfl (Zh Xp rfl (Zgy _) hS Zfw trivial Zak) ?_
   refine Za rfl rfl rfl (Yu Y6 rfl) ?_
   refine Za rfl rfl rfl (Xf rfl rfl) ?_
   refine Zc 1 rfl ?_
   refine Zg ?_
   refine Zb hK427 ?_
   refine Zd (fun K hK428 => ?_)
   refine Zf ?_
   refine Za rfl rfl rfl (Ze V5 rfl) ?_
   refine Za rfl rfl rfl (Zh Z0 rfl (Zgy _) hS Zej trivial Zbe) ?_
   refine Za rfl rfl rfl (Ze Zdn rfl) ?_
   refine Za rfl rfl rfl (Zh Z0 rfl (Zgy _) hS Zfw trivial Zfd) ?_
   refine Zc 1 rfl ?_
   refine Za rfl rfl rfl (Zer rfl rfl) ?_
   refine Za rfl rfl rfl (Zfp rfl rfl) ?_
   refine Za rfl rfl rfl (Ze V5 rfl) ?_
   refine Zm rfl rfl rfl CellsOf.int hS ps14 st12_1 (by kernel_rfl) rfl (fun w hS hB => ?_)
   refine Zg ?_
   refine Zb hK428 ?_
   refine Zd (fun K hK429 => ?_)
   refine Zf ?_
   refine Za rfl rfl rfl (Ze Yz rfl) ?_
   refine Za rfl rfl rfl (Zi Yr rfl (Zgy _) hS Zej trivial Jw) ?_
   refine Za rfl rfl rfl (Ze V5 rfl) ?_
   refine Za rfl rfl rfl (Zh Z0 rfl (Zgy _) hS Zej trivial Zbe) ?_
   obtain ⟨r430, hm431, H⟩ := bind_some H
   refine Zo rfl rfl rfl rfl (by kernel_rfl) rfl (Za5 r405.tuple (max r405.commit (min x1.commit (IntKind.wrap .i64 (x1.last + (x1.entries.length : Int))))) A407 c408 _ (Zg1 k409 (hS.row_rd hs0) (hS.row_blk hs0)) hm431) ?_
   rintro e w ⟨rfl, hN⟩; refine ⟨_, rfl, ?_⟩; obtain ⟨hB, hS⟩ := hS.jn hN
   refine Zc 1 rfl ?_
   refine Za rfl rfl rfl (Z1 rfl rfl) ?_
   refine Za rfl rfl rfl (Z1 rfl rfl) ?_
   refine Za rfl rfl rfl (Ze Zef rfl) ?_
   refine Zm rfl rfl rfl CellsOf.agg hS ps14 st13_5 (by kernel_rfl) rfl (fun w hS hB => ?_)
   refine Zg ?_
   refine Zb hK429 ?_
   refine Zd (fun K hK432 => ?_)
   refine Zd (fun K hK433 => ?_)
   refine Yg 8 [6] (fun i b => (i = 6 → b ≠ b6)) ⟨by kernel_rfl, by kernel_rfl⟩ hS (fun w hS hB => ?_)
   refine Zn [true] (by decide +kernel) PFC.h ?_
   refine LtK.put rfl rfl rfl (Zi Yh rfl (Zgz _) hS Zej trivial Z8) ?_
   refine LtK.nil ?_
   refine Y2 [false, true, true, true] [6] (fun b => b ≠ b6) (by decide +kernel) (by intro j hj b hb; simp only [List.mem_cons, List.not_mem_nil, or_false] at hj; (try rcases hj with rfl | rfl | rfl | rfl | rfl) <;> first | (simp [hb]; done) | simp_all) PFC.h ?_
   refine LtK.put rfl rfl rfl (Zi Yh rfl (Zg0 _ _) hS Zej (hS.ne 14 12 rfl rfl rfl) Z8) ?_
   refine LtK.put rfl rfl rfl (Zi Vp rfl (Zg0 _ _) hS Zfw (hS.ne 13 12 rfl rfl rfl) Xv) ?_
   refine LtK.put rfl rfl rfl (Zs rfl) ?_
   refine LtK.nil ?_
   refine Z4 [false, false, false, false, true] 4 ⟨by decide, by kernel_rfl, by kernel_rfl⟩ rfl rfl ?_
   try dsimp only [Zw]
   obtain ⟨r434, hm435, H⟩ := bind_some H
   refine Zo rfl rfl rfl rfl (by kernel_rfl) rfl (Jq (⟨r405.id, r405.n, r405.role, r405.binary, r405.tuple, (max r405.commit (min x1.commit (IntKind.wrap .i64 (x1.last + (x1.entries.length : Int))))), r430.1, r405.votes, r405.next, r405.mtch, r405.caps⟩ : Co) x1 4 true (IntKind.wrap .i64 (x1.last + (x1.entries.length : Int))) A407 c408 A411 c412 A415 c416 A419 c420 A423 c424 A5_ c5_ _ (Zg1 k409 (hS.row_rd hs0) (hS.row_blk hs0)) (Zg1 k413 (hS.row_rd Xr) (hS.row_blk Xr)) (Zg1 k417 (hS.row_rd X0) (hS.row_blk X0)) (Zg1 k421 (hS.row_rd hs3) (hS.row_blk hs3)) (Zg1 k425 (hS.row_rd hs4) (hS.row_blk hs4)) (Zg1 s5_.k (hS.rd0 s5_.rd) (hS.blk0 s5_.blk)) hm435) ?_
   rintro e w ⟨A436, c437, rfl, k438, hN⟩; refine ⟨_, rfl, ?_⟩; obtain ⟨hB, hS⟩ := hS.jn hN
   refine Zg ?_
   refine Z7 hB ?_
   refine Zax [5, 6] ⟨by decide, by kernel_rfl⟩ rfl (.call [false, false, false, false, false, true] 5 rfl rfl rfl ?_ (.put [false, false, false, false, false, false, true] 6 rfl rfl rfl ?_ .nil))
   ·try dsimp only [Zw]
    refine Yx (ps := [(0, .tmp 140)]) [.int .u8 r434.kind, .int .i64 r434.frm, .int .i64 r434.dst, .int .i64 r434.term, .int .i64 r434.cap, .int .i64 r434.last, .int .i64 r434.lastTerm, .int .i64 r434.commit, .bool r434.okk, .slice A436 r434.entries.length c437, .int .i64 r434.snap.index, .int .i64 r434.snap.term, .int .i64 r434.snap.sum, .int .i64 r434.snap.level, .bool r434.snap.final] Je J9 rfl rfl rfl rfl rfl (by kernel_rfl) hS (fun b440 w hS hB => ?_)
    refine Zg ?_
    refine Z7 hB ?_
    refine Yp [false, false, false, false, false, false, true] 6 ⟨by decide, by kernel_rfl, by kernel_rfl⟩ rfl rfl ?_
    try dsimp only [Zw]
    refine Zm rfl rfl rfl CellsOf.agg hS ps14 Yy (by kernel_rfl) rfl (fun w hS hB => ?_)
    refine Zg ?_
    refine Ye (hB.sub (fun _ _ h => by simpa using h)) ?_
    refine Zn [false, false, false, false, false, false, false, true] (by decide +kernel) PFC.h ?_
    refine LtK.put rfl rfl rfl (Zy rfl) ?_
    refine LtK.nil ?_
    refine Z6 (by kernel_rfl) ?_
    refine Zb hK433 ?_
    refine Zk ?_
    refine Zj ?_
    refine Z5 ?_
    refine Zl rfl (RV.cell rfl (Zx Yh hS Zej Z8) (RV.tmp rfl RV.nil)) rfl ?_
    obtain rfl := QJ H
    have hS := hS.nilRds
    replace hS := hS.front 2 rfl
    replace hS := hS.absorbQ ⟨r434, A436, c437⟩
    replace hS := hS.front 1 rfl
    replace hS := hS.weak Weak.boxRd
    have hS := hS.front 6 rfl
    have hS := hS.front 6 rfl
    have hS := hS.front 6 rfl
    have hS := hS.front 6 rfl
    have hS := hS.front 6 rfl
    replace hS := hS.weak Weak.rowRd
    replace hS := hS.cut 7
    exact ⟨A407, c408, A411, c412, A415, c416, A419, c420, A423, c424, (some ⟨b440, 0, none⟩), 1, ([⟨r434, A436, c437⟩] : List Mq), rfl, k409, k413, k417, k421, k425, ⟨Nat.le_refl 1, by decide⟩, rfl, (Vh k438 Vf), hS⟩
   ·try dsimp only [Zw]
    refine Zm rfl rfl rfl CellsOf.agg hS ps13 Yy (by kernel_rfl) rfl (fun w hS hB => ?_)
    refine Zg ?_
    refine Ye (hB.sub (fun _ _ h => by simpa using h)) ?_
    refine Z4 [false, false, false, false, false, true] 5 ⟨by decide, by kernel_rfl, by kernel_rfl⟩ rfl rfl ?_
    try dsimp only [Zw]
    refine Yx (ps := [(0, .tmp 140)]) [.int .u8 r434.kind, .int .i64 r434.frm, .int .i64 r434.dst, .int .i64 r434.term, .int .i64 r434.cap, .int .i64 r434.last, .int .i64 r434.lastTerm, .int .i64 r434.commit, .bool r434.okk, .slice A436 r434.entries.length c437, .int .i64 r434.snap.index, .int .i64 r434.snap.term, .int .i64 r434.snap.sum, .int .i64 r434.snap.level, .bool r434.snap.final] Je J9 rfl rfl rfl rfl rfl (by kernel_rfl) hS (fun b440 w hS hB => ?_)
    refine Zg ?_
    refine Z7 hB ?_
    refine Zn [false, false, false, false, false, false, false, true] (by decide +kernel) PFC.h ?_
    refine LtK.put rfl rfl rfl (Zy rfl) ?_
    refine LtK.nil ?_
    refine Z6 (by kernel_rfl) ?_
    refine Zb hK433 ?_
    refine Zk ?_
    refine Zj ?_
    refine Z5 ?_
    refine Zl rfl (RV.cell rfl (Zx Yh hS Zej Z8) (RV.tmp rfl RV.nil)) rfl ?_
    obtain rfl := QJ H
    have hS := hS.nilRds
    replace hS := hS.front 2 rfl
    replace hS := hS.absorbQ ⟨r434, A436, c437⟩
    replace hS := hS.front 1 rfl
    replace hS := hS.weak Weak.boxRd
    have hS := hS.front 6 rfl
    have hS := hS.front 6 rfl
    have hS := hS.front 6 rfl
    have hS := hS.front 6 rfl
    have hS := hS.front 6 rfl
    replace hS := hS.weak Weak.rowRd
    replace hS := hS.cut 7
    exact ⟨A407, c408, A411, c412, A415, c416, A419, c420, A423, c424, (some ⟨b440, 0, none⟩), 1, ([⟨r434, A436, c437⟩] : List Mq), rfl, k409, k413, k417, k421, k425, ⟨Nat.le_refl 1, by decide⟩, rfl, (Vh k438 Vf), hS⟩
  replace H := Zq H hb
  refine Zf ?_
  refine Za rfl rfl rfl (Zi Yr rfl (Zgy _) hS hs5 trivial Vl) ?_
  refine Zc 1 rfl ?_
  obtain ⟨r318, hm319, H⟩ := bind_some H
  refine Zo rfl rfl rfl rfl (by kernel_rfl) rfl (c_tuple_Cut r64.tuple (IntKind.wrap .i64 ((IntKind.wrap .i64 (x1.last + 1)) + r308)) A66 c67 _ (Zg1 k68 (hS.rd hs0) (hS.rd_blk hs0)) hm319) ?_
  rintro e w ⟨A320, c321, rfl, k322, hN⟩; refine ⟨_, rfl, ?_⟩; obtain ⟨hB, hS⟩ := hS.jn hN
  refine Zc 1 rfl ?_
  refine Za rfl rfl rfl (Z1 rfl rfl) ?_
  refine Za rfl rfl rfl (Z1 rfl rfl) ?_
  refine Zm rfl rfl rfl CellsOf.agg hS ps6 Zb0 (by kernel_rfl) rfl (fun w hS hB => ?_)
  refine Zg ?_
  refine Zb hK316 ?_
  refine Zd (fun K hK324 => ?_)
  refine Yg 11 [9] (fun i b => (i = 9 → b ≠ b9)) ⟨by kernel_rfl, by kernel_rfl⟩ hS (fun w hS hB => ?_)
  refine Zn [true, true, true, true, true] (by decide +kernel) PFC.h ?_
  refine LtK.put rfl rfl rfl (Zi Yr rfl (Zgz _) hS hs6 trivial Vl) ?_
  refine LtK.put rfl rfl rfl (Ze Vc rfl) ?_
  refine LtK.put rfl rfl rfl (Zh Xp rfl (Zgz _) hS hs8 trivial Zak) ?_
  refine LtK.put rfl rfl rfl (Zs rfl) ?_
  obtain ⟨l325, hd326, H⟩ := bind_some H
  refine LtK.put rfl rfl rfl (yx_slice_l Y6 rfl rfl hd326) ?_
  refine LtK.nil ?_
  refine Z4 [false, false, false, false, false, true] 5 ⟨by decide, by kernel_rfl, by kernel_rfl⟩ rfl rfl ?_
  try dsimp only [Zw]
  obtain ⟨r327, hm328, H⟩ := bind_some H
  refine Zo rfl rfl rfl rfl (by kernel_rfl) rfl (Zdo r318.1 l325 A320 c321 (cutA A5_ c5_ (Int.toNat r308) 3) (c5_ - Int.toNat r308) _ (Zg1 k322 (hS.rd hs0) (hS.rd_blk hs0)) (Zg1 (k_drop s5_.k hd326) (Rd.dropI X5 (hS.rd0 s5_.rd) s5_.k.1 hd326) (cutA_blk (hS.blk0 s5_.blk))) hm328) ?_
  rintro e w ⟨A329, c330, rfl, k331, hN⟩; refine ⟨_, rfl, ?_⟩; obtain ⟨hB, hS⟩ := hS.jn hN
  refine Zg ?_
  refine Z7 hB ?_
  refine Zn [false, false, false, false, false, false, true, true] (by decide +kernel) PFC.h ?_
  refine LtK.put rfl rfl rfl (Zs rfl) ?_
  refine LtK.put rfl rfl rfl (Z1 rfl rfl) ?_
  refine LtK.nil ?_
  refine Y2 [false, false, false, false, false, false, false, false, true] [9] (fun b => b ≠ b9) (by decide +kernel) (by intro j hj b hb; simp only [List.mem_cons, List.not_mem_nil, or_false] at hj; (try rcases hj with rfl | rfl | rfl | rfl | rfl) <;> first | (simp [hb]; done) | simp_all) PFC.h ?_
  refine LtK.put rfl rfl rfl (Z1 rfl rfl) ?_
  refine LtK.nil ?_
  refine Yp [false, false, false, false, false, false, false, false, false, true] 9 ⟨by decide, by kernel_rfl, by kernel_rfl⟩ rfl rfl ?_
  try dsimp only [Zw]
  refine Zm rfl rfl rfl CellsOf.agg hS ps7 Zb0 (by kernel_rfl) rfl (fun w hS hB => ?_)
  refine Zg ?_
  refine Ye (hB.sub (fun _ _ h => by simpa using h)) ?_
  refine Zn [false, false, false, false, false, false, false, false, false, false, true] (by decide +kernel) PFC.h ?_
  refine LtK.put rfl rfl rfl (Zy rfl) ?_
  refine LtK.nil ?_
  refine Z6 (by kernel_rfl) ?_
  refine Zb hK324 ?_
  refine Zd (fun K hK333 => ?_)
  refine Zf ?_
  refine Zc 1 rfl ?_
  refine Za rfl rfl rfl (Y5 rfl rfl) ?_
  refine Zg ?_
  refine Zb hK333 ?_
  refine Zz rfl (fun hb => ?_) (fun hb => ?_)
  ·replace H := Zq H hb
   refine Vi ?_
   refine Xb ?_
   refine Vz ?_
   refine Zd (fun K hK334 => ?_)
   refine Zt ?_
   refine Zb hK334 ?_
   refine Zd (fun K hK335 => ?_)
   refine Yg 8 [6] (fun i b => (i = 6 → b ≠ b6)) ⟨by kernel_rfl, by kernel_rfl⟩ hS (fun w hS hB => ?_)
   refine Zn [true] (by decide +kernel) PFC.h ?_
   refine LtK.put rfl rfl rfl (Zi Yh rfl (Zgz _) hS Zei trivial Z8) ?_
   refine LtK.nil ?_
   refine Y2 [false, true, true, true] [6] (fun b => b ≠ b6) (by decide +kernel) (by intro j hj b hb; simp only [List.mem_cons, List.not_mem_nil, or_false] at hj; (try rcases hj with rfl | rfl | rfl | rfl | rfl) <;> first | (simp [hb]; done) | simp_all) PFC.h ?_
   refine LtK.put rfl rfl rfl (Zi Yh rfl (Zg0 _ _) hS Zei (hS.ne 10 8 rfl rfl rfl) Z8) ?_
   refine LtK.put rfl rfl rfl (Zi Vp rfl (Zg0 _ _) hS hs9 (hS.ne 9 8 rfl rfl rfl) Xv) ?_
   refine LtK.put rfl rfl rfl (Zs rfl) ?_
   refine LtK.nil ?_
   refine Z4 [false, false, false, false, true] 4 ⟨by decide, by kernel_rfl, by kernel_rfl⟩ rfl rfl ?_
   try dsimp only [Zw]
   obtain ⟨r336, hm337, H⟩ := bind_some H
   refine Zo rfl rfl rfl rfl (by kernel_rfl) rfl (Jq (⟨r64.id, r64.n, 0, r64.binary, r64.tuple, r64.commit, r64.applied, r64.votes, r64.next, r64.mtch, r64.caps⟩ : Co) x1 4 false r87 A66 c67 A70 c71 A74 c75 A78 c79 A82 c83 A5_ c5_ _ (Zg1 k68 (hS.rd X0) (hS.rd_blk X0)) (Zg1 k72 (hS.row_rd hs3) (hS.row_blk hs3)) (Zg1 k76 (hS.row_rd hs4) (hS.row_blk hs4)) (Zg1 k80 (hS.row_rd hs5) (hS.row_blk hs5)) (Zg1 k84 (hS.row_rd hs6) (hS.row_blk hs6)) (Zg1 s5_.k (hS.rd0 s5_.rd) (hS.blk0 s5_.blk)) hm337) ?_
   rintro e w ⟨A338, c339, rfl, k340, hN⟩; refine ⟨_, rfl, ?_⟩; obtain ⟨hB, hS⟩ := hS.jn hN
   refine Zg ?_
   refine Z7 hB ?_
   refine Zax [5, 6] ⟨by decide, by kernel_rfl⟩ rfl (.call [false, false, false, false, false, true] 5 rfl rfl rfl ?_ (.put [false, false, false, false, false, false, true] 6 rfl rfl rfl ?_ .nil))
   ·try dsimp only [Zw]
    refine Yx (ps := [(0, .tmp 146)]) [.int .u8 r336.kind, .int .i64 r336.frm, .int .i64 r336.dst, .int .i64 r336.term, .int .i64 r336.cap, .int .i64 r336.last, .int .i64 r336.lastTerm, .int .i64 r336.commit, .bool r336.okk, .slice A338 r336.entries.length c339, .int .i64 r336.snap.index, .int .i64 r336.snap.term, .int .i64 r336.snap.sum, .int .i64 r336.snap.level, .bool r336.snap.final] Je J9 rfl rfl rfl rfl rfl (by kernel_rfl) hS (fun b342 w hS hB => ?_)
    refine Zg ?_
    refine Z7 hB ?_
    refine Yp [false, false, false, false, false, false, true] 6 ⟨by decide, by kernel_rfl, by kernel_rfl⟩ rfl rfl ?_
    try dsimp only [Zw]
    refine Zm rfl rfl rfl CellsOf.agg hS ps10 Yy (by kernel_rfl) rfl (fun w hS hB => ?_)
    refine Zg ?_
    refine Ye (hB.sub (fun _ _ h => by simpa using h)) ?_
    refine Zn [false, false, false, false, false, false, false, true] (by decide +kernel) PFC.h ?_
    refine LtK.put rfl rfl rfl (Zy rfl) ?_
    refine LtK.nil ?_
    refine Z6 (by kernel_rfl) ?_
    refine Zb hK335 ?_
    refine Zk ?_
    refine Z5 ?_
    refine Zl rfl (RV.cell rfl (Zx Yh hS Zei Z8) (RV.tmp rfl RV.nil)) rfl ?_
    obtain rfl := QJ H
    have hS := hS.nilRds
    replace hS := hS.front 2 rfl
    replace hS := hS.absorbQ ⟨r336, A338, c339⟩
    replace hS := hS.front 1 rfl
    replace hS := hS.weak Weak.boxRd
    have hS := hS.front 8 rfl
    have hS := hS.front 8 rfl
    have hS := hS.front 8 rfl
    have hS := hS.front 8 rfl
    have hS := hS.front 8 rfl
    replace hS := hS.cut 7
    exact ⟨A66, c67, A70, c71, A74, c75, A78, c79, A82, c83, (some ⟨b342, 0, none⟩), 1, ([⟨r336, A338, c339⟩] : List Mq), rfl, k68, k72, k76, k80, k84, ⟨Nat.le_refl 1, by decide⟩, rfl, (Vh k340 Vf), hS⟩
   ·try dsimp only [Zw]
    refine Zm rfl rfl rfl CellsOf.agg hS ps9 Yy (by kernel_rfl) rfl (fun w hS hB => ?_)
    refine Zg ?_
    refine Ye (hB.sub (fun _ _ h => by simpa using h)) ?_
    refine Z4 [false, false, false, false, false, true] 5 ⟨by decide, by kernel_rfl, by kernel_rfl⟩ rfl rfl ?_
    try dsimp only [Zw]
    refine Yx (ps := [(0, .tmp 146)]) [.int .u8 r336.kind, .int .i64 r336.frm, .int .i64 r336.dst, .int .i64 r336.term, .int .i64 r336.cap, .int .i64 r336.last, .int .i64 r336.lastTerm, .int .i64 r336.commit, .bool r336.okk, .slice A338 r336.entries.length c339, .int .i64 r336.snap.index, .int .i64 r336.snap.term, .int .i64 r336.snap.sum, .int .i64 r336.snap.level, .bool r336.snap.final] Je J9 rfl rfl rfl rfl rfl (by kernel_rfl) hS (fun b342 w hS hB => ?_)
    refine Zg ?_
    refine Z7 hB ?_
    refine Zn [false, false, false, false, false, false, false, true] (by decide +kernel) PFC.h ?_
    refine LtK.put rfl rfl rfl (Zy rfl) ?_
    refine LtK.nil ?_
    refine Z6 (by kernel_rfl) ?_
    refine Zb hK335 ?_
    refine Zk ?_
    refine Z5 ?_
    refine Zl rfl (RV.cell rfl (Zx Yh hS Zei Z8) (RV.tmp rfl RV.nil)) rfl ?_
    obtain rfl := QJ H
    have hS := hS.nilRds
    replace hS := hS.front 2 rfl
    replace hS := hS.absorbQ ⟨r336, A338, c339⟩
    replace hS := hS.front 1 rfl
    replace hS := hS.weak Weak.boxRd
    have hS := hS.front 8 rfl
    have hS := hS.front 8 rfl
    have hS := hS.front 8 rfl
    have hS := hS.front 8 rfl
    have hS := hS.front 8 rfl
    replace hS := hS.cut 7
    exact ⟨A66, c67, A70, c71, A74, c75, A78, c79, A82, c83, (some ⟨b342, 0, none⟩), 1, ([⟨r336, A338, c339⟩] : List Mq), rfl, k68, k72, k76, k80, k84, ⟨Nat.le_refl 1, by decide⟩, rfl, (Vh k340 Vf), hS⟩
  replace H := Zp H hb
  refine Zt ?_
  refine Zb hK310 ?_
  refine Zd (fun K hK344 => ?_)
  refine Zf ?_
  refine Za rfl rfl rfl (Zi Yr rfl (Zgy _) hS hs7 trivial Vl) ?_
  refine Za rfl rfl rfl (Ze Yz rfl) ?_
  refine Zm rfl rfl rfl CellsOf.agg hS ps10 st4_8 (by kernel_rfl) rfl (fun w hS hB => ?_)
  refine Zg ?_
  refine Zb hK344 ?_
  refine Zd (fun K hK345 => ?_)
  refine Zf ?_
  refine Za rfl rfl rfl (Zi Yh rfl (Zgy _) hS Zei trivial Z8) ?_
  obtain ⟨r346, hm347, H⟩ := bind_some H
  refine Zo rfl rfl rfl rfl (by kernel_rfl) rfl (Zbr (⟨r64.id, r64.n, 0, r64.binary, r327.1, r64.commit, r64.applied, r64.votes, r64.next, r64.mtch, r64.caps⟩ : Co) A329 c330 A70 c71 A74 c75 A78 c79 A82 c83 _ (Zg1 k331 (hS.rd hs0) (hS.rd_blk hs0)) (Zg1 k72 (hS.row_rd hs3) (hS.row_blk hs3)) (Zg1 k76 (hS.row_rd hs4) (hS.row_blk hs4)) (Zg1 k80 (hS.row_rd hs5) (hS.row_blk hs5)) (Zg1 k84 (hS.row_rd hs6) (hS.row_blk hs6)) hm347) ?_
  rintro e w ⟨A348, c349, A352, c353, A356, c357, A360, c361, A364, c365, rfl, k350, k354, k358, k362, k366, hN⟩; refine ⟨_, rfl, ?_⟩; obtain ⟨hB, hS⟩ := hS.jn hN
  refine Zm rfl rfl rfl CellsOf.agg hS ps15 Yy (by kernel_rfl) rfl (fun w hS hB => ?_)
  refine Zg ?_
  refine Zb hK345 ?_
  refine Zd (fun K hK368 => ?_)
  refine Zf ?_
  refine Za rfl rfl rfl (Ze Vx rfl) ?_
  refine Za rfl rfl rfl (Zh Z0 rfl (Zgy _) hS Zej trivial Js) ?_
  refine Za rfl rfl rfl (Ze Vc rfl) ?_
  refine Za rfl rfl rfl (Zh Xp rfl (Zgy _) hS Zej trivial Zak) ?_
  refine Za rfl rfl rfl (Yu Y6 rfl) ?_
  refine Za rfl rfl rfl (Xf rfl rfl) ?_
  refine Zc 1 rfl ?_
  refine Zg ?_
  refine Zb hK368 ?_
  refine Zd (fun K hK369 => ?_)
  refine Zf ?_
  refine Za rfl rfl rfl (Ze V5 rfl) ?_
  refine Za rfl rfl rfl (Zh Z0 rfl (Zgy _) hS hs15 trivial Zbe) ?_
  refine Za rfl rfl rfl (Ze Zdn rfl) ?_
  refine Za rfl rfl rfl (Zh Z0 rfl (Zgy _) hS Zej trivial Zfd) ?_
  refine Zc 1 rfl ?_
  refine Za rfl rfl rfl (Zer rfl rfl) ?_
  refine Za rfl rfl rfl (Zfp rfl rfl) ?_
  refine Za rfl rfl rfl (Ze V5 rfl) ?_
  refine Zm rfl rfl rfl CellsOf.int hS ps15 st12_1 (by kernel_rfl) rfl (fun w hS hB => ?_)
  refine Zg ?_
  refine Zb hK369 ?_
  refine Zd (fun K hK370 => ?_)
  refine Zf ?_
  refine Za rfl rfl rfl (Ze Yz rfl) ?_
  refine Za rfl rfl rfl (Zi Yr rfl (Zgy _) hS hs15 trivial Jw) ?_
  refine Za rfl rfl rfl (Ze V5 rfl) ?_
  refine Za rfl rfl rfl (Zh Z0 rfl (Zgy _) hS hs15 trivial Zbe) ?_
  obtain ⟨r371, hm372, H⟩ := bind_some H
  refine Zo rfl rfl rfl rfl (by kernel_rfl) rfl (Za5 r346.tuple (max r346.commit (min x1.commit (IntKind.wrap .i64 (x1.last + (x1.entries.length : Int))))) A348 c349 _ (Zg1 k350 (hS.row_rd hs0) (hS.row_blk hs0)) hm372) ?_
  rintro e w ⟨rfl, hN⟩; refine ⟨_, rfl, ?_⟩; obtain ⟨hB, hS⟩ := hS.jn hN
  refine Zc 1 rfl ?_
  refine Za rfl rfl rfl (Z1 rfl rfl) ?_
  refine Za rfl rfl rfl (Z1 rfl rfl) ?_
  refine Za rfl rfl rfl (Ze Zef rfl) ?_
  refine Zm rfl rfl rfl CellsOf.agg hS ps15 st13_5 (by kernel_rfl) rfl (fun w hS hB => ?_)
  refine Zg ?_
  refine Zb hK370 ?_
  refine Zd (fun K hK373 => ?_)
  refine Zd (fun K hK374 => ?_)
  refine Yg 8 [6] (fun i b => (i = 6 → b ≠ b6)) ⟨by kernel_rfl, by kernel_rfl⟩ hS (fun w hS hB => ?_)
  refine Zn [true] (by decide +kernel) PFC.h ?_
  refine LtK.put rfl rfl rfl (Zi Yh rfl (Zgz _) hS hs15 trivial Z8) ?_
  refine LtK.nil ?_
  refine Y2 [false, true, true, true] [6] (fun b => b ≠ b6) (by decide +kernel) (by intro j hj b hb; simp only [List.mem_cons, List.not_mem_nil, or_false] at hj; (try rcases hj with rfl | rfl | rfl | rfl | rfl) <;> first | (simp [hb]; done) | simp_all) PFC.h ?_
  refine LtK.put rfl rfl rfl (Zi Yh rfl (Zg0 _ _) hS hs15 (hS.ne 15 13 rfl rfl rfl) Z8) ?_
  refine LtK.put rfl rfl rfl (Zi Vp rfl (Zg0 _ _) hS Zej (hS.ne 14 13 rfl rfl rfl) Xv) ?_
  refine LtK.put rfl rfl rfl (Zs rfl) ?_
  refine LtK.nil ?_
  refine Z4 [false, false, false, false, true] 4 ⟨by decide, by kernel_rfl, by kernel_rfl⟩ rfl rfl ?_
  try dsimp only [Zw]
  obtain ⟨r375, hm376, H⟩ := bind_some H
  refine Zo rfl rfl rfl rfl (by kernel_rfl) rfl (Jq (⟨r346.id, r346.n, r346.role, r346.binary, r346.tuple, (max r346.commit (min x1.commit (IntKind.wrap .i64 (x1.last + (x1.entries.length : Int))))), r371.1, r346.votes, r346.next, r346.mtch, r346.caps⟩ : Co) x1 4 true (IntKind.wrap .i64 (x1.last + (x1.entries.length : Int))) A348 c349 A352 c353 A356 c357 A360 c361 A364 c365 A5_ c5_ _ (Zg1 k350 (hS.row_rd hs0) (hS.row_blk hs0)) (Zg1 k354 (hS.row_rd Xr) (hS.row_blk Xr)) (Zg1 k358 (hS.row_rd X0) (hS.row_blk X0)) (Zg1 k362 (hS.row_rd hs3) (hS.row_blk hs3)) (Zg1 k366 (hS.row_rd hs4) (hS.row_blk hs4)) (Zg1 s5_.k (hS.rd0 s5_.rd) (hS.blk0 s5_.blk)) hm376) ?_
  rintro e w ⟨A377, c378, rfl, k379, hN⟩; refine ⟨_, rfl, ?_⟩; obtain ⟨hB, hS⟩ := hS.jn hN
  refine Zg ?_
  refine Z7 hB ?_
  refine Zax [5, 6] ⟨by decide, by kernel_rfl⟩ rfl (.call [false, false, false, false, false, true] 5 rfl rfl rfl ?_ (.put [false, false, false, false, false, false, true] 6 rfl rfl rfl ?_ .nil))
  ·try dsimp only [Zw]
   refine Yx (ps := [(0, .tmp 140)]) [.int .u8 r375.kind, .int .i64 r375.frm, .int .i64 r375.dst, .int .i64 r375.term, .int .i64 r375.cap, .int .i64 r375.last, .int .i64 r375.lastTerm, .int .i64 r375.commit, .bool r375.okk, .slice A377 r375.entries.length c378, .int .i64 r375.snap.index, .int .i64 r375.snap.term, .int .i64 r375.snap.sum, .int .i64 r375.snap.level, .bool r375.snap.final] Je J9 rfl rfl rfl rfl rfl (by kernel_rfl) hS (fun b381 w hS hB => ?_)
   refine Zg ?_
   refine Z7 hB ?_
   refine Yp [false, false, false, false, false, false, true] 6 ⟨by decide, by kernel_rfl, by kernel_rfl⟩ rfl rfl ?_
   try dsimp only [Zw]
   refine Zm rfl rfl rfl CellsOf.agg hS ps15 Yy (by kernel_rfl) rfl (fun w hS hB => ?_)
   refine Zg ?_
   refine Ye (hB.sub (fun _ _ h => by simpa using h)) ?_
   refine Zn [false, false, false, false, false, false, false, true] (by decide +kernel) PFC.h ?_
   refine LtK.put rfl rfl rfl (Zy rfl) ?_
   refine LtK.nil ?_
   refine Z6 (by kernel_rfl) ?_
   refine Zb hK374 ?_
   refine Zk ?_
   refine Zj ?_
   refine Z5 ?_
   refine Zl rfl (RV.cell rfl (Zx Yh hS hs15 Z8) (RV.tmp rfl RV.nil)) rfl ?_
   obtain rfl := QJ H
   have hS := hS.nilRds
   replace hS := hS.front 2 rfl
   replace hS := hS.absorbQ ⟨r375, A377, c378⟩
   replace hS := hS.front 1 rfl
   replace hS := hS.weak Weak.boxRd
   have hS := hS.front 6 rfl
   have hS := hS.front 6 rfl
   have hS := hS.front 6 rfl
   have hS := hS.front 6 rfl
   have hS := hS.front 6 rfl
   replace hS := hS.weak Weak.rowRd
   replace hS := hS.cut 7
   exact ⟨A348, c349, A352, c353, A356, c357, A360, c361, A364, c365, (some ⟨b381, 0, none⟩), 1, ([⟨r375, A377, c378⟩] : List Mq), rfl, k350, k354, k358, k362, k366, ⟨Nat.le_refl 1, by decide⟩, rfl, (Vh k379 Vf), hS⟩
  ·try dsimp only [Zw]
   refine Zm rfl rfl rfl CellsOf.agg hS ps14 Yy (by kernel_rfl) rfl (fun w hS hB => ?_)
   refine Zg ?_
   refine Ye (hB.sub (fun _ _ h => by simpa using h)) ?_
   refine Z4 [false, false, false, false, false, true] 5 ⟨by decide, by kernel_rfl, by kernel_rfl⟩ rfl rfl ?_
   try dsimp only [Zw]
   refine Yx (ps := [(0, .tmp 140)]) [.int .u8 r375.kind, .int .i64 r375.frm, .int .i64 r375.dst, .int .i64 r375.term, .int .i64 r375.cap, .int .i64 r375.last, .int .i64 r375.lastTerm, .int .i64 r375.commit, .bool r375.okk, .slice A377 r375.entries.length c378, .int .i64 r375.snap.index, .int .i64 r375.snap.term, .int .i64 r375.snap.sum, .int .i64 r375.snap.level, .bool r375.snap.final] Je J9 rfl rfl rfl rfl rfl (by kernel_rfl) hS (fun b381 w hS hB => ?_)
   refine Zg ?_
   refine Z7 hB ?_
   refine Zn [false, false, false, false, false, false, false, true] (by decide +kernel) PFC.h ?_
   refine LtK.put rfl rfl rfl (Zy rfl) ?_
   refine LtK.nil ?_
   refine Z6 (by kernel_rfl) ?_
   refine Zb hK374 ?_
   refine Zk ?_
   refine Zj ?_
   refine Z5 ?_
   refine Zl rfl (RV.cell rfl (Zx Yh hS hs15 Z8) (RV.tmp rfl RV.nil)) rfl ?_
   obtain rfl := QJ H
   have hS := hS.nilRds
   replace hS := hS.front 2 rfl
   replace hS := hS.absorbQ ⟨r375, A377, c378⟩
   replace hS := hS.front 1 rfl
   replace hS := hS.weak Weak.boxRd
   have hS := hS.front 6 rfl
   have hS := hS.front 6 rfl
   have hS := hS.front 6 rfl
   have hS := hS.front 6 rfl
   have hS := hS.front 6 rfl
   replace hS := hS.weak Weak.rowRd
   replace hS := hS.cut 7
   exact ⟨A348, c349, A352, c353, A356, c357, A360, c361, A364, c365, (some ⟨b381, 0, none⟩), 1, ([⟨r375, A377, c378⟩] : List Mq), rfl, k350, k354, k358, k362, k366, ⟨Nat.le_refl 1, by decide⟩, rfl, (Vh k379 Vf), hS⟩
 replace H := Zq H hb
 refine Zc 1 rfl ?_
 refine Za rfl rfl rfl (Ze fo_36_6 rfl) ?_
 refine Za rfl rfl rfl (Zh Z0 rfl (Zgy _) hS hs7 trivial sg6_1) ?_
 refine Za rfl rfl rfl (Y5 rfl rfl) ?_
 refine Zc 1 rfl ?_
 refine Zg ?_
 refine Zb hK121 ?_
 refine Zz rfl (fun hb => ?_) (fun hb => ?_)
 ·replace H := Zq H hb
  refine Zd (fun K hK122 => ?_)
  refine Zf ?_
  refine Za rfl rfl rfl (Ze Vx rfl) ?_
  refine Za rfl rfl rfl (Zh Z0 rfl (Zgy _) hS hs7 trivial Js) ?_
  refine Za rfl rfl rfl (J0 rfl rfl) ?_
  refine Za rfl rfl rfl (Zfp rfl rfl) ?_
  refine Zc 1 rfl ?_
  refine Zg ?_
  refine Zb hK122 ?_
  refine Vi ?_
  refine Xb ?_
  refine Vz ?_
  refine Zd (fun K hK123 => ?_)
  refine Zt ?_
  refine Zb hK123 ?_
  refine Zd (fun K hK124 => ?_)
  refine Yg 8 [6] (fun i b => (i = 6 → b ≠ b6)) ⟨by kernel_rfl, by kernel_rfl⟩ hS (fun w hS hB => ?_)
  refine Zn [true] (by decide +kernel) PFC.h ?_
  refine LtK.put rfl rfl rfl (Zi Yh rfl (Zgz _) hS hs8 trivial Z8) ?_
  refine LtK.nil ?_
  refine Y2 [false, true, true, true] [6] (fun b => b ≠ b6) (by decide +kernel) (by intro j hj b hb; simp only [List.mem_cons, List.not_mem_nil, or_false] at hj; (try rcases hj with rfl | rfl | rfl | rfl | rfl) <;> first | (simp [hb]; done) | simp_all) PFC.h ?_
  refine LtK.put rfl rfl rfl (Zi Yh rfl (Zg0 _ _) hS hs8 (hS.ne 8 6 rfl rfl rfl) Z8) ?_
  refine LtK.put rfl rfl rfl (Zi Vp rfl (Zg0 _ _) hS hs7 (hS.ne 7 6 rfl rfl rfl) Xv) ?_
  refine LtK.put rfl rfl rfl (Zs rfl) ?_
  refine LtK.nil ?_
  refine Z4 [false, false, false, false, true] 4 ⟨by decide, by kernel_rfl, by kernel_rfl⟩ rfl rfl ?_
  try dsimp only [Zw]
  obtain ⟨r125, hm126, H⟩ := bind_some H
  refine Zo rfl rfl rfl rfl (by kernel_rfl) rfl (Jq (⟨r64.id, r64.n, 0, r64.binary, r64.tuple, r64.commit, r64.applied, r64.votes, r64.next, r64.mtch, r64.caps⟩ : Co) x1 4 false (max (IntKind.wrap .i64 (x1.last - 1)) 0) A66 c67 A70 c71 A74 c75 A78 c79 A82 c83 A5_ c5_ _ (Zg1 k68 (hS.rd hs0) (hS.rd_blk hs0)) (Zg1 k72 (hS.row_rd Xr) (hS.row_blk Xr)) (Zg1 k76 (hS.row_rd X0) (hS.row_blk X0)) (Zg1 k80 (hS.row_rd hs3) (hS.row_blk hs3)) (Zg1 k84 (hS.row_rd hs4) (hS.row_blk hs4)) (Zg1 s5_.k (hS.rd0 s5_.rd) (hS.blk0 s5_.blk)) hm126) ?_
  rintro e w ⟨A127, c128, rfl, k129, hN⟩; refine ⟨_, rfl, ?_⟩; obtain ⟨hB, hS⟩ := hS.jn hN
  refine Zg ?_
  refine Z7 hB ?_
  refine Zax [5, 6] ⟨by decide, by kernel_rfl⟩ rfl (.call [false, false, false, false, false, true] 5 rfl rfl rfl ?_ (.put [false, false, false, false, false, false, true] 6 rfl rfl rfl ?_ .nil))
  ·try dsimp only [Zw]
   refine Yx (ps := [(0, .tmp 146)]) [.int .u8 r125.kind, .int .i64 r125.frm, .int .i64 r125.dst, .int .i64 r125.term, .int .i64 r125.cap, .int .i64 r125.last, .int .i64 r125.lastTerm, .int .i64 r125.commit, .bool r125.okk, .slice A127 r125.entries.length c128, .int .i64 r125.snap.index, .int .i64 r125.snap.term, .int .i64 r125.snap.sum, .int .i64 r125.snap.level, .bool r125.snap.final] Je J9 rfl rfl rfl rfl rfl (by kernel_rfl) hS (fun b131 w hS hB => ?_)
   refine Zg ?_
   refine Z7 hB ?_
   refine Yp [false, false, false, false, false, false, true] 6 ⟨by decide, by kernel_rfl, by kernel_rfl⟩ rfl rfl ?_
   try dsimp only [Zw]
   refine Zm rfl rfl rfl CellsOf.agg hS ps8 Yy (by kernel_rfl) rfl (fun w hS hB => ?_)
   refine Zg ?_
   refine Ye (hB.sub (fun _ _ h => by simpa using h)) ?_
   refine Zn [false, false, false, false, false, false, false, true] (by decide +kernel) PFC.h ?_
   refine LtK.put rfl rfl rfl (Zy rfl) ?_
   refine LtK.nil ?_
   refine Z6 (by kernel_rfl) ?_
   refine Zb hK124 ?_
   refine Zk ?_
   refine Z5 ?_
   refine Zl rfl (RV.cell rfl (Zx Yh hS hs8 Z8) (RV.tmp rfl RV.nil)) rfl ?_
   obtain rfl := QJ H
   have hS := hS.nilRds
   replace hS := hS.front 2 rfl
   replace hS := hS.absorbQ ⟨r125, A127, c128⟩
   replace hS := hS.front 1 rfl
   replace hS := hS.weak Weak.boxRd
   have hS := hS.front 6 rfl
   have hS := hS.front 6 rfl
   have hS := hS.front 6 rfl
   have hS := hS.front 6 rfl
   have hS := hS.front 6 rfl
   replace hS := hS.cut 7
   exact ⟨A66, c67, A70, c71, A74, c75, A78, c79, A82, c83, (some ⟨b131, 0, none⟩), 1, ([⟨r125, A127, c128⟩] : List Mq), rfl, k68, k72, k76, k80, k84, ⟨Nat.le_refl 1, by decide⟩, rfl, (Vh k129 Vf), hS⟩
  ·try dsimp only [Zw]
   refine Zm rfl rfl rfl CellsOf.agg hS ps7 Yy (by kernel_rfl) rfl (fun w hS hB => ?_)
   refine Zg ?_
   refine Ye (hB.sub (fun _ _ h => by simpa using h)) ?_
   refine Z4 [false, false, false, false, false, true] 5 ⟨by decide, by kernel_rfl, by kernel_rfl⟩ rfl rfl ?_
   try dsimp only [Zw]
   refine Yx (ps := [(0, .tmp 146)]) [.int .u8 r125.kind, .int .i64 r125.frm, .int .i64 r125.dst, .int .i64 r125.term, .int .i64 r125.cap, .int .i64 r125.last, .int .i64 r125.lastTerm, .int .i64 r125.commit, .bool r125.okk, .slice A127 r125.entries.length c128, .int .i64 r125.snap.index, .int .i64 r125.snap.term, .int .i64 r125.snap.sum, .int .i64 r125.snap.level, .bool r125.snap.final] Je J9 rfl rfl rfl rfl rfl (by kernel_rfl) hS (fun b131 w hS hB => ?_)
   refine Zg ?_
   refine Z7 hB ?_
   refine Zn [false, false, false, false, false, false, false, true] (by decide +kernel) PFC.h ?_
   refine LtK.put rfl rfl rfl (Zy rfl) ?_
   refine LtK.nil ?_
   refine Z6 (by kernel_rfl) ?_
   refine Zb hK124 ?_
   refine Zk ?_
   refine Z5 ?_
   refine Zl rfl (RV.cell rfl (Zx Yh hS hs8 Z8) (RV.tmp rfl RV.nil)) rfl ?_
   obtain rfl := QJ H
   have hS := hS.nilRds
   replace hS := hS.front 2 rfl
   replace hS := hS.absorbQ ⟨r125, A127, c128⟩
   replace hS := hS.front 1 rfl
   replace hS := hS.weak Weak.boxRd
   have hS := hS.front 6 rfl
   have hS := hS.front 6 rfl
   have hS := hS.front 6 rfl
   have hS := hS.front 6 rfl
   have hS := hS.front 6 rfl
   replace hS := hS.cut 7
   exact ⟨A66, c67, A70, c71, A74, c75, A78, c79, A82, c83, (some ⟨b131, 0, none⟩), 1, ([⟨r125, A127, c128⟩] : List Mq), rfl, k68, k72, k76, k80, k84, ⟨Nat.le_refl 1, by decide⟩, rfl, (Vh k129 Vf), hS⟩
 replace H := Zp H hb
 refine Zt ?_
 refine Zb hK120 ?_
 refine Zd (fun K hK133 => ?_)
 refine Yg 7 [6] (fun i b => (i = 6 → b ≠ b9)) ⟨by kernel_rfl, by kernel_rfl⟩ hS (fun w hS hB => ?_)
 refine Zn [true, true, false, true, true] (by decide +kernel) PFC.h ?_
 refine LtK.put rfl rfl rfl (Zi Yh rfl (Zgz _) hS hs8 trivial Z8) ?_
 refine LtK.put rfl rfl rfl (Zi Vp rfl (Zgz _) hS hs7 trivial Xv) ?_
 refine LtK.put rfl rfl rfl (Ze Yz rfl) ?_
 refine LtK.put rfl rfl rfl (Zi Yr rfl (Zgz _) hS hs8 trivial Jw) ?_
 refine LtK.nil ?_
 refine Z4 [false, false, true] 2 ⟨by decide, by kernel_rfl, by kernel_rfl⟩ rfl rfl ?_
 try dsimp only [Zw]
 obtain ⟨r134, hm135, H⟩ := bind_some H
 refine Zo rfl rfl rfl rfl (by kernel_rfl) rfl (c_repl_other (⟨r64.id, r64.n, 0, r64.binary, r64.tuple, r64.commit, r64.applied, r64.votes, r64.next, r64.mtch, r64.caps⟩ : Co) x1 A66 c67 A70 c71 A74 c75 A78 c79 A82 c83 A5_ c5_ _ (Zg1 k68 (hS.rd hs0) (hS.rd_blk hs0)) (Zg1 k72 (hS.row_rd Xr) (hS.row_blk Xr)) (Zg1 k76 (hS.row_rd X0) (hS.row_blk X0)) (Zg1 k80 (hS.row_rd hs3) (hS.row_blk hs3)) (Zg1 k84 (hS.row_rd hs4) (hS.row_blk hs4)) (Zg1 s5_.k (hS.rd0 s5_.rd) (hS.blk0 s5_.blk)) hm135) ?_
 rintro e w ⟨rfl, hN⟩; refine ⟨_, rfl, ?_⟩; obtain ⟨hB, hS⟩ := hS.jn hN
 refine Zg ?_
 refine Z7 hB ?_
 refine Zn [false, false, false, false, false, true] (by decide +kernel) PFC.h ?_
 refine LtK.put rfl rfl rfl (Zy rfl) ?_
 refine LtK.nil ?_
 refine Yp [false, false, false, false, false, false, true] 6 ⟨by decide, by kernel_rfl, by kernel_rfl⟩ rfl rfl ?_
 try dsimp only [Zw]
 refine Zm rfl rfl rfl CellsOf.agg hS ps5 Zb0 (by kernel_rfl) rfl (fun w hS hB => ?_)
 refine Zg ?_
 refine Ye (hB.sub (fun _ _ h => by simpa using h)) ?_
 refine Z6 (by kernel_rfl) ?_
 refine Zb hK133 ?_
 refine Zd (fun K hK136 => ?_)
 refine Zd (fun K hK137 => ?_)
 refine Zf ?_
 refine Za rfl rfl rfl (Ze Vx rfl) ?_
 refine Za rfl rfl rfl (Zh Z0 rfl (Zgy _) hS hs7 trivial Js) ?_
 refine Za rfl rfl rfl (Xf rfl rfl) ?_
 refine Zc 1 rfl ?_
 refine Za rfl rfl rfl (Xf rfl rfl) ?_
 refine Zc 1 rfl ?_
 refine Zg ?_
 refine Zb hK137 ?_
 refine Zd (fun K hK138 => ?_)
 refine Zf ?_
 refine Zc 1 rfl ?_
 refine Za rfl rfl rfl (Ze Vc rfl) ?_
 refine Za rfl rfl rfl (Zh Xp rfl (Zgy _) hS hs7 trivial Zak) ?_
 refine Za rfl rfl rfl (Yu Y6 rfl) ?_
 refine Za rfl rfl rfl (Xh rfl rfl) ?_
 refine Zg ?_
 refine Zb hK138 ?_
 refine Zz rfl (fun hb => ?_) (fun hb => ?_)
 rotate_left
 ·replace H := Zp H hb
  refine Zt ?_
  refine Zb hK136 ?_
  refine Zd (fun K hK268 => ?_)
  refine Zf ?_
  refine Za rfl rfl rfl (Zi Yr rfl (Zgy _) hS hs5 trivial Vl) ?_
  refine Za rfl rfl rfl (Ze Yz rfl) ?_
  refine Zm rfl rfl rfl CellsOf.agg hS ps8 st4_8 (by kernel_rfl) rfl (fun w hS hB => ?_)
  refine Zg ?_
  refine Zb hK268 ?_
  refine Zd (fun K hK269 => ?_)
  refine Zf ?_
  refine Za rfl rfl rfl (Zi Yh rfl (Zgy _) hS hs8 trivial Z8) ?_
  obtain ⟨r270, hm271, H⟩ := bind_some H
  refine Zo rfl rfl rfl rfl (by kernel_rfl) rfl (Zbr (⟨r64.id, r64.n, 0, r64.binary, r64.tuple, r64.commit, r64.applied, r64.votes, r64.next, r64.mtch, r64.caps⟩ : Co) A66 c67 A70 c71 A74 c75 A78 c79 A82 c83 _ (Zg1 k68 (hS.rd hs0) (hS.rd_blk hs0)) (Zg1 k72 (hS.row_rd Xr) (hS.row_blk Xr)) (Zg1 k76 (hS.row_rd X0) (hS.row_blk X0)) (Zg1 k80 (hS.row_rd hs3) (hS.row_blk hs3)) (Zg1 k84 (hS.row_rd hs4) (hS.row_blk hs4)) hm271) ?_
  rintro e w ⟨A272, c273, A276, c277, A280, c281, A284, c285, A288, c289, rfl, k274, k278, k282, k286, k290, hN⟩; refine ⟨_, rfl, ?_⟩; obtain ⟨hB, hS⟩ := hS.jn hN
  refine Zm rfl rfl rfl CellsOf.agg hS ps13 Yy (by kernel_rfl) rfl (fun w hS hB => ?_)
  refine Zg ?_
  refine Zb hK269 ?_
  refine Zd (fun K hK292 => ?_)
  refine Zf ?_
  refine Za rfl rfl rfl (Ze Vx rfl) ?_
  refine Za rfl rfl rfl (Zh Z0 rfl (Zgy _) hS hs12 trivial Js) ?_
  refine Za rfl rfl rfl (Ze Vc rfl) ?_
  refine Za rfl rfl rfl (Zh Xp rfl (Zgy _) hS hs12 trivial Zak) ?_
  refine Za rfl rfl rfl (Yu Y6 rfl) ?_
  refine Za rfl rfl rfl (Xf rfl rfl) ?_
  refine Zc 1 rfl ?_
  refine Zg ?_
  refine Zb hK292 ?_
  refine Zd (fun K hK293 => ?_)
  refine Zf ?_
  refine Za rfl rfl rfl (Ze V5 rfl) ?_
  refine Za rfl rfl rfl (Zh Z0 rfl (Zgy _) hS Zfw trivial Zbe) ?_
  refine Za rfl rfl rfl (Ze Zdn rfl) ?_
  refine Za rfl rfl rfl (Zh Z0 rfl (Zgy _) hS hs12 trivial Zfd) ?_
  refine Zc 1 rfl ?_
  refine Za rfl rfl rfl (Zer rfl rfl) ?_
  refine Za rfl rfl rfl (Zfp rfl rfl) ?_
  refine Za rfl rfl rfl (Ze V5 rfl) ?_
  refine Zm rfl rfl rfl CellsOf.int hS ps13 st12_1 (by kernel_rfl) rfl (fun w hS hB => ?_)
  refine Zg ?_
  refine Zb hK293 ?_
  refine Zd (fun K hK294 => ?_)
  refine Zf ?_
  refine Za rfl rfl rfl (Ze Yz rfl) ?_
  refine Za rfl rfl rfl (Zi Yr rfl (Zgy _) hS Zfw trivial Jw) ?_
  refine Za rfl rfl rfl (Ze V5 rfl) ?_
  refine Za rfl rfl rfl (Zh Z0 rfl (Zgy _) hS Zfw trivial Zbe) ?_
  obtain ⟨r295, hm296, H⟩ := bind_some H
  refine Zo rfl rfl rfl rfl (by kernel_rfl) rfl (Za5 r270.tuple (max r270.commit (min x1.commit (IntKind.wrap .i64 (x1.last + (x1.entries.length : Int))))) A272 c273 _ (Zg1 k274 (hS.row_rd hs0) (hS.row_blk hs0)) hm296) ?_
  rintro e w ⟨rfl, hN⟩; refine ⟨_, rfl, ?_⟩; obtain ⟨hB, hS⟩ := hS.jn hN
  refine Zc 1 rfl ?_
  refine Za rfl rfl rfl (Z1 rfl rfl) ?_
  refine Za rfl rfl rfl (Z1 rfl rfl) ?_
  refine Za rfl rfl rfl (Ze Zef rfl) ?_
  refine Zm rfl rfl rfl CellsOf.agg hS ps13 st13_5 (by kernel_rfl) rfl (fun w hS hB => ?_)
  refine Zg ?_
  refine Zb hK294 ?_
  refine Zd (fun K hK297 => ?_)
  refine Zd (fun K hK298 => ?_)
  refine Yg 8 [6] (fun i b => (i = 6 → b ≠ b6)) ⟨by kernel_rfl, by kernel_rfl⟩ hS (fun w hS hB => ?_)
  refine Zn [true] (by decide +kernel) PFC.h ?_
  refine LtK.put rfl rfl rfl (Zi Yh rfl (Zgz _) hS Zfw trivial Z8) ?_
  refine LtK.nil ?_
  refine Y2 [false, true, true, true] [6] (fun b => b ≠ b6) (by decide +kernel) (by intro j hj b hb; simp only [List.mem_cons, List.not_mem_nil, or_false] at hj; (try rcases hj with rfl | rfl | rfl | rfl | rfl) <;> first | (simp [hb]; done) | simp_all) PFC.h ?_
  refine LtK.put rfl rfl rfl (Zi Yh rfl (Zg0 _ _) hS Zfw (hS.ne 13 11 rfl rfl rfl) Z8) ?_
  refine LtK.put rfl rfl rfl (Zi Vp rfl (Zg0 _ _) hS hs12 (hS.ne 12 11 rfl rfl rfl) Xv) ?_
  refine LtK.put rfl rfl rfl (Zs rfl) ?_
  refine LtK.nil ?_
  refine Z4 [false, false, false, false, true] 4 ⟨by decide, by kernel_rfl, by kernel_rfl⟩ rfl rfl ?_
  try dsimp only [Zw]
  obtain ⟨r299, hm300, H⟩ := bind_some H
  refine Zo rfl rfl rfl rfl (by kernel_rfl) rfl (Jq (⟨r270.id, r270.n, r270.role, r270.binary, r270.tuple, (max r270.commit (min x1.commit (IntKind.wrap .i64 (x1.last + (x1.entries.length : Int))))), r295.1, r270.votes, r270.next, r270.mtch, r270.caps⟩ : Co) x1 4 true (IntKind.wrap .i64 (x1.last + (x1.entries.length : Int))) A272 c273 A276 c277 A280 c281 A284 c285 A288 c289 A5_ c5_ _ (Zg1 k274 (hS.row_rd hs0) (hS.row_blk hs0)) (Zg1 k278 (hS.row_rd Xr) (hS.row_blk Xr)) (Zg1 k282 (hS.row_rd X0) (hS.row_blk X0)) (Zg1 k286 (hS.row_rd hs3) (hS.row_blk hs3)) (Zg1 k290 (hS.row_rd hs4) (hS.row_blk hs4)) (Zg1 s5_.k (hS.rd0 s5_.rd) (hS.blk0 s5_.blk)) hm300) ?_
  rintro e w ⟨A301, c302, rfl, k303, hN⟩; refine ⟨_, rfl, ?_⟩; obtain ⟨hB, hS⟩ := hS.jn hN
  refine Zg ?_
  refine Z7 hB ?_
  refine Zax [5, 6] ⟨by decide, by kernel_rfl⟩ rfl (.call [false, false, false, false, false, true] 5 rfl rfl rfl ?_ (.put [false, false, false, false, false, false, true] 6 rfl rfl rfl ?_ .nil))
  ·try dsimp only [Zw]
   refine Yx (ps := [(0, .tmp 140)]) [.int .u8 r299.kind, .int .i64 r299.frm, .int .i64 r299.dst, .int .i64 r299.term, .int .i64 r299.cap, .int .i64 r299.last, .int .i64 r299.lastTerm, .int .i64 r299.commit, .bool r299.okk, .slice A301 r299.entries.length c302, .int .i64 r299.snap.index, .int .i64 r299.snap.term, .int .i64 r299.snap.sum, .int .i64 r299.snap.level, .bool r299.snap.final] Je J9 rfl rfl rfl rfl rfl (by kernel_rfl) hS (fun b305 w hS hB => ?_)
   refine Zg ?_
   refine Z7 hB ?_
   refine Yp [false, false, false, false, false, false, true] 6 ⟨by decide, by kernel_rfl, by kernel_rfl⟩ rfl rfl ?_
   try dsimp only [Zw]
   refine Zm rfl rfl rfl CellsOf.agg hS ps13 Yy (by kernel_rfl) rfl (fun w hS hB => ?_)
   refine Zg ?_
   refine Ye (hB.sub (fun _ _ h => by simpa using h)) ?_
   refine Zn [false, false, false, false, false, false, false, true] (by decide +kernel) PFC.h ?_
   refine LtK.put rfl rfl rfl (Zy rfl) ?_
   refine LtK.nil ?_
   refine Z6 (by kernel_rfl) ?_
   refine Zb hK298 ?_
   refine Zk ?_
   refine Zj ?_
   refine Z5 ?_
   refine Zl rfl (RV.cell rfl (Zx Yh hS Zfw Z8) (RV.tmp rfl RV.nil)) rfl ?_
   obtain rfl := QJ H
   have hS := hS.nilRds
   replace hS := hS.front 2 rfl
   replace hS := hS.absorbQ ⟨r299, A301, c302⟩
   replace hS := hS.front 1 rfl
   replace hS := hS.weak Weak.boxRd
   have hS := hS.front 6 rfl
   have hS := hS.front 6 rfl
   have hS := hS.front 6 rfl
   have hS := hS.front 6 rfl
   have hS := hS.front 6 rfl
   replace hS := hS.weak Weak.rowRd
   replace hS := hS.cut 7
   exact ⟨A272, c273, A276, c277, A280, c281, A284, c285, A288, c289, (some ⟨b305, 0, none⟩), 1, ([⟨r299, A301, c302⟩] : List Mq), rfl, k274, k278, k282, k286, k290, ⟨Nat.le_refl 1, by decide⟩, rfl, (Vh k303 Vf), hS⟩
  ·try dsimp only [Zw]
   refine Zm rfl rfl rfl CellsOf.agg hS ps12 Yy (by kernel_rfl) rfl (fun w hS hB => ?_)
   refine Zg ?_
   refine Ye (hB.sub (fun _ _ h => by simpa using h)) ?_
   refine Z4 [false, false, false, false, false, true] 5 ⟨by decide, by kernel_rfl, by kernel_rfl⟩ rfl rfl ?_
   try dsimp only [Zw]
   refine Yx (ps := [(0, .tmp 140)]) [.int .u8 r299.kind, .int .i64 r299.frm, .int .i64 r299.dst, .int .i64 r299.term, .int .i64 r299.cap, .int .i64 r299.last, .int .i64 r299.lastTerm, .int .i64 r299.commit, .bool r299.okk, .slice A301 r299.entries.length c302, .int .i64 r299.snap.index, .int .i64 r299.snap.term, .int .i64 r299.snap.sum, .int .i64 r299.snap.level, .bool r299.snap.final] Je J9 rfl rfl rfl rfl rfl (by kernel_rfl) hS (fun b305 w hS hB => ?_)
   refine Zg ?_
   refine Z7 hB ?_
   refine Zn [false, false, false, false, false, false, false, true] (by decide +kernel) PFC.h ?_
   refine LtK.put rfl rfl rfl (Zy rfl) ?_
   refine LtK.nil ?_
   refine Z6 (by kernel_rfl) ?_
   refine Zb hK298 ?_
   refine Zk ?_
   refine Zj ?_
   refine Z5 ?_
   refine Zl rfl (RV.cell rfl (Zx Yh hS Zfw Z8) (RV.tmp rfl RV.nil)) rfl ?_
   obtain rfl := QJ H
   have hS := hS.nilRds
   replace hS := hS.front 2 rfl
   replace hS := hS.absorbQ ⟨r299, A301, c302⟩
   replace hS := hS.front 1 rfl
   replace hS := hS.weak Weak.boxRd
   have hS := hS.front 6 rfl
   have hS := hS.front 6 rfl
   have hS := hS.front 6 rfl
   have hS := hS.front 6 rfl
   have hS := hS.front 6 rfl
   replace hS := hS.weak Weak.rowRd
   replace hS := hS.cut 7
   exact ⟨A272, c273, A276, c277, A280, c281, A284, c285, A288, c289, (some ⟨b305, 0, none⟩), 1, ([⟨r299, A301, c302⟩] : List Mq), rfl, k274, k278, k282, k286, k290, ⟨Nat.le_refl 1, by decide⟩, rfl, (Vh k303 Vf), hS⟩
 replace H := Zq H hb
 refine Zd (fun K hK139 => ?_)
 refine Zd (fun K hK140 => ?_)
 refine Zf ?_
 refine Zc 1 rfl ?_
 refine Za rfl rfl rfl (Ze V5 rfl) ?_
 refine Za rfl rfl rfl (Zh Z0 rfl (Zgy _) hS hs8 trivial Zbe) ?_
 refine Za rfl rfl rfl (Zah rfl rfl) ?_
 refine Zg ?_
 refine Zb hK140 ?_
 refine Zz rfl (fun hb => ?_) (fun hb => ?_)
 ·replace H := Zq H hb
  refine Zd (fun K hK141 => ?_)
  refine Zf ?_
  refine Za rfl rfl rfl (Zi Yh rfl (Zgy _) hS hs8 trivial Z8) ?_
  refine Zm rfl rfl rfl CellsOf.agg hS ps6 Yy (by kernel_rfl) rfl (fun w hS hB => ?_)
  refine Zc 1 rfl ?_
  refine Zg ?_
  refine Zb hK141 ?_
  refine Zk ?_
  refine Zj ?_
  refine Zj ?_
  refine Z5 ?_
  refine Zl rfl (RV.cell rfl (Zx Yh hS hs6 Z8) (RV.tmp rfl RV.nil)) rfl ?_
  obtain rfl := QJ H
  have hS := hS.nilRds
  replace hS := hS.nilRd
  have hS := hS.front 6 rfl
  have hS := hS.front 6 rfl
  have hS := hS.front 6 rfl
  have hS := hS.front 6 rfl
  have hS := hS.front 6 rfl
  replace hS := hS.cut 7
  exact ⟨A66, c67, A70, c71, A74, c75, A78, c79, A82, c83, none, 0, ([] : List Mq), rfl, k68, k72, k76, k80, k84, ⟨Nat.le_refl _, Nat.zero_le _⟩, rfl, Vf, hS⟩
 replace H := Zp H hb
 refine Zt ?_
 refine Zb hK139 ?_
 refine Zd (fun K hK142 => ?_)
 refine Zd (fun K hK143 => ?_)
 refine Zf ?_
 refine Zc 2 rfl ?_
 refine Za rfl rfl rfl (Zah rfl rfl) ?_
 refine Zg ?_
 refine Zb hK143 ?_
 refine Zz rfl (fun hb => ?_) (fun hb => ?_)
 rotate_left
 ·replace H := Zp H hb
  refine Zt ?_
  refine Zb hK142 ?_
  refine Zd (fun K hK209 => ?_)
  refine Yg 11 [9] (fun i b => (i = 9 → b ≠ b9)) ⟨by kernel_rfl, by kernel_rfl⟩ hS (fun w hS hB => ?_)
  refine Zn [true, true, true, true, true] (by decide +kernel) PFC.h ?_
  refine LtK.put rfl rfl rfl (Zi Yr rfl (Zgz _) hS hs5 trivial Vl) ?_
  refine LtK.put rfl rfl rfl (Ze Vc rfl) ?_
  refine LtK.put rfl rfl rfl (Zh Xp rfl (Zgz _) hS hs7 trivial Zak) ?_
  refine LtK.put rfl rfl rfl (Zs rfl) ?_
  obtain ⟨l210, hd211, H⟩ := bind_some H
  refine LtK.put rfl rfl rfl (yx_slice_l Y6 rfl rfl hd211) ?_
  refine LtK.nil ?_
  refine Z4 [false, false, false, false, false, true] 5 ⟨by decide, by kernel_rfl, by kernel_rfl⟩ rfl rfl ?_
  try dsimp only [Zw]
  obtain ⟨r212, hm213, H⟩ := bind_some H
  refine Zo rfl rfl rfl rfl (by kernel_rfl) rfl (Zdo r64.tuple l210 A66 c67 (cutA A5_ c5_ (Int.toNat r134) 3) (c5_ - Int.toNat r134) _ (Zg1 k68 (hS.rd hs0) (hS.rd_blk hs0)) (Zg1 (k_drop s5_.k hd211) (Rd.dropI X5 (hS.rd0 s5_.rd) s5_.k.1 hd211) (cutA_blk (hS.blk0 s5_.blk))) hm213) ?_
  rintro e w ⟨A214, c215, rfl, k216, hN⟩; refine ⟨_, rfl, ?_⟩; obtain ⟨hB, hS⟩ := hS.jn hN
  refine Zg ?_
  refine Z7 hB ?_
  refine Zn [false, false, false, false, false, false, true, true] (by decide +kernel) PFC.h ?_
  refine LtK.put rfl rfl rfl (Zs rfl) ?_
  refine LtK.put rfl rfl rfl (Z1 rfl rfl) ?_
  refine LtK.nil ?_
  refine Y2 [false, false, false, false, false, false, false, false, true] [9] (fun b => b ≠ b9) (by decide +kernel) (by intro j hj b hb; simp only [List.mem_cons, List.not_mem_nil, or_false] at hj; (try rcases hj with rfl | rfl | rfl | rfl | rfl) <;> first | (simp [hb]; done) | simp_all) PFC.h ?_
  refine LtK.put rfl rfl rfl (Z1 rfl rfl) ?_
  refine LtK.nil ?_
  refine Yp [false, false, false, false, false, false, false, false, false, true] 9 ⟨by decide, by kernel_rfl, by kernel_rfl⟩ rfl rfl ?_
  try dsimp only [Zw]
  refine Zm rfl rfl rfl CellsOf.agg hS ps6 Zb0 (by kernel_rfl) rfl (fun w hS hB => ?_)
  refine Zg ?_
  refine Ye (hB.sub (fun _ _ h => by simpa using h)) ?_
  refine Zn [false, false, false, false, false, false, false, false, false, false, true] (by decide +kernel) PFC.h ?_
  refine LtK.put rfl rfl rfl (Zy rfl) ?_
  refine LtK.nil ?_
  refine Z6 (by kernel_rfl) ?_
  refine Zb hK209 ?_
  refine Zd (fun K hK218 => ?_)
  refine Zf ?_
  refine Zc 1 rfl ?_
  refine Za rfl rfl rfl (Y5 rfl rfl) ?_
  refine Zg ?_
  refine Zb hK218 ?_
  refine Zz rfl (fun hb => ?_) (fun hb => ?_)
  ·replace H := Zq H hb
   refine Vi ?_
   refine Xb ?_
   refine Vz ?_
   refine Zd (fun K hK219 => ?_)
   refine Zt ?_
   refine Zb hK219 ?_
   refine Zd (fun K hK220 => ?_)
   refine Yg 8 [6] (fun i b => (i = 6 → b ≠ b6)) ⟨by kernel_rfl, by kernel_rfl⟩ hS (fun w hS hB => ?_)
   refine Zn [true] (by decide +kernel) PFC.h ?_
   refine LtK.put rfl rfl rfl (Zi Yh rfl (Zgz _) hS hs9 trivial Z8) ?_
   refine LtK.nil ?_
   refine Y2 [false, true, true, true] [6] (fun b => b ≠ b6) (by decide +kernel) (by intro j hj b hb; simp only [List.mem_cons, List.not_mem_nil, or_false] at hj; (try rcases hj with rfl | rfl | rfl | rfl | rfl) <;> first | (simp [hb]; done) | simp_all) PFC.h ?_
   refine LtK.put rfl rfl rfl (Zi Yh rfl (Zg0 _ _) hS hs9 (hS.ne 9 7 rfl rfl rfl) Z8) ?_
   refine LtK.put rfl rfl rfl (Zi Vp rfl (Zg0 _ _) hS hs8 (hS.ne 8 7 rfl rfl rfl) Xv) ?_
   refine LtK.put rfl rfl rfl (Zs rfl) ?_
   refine LtK.nil ?_
   refine Z4 [false, false, false, false, true] 4 ⟨by decide, by kernel_rfl, by kernel_rfl⟩ rfl rfl ?_
   try dsimp only [Zw]
   obtain ⟨r221, hm222, H⟩ := bind_some H
   refine Zo rfl rfl rfl rfl (by kernel_rfl) rfl (Jq (⟨r64.id, r64.n, 0, r64.binary, r64.tuple, r64.commit, r64.applied, r64.votes, r64.next, r64.mtch, r64.caps⟩ : Co) x1 4 false r87 A66 c67 A70 c71 A74 c75 A78 c79 A82 c83 A5_ c5_ _ (Zg1 k68 (hS.rd Xr) (hS.rd_blk Xr)) (Zg1 k72 (hS.row_rd X0) (hS.row_blk X0)) (Zg1 k76 (hS.row_rd hs3) (hS.row_blk hs3)) (Zg1 k80 (hS.row_rd hs4) (hS.row_blk hs4)) (Zg1 k84 (hS.row_rd hs5) (hS.row_blk hs5)) (Zg1 s5_.k (hS.rd0 s5_.rd) (hS.blk0 s5_.blk)) hm222) ?_
   rintro e w ⟨A223, c224, rfl, k225, hN⟩; refine ⟨_, rfl, ?_⟩; obtain ⟨hB, hS⟩ := hS.jn hN
   refine Zg ?_
   refine Z7 hB ?_
   refine Zax [5, 6] ⟨by decide, by kernel_rfl⟩ rfl (.call [false, false, false, false, false, true] 5 rfl rfl rfl ?_ (.put [false, false, false, false, false, false, true] 6 rfl rfl rfl ?_ .nil))
   ·try dsimp only [Zw]
    refine Yx (ps := [(0, .tmp 146)]) [.int .u8 r221.kind, .int .i64 r221.frm, .int .i64 r221.dst, .int .i64 r221.term, .int .i64 r221.cap, .int .i64 r221.last, .int .i64 r221.lastTerm, .int .i64 r221.commit, .bool r221.okk, .slice A223 r221.entries.length c224, .int .i64 r221.snap.index, .int .i64 r221.snap.term, .int .i64 r221.snap.sum, .int .i64 r221.snap.level, .bool r221.snap.final] Je J9 rfl rfl rfl rfl rfl (by kernel_rfl) hS (fun b227 w hS hB => ?_)
    refine Zg ?_
    refine Z7 hB ?_
    refine Yp [false, false, false, false, false, false, true] 6 ⟨by decide, by kernel_rfl, by kernel_rfl⟩ rfl rfl ?_
    try dsimp only [Zw]
    refine Zm rfl rfl rfl CellsOf.agg hS ps9 Yy (by kernel_rfl) rfl (fun w hS hB => ?_)
    refine Zg ?_
    refine Ye (hB.sub (fun _ _ h => by simpa using h)) ?_
    refine Zn [false, false, false, false, false, false, false, true] (by decide +kernel) PFC.h ?_
    refine LtK.put rfl rfl rfl (Zy rfl) ?_
    refine LtK.nil ?_
    refine Z6 (by kernel_rfl) ?_
    refine Zb hK220 ?_
    refine Zk ?_
    refine Z5 ?_
    refine Zl rfl (RV.cell rfl (Zx Yh hS hs9 Z8) (RV.tmp rfl RV.nil)) rfl ?_
    obtain rfl := QJ H
    have hS := hS.nilRds
    replace hS := hS.front 2 rfl
    replace hS := hS.absorbQ ⟨r221, A223, c224⟩
    replace hS := hS.front 1 rfl
    replace hS := hS.weak Weak.boxRd
    have hS := hS.front 7 rfl
    have hS := hS.front 7 rfl
    have hS := hS.front 7 rfl
    have hS := hS.front 7 rfl
    have hS := hS.front 7 rfl
    replace hS := hS.cut 7
    exact ⟨A66, c67, A70, c71, A74, c75, A78, c79, A82, c83, (some ⟨b227, 0, none⟩), 1, ([⟨r221, A223, c224⟩] : List Mq), rfl, k68, k72, k76, k80, k84, ⟨Nat.le_refl 1, by decide⟩, rfl, (Vh k225 Vf), hS⟩
   ·try dsimp only [Zw]
    refine Zm rfl rfl rfl CellsOf.agg hS ps8 Yy (by kernel_rfl) rfl (fun w hS hB => ?_)
    refine Zg ?_
    refine Ye (hB.sub (fun _ _ h => by simpa using h)) ?_
    refine Z4 [false, false, false, false, false, true] 5 ⟨by decide, by kernel_rfl, by kernel_rfl⟩ rfl rfl ?_
    try dsimp only [Zw]
    refine Yx (ps := [(0, .tmp 146)]) [.int .u8 r221.kind, .int .i64 r221.frm, .int .i64 r221.dst, .int .i64 r221.term, .int .i64 r221.cap, .int .i64 r221.last, .int .i64 r221.lastTerm, .int .i64 r221.commit, .bool r221.okk, .slice A223 r221.entries.length c224, .int .i64 r221.snap.index, .int .i64 r221.snap.term, .int .i64 r221.snap.sum, .int .i64 r221.snap.level, .bool r221.snap.final] Je J9 rfl rfl rfl rfl rfl (by kernel_rfl) hS (fun b227 w hS hB => ?_)
    refine Zg ?_
    refine Z7 hB ?_
    refine Zn [false, false, false, false, false, false, false, true] (by decide +kernel) PFC.h ?_
    refine LtK.put rfl rfl rfl (Zy rfl) ?_
    refine LtK.nil ?_
    refine Z6 (by kernel_rfl) ?_
    refine Zb hK220 ?_
    refine Zk ?_
    refine Z5 ?_
    refine Zl rfl (RV.cell rfl (Zx Yh hS hs9 Z8) (RV.tmp rfl RV.nil)) rfl ?_
    obtain rfl := QJ H
    have hS := hS.nilRds
    replace hS := hS.front 2 rfl
    replace hS := hS.absorbQ ⟨r221, A223, c224⟩
    replace hS := hS.front 1 rfl
    replace hS := hS.weak Weak.boxRd
    have hS := hS.front 7 rfl
    have hS := hS.front 7 rfl
    have hS := hS.front 7 rfl
    have hS := hS.front 7 rfl
    have hS := hS.front 7 rfl
    replace hS := hS.cut 7
    exact ⟨A66, c67, A70, c71, A74, c75, A78, c79, A82, c83, (some ⟨b227, 0, none⟩), 1, ([⟨r221, A223, c224⟩] : List Mq), rfl, k68, k72, k76, k80, k84, ⟨Nat.le_refl 1, by decide⟩, rfl, (Vh k225 Vf), hS⟩
  replace H := Zp H hb
  refine Zt ?_
  refine Zb hK136 ?_
  refine Zd (fun K hK229 => ?_)
  refine Zf ?_
  refine Za rfl rfl rfl (Zi Yr rfl (Zgy _) hS hs6 trivial Vl) ?_
  refine Za rfl rfl rfl (Ze Yz rfl) ?_
  refine Zm rfl rfl rfl CellsOf.agg hS ps9 st4_8 (by kernel_rfl) rfl (fun w hS hB => ?_)
  refine Zg ?_
  refine Zb hK229 ?_
  refine Zd (fun K hK230 => ?_)
  refine Zf ?_
  refine Za rfl rfl rfl (Zi Yh rfl (Zgy _) hS hs9 trivial Z8) ?_
  obtain ⟨r231, hm232, H⟩ := bind_some H
  refine Zo rfl rfl rfl rfl (by kernel_rfl) rfl (Zbr (⟨r64.id, r64.n, 0, r64.binary, r212.1, r64.commit, r64.applied, r64.votes, r64.next, r64.mtch, r64.caps⟩ : Co) A214 c215 A70 c71 A74 c75 A78 c79 A82 c83 _ (Zg1 k216 (hS.rd hs0) (hS.rd_blk hs0)) (Zg1 k72 (hS.row_rd X0) (hS.row_blk X0)) (Zg1 k76 (hS.row_rd hs3) (hS.row_blk hs3)) (Zg1 k80 (hS.row_rd hs4) (hS.row_blk hs4)) (Zg1 k84 (hS.row_rd hs5) (hS.row_blk hs5)) hm232) ?_
  rintro e w ⟨A233, c234, A237, c238, A241, c242, A245, c246, A249, c250, rfl, k235, k239, k243, k247, k251, hN⟩; refine ⟨_, rfl, ?_⟩; obtain ⟨hB, hS⟩ := hS.jn hN
  refine Zm rfl rfl rfl CellsOf.agg hS ps14 Yy (by kernel_rfl) rfl (fun w hS hB => ?_)
  refine Zg ?_
  refine Zb hK230 ?_
  refine Zd (fun K hK253 => ?_)
  refine Zf ?_
  refine Za rfl rfl rfl (Ze Vx rfl) ?_
  refine Za rfl rfl rfl (Zh Z0 rfl (Zgy _) hS Zfw trivial Js) ?_
  refine Za rfl rfl rfl (Ze Vc rfl) ?_
  refine Za rfl rfl rfl (Zh Xp rfl (Zgy _) hS Zfw trivial Zak) ?_
  refine Za rfl rfl rfl (Yu Y6 rfl) ?_
  refine Za rfl rfl rfl (Xf rfl rfl) ?_
  refine Zc 1 rfl ?_
  refine Zg ?_
  refine Zb hK253 ?_
  refine Zd (fun K hK254 => ?_)
  refine Zf ?_
  refine Za rfl rfl rfl (Ze V5 rfl) ?_
  refine Za rfl rfl rfl (Zh Z0 rfl (Zgy _) hS Zej trivial Zbe) ?_
  refine Za rfl rfl rfl (Ze Zdn rfl) ?_
  refine Za rfl rfl rfl (Zh Z0 rfl (Zgy _) hS Zfw trivial Zfd) ?_
  refine Zc 1 rfl ?_
  refine Za rfl rfl rfl (Zer rfl rfl) ?_
  refine Za rfl rfl rfl (Zfp rfl rfl) ?_
  refine Za rfl rfl rfl (Ze V5 rfl) ?_
  refine Zm rfl rfl rfl CellsOf.int hS ps14 st12_1 (by kernel_rfl) rfl (fun w hS hB => ?_)
  refine Zg ?_
  refine Zb hK254 ?_
  refine Zd (fun K hK255 => ?_)
  refine Zf ?_
  refine Za rfl rfl rfl (Ze Yz rfl) ?_
  refine Za rfl rfl rfl (Zi Yr rfl (Zgy _) hS Zej trivial Jw) ?_
  refine Za rfl rfl rfl (Ze V5 rfl) ?_
  refine Za rfl rfl rfl (Zh Z0 rfl (Zgy _) hS Zej trivial Zbe) ?_
  obtain ⟨r256, hm257, H⟩ := bind_some H
  refine Zo rfl rfl rfl rfl (by kernel_rfl) rfl (Za5 r231.tuple (max r231.commit (min x1.commit (IntKind.wrap .i64 (x1.last + (x1.entries.length : Int))))) A233 c234 _ (Zg1 k235 (hS.row_rd hs0) (hS.row_blk hs0)) hm257) ?_
  rintro e w ⟨rfl, hN⟩; refine ⟨_, rfl, ?_⟩; obtain ⟨hB, hS⟩ := hS.jn hN
  refine Zc 1 rfl ?_
  refine Za rfl rfl rfl (Z1 rfl rfl) ?_
  refine Za rfl rfl rfl (Z1 rfl rfl) ?_
  refine Za rfl rfl rfl (Ze Zef rfl) ?_
  refine Zm rfl rfl rfl CellsOf.agg hS ps14 st13_5 (by kernel_rfl) rfl (fun w hS hB => ?_)
  refine Zg ?_
  refine Zb hK255 ?_
  refine Zd (fun K hK258 => ?_)
  refine Zd (fun K hK259 => ?_)
  refine Yg 8 [6] (fun i b => (i = 6 → b ≠ b6)) ⟨by kernel_rfl, by kernel_rfl⟩ hS (fun w hS hB => ?_)
  refine Zn [true] (by decide +kernel) PFC.h ?_
  refine LtK.put rfl rfl rfl (Zi Yh rfl (Zgz _) hS Zej trivial Z8) ?_
  refine LtK.nil ?_
  refine Y2 [false, true, true, true] [6] (fun b => b ≠ b6) (by decide +kernel) (by intro j hj b hb; simp only [List.mem_cons, List.not_mem_nil, or_false] at hj; (try rcases hj with rfl | rfl | rfl | rfl | rfl) <;> first | (simp [hb]; done) | simp_all) PFC.h ?_
  refine LtK.put rfl rfl rfl (Zi Yh rfl (Zg0 _ _) hS Zej (hS.ne 14 12 rfl rfl rfl) Z8) ?_
  refine LtK.put rfl rfl rfl (Zi Vp rfl (Zg0 _ _) hS Zfw (hS.ne 13 12 rfl rfl rfl) Xv) ?_
  refine LtK.put rfl rfl rfl (Zs rfl) ?_
  refine LtK.nil ?_
  refine Z4 [false, false, false, false, true] 4 ⟨by decide, by kernel_rfl, by kernel_rfl⟩ rfl rfl ?_
  try dsimp only [Zw]
  obtain ⟨r260, hm261, H⟩ := bind_some H
  refine Zo rfl rfl rfl rfl (by kernel_rfl) rfl (Jq (⟨r231.id, r231.n, r231.role, r231.binary, r231.tuple, (max r231.commit (min x1.commit (IntKind.wrap .i64 (x1.last + (x1.entries.length : Int))))), r256.1, r231.votes, r231.next, r231.mtch, r231.caps⟩ : Co) x1 4 true (IntKind.wrap .i64 (x1.last + (x1.entries.length : Int))) A233 c234 A237 c238 A241 c242 A245 c246 A249 c250 A5_ c5_ _ (Zg1 k235 (hS.row_rd hs0) (hS.row_blk hs0)) (Zg1 k239 (hS.row_rd Xr) (hS.row_blk Xr)) (Zg1 k243 (hS.row_rd X0) (hS.row_blk X0)) (Zg1 k247 (hS.row_rd hs3) (hS.row_blk hs3)) (Zg1 k251 (hS.row_rd hs4) (hS.row_blk hs4)) (Zg1 s5_.k (hS.rd0 s5_.rd) (hS.blk0 s5_.blk)) hm261) ?_
  rintro e w ⟨A262, c263, rfl, k264, hN⟩; refine ⟨_, rfl, ?_⟩; obtain ⟨hB, hS⟩ := hS.jn hN
  refine Zg ?_
  refine Z7 hB ?_
  refine Zax [5, 6] ⟨by decide, by kernel_rfl⟩ rfl (.call [false, false, false, false, false, true] 5 rfl rfl rfl ?_ (.put [false, false, false, false, false, false, true] 6 rfl rfl rfl ?_ .nil))
  ·try dsimp only [Zw]
   refine Yx (ps := [(0, .tmp 140)]) [.int .u8 r260.kind, .int .i64 r260.frm, .int .i64 r260.dst, .int .i64 r260.term, .int .i64 r260.cap, .int .i64 r260.last, .int .i64 r260.lastTerm, .int .i64 r260.commit, .bool r260.okk, .slice A262 r260.entries.length c263, .int .i64 r260.snap.index, .int .i64 r260.snap.term, .int .i64 r260.snap.sum, .int .i64 r260.snap.level, .bool r260.snap.final] Je J9 rfl rfl rfl rfl rfl (by kernel_rfl) hS (fun b266 w hS hB => ?_)
   refine Zg ?_
   refine Z7 hB ?_
   refine Yp [false, false, false, false, false, false, true] 6 ⟨by decide, by kernel_rfl, by kernel_rfl⟩ rfl rfl ?_
   try dsimp only [Zw]
   refine Zm rfl rfl rfl CellsOf.agg hS ps14 Yy (by kernel_rfl) rfl (fun w hS hB => ?_)
   refine Zg ?_
   refine Ye (hB.sub (fun _ _ h => by simpa using h)) ?_
   refine Zn [false, false, false, false, false, false, false, true] (by decide +kernel) PFC.h ?_
   refine LtK.put rfl rfl rfl (Zy rfl) ?_
   refine LtK.nil ?_
   refine Z6 (by kernel_rfl) ?_
   refine Zb hK259 ?_
   refine Zk ?_
   refine Zj ?_
   refine Z5 ?_
   refine Zl rfl (RV.cell rfl (Zx Yh hS Zej Z8) (RV.tmp rfl RV.nil)) rfl ?_
   obtain rfl := QJ H
   have hS := hS.nilRds
   replace hS := hS.front 2 rfl
   replace hS := hS.absorbQ ⟨r260, A262, c263⟩
   replace hS := hS.front 1 rfl
   replace hS := hS.weak Weak.boxRd
   have hS := hS.front 6 rfl
   have hS := hS.front 6 rfl
   have hS := hS.front 6 rfl
   have hS := hS.front 6 rfl
   have hS := hS.front 6 rfl
   replace hS := hS.weak Weak.rowRd
   replace hS := hS.cut 7
   exact ⟨A233, c234, A237, c238, A241, c242, A245, c246, A249, c250, (some ⟨b266, 0, none⟩), 1, ([⟨r260, A262, c263⟩] : List Mq), rfl, k235, k239, k243, k247, k251, ⟨Nat.le_refl 1, by decide⟩, rfl, (Vh k264 Vf), hS⟩
  ·try dsimp only [Zw]
   refine Zm rfl rfl rfl CellsOf.agg hS ps13 Yy (by kernel_rfl) rfl (fun w hS hB => ?_)
   refine Zg ?_
   refine Ye (hB.sub (fun _ _ h => by simpa using h)) ?_
   refine Z4 [false, false, false, false, false, true] 5 ⟨by decide, by kernel_rfl, by kernel_rfl⟩ rfl rfl ?_
   try dsimp only [Zw]
   refine Yx (ps := [(0, .tmp 140)]) [.int .u8 r260.kind, .int .i64 r260.frm, .int .i64 r260.dst, .int .i64 r260.term, .int .i64 r260.cap, .int .i64 r260.last, .int .i64 r260.lastTerm, .int .i64 r260.commit, .bool r260.okk, .slice A262 r260.entries.length c263, .int .i64 r260.snap.index, .int .i64 r260.snap.term, .int .i64 r260.snap.sum, .int .i64 r260.snap.level, .bool r260.snap.final] Je J9 rfl rfl rfl rfl rfl (by kernel_rfl) hS (fun b266 w hS hB => ?_)
   refine Zg ?_
   refine Z7 hB ?_
   refine Zn [false, false, false, false, false, false, false, true] (by decide +kernel) PFC.h ?_
   refine LtK.put rfl rfl rfl (Zy rfl) ?_
   refine LtK.nil ?_
   refine Z6 (by kernel_rfl) ?_
   refine Zb hK259 ?_
   refine Zk ?_
   refine Zj ?_
   refine Z5 ?_
   refine Zl rfl (RV.cell rfl (Zx Yh hS Zej Z8) (RV.tmp rfl RV.nil)) rfl ?_
   obtain rfl := QJ H
   have hS := hS.nilRds
   replace hS := hS.front 2 rfl
   replace hS := hS.absorbQ ⟨r260, A262, c263⟩
   replace hS := hS.front 1 rfl
   replace hS := hS.weak Weak.boxRd
   have hS := hS.front 6 rfl
   have hS := hS.front 6 rfl
   have hS := hS.front 6 rfl
   have hS := hS.front 6 rfl
   have hS := hS.front 6 rfl
   replace hS := hS.weak Weak.rowRd
   replace hS := hS.cut 7
   exact ⟨A233, c234, A237, c238, A241, c242, A245, c246, A249, c250, (some ⟨b266, 0, none⟩), 1, ([⟨r260, A262, c263⟩] : List Mq), rfl, k235, k239, k243, k247, k251, ⟨Nat.le_refl 1, by decide⟩, rfl, (Vh k264 Vf), hS⟩
 replace H := Zq H hb
 refine Zf ?_
 refine Za rfl rfl rfl (Zi Yr rfl (Zgy _) hS hs5 trivial Vl) ?_
 refine Zc 1 rfl ?_
 obtain ⟨r144, hm145, H⟩ := bind_some H
 refine Zo rfl rfl rfl rfl (by kernel_rfl) rfl (c_tuple_Cut r64.tuple (IntKind.wrap .i64 ((IntKind.wrap .i64 (x1.last + 1)) + r134)) A66 c67 _ (Zg1 k68 (hS.rd hs0) (hS.rd_blk hs0)) hm145) ?_
 rintro e w ⟨A146, c147, rfl, k148, hN⟩; refine ⟨_, rfl, ?_⟩; obtain ⟨hB, hS⟩ := hS.jn hN
 refine Zc 1 rfl ?_
 refine Za rfl rfl rfl (Z1 rfl rfl) ?_
 refine Za rfl rfl rfl (Z1 rfl rfl) ?_
 refine Zm rfl rfl rfl CellsOf.agg hS ps6 Zb0 (by kernel_rfl) rfl (fun w hS hB => ?_)
 refine Zg ?_
 refine Zb hK142 ?_
 refine Zd (fun K hK150 => ?_)
 refine Yg 11 [9] (fun i b => (i = 9 → b ≠ b9)) ⟨by kernel_rfl, by kernel_rfl⟩ hS (fun w hS hB => ?_)
 refine Zn [true, true, true, true, true] (by decide +kernel) PFC.h ?_
 refine LtK.put rfl rfl rfl (Zi Yr rfl (Zgz _) hS hs6 trivial Vl) ?_
 refine LtK.put rfl rfl rfl (Ze Vc rfl) ?_
 refine LtK.put rfl rfl rfl (Zh Xp rfl (Zgz _) hS hs8 trivial Zak) ?_
 refine LtK.put rfl rfl rfl (Zs rfl) ?_
 obtain ⟨l151, hd152, H⟩ := bind_some H
 refine LtK.put rfl rfl rfl (yx_slice_l Y6 rfl rfl hd152) ?_
 refine LtK.nil ?_
 refine Z4 [false, false, false, false, false, true] 5 ⟨by decide, by kernel_rfl, by kernel_rfl⟩ rfl rfl ?_
 try dsimp only [Zw]
 obtain ⟨r153, hm154, H⟩ := bind_some H
 refine Zo rfl rfl rfl rfl (by kernel_rfl) rfl (Zdo r144.1 l151 A146 c147 (cutA A5_ c5_ (Int.toNat r134) 3) (c5_ - Int.toNat r134) _ (Zg1 k148 (hS.rd hs0) (hS.rd_blk hs0)) (Zg1 (k_drop s5_.k hd152) (Rd.dropI X5 (hS.rd0 s5_.rd) s5_.k.1 hd152) (cutA_blk (hS.blk0 s5_.blk))) hm154) ?_
 rintro e w ⟨A155, c156, rfl, k157, hN⟩; refine ⟨_, rfl, ?_⟩; obtain ⟨hB, hS⟩ := hS.jn hN
 refine Zg ?_
 refine Z7 hB ?_
 refine Zn [false, false, false, false, false, false, true, true] (by decide +kernel) PFC.h ?_
 refine LtK.put rfl rfl rfl (Zs rfl) ?_
 refine LtK.put rfl rfl rfl (Z1 rfl rfl) ?_
 refine LtK.nil ?_
 refine Y2 [false, false, false, false, false, false, false, false, true] [9] (fun b => b ≠ b9) (by decide +kernel) (by intro j hj b hb; simp only [List.mem_cons, List.not_mem_nil, or_false] at hj; (try rcases hj with rfl | rfl | rfl | rfl | rfl) <;> first | (simp [hb]; done) | simp_all) PFC.h ?_
 refine LtK.put rfl rfl rfl (Z1 rfl rfl) ?_
 refine LtK.nil ?_
 refine Yp [false, false, false, false, false, false, false, false, false, true] 9 ⟨by decide, by kernel_rfl, by kernel_rfl⟩ rfl rfl ?_
 try dsimp only [Zw]
 refine Zm rfl rfl rfl CellsOf.agg hS ps7 Zb0 (by kernel_rfl) rfl (fun w hS hB => ?_)
 refine Zg ?_
 refine Ye (hB.sub (fun _ _ h => by simpa using h)) ?_
 refine Zn [false, false, false, false, false, false, false, false, false, false, true] (by decide +kernel) PFC.h ?_
 refine LtK.put rfl rfl rfl (Zy rfl) ?_
 refine LtK.nil ?_
 refine Z6 (by kernel_rfl) ?_
 refine Zb hK150 ?_
 refine Zd (fun K hK159 => ?_)
 refine Zf ?_
 refine Zc 1 rfl ?_
 refine Za rfl rfl rfl (Y5 rfl rfl) ?_
 refine Zg ?_
 refine Zb hK159 ?_
 refine Zz rfl (fun hb => ?_) (fun hb => ?_)
 ·replace H := Zq H hb
  refine Vi ?_
  refine Xb ?_
  refine Vz ?_
  refine Zd (fun K hK160 => ?_)
  refine Zt ?_
  refine Zb hK160 ?_
  refine Zd (fun K hK161 => ?_)
  refine Yg 8 [6] (fun i b => (i = 6 → b ≠ b6)) ⟨by kernel_rfl, by kernel_rfl⟩ hS (fun w hS hB => ?_)
  refine Zn [true] (by decide +kernel) PFC.h ?_
  refine LtK.put rfl rfl rfl (Zi Yh rfl (Zgz _) hS Zei trivial Z8) ?_
  refine LtK.nil ?_
  refine Y2 [false, true, true, true] [6] (fun b => b ≠ b6) (by decide +kernel) (by intro j hj b hb; simp only [List.mem_cons, List.not_mem_nil, or_false] at hj; (try rcases hj with rfl | rfl | rfl | rfl | rfl) <;> first | (simp [hb]; done) | simp_all) PFC.h ?_
  refine LtK.put rfl rfl rfl (Zi Yh rfl (Zg0 _ _) hS Zei (hS.ne 10 8 rfl rfl rfl) Z8) ?_
  refine LtK.put rfl rfl rfl (Zi Vp rfl (Zg0 _ _) hS hs9 (hS.ne 9 8 rfl rfl rfl) Xv) ?_
  refine LtK.put rfl rfl rfl (Zs rfl) ?_
  refine LtK.nil ?_
  refine Z4 [false, false, false, false, true] 4 ⟨by decide, by kernel_rfl, by kernel_rfl⟩ rfl rfl ?_
  try dsimp only [Zw]
  obtain ⟨r162, hm163, H⟩ := bind_some H
  refine Zo rfl rfl rfl rfl (by kernel_rfl) rfl (Jq (⟨r64.id, r64.n, 0, r64.binary, r64.tuple, r64.commit, r64.applied, r64.votes, r64.next, r64.mtch, r64.caps⟩ : Co) x1 4 false r87 A66 c67 A70 c71 A74 c75 A78 c79 A82 c83 A5_ c5_ _ (Zg1 k68 (hS.rd X0) (hS.rd_blk X0)) (Zg1 k72 (hS.row_rd hs3) (hS.row_blk hs3)) (Zg1 k76 (hS.row_rd hs4) (hS.row_blk hs4)) (Zg1 k80 (hS.row_rd hs5) (hS.row_blk hs5)) (Zg1 k84 (hS.row_rd hs6) (hS.row_blk hs6)) (Zg1 s5_.k (hS.rd0 s5_.rd) (hS.blk0 s5_.blk)) hm163) ?_
  rintro e w ⟨A164, c165, rfl, k166, hN⟩; refine ⟨_, rfl, ?_⟩; obtain ⟨hB, hS⟩ := hS.jn hN
  refine Zg ?_
  refine Z7 hB ?_
  refine Zax [5, 6] ⟨by decide, by kernel_rfl⟩ rfl (.call [false, false, false, false, false, true] 5 rfl rfl rfl ?_ (.put [false, false, false, false, false, false, true] 6 rfl rfl rfl ?_ .nil))
  ·try dsimp only [Zw]
   refine Yx (ps := [(0, .tmp 146)]) [.int .u8 r162.kind, .int .i64 r162.frm, .int .i64 r162.dst, .int .i64 r162.term, .int .i64 r162.cap, .int .i64 r162.last, .int .i64 r162.lastTerm, .int .i64 r162.commit, .bool r162.okk, .slice A164 r162.entries.length c165, .int .i64 r162.snap.index, .int .i64 r162.snap.term, .int .i64 r162.snap.sum, .int .i64 r162.snap.level, .bool r162.snap.final] Je J9 rfl rfl rfl rfl rfl (by kernel_rfl) hS (fun b168 w hS hB => ?_)
   refine Zg ?_
   refine Z7 hB ?_
   refine Yp [false, false, false, false, false, false, true] 6 ⟨by decide, by kernel_rfl, by kernel_rfl⟩ rfl rfl ?_
   try dsimp only [Zw]
   refine Zm rfl rfl rfl CellsOf.agg hS ps10 Yy (by kernel_rfl) rfl (fun w hS hB => ?_)
   refine Zg ?_
   refine Ye (hB.sub (fun _ _ h => by simpa using h)) ?_
   refine Zn [false, false, false, false, false, false, false, true] (by decide +kernel) PFC.h ?_
   refine LtK.put rfl rfl rfl (Zy rfl) ?_
   refine LtK.nil ?_
   refine Z6 (by kernel_rfl) ?_
   refine Zb hK161 ?_
   refine Zk ?_
   refine Z5 ?_
   refine Zl rfl (RV.cell rfl (Zx Yh hS Zei Z8) (RV.tmp rfl RV.nil)) rfl ?_
   obtain rfl := QJ H
   have hS := hS.nilRds
   replace hS := hS.front 2 rfl
   replace hS := hS.absorbQ ⟨r162, A164, c165⟩
   replace hS := hS.front 1 rfl
   replace hS := hS.weak Weak.boxRd
   have hS := hS.front 8 rfl
   have hS := hS.front 8 rfl
   have hS := hS.front 8 rfl
   have hS := hS.front 8 rfl
   have hS := hS.front 8 rfl
   replace hS := hS.cut 7
   exact ⟨A66, c67, A70, c71, A74, c75, A78, c79, A82, c83, (some ⟨b168, 0, none⟩), 1, ([⟨r162, A164, c165⟩] : List Mq), rfl, k68, k72, k76, k80, k84, ⟨Nat.le_refl 1, by decide⟩, rfl, (Vh k166 Vf), hS⟩
  ·try dsimp only [Zw]
   refine Zm rfl rfl rfl CellsOf.agg hS ps9 Yy (by kernel_rfl) rfl (fun w hS hB => ?_)
   refine Zg ?_
   refine Ye (hB.sub (fun _ _ h => by simpa using h)) ?_
   refine Z4 [false, false, false, false, false, true] 5 ⟨by decide, by kernel_rfl, by kernel_rfl⟩ rfl rfl ?_
   try dsimp only [Zw]
   refine Yx (ps := [(0, .tmp 146)]) [.int .u8 r162.kind, .int .i64 r162.frm, .int .i64 r162.dst, .int .i64 r162.term, .int .i64 r162.cap, .int .i64 r162.last, .int .i64 r162.lastTerm, .int .i64 r162.commit, .bool r162.okk, .slice A164 r162.entries.length c165, .int .i64 r162.snap.index, .int .i64 r162.snap.term, .int .i64 r162.snap.sum, .int .i64 r162.snap.level, .bool r162.snap.final] Je J9 rfl rfl rfl rfl rfl (by kernel_rfl) hS (fun b168 w hS hB => ?_)
   refine Zg ?_
   refine Z7 hB ?_
   refine Zn [false, false, false, false, false, false, false, true] (by decide +kernel) PFC.h ?_
   refine LtK.put rfl rfl rfl (Zy rfl) ?_
   refine LtK.nil ?_
   refine Z6 (by kernel_rfl) ?_
   refine Zb hK161 ?_
   refine Zk ?_
   refine Z5 ?_
   refine Zl rfl (RV.cell rfl (Zx Yh hS Zei Z8) (RV.tmp rfl RV.nil)) rfl ?_
   obtain rfl := QJ H
   have hS := hS.nilRds
   replace hS := hS.front 2 rfl
   replace hS := hS.absorbQ ⟨r162, A164, c165⟩
   replace hS := hS.front 1 rfl
   replace hS := hS.weak Weak.boxRd
   have hS := hS.front 8 rfl
   have hS := hS.front 8 rfl
   have hS := hS.front 8 rfl
   have hS := hS.front 8 rfl
   have hS := hS.front 8 rfl
   replace hS := hS.cut 7
   exact ⟨A66, c67, A70, c71, A74, c75, A78, c79, A82, c83, (some ⟨b168, 0, none⟩), 1, ([⟨r162, A164, c165⟩] : List Mq), rfl, k68, k72, k76, k80, k84, ⟨Nat.le_refl 1, by decide⟩, rfl, (Vh k166 Vf), hS⟩
 replace H := Zp H hb
 refine Zt ?_
 refine Zb hK136 ?_
 refine Zd (fun K hK170 => ?_)
 refine Zf ?_
 refine Za rfl rfl rfl (Zi Yr rfl (Zgy _) hS hs7 trivial Vl) ?_
 refine Za rfl rfl rfl (Ze Yz rfl) ?_
 refine Zm rfl rfl rfl CellsOf.agg hS ps10 st4_8 (by kernel_rfl) rfl (fun w hS hB => ?_)
 refine Zg ?_
 refine Zb hK170 ?_
 refine Zd (fun K hK171 => ?_)
 refine Zf ?_
 refine Za rfl rfl rfl (Zi Yh rfl (Zgy _) hS Zei trivial Z8) ?_
 obtain ⟨r172, hm173, H⟩ := bind_some H
 refine Zo rfl rfl rfl rfl (by kernel_rfl) rfl (Zbr (⟨r64.id, r64.n, 0, r64.binary, r153.1, r64.commit, r64.applied, r64.votes, r64.next, r64.mtch, r64.caps⟩ : Co) A155 c156 A70 c71 A74 c75 A78 c79 A82 c83 _ (Zg1 k157 (hS.rd hs0) (hS.rd_blk hs0)) (Zg1 k72 (hS.row_rd hs3) (hS.row_blk hs3)) (Zg1 k76 (hS.row_rd hs4) (hS.row_blk hs4)) (Zg1 k80 (hS.row_rd hs5) (hS.row_blk hs5)) (Zg1 k84 (hS.row_rd hs6) (hS.row_blk hs6)) hm173) ?_
 rintro e w ⟨A174, c175, A178, c179, A182, c183, A186, c187, A190, c191, rfl, k176, k180, k184, k188, k192, hN⟩; refine ⟨_, rfl, ?_⟩; obtain ⟨hB, hS⟩ := hS.jn hN
 refine Zm rfl rfl rfl CellsOf.agg hS ps15 Yy (by kernel_rfl) rfl (fun w hS hB => ?_)
 refine Zg ?_
 refine Zb hK171 ?_
 refine Zd (fun K hK194 => ?_)
 refine Zf ?_
 refine Za rfl rfl rfl (Ze Vx rfl) ?_
 refine Za rfl rfl rfl (Zh Z0 rfl (Zgy _) hS Zej trivial Js) ?_
 refine Za rfl rfl rfl (Ze Vc rfl) ?_
 refine Za rfl rfl rfl (Zh Xp rfl (Zgy _) hS Zej trivial Zak) ?_
 refine Za rfl rfl rfl (Yu Y6 rfl) ?_
 refine Za rfl rfl rfl (Xf rfl rfl) ?_
 refine Zc 1 rfl ?_
 refine Zg ?_
 refine Zb hK194 ?_
 refine Zd (fun K hK195 => ?_)
 refine Zf ?_
 refine Za rfl rfl rfl (Ze V5 rfl) ?_
 refine Za rfl rfl rfl (Zh Z0 rfl (Zgy _) hS hs15 trivial Zbe) ?_
 refine Za rfl rfl rfl (Ze Zdn rfl) ?_
 refine Za rfl rfl rfl (Zh Z0 rfl (Zgy _) hS Zej trivial Zfd) ?_
 refine Zc 1 rfl ?_
 refine Za rfl rfl rfl (Zer rfl rfl) ?_
 refine Za rfl rfl rfl (Zfp rfl rfl) ?_
 refine Za rfl rfl rfl (Ze V5 rfl) ?_
 refine Zm rfl rfl rfl CellsOf.int hS ps15 st12_1 (by kernel_rfl) rfl (fun w hS hB => ?_)
 refine Zg ?_
 refine Zb hK195 ?_
 refine Zd (fun K hK196 => ?_)
 refine Zf ?_
 refine Za rfl rfl rfl (Ze Yz rfl) ?_
 refine Za rfl rfl rfl (Zi Yr rfl (Zgy _) hS hs15 trivial Jw) ?_
 refine Za rfl rfl rfl (Ze V5 rfl) ?_
 refine Za rfl rfl rfl (Zh Z0 rfl (Zgy _) hS hs15 trivial Zbe) ?_
 obtain ⟨r197, hm198, H⟩ := bind_some H
 refine Zo rfl rfl rfl rfl (by kernel_rfl) rfl (Za5 r172.tuple (max r172.commit (min x1.commit (IntKind.wrap .i64 (x1.last + (x1.entries.length : Int))))) A174 c175 _ (Zg1 k176 (hS.row_rd hs0) (hS.row_blk hs0)) hm198) ?_
 rintro e w ⟨rfl, hN⟩; refine ⟨_, rfl, ?_⟩; obtain ⟨hB, hS⟩ := hS.jn hN
 refine Zc 1 rfl ?_
 refine Za rfl rfl rfl (Z1 rfl rfl) ?_
 refine Za rfl rfl rfl (Z1 rfl rfl) ?_
 refine Za rfl rfl rfl (Ze Zef rfl) ?_
 refine Zm rfl rfl rfl CellsOf.agg hS ps15 st13_5 (by kernel_rfl) rfl (fun w hS hB => ?_)
 refine Zg ?_
 refine Zb hK196 ?_
 refine Zd (fun K hK199 => ?_)
 refine Zd (fun K hK200 => ?_)
 refine Yg 8 [6] (fun i b => (i = 6 → b ≠ b6)) ⟨by kernel_rfl, by kernel_rfl⟩ hS (fun w hS hB => ?_)
 refine Zn [true] (by decide +kernel) PFC.h ?_
 refine LtK.put rfl rfl rfl (Zi Yh rfl (Zgz _) hS hs15 trivial Z8) ?_
 refine LtK.nil ?_
 refine Y2 [false, true, true, true] [6] (fun b => b ≠ b6) (by decide +kernel) (by intro j hj b hb; simp only [List.mem_cons, List.not_mem_nil, or_false] at hj; (try rcases hj with rfl | rfl | rfl | rfl | rfl) <;> first | (simp [hb]; done) | simp_all) PFC.h ?_
 refine LtK.put rfl rfl rfl (Zi Yh rfl (Zg0 _ _) hS hs15 (hS.ne 15 13 rfl rfl rfl) Z8) ?_
 refine LtK.put rfl rfl rfl (Zi Vp rfl (Zg0 _ _) hS Zej (hS.ne 14 13 rfl rfl rfl) Xv) ?_
 refine LtK.put rfl rfl rfl (Zs rfl) ?_
 refine LtK.nil ?_
 refine Z4 [false, false, false, false, true] 4 ⟨by decide, by kernel_rfl, by kernel_rfl⟩ rfl rfl ?_
 try dsimp only [Zw]
 obtain ⟨r201, hm202, H⟩ := bind_some H
 refine Zo rfl rfl rfl rfl (by kernel_rfl) rfl (Jq (⟨r172.id, r172.n, r172.role, r172.binary, r172.tuple, (max r172.commit (min x1.commit (IntKind.wrap .i64 (x1.last + (x1.entries.length : Int))))), r197.1, r172.votes, r172.next, r172.mtch, r172.caps⟩ : Co) x1 4 true (IntKind.wrap .i64 (x1.last + (x1.entries.length : Int))) A174 c175 A178 c179 A182 c183 A186 c187 A190 c191 A5_ c5_ _ (Zg1 k176 (hS.row_rd hs0) (hS.row_blk hs0)) (Zg1 k180 (hS.row_rd Xr) (hS.row_blk Xr)) (Zg1 k184 (hS.row_rd X0) (hS.row_blk X0)) (Zg1 k188 (hS.row_rd hs3) (hS.row_blk hs3)) (Zg1 k192 (hS.row_rd hs4) (hS.row_blk hs4)) (Zg1 s5_.k (hS.rd0 s5_.rd) (hS.blk0 s5_.blk)) hm202) ?_
 rintro e w ⟨A203, c204, rfl, k205, hN⟩; refine ⟨_, rfl, ?_⟩; obtain ⟨hB, hS⟩ := hS.jn hN
 refine Zg ?_
 refine Z7 hB ?_
 refine Zax [5, 6] ⟨by decide, by kernel_rfl⟩ rfl (.call [false, false, false, false, false, true] 5 rfl rfl rfl ?_ (.put [false, false, false, false, false, false, true] 6 rfl rfl rfl ?_ .nil))
 ·try dsimp only [Zw]
  refine Yx (ps := [(0, .tmp 140)]) [.int .u8 r201.kind, .int .i64 r201.frm, .int .i64 r201.dst, .int .i64 r201.term, .int .i64 r201.cap, .int .i64 r201.last, .int .i64 r201.lastTerm, .int .i64 r201.commit, .bool r201.okk, .slice A203 r201.entries.length c204, .int .i64 r201.snap.index, .int .i64 r201.snap.term, .int .i64 r201.snap.sum, .int .i64 r201.snap.level, .bool r201.snap.final] Je J9 rfl rfl rfl rfl rfl (by kernel_rfl) hS (fun b207 w hS hB => ?_)
  refine Zg ?_
  refine Z7 hB ?_
  refine Yp [false, false, false, false, false, false, true] 6 ⟨by decide, by kernel_rfl, by kernel_rfl⟩ rfl rfl ?_
  try dsimp only [Zw]
  refine Zm rfl rfl rfl CellsOf.agg hS ps15 Yy (by kernel_rfl) rfl (fun w hS hB => ?_)
  refine Zg ?_
  refine Ye (hB.sub (fun _ _ h => by simpa using h)) ?_
  refine Zn [false, false, false, false, false, false, false, true] (by decide +kernel) PFC.h ?_
  refine LtK.put rfl rfl rfl (Zy rfl) ?_
  refine LtK.nil ?_
  refine Z6 (by kernel_rfl) ?_
  refine Zb hK200 ?_
  refine Zk ?_
  refine Zj ?_
  refine Z5 ?_
  refine Zl rfl (RV.cell rfl (Zx Yh hS hs15 Z8) (RV.tmp rfl RV.nil)) rfl ?_
  obtain rfl := QJ H
  have hS := hS.nilRds
  replace hS := hS.front 2 rfl
  replace hS := hS.absorbQ ⟨r201, A203, c204⟩
  replace hS := hS.front 1 rfl
  replace hS := hS.weak Weak.boxRd
  have hS := hS.front 6 rfl
  have hS := hS.front 6 rfl
  have hS := hS.front 6 rfl
  have hS := hS.front 6 rfl
  have hS := hS.front 6 rfl
  replace hS := hS.weak Weak.rowRd
  replace hS := hS.cut 7
  exact ⟨A174, c175, A178, c179, A182, c183, A186, c187, A190, c191, (some ⟨b207, 0, none⟩), 1, ([⟨r201, A203, c204⟩] : List Mq), rfl, k176, k180, k184, k188, k192, ⟨Nat.le_refl 1, by decide⟩, rfl, (Vh k205 Vf), hS⟩
 ·try dsimp only [Zw]
  refine Zm rfl rfl rfl CellsOf.agg hS ps14 Yy (by kernel_rfl) rfl (fun w hS hB => ?_)
  refine Zg ?_
  refine Ye (hB.sub (fun _ _ h => by simpa using h)) ?_
  refine Z4 [false, false, false, false, false, true] 5 ⟨by decide, by kernel_rfl, by kernel_rfl⟩ rfl rfl ?_
  try dsimp only [Zw]
  refine Yx (ps := [(0, .tmp 140)]) [.int .u8 r201.kind, .int .i64 r201.frm, .int .i64 r201.dst, .int .i64 r201.term, .int .i64 r201.cap, .int .i64 r201.last, .int .i64 r201.lastTerm, .int .i64 r201.commit, .bool r201.okk, .slice A203 r201.entries.length c204, .int .i64 r201.snap.index, .int .i64 r201.snap.term, .int .i64 r201.snap.sum, .int .i64 r201.snap.level, .bool r201.snap.final] Je J9 rfl rfl rfl rfl rfl (by kernel_rfl) hS (fun b207 w hS hB => ?_)
  refine Zg ?_
  refine Z7 hB ?_
  refine Zn [false, false, false, false, false, false, false, true] (by decide +kernel) PFC.h ?_
  refine LtK.put rfl rfl rfl (Zy rfl) ?_
  refine LtK.nil ?_
  refine Z6 (by kernel_rfl) ?_
  refine Zb hK200 ?_
  refine Zk ?_
  refine Zj ?_
  refine Z5 ?_
  refine Zl rfl (RV.cell rfl (Zx Yh hS hs15 Z8) (RV.tmp rfl RV.nil)) rfl ?_
  obtain rfl := QJ H
  have hS := hS.nilRds
  replace hS := hS.front 2 rfl
  replace hS := hS.absorbQ ⟨r201, A203, c204⟩
  replace hS := hS.front 1 rfl
  replace hS := hS.weak Weak.boxRd
  have hS := hS.front 6 rfl
  have hS := hS.front 6 rfl
  have hS := hS.front 6 rfl
  have hS := hS.front 6 rfl
  have hS := hS.front 6 rfl
  replace hS := hS.weak Weak.rowRd
  replace hS := hS.cut 7
  exact ⟨A174, c175, A178, c179, A182, c183, A186, c187, A190, c191, (some ⟨b207, 0, none⟩), 1, ([⟨r201, A203, c204⟩] : List Mq), rfl, k176, k180, k184, k188, k192, ⟨Nat.le_refl 1, by decide⟩, rfl, (Vh k205 Vf), hS⟩
theorem c_repl_Told (x0 : Co) (x1 : Ms) (A0_ : OA) (c0_ : Nat) (A1_ : OA) (c1_ : Nat) (A2_ : OA) (c2_ : Nat) (A3_ : OA) (c3_ : Nat) (A4_ : OA) (c4_ : Nat) (A5_ : OA) (c5_ : Nat) (w0 : World) (s0_ : SlI w0 Jv A0_ c0_ x0.tuple.log) (s1_ : SlI w0 enO A1_ c1_ x0.votes) (s2_ : SlI w0 V9 A2_ c2_ x0.next) (s3_ : SlI w0 V9 A3_ c3_ x0.mtch) (s4_ : SlI w0 V9 A4_ c4_ x0.caps) (s5_ : SlI w0 Jv A5_ c5_ x1.entries) {r : Co} (H : m_repl_Told x0 x1 = some r) : Calls Try.prog 55 #[.agg #[.int .i64 x0.id, .int .i64 x0.n, .int .u8 x0.role, .int .i64 x0.binary, .int .i64 x0.tuple.snap.index, .int .i64 x0.tuple.snap.term, .int .i64 x0.tuple.snap.sum, .int .i64 x0.tuple.snap.level, .bool x0.tuple.snap.final, .slice A0_ x0.tuple.log.length c0_, .int .i64 x0.tuple.term, .int .i64 x0.tuple.vote, .int .i64 x0.commit, .int .i64 x0.applied.index, .int .i64 x0.applied.term, .int .i64 x0.applied.sum, .int .i64 x0.applied.level, .bool x0.applied.final, .slice A1_ x0.votes.length c1_, .slice A2_ x0.next.length c2_, .slice A3_ x0.mtch.length c3_, .slice A4_ x0.caps.length c4_], .agg #[.int .u8 x1.kind, .int .i64 x1.frm, .int .i64 x1.dst, .int .i64 x1.term, .int .i64 x1.cap, .int .i64 x1.last, .int .i64 x1.lastTerm, .int .i64 x1.commit, .bool x1.okk, .slice A5_ x1.entries.length c5_, .int .i64 x1.snap.index, .int .i64 x1.snap.term, .int .i64 x1.snap.sum, .int .i64 x1.snap.level, .bool x1.snap.final]] w0 fun e w' => ∃ (A0 : OA) (c0 : Nat) (A1 : OA) (c1 : Nat) (A2 : OA) (c2 : Nat) (A3 : OA) (c3 : Nat) (A4 : OA) (c4 : Nat), e = .returned (.agg #[.int .i64 r.id, .int .i64 r.n, .int .u8 r.role, .int .i64 r.binary, .int .i64 r.tuple.snap.index, .int .i64 r.tuple.snap.term, .int .i64 r.tuple.snap.sum, .int .i64 r.tuple.snap.level, .bool r.tuple.snap.final, .slice A0 r.tuple.log.length c0, .int .i64 r.tuple.term, .int .i64 r.tuple.vote, .int .i64 r.commit, .int .i64 r.applied.index, .int .i64 r.applied.term, .int .i64 r.applied.sum, .int .i64 r.applied.level, .bool r.applied.final, .slice A1 r.votes.length c1, .slice A2 r.next.length c2, .slice A3 r.mtch.length c3, .slice A4 r.caps.length c4]) ∧ (r.tuple.log.length ≤ c0 ∧ c0 ≤ maxLen) ∧ (r.votes.length ≤ c1 ∧ c1 ≤ maxLen) ∧ (r.next.length ≤ c2 ∧ c2 ≤ maxLen) ∧ (r.mtch.length ≤ c3 ∧ c3 ≤ maxLen) ∧ (r.caps.length ≤ c4 ∧ c4 ≤ maxLen) ∧ St0 All w0 w' [.rd A0 (Yf Jv r.tuple.log), .row (.slice A1 r.votes.length c1) 4 1 r.votes.length (Yf enO r.votes), .row (.slice A2 r.next.length c2) 3 1 r.next.length (Yf V9 r.next), .row (.slice A3 r.mtch.length c3) 3 1 r.mtch.length (Yf V9 r.mtch), .row (.slice A4 r.caps.length c4) 3 1 r.caps.length (Yf V9 r.caps)] := by
 unfold m_repl_Told at H
 refine Y0 Try.func55 rfl Try.ntmps55 rfl ?_
 have hS := St0.start All w0
 refine Zd (fun K hK1 => ?_)
 refine Zf ?_
 refine Yd rfl rfl rfl CellsOf.agg hS (fun b2 w hS hB => ?_)
 refine Yd rfl rfl rfl CellsOf.agg hS (fun b4 w hS hB => ?_)
 refine Yb rfl rfl Zex hS (fun b6 w hS hB => ?_)
 refine Zg ?_
 refine Zb hK1 ?_
 refine Zd (fun K hK8 => ?_)
 refine Zd (fun K hK9 => ?_)
 refine Zf ?_
 refine Za rfl rfl rfl (Zi Yh rfl (Zgy _) hS X0 trivial Z8) ?_
 refine Za rfl rfl rfl (Zi Vp rfl (Zgy _) hS Xr trivial Xv) ?_
 obtain ⟨r10, hm11, H⟩ := bind_some H
 refine Zo rfl rfl rfl rfl (by kernel_rfl) rfl (c_advert_To x0 x1 A0_ c0_ A1_ c1_ A2_ c2_ A3_ c3_ A4_ c4_ A5_ c5_ _ (Zg1 s0_.k (hS.rd0 s0_.rd) (hS.blk0 s0_.blk)) (Zg1 s1_.k (hS.rd0 s1_.rd) (hS.blk0 s1_.blk)) (Zg1 s2_.k (hS.rd0 s2_.rd) (hS.blk0 s2_.blk)) (Zg1 s3_.k (hS.rd0 s3_.rd) (hS.blk0 s3_.blk)) (Zg1 s4_.k (hS.rd0 s4_.rd) (hS.blk0 s4_.blk)) (Zg1 s5_.k (hS.rd0 s5_.rd) (hS.blk0 s5_.blk)) hm11) ?_
 rintro e w ⟨rfl, hN⟩; refine ⟨_, rfl, ?_⟩; obtain ⟨hB, hS⟩ := hS.jn hN
 refine Za rfl rfl rfl (Yt rfl) ?_
 refine Zc 1 rfl ?_
 refine Zu 12 rfl (fun hb => ?_) (fun hb => ?_)
 ·replace H := Zq H hb
  refine Zc 4 rfl ?_
  refine Zg ?_
  refine Zb hK9 ?_
  refine Zr rfl rfl ?_
  refine Zd (fun K hK12 => ?_)
  refine Zf ?_
  refine Za rfl rfl rfl (Zi Yh rfl (Zgy _) hS X0 trivial Z8) ?_
  obtain ⟨r13, hm14, H⟩ := bind_some H
  refine Zo rfl rfl rfl rfl (by kernel_rfl) rfl (Zd2 x0 A0_ c0_ A1_ c1_ A2_ c2_ A3_ c3_ A4_ c4_ _ (Zg1 s0_.k (hS.rd0 s0_.rd) (hS.blk0 s0_.blk)) (Zg1 s1_.k (hS.rd0 s1_.rd) (hS.blk0 s1_.blk)) (Zg1 s2_.k (hS.rd0 s2_.rd) (hS.blk0 s2_.blk)) (Zg1 s3_.k (hS.rd0 s3_.rd) (hS.blk0 s3_.blk)) (Zg1 s4_.k (hS.rd0 s4_.rd) (hS.blk0 s4_.blk)) hm14) ?_
  rintro e w ⟨A15, c16, A19, c20, A23, c24, A27, c28, A31, c32, rfl, k17, k21, k25, k29, k33, hN⟩; refine ⟨_, rfl, ?_⟩; obtain ⟨hB, hS⟩ := hS.jn hN
  refine Zm rfl rfl rfl CellsOf.agg hS ps5 Yy (by kernel_rfl) rfl (fun w hS hB => ?_)
  refine Zg ?_
  refine Zb hK12 ?_
  refine Zk ?_
  refine Zj ?_
  refine Zl rfl (RV.cell rfl (Zx Yh hS hs5 Z8) RV.nil) rfl ?_
  obtain rfl := QJ H
  have hS := hS.front 4 rfl
  have hS := hS.front 4 rfl
  have hS := hS.front 4 rfl
  have hS := hS.front 4 rfl
  have hS := hS.front 4 rfl
  replace hS := hS.weak Weak.rowRd
  replace hS := hS.cut 5
  exact ⟨A15, c16, A19, c20, A23, c24, A27, c28, A31, c32, rfl, k17, k21, k25, k29, k33, hS⟩
 replace H := Zp H hb
 refine Za rfl rfl rfl (Ze Vq rfl) ?_
 refine Za rfl rfl rfl (Zh Zbs rfl (Zgy _) hS Xr trivial Y7) ?_
 refine Za rfl rfl rfl (Y5 rfl rfl) ?_
 refine Zc 1 rfl ?_
 refine Zg ?_
 refine Zb hK9 ?_
 refine Zz rfl (fun hb => ?_) (fun hb => ?_)
 ·replace H := Zq H hb
  refine Zd (fun K hK35 => ?_)
  refine Zf ?_
  refine Za rfl rfl rfl (Zi Yh rfl (Zgy _) hS X0 trivial Z8) ?_
  obtain ⟨r36, hm37, H⟩ := bind_some H
  refine Zo rfl rfl rfl rfl (by kernel_rfl) rfl (Zd2 x0 A0_ c0_ A1_ c1_ A2_ c2_ A3_ c3_ A4_ c4_ _ (Zg1 s0_.k (hS.rd0 s0_.rd) (hS.blk0 s0_.blk)) (Zg1 s1_.k (hS.rd0 s1_.rd) (hS.blk0 s1_.blk)) (Zg1 s2_.k (hS.rd0 s2_.rd) (hS.blk0 s2_.blk)) (Zg1 s3_.k (hS.rd0 s3_.rd) (hS.blk0 s3_.blk)) (Zg1 s4_.k (hS.rd0 s4_.rd) (hS.blk0 s4_.blk)) hm37) ?_
  rintro e w ⟨A38, c39, A42, c43, A46, c47, A50, c51, A54, c55, rfl, k40, k44, k48, k52, k56, hN⟩; refine ⟨_, rfl, ?_⟩; obtain ⟨hB, hS⟩ := hS.jn hN
  refine Zm rfl rfl rfl CellsOf.agg hS ps5 Yy (by kernel_rfl) rfl (fun w hS hB => ?_)
  refine Zg ?_
  refine Zb hK35 ?_
  refine Zk ?_
  refine Zj ?_
  refine Zl rfl (RV.cell rfl (Zx Yh hS hs5 Z8) RV.nil) rfl ?_
  obtain rfl := QJ H
  have hS := hS.front 4 rfl
  have hS := hS.front 4 rfl
  have hS := hS.front 4 rfl
  have hS := hS.front 4 rfl
  have hS := hS.front 4 rfl
  replace hS := hS.weak Weak.rowRd
  replace hS := hS.cut 5
  exact ⟨A38, c39, A42, c43, A46, c47, A50, c51, A54, c55, rfl, k40, k44, k48, k52, k56, hS⟩
 replace H := Zp H hb
 refine Zt ?_
 refine Zb hK8 ?_
 refine Zd (fun K hK58 => ?_)
 refine Zf ?_
 refine Za rfl rfl rfl (Zi Yh rfl (Zgy _) hS X0 trivial Z8) ?_
 refine Za rfl rfl rfl (Zi Vp rfl (Zgy _) hS Xr trivial Xv) ?_
 obtain ⟨r59, hm60, H⟩ := bind_some H
 refine Zo rfl rfl rfl rfl (by kernel_rfl) rfl (c_elect_Meet x0 x1 A0_ c0_ A1_ c1_ A2_ c2_ A3_ c3_ A4_ c4_ A5_ c5_ _ (Zg1 s0_.k (hS.rd0 s0_.rd) (hS.blk0 s0_.blk)) (Zg1 s1_.k (hS.rd0 s1_.rd) (hS.blk0 s1_.blk)) (Zg1 s2_.k (hS.rd0 s2_.rd) (hS.blk0 s2_.blk)) (Zg1 s3_.k (hS.rd0 s3_.rd) (hS.blk0 s3_.blk)) (Zg1 s4_.k (hS.rd0 s4_.rd) (hS.blk0 s4_.blk)) (Zg1 s5_.k (hS.rd0 s5_.rd) (hS.blk0 s5_.blk)) hm60) ?_
 rintro e w ⟨A61, c62, A65, c66, A69, c70, A73, c74, A77, c78, rfl, k63, k67, k71, k75, k79, hN⟩; refine ⟨_, rfl, ?_⟩; obtain ⟨hB, hS⟩ := hS.jn hN
 refine Zm rfl rfl rfl CellsOf.agg hS ps7 Yy (by kernel_rfl) rfl (fun w hS hB => ?_)
 refine Zg ?_
 refine Zb hK58 ?_
 refine Zd (fun K hK81 => ?_)
 refine Zd (fun K hK82 => ?_)
 refine Zf ?_
 refine Za rfl rfl rfl (Ze Zcj rfl) ?_
 refine Za rfl rfl rfl (Zh Zbs rfl (Zgy _) hS hs7 trivial Zbk) ?_
 refine Za rfl rfl rfl (Y5 rfl rfl) ?_
 refine Zc 1 rfl ?_
 refine Zu 25 rfl (fun hb => ?_) (fun hb => ?_)
 ·replace H := Zq H hb
  refine Zc 7 rfl ?_
  refine Zg ?_
  refine Zb hK82 ?_
  refine Zr rfl rfl ?_
  refine Zd (fun K hK83 => ?_)
  refine Zf ?_
  refine Za rfl rfl rfl (Zi Yh rfl (Zgy _) hS hs7 trivial Z8) ?_
  refine Zm rfl rfl rfl CellsOf.agg hS ps5 Yy (by kernel_rfl) rfl (fun w hS hB => ?_)
  refine Zg ?_
  refine Zb hK83 ?_
  refine Zk ?_
  refine Zj ?_
  refine Zl rfl (RV.cell rfl (Zx Yh hS hs5 Z8) RV.nil) rfl ?_
  obtain rfl := QJ H
  have hS := hS.front 4 rfl
  have hS := hS.front 4 rfl
  have hS := hS.front 4 rfl
  have hS := hS.front 4 rfl
  have hS := hS.front 4 rfl
  replace hS := hS.cut 5
  exact ⟨A61, c62, A65, c66, A69, c70, A73, c74, A77, c78, rfl, k63, k67, k71, k75, k79, hS⟩
 replace H := Zp H hb
 refine Za rfl rfl rfl (Ze Ze3 rfl) ?_
 refine Za rfl rfl rfl (Zh Z0 rfl (Zgy _) hS hs6 trivial Zbd) ?_
 refine Za rfl rfl rfl (Ze Yz rfl) ?_
 refine Za rfl rfl rfl (Ze Jb rfl) ?_
 refine Za rfl rfl rfl (Zh Z0 rfl (Zgy _) hS hs7 trivial Zbc) ?_
 refine Za rfl rfl rfl (Y5 rfl rfl) ?_
 refine Zc 1 rfl ?_
 refine Zg ?_
 refine Zb hK82 ?_
 refine Zz rfl (fun hb => ?_) (fun hb => ?_)
 ·replace H := Zq H hb
  refine Zd (fun K hK84 => ?_)
  refine Zf ?_
  refine Za rfl rfl rfl (Zi Yh rfl (Zgy _) hS hs7 trivial Z8) ?_
  refine Zm rfl rfl rfl CellsOf.agg hS ps5 Yy (by kernel_rfl) rfl (fun w hS hB => ?_)
  refine Zg ?_
  refine Zb hK84 ?_
  refine Zk ?_
  refine Zj ?_
  refine Zl rfl (RV.cell rfl (Zx Yh hS hs5 Z8) RV.nil) rfl ?_
  obtain rfl := QJ H
  have hS := hS.front 4 rfl
  have hS := hS.front 4 rfl
  have hS := hS.front 4 rfl
  have hS := hS.front 4 rfl
  have hS := hS.front 4 rfl
  replace hS := hS.cut 5
  exact ⟨A61, c62, A65, c66, A69, c70, A73, c74, A77, c78, rfl, k63, k67, k71, k75, k79, hS⟩
 replace H := Zp H hb
 refine Zt ?_
 refine Zb hK81 ?_
 refine Zd (fun K hK85 => ?_)
 refine Yg 16 [14, 15] (fun i b => (i = 14 → b = b6 ∨ b = b4 ∨ b = b2) ∧ (i = 15 → b = b6 ∨ b = b4 ∨ b = b2)) ⟨by kernel_rfl, by kernel_rfl⟩ hS (fun w hS hB => ?_)
 refine Zd8 [⟨12, 5, 110, [.pointer none]⟩, ⟨13, 6, 110, [.pointer none]⟩] (.cons rfl zc_110 rfl rfl rfl (.cons rfl zc_110 rfl rfl rfl .nil)) hS (fun hok => ?_)
 dsimp only [List.cons_append, List.nil_append]
 refine Ji [true, true, true, true, true, true] [] (fun _ => True) (by decide +kernel) (fun _ h => by cases h) PFC.h (fun X Y tk ht w hS => ?_)
 refine LtK.put rfl rfl rfl (Ze Vm rfl) ?_
 refine LtK.put rfl rfl rfl (Zh Xt rfl (Zg0 _ _) hS hs7 trivial Jz) ?_
 refine LtK.put rfl rfl rfl (Ze Zee rfl) ?_
 refine LtK.put rfl rfl rfl (Zh Z0 rfl (Zg0 _ _) hS hs6 trivial Vo) ?_
 refine LtK.put rfl rfl rfl (J0 rfl rfl) ?_
 obtain ⟨e86, hi88, H⟩ := bind_some H
 obtain ⟨j87, hi88a, hi88b, hi88c⟩ := Yw hi88
 refine LtK.put rfl rfl rfl (Y8 Xm rfl rfl hi88a hi88c (Rd.el (hS.row_rd X0) Yl hi88b)) ?_
 refine Zds ht hS (by repeat (first | exact App.nil | apply App.cons)) (by repeat (first | exact App.nil | apply App.cons)) ?_
 dsimp only [List.cons_append, List.nil_append]
 refine Ji [false, false, false, false, false, false, true, true, true, true, true, true] [14] (fun b => (b = b6 ∨ b = b4 ∨ b = b2)) (by decide +kernel) (by intro j hj b hb; simp only [List.mem_cons, List.not_mem_nil, or_false] at hj; (try rcases hj with rfl | rfl | rfl | rfl | rfl) <;> first | (simp [hb]; done) | simp_all) PFC.h (fun X Y tk ht w hS => ?_)
 refine LtK.put rfl rfl rfl (Ze V3 rfl) ?_
 refine LtK.put rfl rfl rfl (Zh Xt rfl (Zg0 _ _) hS hs7 (.inr (.inr (rfl))) Zat) ?_
 refine LtK.put rfl rfl rfl (Ze Zee rfl) ?_
 refine LtK.put rfl rfl rfl (Zh Z0 rfl (Zg0 _ _) hS hs6 (.inr (.inl rfl)) Vo) ?_
 refine LtK.put rfl rfl rfl (J0 rfl rfl) ?_
 obtain ⟨e89, hi91, H⟩ := bind_some H
 obtain ⟨j90, hi91a, hi91b, hi91c⟩ := Yw hi91
 refine LtK.put rfl rfl rfl (Y8 Xm rfl rfl hi91a hi91c (Rd.el (hS.row_rd hs3) Yl hi91b)) ?_
 refine Zds ht hS (by repeat (first | exact App.nil | apply App.cons)) (by repeat (first | exact App.nil | apply App.cons)) ?_
 dsimp only [List.cons_append, List.nil_append]
 refine Ze8 hok (by decide) (by decide +kernel) (fun _ => rfl) (fun _ => rfl) rfl (fun tk htk w hS => ?_)
 obtain ⟨b92, tkb92, rfl, htk94⟩ := tk_cons htk
 obtain ⟨b95, tkb95, rfl, htk97⟩ := tk_cons htk94
 obtain rfl := tk_nil htk97
 dsimp only [tkH, tkL, List.map] at hS ⊢
 refine Yp [false, false, false, false, false, false, false, false, false, false, false, false, false, false, true] 14 ⟨by decide, by kernel_rfl, by kernel_rfl⟩ rfl rfl ?_
 try dsimp only [Zw]
 refine Zm rfl rfl rfl CellsOf.ptr hS ps8 st0_1 (by kernel_rfl) rfl (fun w hS hB => ?_)
 refine Zg ?_
 refine Ye (hB.sub (fun b _ h => by have h0 : b = b6 ∨ b = b4 ∨ b = b2 := (by simpa using h); rcases h0 with h0 | h0 | h0; (rw [h0]; exact hS.ne 5 8 rfl rfl rfl); (rw [h0]; exact hS.ne 6 8 rfl rfl rfl); (rw [h0]; exact hS.ne 7 8 rfl rfl rfl))) ?_
 refine Yp [false, false, false, false, false, false, false, false, false, false, false, false, false, false, false, true] 15 ⟨by decide, by kernel_rfl, by kernel_rfl⟩ rfl rfl ?_
 try dsimp only [Zw]
 refine Zm rfl rfl rfl CellsOf.ptr hS ps9 st0_1 (by kernel_rfl) rfl (fun w hS hB => ?_)
 refine Zg ?_
 refine Ye (hB.sub (fun b _ h => by have h0 : b = b6 ∨ b = b4 ∨ b = b2 := (by simpa using h); rcases h0 with h0 | h0 | h0; (rw [h0]; exact hS.ne 5 9 rfl rfl rfl); (rw [h0]; exact hS.ne 6 9 rfl rfl rfl); (rw [h0]; exact hS.ne 7 9 rfl rfl rfl))) ?_
 refine Z6 (by kernel_rfl) ?_
 refine Zb hK85 ?_
 refine Zd (fun K hK98 => ?_)
 refine Zf ?_
 refine wpS_makeMap rfl rfl hS (fun b99 w hS hB => ?_)
 refine Za rfl rfl rfl (X4 rfl rfl) ?_
 refine wpS_insert (kt := 4) (e := 1) rfl rfl rfl rfl (by kernel_rfl) (by kernel_rfl) rfl hS ps0 (fun w hS hB => ?_)
 refine Za rfl rfl rfl (X4 rfl rfl) ?_
 refine wpS_insert (kt := 4) (e := 1) rfl rfl rfl rfl (by kernel_rfl) (by kernel_rfl) rfl hS ps0 (fun w hS hB => ?_)
 refine Zc 2 rfl ?_
 refine Zg ?_
 refine Zb hK98 ?_
 refine Zd (fun K hK101 => ?_)
 refine Zf ?_
 refine Zc 1 rfl ?_
 refine Za rfl rfl rfl (Ze Zf0 rfl) ?_
 refine Za rfl rfl rfl (Zh sc_4 rfl (Zgy _) hS hs7 trivial sg8_1) ?_
 refine Zu 52 rfl (fun hb => ?_) (fun hb => ?_)
 rotate_left
 ·replace H := Zp H hb
  refine Za rfl rfl rfl (yv_lookup (kt := 4) (e := 1) rfl rfl (by kernel_rfl) (by kernel_rfl) rfl (Zgy _) hS hs0 trivial) ?_
  refine Za2 rfl rfl rfl rfl (by kernel_rfl) rfl ?_
  show Calls _ _ #[_, _, _] _ _
  refine Zao Try.func92 rfl Try.ntmps92 rfl ?_
  refine Yg 16 [15] (fun i b => (i = 15 → b = b6 ∨ b = b4 ∨ b = b2 ∨ b = b92 ∨ b = b95)) ⟨by kernel_rfl, by kernel_rfl⟩ hS (fun w hS hB => ?_)
  refine Zn [true, true, true, true, true, true, true, true, true, true, true, true, true, true, true] (by decide +kernel) PFC.h ?_
  refine LtK.put rfl rfl rfl (Zh sc_110 rfl (Zgz _) hS hs9 trivial Y7) ?_
  refine LtK.put rfl rfl rfl (Zh sc_110 rfl (Zgz _) hS Zei trivial Y7) ?_
  refine LtK.put rfl rfl rfl (Zbh rfl (Rd.el (hS.row_rd hs4) Yl hi91b)) ?_
  refine LtK.put rfl rfl rfl (X1 Z0 rfl (Zgz _) (Rd.el (hS.row_rd hs4) Yl hi91b) rfl) ?_
  refine LtK.put rfl rfl rfl (Xf rfl rfl) ?_
  refine LtK.put rfl rfl rfl (Zh sc_110 rfl (Zgz _) hS hs9 trivial Y7) ?_
  refine LtK.put rfl rfl rfl (Zbh rfl (Rd.el (hS.row_rd hs3) Yl hi88b)) ?_
  refine LtK.put rfl rfl rfl (X1 Z0 rfl (Zgz _) (Rd.el (hS.row_rd hs3) Yl hi88b) rfl) ?_
  refine LtK.put rfl rfl rfl (J0 rfl rfl) ?_
  refine LtK.put rfl rfl rfl (Ze Vx rfl) ?_
  refine LtK.put rfl rfl rfl (Zh Z0 rfl (Zgz _) hS hs7 trivial Js) ?_
  refine LtK.put rfl rfl rfl (Xf rfl rfl) ?_
  refine LtK.put rfl rfl rfl (Zer rfl rfl) ?_
  refine LtK.put rfl rfl rfl (Zfp rfl rfl) ?_
  refine LtK.put rfl rfl rfl (Zbh rfl (Rd.el (hS.row_rd hs3) Yl hi88b)) ?_
  refine LtK.nil ?_
  refine Yp [false, false, false, false, false, false, false, false, false, false, false, false, false, false, false, true] 15 ⟨by decide, by kernel_rfl, by kernel_rfl⟩ rfl rfl ?_
  try dsimp only [Zw]
  refine Zgc (a' := (max (IntKind.wrap .i64 (e89 + 1)) (min (IntKind.wrap .i64 (e86 - 1)) (IntKind.wrap .i64 (x1.last + 1))))) (zs := (Zen r59.next (IntKind.wrap .i64 (x1.frm - 1)) (max (IntKind.wrap .i64 (e89 + 1)) (min (IntKind.wrap .i64 (e86 - 1)) (IntKind.wrap .i64 (x1.last + 1)))))) Yl rfl rfl rfl CellsOf.int hS ps3 (Rd.el (hS.row_rd hs3) Yl hi88b) hi88a hi88b rfl st0_1 (by kernel_rfl) rfl (fun w hS hB => ?_)
  have hi108b := setI_at (a := (max (IntKind.wrap .i64 (e89 + 1)) (min (IntKind.wrap .i64 (e86 - 1)) (IntKind.wrap .i64 (x1.last + 1))))) hi88a hi88b
  have hi108a := hi88a
  refine Zg ?_
  refine Ye (hB.sub (fun b _ h => by have h0 : b = b6 ∨ b = b4 ∨ b = b2 ∨ b = b92 ∨ b = b95 := (by simpa using h); rcases h0 with h0 | h0 | h0 | h0 | h0; (rw [h0]; exact hS.neRow 6 3 rfl rfl); (rw [h0]; exact hS.neRow 7 3 rfl rfl); (rw [h0]; exact hS.neRow 8 3 rfl rfl); (rw [h0]; exact hS.neRow 9 3 rfl rfl); (rw [h0]; exact hS.neRow 10 3 rfl rfl))) ?_
  refine Z6 (by kernel_rfl) ?_
  refine Zcs rfl RV.nil rfl ?_
  refine ⟨_, rfl, ?_⟩
  refine Zg ?_
  refine Zb hK101 ?_
  refine Zd (fun K hK109 => ?_)
  refine Zf ?_
  refine Za rfl rfl rfl (Zi Yh rfl (Zgy _) hS hs8 trivial Z8) ?_
  refine Zm rfl rfl rfl CellsOf.agg hS ps6 Yy (by kernel_rfl) rfl (fun w hS hB => ?_)
  refine Zg ?_
  refine Zb hK109 ?_
  refine Zk ?_
  refine Zl rfl (RV.cell rfl (Zx Yh hS hs6 Z8) RV.nil) rfl ?_
  obtain rfl := QJ H
  have hS := hS.front 5 rfl
  have hS := hS.front 5 rfl
  have hS := hS.front 5 rfl
  have hS := hS.front 5 rfl
  have hS := hS.front 5 rfl
  replace hS := hS.cut 5
  exact ⟨A61, c62, A65, c66, A69, c70, A73, c74, A77, c78, by (repeat rw [(Zcc rfl)]); rfl, k63, k67, (k_set k71), k75, k79, hS.eqv (by (repeat rw [(Zcc rfl)]); rfl)⟩
 replace H := Zq H hb
 refine Za rfl rfl rfl (yv_lookup (kt := 4) (e := 1) rfl rfl (by kernel_rfl) (by kernel_rfl) rfl (Zgy _) hS hs0 trivial) ?_
 refine Za2 rfl rfl rfl rfl (by kernel_rfl) rfl ?_
 show Calls _ _ #[_, _, _, _] _ _
 refine gw_enter4 Try.func91 rfl Try.ntmps91 rfl ?_
 refine Zd (fun K hK102 => ?_)
 refine Yg 13 [12] (fun i b => (i = 12 → b = b6 ∨ b = b4 ∨ b = b2 ∨ b = b92 ∨ b = b95)) ⟨by kernel_rfl, by kernel_rfl⟩ hS (fun w hS hB => ?_)
 refine Zn [true, true, true, true, true, true, true, true] (by decide +kernel) PFC.h ?_
 refine LtK.put rfl rfl rfl (Zh sc_110 rfl (Zgz _) hS Zei trivial Y7) ?_
 refine LtK.put rfl rfl rfl (Zh sc_110 rfl (Zgz _) hS Zei trivial Y7) ?_
 refine LtK.put rfl rfl rfl (Zbh rfl (Rd.el (hS.row_rd hs4) Yl hi91b)) ?_
 refine LtK.put rfl rfl rfl (X1 Z0 rfl (Zgz _) (Rd.el (hS.row_rd hs4) Yl hi91b) rfl) ?_
 refine LtK.put rfl rfl rfl (Ze Vx rfl) ?_
 refine LtK.put rfl rfl rfl (Zh Z0 rfl (Zgz _) hS hs7 trivial Js) ?_
 refine LtK.put rfl rfl rfl (Ze Yz rfl) ?_
 refine LtK.put rfl rfl rfl (Zi Yr rfl (Zgz _) hS hs8 trivial Jw) ?_
 refine LtK.nil ?_
 refine Z4 [false, false, false, false, false, false, false, false, true] 8 ⟨by decide, by kernel_rfl, by kernel_rfl⟩ rfl rfl ?_
 try dsimp only [Zw]
 obtain ⟨r103, hm104, H⟩ := bind_some H
 refine Zo rfl rfl rfl rfl (by kernel_rfl) rfl (Zdq r59.tuple A61 c62 _ (Zg1 k63 (hS.rd Xr) (hS.rd_blk Xr)) hm104) ?_
 rintro e w ⟨rfl, hN⟩; refine ⟨_, rfl, ?_⟩; obtain ⟨hB, hS⟩ := hS.jn hN
 refine Zg ?_
 refine Z7 hB ?_
 refine Zn [false, false, false, false, false, false, false, false, false, true, true, true] (by decide +kernel) PFC.h ?_
 refine LtK.put rfl rfl rfl (Zer rfl rfl) ?_
 refine LtK.put rfl rfl rfl (Zfp rfl rfl) ?_
 refine LtK.put rfl rfl rfl (Zbh rfl (Rd.el (hS.row_rd hs4) Yl hi91b)) ?_
 refine LtK.nil ?_
 refine Yp [false, false, false, false, false, false, false, false, false, false, false, false, true] 12 ⟨by decide, by kernel_rfl, by kernel_rfl⟩ rfl rfl ?_
 try dsimp only [Zw]
 refine Zgc (a' := (max e89 (min x1.last r103))) (zs := (Zen r59.mtch (IntKind.wrap .i64 (x1.frm - 1)) (max e89 (min x1.last r103)))) Yl rfl rfl rfl CellsOf.int hS ps4 (Rd.el (hS.row_rd hs4) Yl hi91b) hi91a hi91b rfl st0_1 (by kernel_rfl) rfl (fun w hS hB => ?_)
 have hi105b := setI_at (a := (max e89 (min x1.last r103))) hi91a hi91b
 have hi105a := hi91a
 refine Zg ?_
 refine Ye (hB.sub (fun b _ h => by have h0 : b = b6 ∨ b = b4 ∨ b = b2 ∨ b = b92 ∨ b = b95 := (by simpa using h); rcases h0 with h0 | h0 | h0 | h0 | h0; (rw [h0]; exact hS.neRow 6 4 rfl rfl); (rw [h0]; exact hS.neRow 7 4 rfl rfl); (rw [h0]; exact hS.neRow 8 4 rfl rfl); (rw [h0]; exact hS.neRow 9 4 rfl rfl); (rw [h0]; exact hS.neRow 10 4 rfl rfl))) ?_
 refine Z6 (by kernel_rfl) ?_
 refine Zb hK102 ?_
 refine Yg 11 [10] (fun i b => (i = 10 → b = b6 ∨ b = b4 ∨ b = b2 ∨ b = b92 ∨ b = b95)) ⟨by kernel_rfl, by kernel_rfl⟩ hS (fun w hS hB => ?_)
 refine Zn [true, true, true, true, true, true, true, true, true, true] (by decide +kernel) PFC.h ?_
 refine LtK.put rfl rfl rfl (Zh sc_110 rfl (Zgz _) hS hs9 trivial Y7) ?_
 refine LtK.put rfl rfl rfl (Zh sc_110 rfl (Zgz _) hS hs9 trivial Y7) ?_
 refine LtK.put rfl rfl rfl (Zbh rfl (Rd.el (hS.row_rd hs3) Yl hi88b)) ?_
 refine LtK.put rfl rfl rfl (X1 Z0 rfl (Zgz _) (Rd.el (hS.row_rd hs3) Yl hi88b) rfl) ?_
 refine LtK.put rfl rfl rfl (Zh sc_110 rfl (Zgz _) hS Zei trivial Y7) ?_
 refine LtK.put rfl rfl rfl (Zbh rfl (Rd.el (hS.row_rd hs4) Yl hi105b)) ?_
 refine LtK.put rfl rfl rfl (X1 Z0 rfl (Zgz _) (Rd.el (hS.row_rd hs4) Yl hi105b) rfl) ?_
 refine LtK.put rfl rfl rfl (Xf rfl rfl) ?_
 refine LtK.put rfl rfl rfl (Zfp rfl rfl) ?_
 refine LtK.put rfl rfl rfl (Zbh rfl (Rd.el (hS.row_rd hs3) Yl hi88b)) ?_
 refine LtK.nil ?_
 refine Yp [false, false, false, false, false, false, false, false, false, false, true] 10 ⟨by decide, by kernel_rfl, by kernel_rfl⟩ rfl rfl ?_
 try dsimp only [Zw]
 refine Zgc (a' := (max e86 (IntKind.wrap .i64 ((max e89 (min x1.last r103)) + 1)))) (zs := (Zen r59.next (IntKind.wrap .i64 (x1.frm - 1)) (max e86 (IntKind.wrap .i64 ((max e89 (min x1.last r103)) + 1))))) Yl rfl rfl rfl CellsOf.int hS ps3 (Rd.el (hS.row_rd hs3) Yl hi88b) hi88a hi88b rfl st0_1 (by kernel_rfl) rfl (fun w hS hB => ?_)
 have hi106b := setI_at (a := (max e86 (IntKind.wrap .i64 ((max e89 (min x1.last r103)) + 1)))) hi88a hi88b
 have hi106a := hi88a
 refine Zg ?_
 refine Ye (hB.sub (fun b _ h => by have h0 : b = b6 ∨ b = b4 ∨ b = b2 ∨ b = b92 ∨ b = b95 := (by simpa using h); rcases h0 with h0 | h0 | h0 | h0 | h0; (rw [h0]; exact hS.neRow 6 3 rfl rfl); (rw [h0]; exact hS.neRow 7 3 rfl rfl); (rw [h0]; exact hS.neRow 8 3 rfl rfl); (rw [h0]; exact hS.neRow 9 3 rfl rfl); (rw [h0]; exact hS.neRow 10 3 rfl rfl))) ?_
 refine Z6 (by kernel_rfl) ?_
 refine Zcs rfl RV.nil rfl ?_
 refine ⟨_, rfl, ?_⟩
 refine Zg ?_
 refine Zb hK101 ?_
 refine Zd (fun K hK107 => ?_)
 refine Zf ?_
 refine Za rfl rfl rfl (Zi Yh rfl (Zgy _) hS hs8 trivial Z8) ?_
 refine Zm rfl rfl rfl CellsOf.agg hS ps6 Yy (by kernel_rfl) rfl (fun w hS hB => ?_)
 refine Zg ?_
 refine Zb hK107 ?_
 refine Zk ?_
 refine Zl rfl (RV.cell rfl (Zx Yh hS hs6 Z8) RV.nil) rfl ?_
 obtain rfl := QJ H
 have hS := hS.front 5 rfl
 have hS := hS.front 5 rfl
 have hS := hS.front 5 rfl
 have hS := hS.front 5 rfl
 have hS := hS.front 5 rfl
 replace hS := hS.cut 5
 exact ⟨A61, c62, A65, c66, A69, c70, A73, c74, A77, c78, by (repeat rw [(Zcc rfl)]); rfl, k63, k67, (k_set k71), (k_set k75), k79, hS.eqv (by (repeat rw [(Zcc rfl)]); rfl)⟩
theorem c_repl_Beat (x0 : Co) (A0_ : OA) (c0_ : Nat) (A1_ : OA) (c1_ : Nat) (A2_ : OA) (c2_ : Nat) (A3_ : OA) (c3_ : Nat) (A4_ : OA) (c4_ : Nat) (w0 : World) (s0_ : SlI w0 Jv A0_ c0_ x0.tuple.log) (s1_ : SlI w0 enO A1_ c1_ x0.votes) (s2_ : SlI w0 V9 A2_ c2_ x0.next) (s3_ : SlI w0 V9 A3_ c3_ x0.mtch) (s4_ : SlI w0 V9 A4_ c4_ x0.caps) {r : List Ms} (H : m_repl_Beat x0 = some r) : Calls Try.prog 56 #[.agg #[.int .i64 x0.id, .int .i64 x0.n, .int .u8 x0.role, .int .i64 x0.binary, .int .i64 x0.tuple.snap.index, .int .i64 x0.tuple.snap.term, .int .i64 x0.tuple.snap.sum, .int .i64 x0.tuple.snap.level, .bool x0.tuple.snap.final, .slice A0_ x0.tuple.log.length c0_, .int .i64 x0.tuple.term, .int .i64 x0.tuple.vote, .int .i64 x0.commit, .int .i64 x0.applied.index, .int .i64 x0.applied.term, .int .i64 x0.applied.sum, .int .i64 x0.applied.level, .bool x0.applied.final, .slice A1_ x0.votes.length c1_, .slice A2_ x0.next.length c2_, .slice A3_ x0.mtch.length c3_, .slice A4_ x0.caps.length c4_]] w0 fun e w' => ∃ (A0 : OA) (c0 : Nat) (q0 : List Mq), e = .returned (.slice A0 r.length c0) ∧ (r.length ≤ c0 ∧ c0 ≤ maxLen) ∧ q0.map Mq.m = r ∧ (∀ y ∈ q0, okQ y) ∧ St0 All w0 w' [.rd A0 (Yf enQ q0), .rds (q0.map subQ)] := by
 unfold m_repl_Beat at H
 refine Yn Try.func56 rfl Try.ntmps56 rfl ?_
 have hS := St0.start All w0
 refine Zd (fun K hK1 => ?_)
 refine Zf ?_
 refine Yd rfl rfl rfl CellsOf.agg hS (fun b2 w hS hB => ?_)
 refine Zc 1 rfl ?_
 refine Zg ?_
 refine Zb hK1 ?_
 refine Zd (fun K hK4 => ?_)
 refine Zd (fun K hK5 => ?_)
 refine Zf ?_
 refine Za rfl rfl rfl (Ze Jc rfl) ?_
 refine Za rfl rfl rfl (Zh Z0 rfl (Zgy _) hS hs0 trivial Vo) ?_
 refine Za rfl rfl rfl (Zfp rfl rfl) ?_
 refine Za rfl rfl rfl (Zer rfl rfl) ?_
 refine Zc 1 rfl ?_
 refine Zg ?_
 refine Zb hK5 ?_
 refine Yc ?_
 replace hS := hS.nilRds
 replace hS := hS.nilRow 36 15
 refine V0 (X := Nat × List Ms × OA × Nat × List Mq × Int) (fun x => (1, .pointer (some ⟨b2, 0, none⟩)) :: (2, .slice x.2.2.1 x.2.1.length x.2.2.2.1) :: (9, .int .i64 (min (max x0.n 0) 5)) :: (10, .int .i64 x.2.2.2.2.2) :: []) (fun x w => St0 All w0 w (.row (.slice x.2.2.1 x.2.1.length x.2.2.2.1) 36 15 x.2.1.length (Yf enQ x.2.2.2.2.1) :: .rds (x.2.2.2.2.1.map subQ) :: .box b2 [.int .i64 x0.id, .int .i64 x0.n, .int .u8 x0.role, .int .i64 x0.binary, .int .i64 x0.tuple.snap.index, .int .i64 x0.tuple.snap.term, .int .i64 x0.tuple.snap.sum, .int .i64 x0.tuple.snap.level, .bool x0.tuple.snap.final, .slice A0_ x0.tuple.log.length c0_, .int .i64 x0.tuple.term, .int .i64 x0.tuple.vote, .int .i64 x0.commit, .int .i64 x0.applied.index, .int .i64 x0.applied.term, .int .i64 x0.applied.sum, .int .i64 x0.applied.level, .bool x0.applied.final, .slice A1_ x0.votes.length c1_, .slice A2_ x0.next.length c2_, .slice A3_ x0.mtch.length c3_, .slice A4_ x0.caps.length c4_] 30 :: []) ∧ (x.2.1.length ≤ x.2.2.2.1 ∧ x.2.2.2.1 ≤ maxLen) ∧ (x.2.2.2.2.1.map Mq.m = x.2.1) ∧ (∀ y ∈ x.2.2.2.2.1, okQ y) ∧ Zce x0 x.1 x.2.1 x.2.2.2.2.2 = some r) (fun x => x.1) (Xn, [], none, 0, ([] : List Mq), 0) (by repeat (first | exact Sub.nil | refine Sub.cons rfl ?_)) ⟨hS, ⟨Nat.le_refl _, Nat.zero_le _⟩, rfl, Vf, H⟩ ?_
 rintro ⟨n, v6, A7, c8, q10, v15⟩ w ⟨hS, k9, hq11, okq12, H⟩
 dsimp only at hS k9 hq11 okq12 H ⊢
 obtain _ | n := n
 ·have H0 : none = some r := H
  cases H0
 rw [Zce] at H
 refine Zd (fun K hK16 => ?_)
 refine Zf ?_
 refine Za rfl rfl rfl (Xh rfl rfl) ?_
 refine Zg ?_
 refine Zb hK16 ?_
 refine Zd (fun K hK17 => ?_)
 refine Zz rfl (fun hb => ?_) (fun hb => ?_)
 rotate_left
 ·replace H := Zp H hb
  refine Vj ?_
  refine Ya ?_
  refine Ya ?_
  refine Y3 ?_
  refine Zb hK4 ?_
  refine Zd (fun K hK39 => ?_)
  refine Zf ?_
  refine Zc 2 rfl ?_
  refine Zg ?_
  refine Zb hK39 ?_
  refine Zk ?_
  refine Zl rfl (RV.tmp rfl RV.nil) rfl ?_
  obtain rfl := QJ H
  have hS := hS.front 1 rfl
  replace hS := hS.front 1 rfl
  replace hS := hS.weak Weak.rowRd
  replace hS := hS.cut 2
  exact ⟨A7, c8, q10, rfl, k9, hq11, okq12, hS⟩
 replace H := Zq H hb
 refine Zt ?_
 refine Zb hK17 ?_
 refine Zd (fun K hK18 => ?_)
 refine Yc ?_
 refine Zd (fun K hK19 => ?_)
 refine Zf ?_
 refine Zc 2 rfl ?_
 refine Zg ?_
 refine Zb hK19 ?_
 refine Zd (fun K hK20 => ?_)
 refine Zf ?_
 refine Za rfl rfl rfl (Zi Yh rfl (Zgy _) hS X0 trivial Z8) ?_
 refine Zc 1 rfl ?_
 refine Za rfl rfl rfl (Xf rfl rfl) ?_
 obtain ⟨r21, hm22, H⟩ := bind_some H
 refine Zo rfl rfl rfl rfl (by kernel_rfl) rfl (Zdp x0 (IntKind.wrap .i64 (v15 + 1)) A0_ c0_ A1_ c1_ A2_ c2_ A3_ c3_ A4_ c4_ _ (Zg1 s0_.k (hS.rd0 s0_.rd) (hS.blk0 s0_.blk)) (Zg1 s1_.k (hS.rd0 s1_.rd) (hS.blk0 s1_.blk)) (Zg1 s2_.k (hS.rd0 s2_.rd) (hS.blk0 s2_.blk)) (Zg1 s3_.k (hS.rd0 s3_.rd) (hS.blk0 s3_.blk)) (Zg1 s4_.k (hS.rd0 s4_.rd) (hS.blk0 s4_.blk)) hm22) ?_
 rintro e w ⟨A23, c24, rfl, k25, hN⟩; refine ⟨_, rfl, ?_⟩; obtain ⟨hB, hS⟩ := hS.jn hN
 refine Zc 1 rfl ?_
 refine Za rfl rfl rfl (Z1 rfl rfl) ?_
 refine Za rfl rfl rfl (Z1 rfl rfl) ?_
 refine Yb rfl rfl J9 hS (fun b27 w hS hB => ?_)
 refine Zm rfl rfl rfl CellsOf.agg hS ps0 Zd7 (by kernel_rfl) rfl (fun w hS hB => ?_)
 refine Zc 1 rfl ?_
 refine Zg ?_
 refine Zb hK20 ?_
 refine Zd (fun K hK29 => ?_)
 refine Zf ?_
 refine Zc 1 rfl ?_
 refine Zg ?_
 refine Zb hK29 ?_
 refine Zz rfl (fun hb => ?_) (fun hb => ?_)
 rotate_left
 ·replace H := Zp H hb
  refine Zt ?_
  refine Z2 ?_
  refine Zb hK18 ?_
  refine Zf ?_
  refine Za rfl rfl rfl (Xf rfl rfl) ?_
  refine Zc 1 rfl ?_
  refine Zg ?_
  exact Va (n, v6, A7, c8, q10, (IntKind.wrap .i64 (v15 + 1))) (by repeat (first | exact Sub.nil | refine Sub.cons rfl ?_)) ⟨(hS.sub (List.Sublist.cons _ (List.Sublist.cons _ (List.Sublist.cons_cons _ (List.Sublist.cons_cons _ (List.Sublist.cons_cons _ List.Sublist.slnil)))))), k9, hq11, okq12, H⟩ (Nat.lt_succ_self _)
 replace H := Zq H hb
 refine Zf ?_
 refine Zc 1 rfl ?_
 refine Za rfl rfl rfl (Zi Vp rfl (Zgy _) hS hs0 trivial Xv) ?_
 refine Yx (ps := [(0, .tmp 22)]) [.int .u8 r21.1.kind, .int .i64 r21.1.frm, .int .i64 r21.1.dst, .int .i64 r21.1.term, .int .i64 r21.1.cap, .int .i64 r21.1.last, .int .i64 r21.1.lastTerm, .int .i64 r21.1.commit, .bool r21.1.okk, .slice A23 r21.1.entries.length c24, .int .i64 r21.1.snap.index, .int .i64 r21.1.snap.term, .int .i64 r21.1.snap.sum, .int .i64 r21.1.snap.level, .bool r21.1.snap.final] Je J9 rfl rfl rfl rfl rfl (by kernel_rfl) hS (fun b30 w hS hB => ?_)
 obtain ⟨l32, hf33, H⟩ := bind_some H
 refine wpX_appendQ (l := v6) (q := q10) (y := ⟨r21.1, A23, c24⟩) em_32 (by decide) rfl rfl rfl rfl hS hq11 (fun _ => ps3) (hS.box_rd hs0) hf33 (fun A34 c35 w k36 hS hq37 hB => ?_)
 have okq38 := okq_snoc okq12 (show okQ ⟨r21.1, A23, c24⟩ from k25)
 replace hS := hS.front 4 rfl
 replace hS := hS.front 3 rfl
 replace hS := hS.weak Weak.rowRd
 replace hS := hS.absorbQ ⟨r21.1, A23, c24⟩
 replace hS := hS.front 3 rfl
 refine Zc 1 rfl ?_
 refine Zg ?_
 refine Z2 ?_
 refine Zb hK18 ?_
 refine Zf ?_
 refine Za rfl rfl rfl (Xf rfl rfl) ?_
 refine Zc 1 rfl ?_
 refine Zg ?_
 exact Va (n, l32, A34, c35, (q10 ++ [⟨r21.1, A23, c24⟩]), (IntKind.wrap .i64 (v15 + 1))) (by repeat (first | exact Sub.nil | refine Sub.cons rfl ?_)) ⟨(hS.sub (List.Sublist.cons_cons _ (List.Sublist.cons_cons _ (List.Sublist.cons _ (List.Sublist.cons _ (List.Sublist.cons_cons _ List.Sublist.slnil)))))), k36, hq37, okq38, H⟩ (Nat.lt_succ_self _)
theorem Vg (w0 : World) {r : Bool} (H : Xu = some r) : Calls Try.prog 26 #[] w0 fun e w' => e = .returned (.bool r) ∧ St0 All w0 w' [] := by
 unfold Xu at H
 refine gw_enter0 Try.func26 rfl Try.ntmps26 rfl ?_
 have hS := St0.start All w0
 refine Zd (fun K hK1 => ?_)
 refine Zf ?_
 refine Zc 1 rfl ?_
 refine Zg ?_
 refine Zb hK1 ?_
 refine Zd (fun K hK2 => ?_)
 refine Zf ?_
 refine Za rfl rfl rfl (Xw (cells := [.int .i64 0, .int .i64 0, .int .i64 0, .int .i64 1, .bool false]) rfl (by kernel_rfl)) ?_
 refine Za rfl rfl rfl (Xw (cells := [.int .i64 1, .int .i64 0, .int .i64 0]) rfl (by kernel_rfl)) ?_
 refine Yx (ps := [(0, .tmp 11)]) [.int .i64 1, .int .i64 0, .int .i64 0] Y6 Zb6 rfl rfl rfl rfl rfl (by kernel_rfl) hS (fun b3 w hS hB => ?_)
 refine Za rfl rfl rfl (Xw (cells := [.int .i64 0, .int .i64 0, .int .i64 0, .int .i64 1, .bool false, .slice (some ⟨b3, 0, none⟩) ([(⟨1, 0, 0⟩ : En)] : List En).length 1, .int .i64 1, .int .i64 1]) rfl (by kernel_rfl)) ?_
 refine Yb rfl rfl Zey hS (fun b5 w hS hB => ?_)
 refine Zm rfl rfl rfl CellsOf.agg hS ps0 Zb0 (by kernel_rfl) rfl (fun w hS hB => ?_)
 refine Zg ?_
 refine Zb hK2 ?_
 refine Zd (fun K hK7 => ?_)
 refine Zf ?_
 refine Za rfl rfl rfl (Zi Yr rfl (Zgy _) hS hs0 trivial Vl) ?_
 obtain ⟨r8, hm9, H⟩ := bind_some H
 refine Zo rfl rfl rfl rfl (by kernel_rfl) rfl (Zf9 1 3 2 (⟨(⟨0, 0, 0, 1, false⟩ : St), ([(⟨1, 0, 0⟩ : En)] : List En), 1, 1⟩ : Tu) (some ⟨b3, 0, none⟩) 1 _ (Zg1 ⟨Nat.le_refl 1, by decide⟩ (hS.box_rd Xr) (hS.box_blk Xr)) hm9) ?_
 rintro e w ⟨A10, c11, A14, c15, A18, c19, A22, c23, A26, c27, rfl, k12, k16, k20, k24, k28, hN⟩; refine ⟨_, rfl, ?_⟩; obtain ⟨hB, hS⟩ := hS.jn hN
 refine Yb rfl rfl Zex hS (fun b30 w hS hB => ?_)
 refine Zm rfl rfl rfl CellsOf.agg hS ps0 Yy (by kernel_rfl) rfl (fun w hS hB => ?_)
 refine Zg ?_
 refine Zb hK7 ?_
 refine Zd (fun K hK32 => ?_)
 refine Zf ?_
 refine Za rfl rfl rfl (Zi Yh rfl (Zgy _) hS hs0 trivial Z8) ?_
 obtain ⟨r33, hm34, H⟩ := bind_some H
 refine Zo rfl rfl rfl rfl (by kernel_rfl) rfl (Zdp r8 2 A10 c11 A14 c15 A18 c19 A22 c23 A26 c27 _ (Zg1 k12 (hS.row_rd Xr) (hS.row_blk Xr)) (Zg1 k16 (hS.row_rd X0) (hS.row_blk X0)) (Zg1 k20 (hS.row_rd hs3) (hS.row_blk hs3)) (Zg1 k24 (hS.row_rd hs4) (hS.row_blk hs4)) (Zg1 k28 (hS.row_rd hs5) (hS.row_blk hs5)) hm34) ?_
 rintro e w ⟨A35, c36, rfl, k37, hN⟩; refine ⟨_, rfl, ?_⟩; obtain ⟨hB, hS⟩ := hS.jn hN
 refine Zc 1 rfl ?_
 refine Za rfl rfl rfl (Z1 rfl rfl) ?_
 refine Za rfl rfl rfl (Z1 rfl rfl) ?_
 refine Yb rfl rfl J9 hS (fun b39 w hS hB => ?_)
 refine Zm rfl rfl rfl CellsOf.agg hS ps0 Zd7 (by kernel_rfl) rfl (fun w hS hB => ?_)
 refine Zc 1 rfl ?_
 refine Zg ?_
 refine Zb hK32 ?_
 refine Zd (fun K hK41 => ?_)
 refine Zf ?_
 refine Za rfl rfl rfl (Ze Zcj rfl) ?_
 refine Zm rfl rfl rfl CellsOf.int hS ps2 st2_1 (by kernel_rfl) rfl (fun w hS hB => ?_)
 refine Zg ?_
 refine Zb hK41 ?_
 refine Zd (fun K hK42 => ?_)
 refine Zf ?_
 refine Yx (ps := [(0, .const (.int .i64 1)), (1, .const (.int .i64 1)), (2, .const (.int .i64 1))]) [.int .i64 1, .int .i64 1, .int .i64 1] Xm zc_3 rfl rfl rfl rfl rfl (by kernel_rfl) hS (fun b43 w hS hB => ?_)
 refine Za rfl rfl rfl (Ze Vm rfl) ?_
 refine Zm rfl rfl rfl CellsOf.slice hS ps3 st19_1 (by kernel_rfl) rfl (fun w hS hB => ?_)
 refine Zg ?_
 refine Zb hK42 ?_
 refine Zd (fun K hK45 => ?_)
 refine Zf ?_
 refine Za rfl rfl rfl (Zi Yh rfl (Zgy _) hS hs3 trivial Z8) ?_
 obtain ⟨r46, hm47, H⟩ := bind_some H
 refine Zo rfl rfl rfl rfl (by kernel_rfl) rfl (Zdp (⟨r8.id, r8.n, 2, r8.binary, r8.tuple, r8.commit, r8.applied, r8.votes, ([1, 1, 1] : List Int), r8.mtch, r8.caps⟩ : Co) 2 A10 c11 A14 c15 (some ⟨b43, 0, none⟩) 3 A22 c23 A26 c27 _ (Zg1 k12 (hS.row_rd hs4) (hS.row_blk hs4)) (Zg1 k16 (hS.row_rd hs5) (hS.row_blk hs5)) (Zg1 ⟨Nat.le_refl 3, by decide⟩ (hS.box_rd hs0) (hS.box_blk hs0)) (Zg1 k24 (hS.row_rd hs7) (hS.row_blk hs7)) (Zg1 k28 (hS.row_rd hs8) (hS.row_blk hs8)) hm47) ?_
 rintro e w ⟨A48, c49, rfl, k50, hN⟩; refine ⟨_, rfl, ?_⟩; obtain ⟨hB, hS⟩ := hS.jn hN
 refine Zc 1 rfl ?_
 refine Za rfl rfl rfl (Z1 rfl rfl) ?_
 refine Za rfl rfl rfl (Z1 rfl rfl) ?_
 refine Yb rfl rfl J9 hS (fun b52 w hS hB => ?_)
 refine Zm rfl rfl rfl CellsOf.agg hS ps0 Zd7 (by kernel_rfl) rfl (fun w hS hB => ?_)
 refine Zc 1 rfl ?_
 refine Zg ?_
 refine Zb hK45 ?_
 refine Zd (fun K hK54 => ?_)
 refine Yg 10 [8] (fun i b => (i = 8 → b = b52 ∨ b = b43 ∨ b = b39 ∨ b = b30 ∨ b = b5 ∨ b = b3)) ⟨by kernel_rfl, by kernel_rfl⟩ hS (fun w hS hB => ?_)
 refine Zd8 [⟨7, 7, 30, [.int .i64 0, .int .i64 0, .int .u8 0, .int .i64 0, .int .i64 0, .int .i64 0, .int .i64 0, .int .i64 0, .bool false, .slice none 0 0, .int .i64 0, .int .i64 0, .int .i64 0, .int .i64 0, .int .i64 0, .int .i64 0, .int .i64 0, .bool false, .slice none 0 0, .slice none 0 0, .slice none 0 0, .slice none 0 0]⟩] (.cons rfl Zex rfl rfl rfl .nil) hS (fun hok => ?_)
 dsimp only [List.cons_append, List.nil_append]
 refine Ji [false, false, true] [] (fun _ => True) (by decide +kernel) (fun _ h => by cases h) PFC.h (fun X Y tk ht w hS => ?_)
 refine LtK.put rfl rfl rfl (Zi Vp rfl (Zg0 _ _) hS hs0 trivial Xv) ?_
 refine Zds ht hS (by repeat (first | exact App.nil | apply App.cons)) (by repeat (first | exact App.nil | apply App.cons)) ?_
 dsimp only [List.cons_append, List.nil_append]
 refine Zch [true] 0 hok ⟨by decide, by decide +kernel, by decide, by decide⟩ rfl rfl (fun _ => rfl) (fun _ => rfl) rfl (Ze5 (by decide +kernel)) (fun X Y tk ht w hS => ?_)
 try dsimp only [Zw]
 obtain ⟨r55, hm56, H⟩ := bind_some H
 refine Zo rfl rfl rfl rfl (by kernel_rfl) rfl (c_ref12_First _ hm56) ?_
 rintro e w ⟨A57, c58, rfl, k59, hN⟩; refine ⟨_, rfl, ?_⟩; obtain ⟨hB, hS⟩ := hS.jn hN
 refine Zg ?_
 refine Zcp ht hS hB (by repeat (first | exact App.nil | apply App.cons)) (by repeat (first | exact App.nil | apply App.cons)) ?_
 dsimp only [List.cons_append, List.nil_append]
 refine Zch [false, true] 1 hok ⟨by decide, by decide +kernel, by decide, by decide⟩ rfl rfl (fun _ => rfl) (fun _ => rfl) rfl (Ze5 (by decide +kernel)) (fun X Y tk ht w hS => ?_)
 try dsimp only [Zw]
 obtain ⟨r61, hm62, H⟩ := bind_some H
 refine Zo rfl rfl rfl rfl (by kernel_rfl) rfl (Zf9 2 3 1 r55 A57 c58 _ (Zg1 k59 (hS.rd hs0) (hS.rd_blk hs0)) hm62) ?_
 rintro e w ⟨A63, c64, A67, c68, A71, c72, A75, c76, A79, c80, rfl, k65, k69, k73, k77, k81, hN⟩; refine ⟨_, rfl, ?_⟩; obtain ⟨hB, hS⟩ := hS.jn hN
 refine Zg ?_
 refine Zcp ht hS hB (by repeat (first | exact App.nil | apply App.cons)) (by repeat (first | exact App.nil | apply App.cons)) ?_
 dsimp only [List.cons_append, List.nil_append]
 refine Zch [false, false, false, true] 3 hok ⟨by decide, by decide +kernel, by decide, by decide⟩ rfl rfl (fun _ => rfl) (fun _ => rfl) rfl (Ze5 (by decide +kernel)) (fun X Y tk ht w hS => ?_)
 try dsimp only [Zw]
 obtain ⟨r83, hm84, H⟩ := bind_some H
 refine Zo rfl rfl rfl rfl (by kernel_rfl) rfl (Zgf r61 r46.1 A63 c64 A67 c68 A71 c72 A75 c76 A79 c80 A48 c49 _ (Zg1 k65 (hS.row_rd hs0) (hS.row_blk hs0)) (Zg1 k69 (hS.row_rd Xr) (hS.row_blk Xr)) (Zg1 k73 (hS.row_rd X0) (hS.row_blk X0)) (Zg1 k77 (hS.row_rd hs3) (hS.row_blk hs3)) (Zg1 k81 (hS.row_rd hs4) (hS.row_blk hs4)) (Zg1 k50 (hS.row_rd hs7) (hS.row_blk hs7)) hm84) ?_
 rintro e w ⟨A85, c86, A89, c90, A93, c94, A97, c98, A101, c102, A105, c106, q109, rfl, k87, k91, k95, k99, k103, k107, hq110, okq111, hN⟩; refine ⟨_, rfl, ?_⟩; obtain ⟨hB, hS⟩ := hS.jn hN
 refine Zg ?_
 refine Zcp ht hS hB (by repeat (first | exact App.nil | apply App.cons)) (by repeat (first | exact App.nil | apply App.cons)) ?_
 dsimp only [List.cons_append, List.nil_append]
 refine Ji [false, false, false, false, true, true] [] (fun _ => True) (by decide +kernel) (fun _ h => by cases h) PFC.h (fun X Y tk ht w hS => ?_)
 refine LtK.put rfl rfl rfl (Zs rfl) ?_
 refine LtK.put rfl rfl rfl (Z1 rfl rfl) ?_
 refine Zds ht hS (by repeat (first | exact App.nil | apply App.cons)) (by repeat (first | exact App.nil | apply App.cons)) ?_
 dsimp only [List.cons_append, List.nil_append]
 refine Ji [false, false, false, false, false, false, true] [8] (fun b => (b = b52 ∨ b = b43 ∨ b = b39 ∨ b = b30 ∨ b = b5 ∨ b = b3)) (by decide +kernel) (by intro j hj b hb; simp only [List.mem_cons, List.not_mem_nil, or_false] at hj; (try rcases hj with rfl | rfl | rfl | rfl | rfl) <;> first | (simp [hb]; done) | simp_all) PFC.h (fun X Y tk ht w hS => ?_)
 refine LtK.put rfl rfl rfl (Z1 rfl rfl) ?_
 refine Zds ht hS (by repeat (first | exact App.nil | apply App.cons)) (by repeat (first | exact App.nil | apply App.cons)) ?_
 dsimp only [List.cons_append, List.nil_append]
 refine Ze8 hok (by decide) (by decide +kernel) (fun _ => rfl) (fun _ => rfl) rfl (fun tk htk w hS => ?_)
 obtain ⟨b113, tkb113, rfl, htk115⟩ := tk_cons htk
 obtain rfl := tk_nil htk115
 dsimp only [tkH, tkL, List.map] at hS ⊢
 refine Yp [false, false, false, false, false, false, false, false, true] 8 ⟨by decide, by kernel_rfl, by kernel_rfl⟩ rfl rfl ?_
 try dsimp only [Zw]
 refine Zm rfl rfl rfl CellsOf.agg hS ps26 Yy (by kernel_rfl) rfl (fun w hS hB => ?_)
 refine Zg ?_
 refine Ye (hB.sub (fun b _ h => by have h0 : b = b52 ∨ b = b43 ∨ b = b39 ∨ b = b30 ∨ b = b5 ∨ b = b3 := (by simpa using h); rcases h0 with h0 | h0 | h0 | h0 | h0 | h0; (rw [h0]; exact hS.ne 13 26 rfl rfl rfl); (rw [h0]; exact hS.ne 15 26 rfl rfl rfl); (rw [h0]; exact hS.ne 16 26 rfl rfl rfl); (rw [h0]; exact hS.ne 18 26 rfl rfl rfl); (rw [h0]; exact hS.ne 24 26 rfl rfl rfl); (rw [h0]; exact hS.ne 25 26 rfl rfl rfl))) ?_
 refine Zn [false, false, false, false, false, false, false, false, false, true] (by decide +kernel) PFC.h ?_
 refine LtK.put rfl rfl rfl (Zy rfl) ?_
 refine LtK.nil ?_
 refine Z6 (by kernel_rfl) ?_
 refine Zb hK54 ?_
 refine Zd (fun K hK116 => ?_)
 refine Zd (fun K hK117 => ?_)
 refine Zf ?_
 refine Zc 1 rfl ?_
 refine Za rfl rfl rfl (Yu Je rfl) ?_
 refine Za rfl rfl rfl (Y5 rfl rfl) ?_
 refine Zg ?_
 refine Zb hK117 ?_
 refine Zz rfl (fun hb => ?_) (fun hb => ?_)
 ·replace H := Zq H hb
  refine Zd (fun K hK118 => ?_)
  refine Zf ?_
  refine Zc 1 rfl ?_
  refine Zg ?_
  refine Zb hK118 ?_
  refine Zk ?_
  refine Zj ?_
  refine Zl rfl (RV.tmp rfl RV.nil) rfl ?_
  obtain rfl := QJ H
  replace hS := hS.cut 0
  exact ⟨rfl, hS⟩
 replace H := Zp H hb
 refine Zt ?_
 refine Zb hK116 ?_
 refine Zd (fun K hK119 => ?_)
 refine Yg 7 [6] (fun i b => (i = 6 → b = b52 ∨ b = b43 ∨ b = b39 ∨ b = b30 ∨ b = b5 ∨ b = b3 ∨ b = b113)) ⟨by kernel_rfl, by kernel_rfl⟩ hS (fun w hS hB => ?_)
 refine Zd8 [⟨5, 9, 30, [.int .i64 0, .int .i64 0, .int .u8 0, .int .i64 0, .int .i64 0, .int .i64 0, .int .i64 0, .int .i64 0, .bool false, .slice none 0 0, .int .i64 0, .int .i64 0, .int .i64 0, .int .i64 0, .int .i64 0, .int .i64 0, .int .i64 0, .bool false, .slice none 0 0, .slice none 0 0, .slice none 0 0, .slice none 0 0]⟩] (.cons rfl Zex rfl rfl rfl .nil) hS (fun hok => ?_)
 dsimp only [List.cons_append, List.nil_append]
 refine Ji [true, true, true, true] [] (fun _ => True) (by decide +kernel) (fun _ h => by cases h) PFC.h (fun X Y tk ht w hS => ?_)
 refine LtK.put rfl rfl rfl (Zi Yh rfl (Zg0 _ _) hS hs18 trivial Z8) ?_
 refine LtK.put rfl rfl rfl (Zs rfl) ?_
 obtain ⟨e120, hi122, H⟩ := bind_some H
 obtain ⟨j121, A123, c124, hi122a, hi122b, hi122c⟩ := idxQ (q := q109) hq110 hi122
 refine LtK.put rfl rfl rfl (Y8 Je rfl rfl hi122a hi122c (Rd.el (hS.rd hs5) V1 hi122b)) ?_
 refine LtK.put rfl rfl rfl (Ze6 Vp rfl (Zg0 _ _) (Rd.el (hS.rd hs5) V1 hi122b) Xv) ?_
 refine Zds ht hS (by repeat (first | exact App.nil | apply App.cons)) (by repeat (first | exact App.nil | apply App.cons)) ?_
 dsimp only [List.cons_append, List.nil_append]
 refine Zch [false, false, false, false, true] 4 hok ⟨by decide, by decide +kernel, by decide, by decide⟩ rfl rfl (fun _ => rfl) (fun _ => rfl) rfl (Ze5 (by decide +kernel)) (fun X Y tk ht w hS => ?_)
 try dsimp only [Zw]
 obtain ⟨r125, hm126, H⟩ := bind_some H
 refine Zo rfl rfl rfl rfl (by kernel_rfl) rfl (c_repl_Told (⟨r8.id, r8.n, 2, r8.binary, r8.tuple, r8.commit, r8.applied, r8.votes, ([1, 1, 1] : List Int), r8.mtch, r8.caps⟩ : Co) e120 A10 c11 A14 c15 (some ⟨b43, 0, none⟩) 3 A22 c23 A26 c27 A123 c124 _ (Zg1 k12 (hS.row_rd hs19) (hS.row_blk hs19)) (Zg1 k16 (hS.row_rd hs20) (hS.row_blk hs20)) (Zg1 ⟨Nat.le_refl 3, by decide⟩ (hS.box_rd hs15) (hS.box_blk hs15)) (Zg1 k24 (hS.row_rd hs22) (hS.row_blk hs22)) (Zg1 k28 (hS.row_rd hs23) (hS.row_blk hs23)) (Zg1 (okq111 _ (List.mem_of_getElem? hi122b)) (hS.rds_rd hs6 hi122b) (hS.rds_blk hs6 hi122b)) hm126) ?_
 rintro e w ⟨A127, c128, A131, c132, A135, c136, A139, c140, A143, c144, rfl, k129, k133, k137, k141, k145, hN⟩; refine ⟨_, rfl, ?_⟩; obtain ⟨hB, hS⟩ := hS.jn hN
 refine Zg ?_
 refine Zcp ht hS hB (by repeat (first | exact App.nil | apply App.cons)) (by repeat (first | exact App.nil | apply App.cons)) ?_
 dsimp only [List.cons_append, List.nil_append]
 refine Ze8 hok (by decide) (by decide +kernel) (fun _ => rfl) (fun _ => rfl) rfl (fun tk htk w hS => ?_)
 obtain ⟨b147, tkb147, rfl, htk149⟩ := tk_cons htk
 obtain rfl := tk_nil htk149
 dsimp only [tkH, tkL, List.map] at hS ⊢
 refine Yp [false, false, false, false, false, false, true] 6 ⟨by decide, by kernel_rfl, by kernel_rfl⟩ rfl rfl ?_
 try dsimp only [Zw]
 refine Zm rfl rfl rfl CellsOf.agg hS ps32 Yy (by kernel_rfl) rfl (fun w hS hB => ?_)
 refine Zg ?_
 refine Ye (hB.sub (fun b _ h => by have h0 : b = b52 ∨ b = b43 ∨ b = b39 ∨ b = b30 ∨ b = b5 ∨ b = b3 ∨ b = b113 := (by simpa using h); rcases h0 with h0 | h0 | h0 | h0 | h0 | h0 | h0; (rw [h0]; exact hS.ne 18 32 rfl rfl rfl); (rw [h0]; exact hS.ne 20 32 rfl rfl rfl); (rw [h0]; exact hS.ne 21 32 rfl rfl rfl); (rw [h0]; exact hS.ne 23 32 rfl rfl rfl); (rw [h0]; exact hS.ne 29 32 rfl rfl rfl); (rw [h0]; exact hS.ne 30 32 rfl rfl rfl); (rw [h0]; exact hS.ne 31 32 rfl rfl rfl))) ?_
 refine Z6 (by kernel_rfl) ?_
 refine Zb hK119 ?_
 refine Zd (fun K hK150 => ?_)
 refine Zd (fun K hK151 => ?_)
 refine Zf ?_
 refine Za rfl rfl rfl (Ze V3 rfl) ?_
 refine Za rfl rfl rfl (Zh Xt rfl (Zgy _) hS hs32 trivial Zat) ?_
 refine Za rfl rfl rfl (Yu Xm rfl) ?_
 refine Za rfl rfl rfl (Y5 rfl rfl) ?_
 refine Zc 1 rfl ?_
 refine Zu 48 rfl (fun hb => ?_) (fun hb => ?_)
 ·replace H := Zq H hb
  refine Zc 5 rfl ?_
  refine Zg ?_
  refine Zb hK151 ?_
  refine Zr rfl rfl ?_
  refine Zd (fun K hK152 => ?_)
  refine Zf ?_
  refine Zc 1 rfl ?_
  refine Zg ?_
  refine Zb hK152 ?_
  refine Zk ?_
  refine Zj ?_
  refine Zl rfl (RV.tmp rfl RV.nil) rfl ?_
  obtain rfl := QJ H
  replace hS := hS.cut 0
  exact ⟨rfl, hS⟩
 replace H := Zp H hb
 refine Za rfl rfl rfl (Ze Vm rfl) ?_
 refine Za rfl rfl rfl (Zh Xt rfl (Zgy _) hS hs32 trivial Jz) ?_
 refine Za rfl rfl rfl (Yu Xm rfl) ?_
 refine Za rfl rfl rfl (Y5 rfl rfl) ?_
 refine Zc 1 rfl ?_
 refine Zg ?_
 refine Zb hK151 ?_
 refine Zz rfl (fun hb => ?_) (fun hb => ?_)
 ·replace H := Zq H hb
  refine Zd (fun K hK153 => ?_)
  refine Zf ?_
  refine Zc 1 rfl ?_
  refine Zg ?_
  refine Zb hK153 ?_
  refine Zk ?_
  refine Zj ?_
  refine Zl rfl (RV.tmp rfl RV.nil) rfl ?_
  obtain rfl := QJ H
  replace hS := hS.cut 0
  exact ⟨rfl, hS⟩
 replace H := Zp H hb
 refine Zt ?_
 refine Zb hK150 ?_
 refine Zd (fun K hK154 => ?_)
 refine Zf ?_
 refine Zc 1 rfl ?_
 refine Za rfl rfl rfl (Yt rfl) ?_
 refine Zc 1 rfl ?_
 refine Zu 56 rfl (fun hb => ?_) (fun hb => ?_)
 rotate_left
 ·replace H := Zp H hb
  refine Zc 60 rfl ?_
  refine Zg ?_
  refine Zb hK154 ?_
  refine Zk ?_
  refine Zl rfl (RV.tmp rfl RV.nil) rfl ?_
  obtain rfl := QJ H
  replace hS := hS.cut 0
  exact ⟨rfl, hS⟩
 replace H := Zq H hb
 refine Zc 3 rfl ?_
 refine Zu 59 rfl (fun hb => ?_) (fun hb => ?_)
 rotate_left
 ·replace H := Zp H hb
  refine Zc 57 rfl ?_
  refine Zg ?_
  refine Zb hK154 ?_
  refine Zk ?_
  refine Zl rfl (RV.tmp rfl RV.nil) rfl ?_
  obtain rfl := QJ H
  replace hS := hS.cut 0
  exact ⟨rfl, hS⟩
 replace H := Zq H hb
 refine Za rfl rfl rfl (Ze Vc rfl) ?_
 refine Za rfl rfl rfl (Zh Xp rfl (Zgy _) hS hs18 trivial Zak) ?_
 refine Za rfl rfl rfl (Yu Y6 rfl) ?_
 refine Za rfl rfl rfl (Xo rfl rfl) ?_
 refine Zc 2 rfl ?_
 refine Zu 65 rfl (fun hb => ?_) (fun hb => ?_)
 rotate_left
 ·replace H := Zp H hb
  refine Zc 51 rfl ?_
  refine Zg ?_
  refine Zb hK154 ?_
  refine Zk ?_
  refine Zl rfl (RV.tmp rfl RV.nil) rfl ?_
  obtain rfl := QJ H
  replace hS := hS.cut 0
  exact ⟨rfl, hS⟩
 replace H := Zq H hb
 refine Za rfl rfl rfl (Ze Vx rfl) ?_
 refine Za rfl rfl rfl (Zh Z0 rfl (Zgy _) hS hs18 trivial Js) ?_
 refine Za rfl rfl rfl (Xo rfl rfl) ?_
 refine Zc 2 rfl ?_
 refine Zu 70 rfl (fun hb => ?_) (fun hb => ?_)
 rotate_left
 ·replace H := Zp H hb
  refine Zc 46 rfl ?_
  refine Zg ?_
  refine Zb hK154 ?_
  refine Zk ?_
  refine Zl rfl (RV.tmp rfl RV.nil) rfl ?_
  obtain rfl := QJ H
  replace hS := hS.cut 0
  exact ⟨rfl, hS⟩
 replace H := Zq H hb
 refine Za rfl rfl rfl (Ze Yz rfl) ?_
 refine Za rfl rfl rfl (Ze Xz rfl) ?_
 refine Za rfl rfl rfl (Zh Xp rfl (Zgy _) hS hs31 trivial Zak) ?_
 refine Za rfl rfl rfl (Yu Y6 rfl) ?_
 refine Za rfl rfl rfl (Xo rfl rfl) ?_
 refine Zc 2 rfl ?_
 refine Zu 77 rfl (fun hb => ?_) (fun hb => ?_)
 rotate_left
 ·replace H := Zp H hb
  refine Zc 39 rfl ?_
  refine Zg ?_
  refine Zb hK154 ?_
  refine Zk ?_
  refine Zl rfl (RV.tmp rfl RV.nil) rfl ?_
  obtain rfl := QJ H
  replace hS := hS.cut 0
  exact ⟨rfl, hS⟩
 replace H := Zq H hb
 refine Za rfl rfl rfl (Ze Yz rfl) ?_
 refine Za rfl rfl rfl (Ze Jb rfl) ?_
 refine Za rfl rfl rfl (Zh Z0 rfl (Zgy _) hS hs31 trivial Zbc) ?_
 refine Za rfl rfl rfl (Xo rfl rfl) ?_
 refine Zc 2 rfl ?_
 refine Zu 83 rfl (fun hb => ?_) (fun hb => ?_)
 rotate_left
 ·replace H := Zp H hb
  refine Zc 33 rfl ?_
  refine Zg ?_
  refine Zb hK154 ?_
  refine Zk ?_
  refine Zl rfl (RV.tmp rfl RV.nil) rfl ?_
  obtain rfl := QJ H
  replace hS := hS.cut 0
  exact ⟨rfl, hS⟩
 replace H := Zq H hb
 refine Zc 1 rfl ?_
 obtain ⟨e155, hi157, H⟩ := bind_some H
 obtain ⟨j156, A158, c159, hi157a, hi157b, hi157c⟩ := idxQ (q := q109) hq110 hi157
 refine Za rfl rfl rfl (Y8 Je rfl rfl hi157a hi157c (Rd.el (hS.rd Zei) V1 hi157b)) ?_
 refine Za rfl rfl rfl (Vd Zf0 rfl (Rd.el (hS.rd Zei) V1 hi157b)) ?_
 refine Za rfl rfl rfl (yx_ld sc_4 rfl (Zgy _) (Rd.el (hS.rd Zei) V1 hi157b) rfl) ?_
 refine Zc 2 rfl ?_
 refine Zu 89 rfl (fun hb => ?_) (fun hb => ?_)
 rotate_left
 ·replace H := Zp H hb
  refine Zc 27 rfl ?_
  refine Zg ?_
  refine Zb hK154 ?_
  refine Zk ?_
  refine Zl rfl (RV.tmp rfl RV.nil) rfl ?_
  obtain rfl := QJ H
  replace hS := hS.cut 0
  exact ⟨rfl, hS⟩
 replace H := Zq H hb
 refine Zc 1 rfl ?_
 obtain ⟨e160, hi162, H⟩ := bind_some H
 obtain ⟨j161, A163, c164, hi162a, hi162b, hi162c⟩ := idxQ (q := q109) hq110 hi162
 refine Za rfl rfl rfl (Y8 Je rfl rfl hi162a hi162c (Rd.el (hS.rd Zei) V1 hi162b)) ?_
 refine Za rfl rfl rfl (Vd Vx rfl (Rd.el (hS.rd Zei) V1 hi162b)) ?_
 refine Za rfl rfl rfl (yx_ld Z0 rfl (Zgy _) (Rd.el (hS.rd Zei) V1 hi162b) rfl) ?_
 refine Za rfl rfl rfl (Xo rfl rfl) ?_
 refine Zc 2 rfl ?_
 refine Zu 96 rfl (fun hb => ?_) (fun hb => ?_)
 rotate_left
 ·replace H := Zp H hb
  refine Zc 20 rfl ?_
  refine Zg ?_
  refine Zb hK154 ?_
  refine Zk ?_
  refine Zl rfl (RV.tmp rfl RV.nil) rfl ?_
  obtain rfl := QJ H
  replace hS := hS.cut 0
  exact ⟨rfl, hS⟩
 replace H := Zq H hb
 refine Za rfl rfl rfl (Ze V3 rfl) ?_
 refine Za rfl rfl rfl (Zh Xt rfl (Zgy _) hS hs32 trivial Zat) ?_
 obtain ⟨e165, hi167, H⟩ := bind_some H
 obtain ⟨j166, hi167a, hi167b, hi167c⟩ := Yw hi167
 refine Za rfl rfl rfl (Y8 Xm rfl rfl hi167a hi167c (Rd.el (hS.row_rd hs3) Yl hi167b)) ?_
 refine Za rfl rfl rfl (X1 Z0 rfl (Zgy _) (Rd.el (hS.row_rd hs3) Yl hi167b) rfl) ?_
 refine Za rfl rfl rfl (Xo rfl rfl) ?_
 refine Zc 2 rfl ?_
 refine Zu 103 rfl (fun hb => ?_) (fun hb => ?_)
 rotate_left
 ·replace H := Zp H hb
  refine Zc 13 rfl ?_
  refine Zg ?_
  refine Zb hK154 ?_
  refine Zk ?_
  refine Zl rfl (RV.tmp rfl RV.nil) rfl ?_
  obtain rfl := QJ H
  replace hS := hS.cut 0
  exact ⟨rfl, hS⟩
 replace H := Zq H hb
 refine Za rfl rfl rfl (Ze Vm rfl) ?_
 refine Za rfl rfl rfl (Zh Xt rfl (Zgy _) hS hs32 trivial Jz) ?_
 obtain ⟨e168, hi170, H⟩ := bind_some H
 obtain ⟨j169, hi170a, hi170b, hi170c⟩ := Yw hi170
 refine Za rfl rfl rfl (Y8 Xm rfl rfl hi170a hi170c (Rd.el (hS.row_rd X0) Yl hi170b)) ?_
 refine Za rfl rfl rfl (X1 Z0 rfl (Zgy _) (Rd.el (hS.row_rd X0) Yl hi170b) rfl) ?_
 refine Za rfl rfl rfl (Xo rfl rfl) ?_
 refine Zc 2 rfl ?_
 refine Zu 110 rfl (fun hb => ?_) (fun hb => ?_)
 rotate_left
 ·replace H := Zp H hb
  refine Zc 6 rfl ?_
  refine Zg ?_
  refine Zb hK154 ?_
  refine Zk ?_
  refine Zl rfl (RV.tmp rfl RV.nil) rfl ?_
  obtain rfl := QJ H
  replace hS := hS.cut 0
  exact ⟨rfl, hS⟩
 replace H := Zq H hb
 refine Za rfl rfl rfl (Zi Yh rfl (Zgy _) hS hs23 trivial Z8) ?_
 obtain ⟨r171, hm172, H⟩ := bind_some H
 refine Zo rfl rfl rfl rfl (by kernel_rfl) rfl (c_repl_Beat (⟨r8.id, r8.n, 2, r8.binary, r8.tuple, r8.commit, r8.applied, r8.votes, ([1, 1, 1] : List Int), r8.mtch, r8.caps⟩ : Co) A10 c11 A14 c15 (some ⟨b43, 0, none⟩) 3 A22 c23 A26 c27 _ (Zg1 k12 (hS.row_rd hs24) (hS.row_blk hs24)) (Zg1 k16 (hS.row_rd hs25) (hS.row_blk hs25)) (Zg1 ⟨Nat.le_refl 3, by decide⟩ (hS.box_rd hs20) (hS.box_blk hs20)) (Zg1 k24 (hS.row_rd hs27) (hS.row_blk hs27)) (Zg1 k28 (hS.row_rd hs28) (hS.row_blk hs28)) hm172) ?_
 rintro e w ⟨A173, c174, q177, rfl, k175, hq178, okq179, hN⟩; refine ⟨_, rfl, ?_⟩; obtain ⟨hB, hS⟩ := hS.jn hN
 refine Za rfl rfl rfl (Yu Je rfl) ?_
 refine Za rfl rfl rfl (Xo rfl rfl) ?_
 refine Zc 2 rfl ?_
 refine Zg ?_
 refine Zb hK154 ?_
 refine Zk ?_
 refine Zl rfl (RV.tmp rfl RV.nil) rfl ?_
 obtain rfl := QJ H
 replace hS := hS.cut 0
 exact ⟨rfl, hS⟩
end
section
open Go Go.RowKit
set_option maxRecDepth 100000
set_option maxHeartbeats 4000000
theorem c_ref12_Cut (x0 : Tu) (x1 : Int) (A0_ : OA) (c0_ : Nat) (w0 : World) (s0_ : SlI w0 Jv A0_ c0_ x0.log) {r : Tu × Int} (H : Zel x0 x1 = some r) : Calls Try.prog 28 #[.agg #[.int .i64 x0.snap.index, .int .i64 x0.snap.term, .int .i64 x0.snap.sum, .int .i64 x0.snap.level, .bool x0.snap.final, .slice A0_ x0.log.length c0_, .int .i64 x0.term, .int .i64 x0.vote], .int .i64 x1] w0 fun e w' => ∃ (A0 : OA) (c0 : Nat), e = .returned (.tuple #[.agg #[.int .i64 r.1.snap.index, .int .i64 r.1.snap.term, .int .i64 r.1.snap.sum, .int .i64 r.1.snap.level, .bool r.1.snap.final, .slice A0 r.1.log.length c0, .int .i64 r.1.term, .int .i64 r.1.vote], .int .i64 r.2]) ∧ (r.1.log.length ≤ c0 ∧ c0 ≤ maxLen) ∧ St0 All w0 w' [.rd A0 (Yf Jv r.1.log)] := by
 unfold Zel at H
 refine Y0 Try.func28 rfl Try.ntmps28 rfl ?_
 have hS := St0.start All w0
 refine Zd (fun K hK1 => ?_)
 refine Zf ?_
 refine Yd rfl rfl rfl CellsOf.agg hS (fun b2 w hS hB => ?_)
 refine Yb rfl rfl Zey hS (fun b4 w hS hB => ?_)
 refine Zc 1 rfl ?_
 refine Zg ?_
 refine Zb hK1 ?_
 refine Zd (fun K hK6 => ?_)
 refine Zd (fun K hK7 => ?_)
 refine Zf ?_
 refine Zc 1 rfl ?_
 refine Za rfl rfl rfl (Ze Xg rfl) ?_
 refine Za rfl rfl rfl (Ze Yi rfl) ?_
 refine Za rfl rfl rfl (Zh Z0 rfl (Zgy _) hS Xr trivial Y7) ?_
 refine Za rfl rfl rfl (Zah rfl rfl) ?_
 refine Zc 1 rfl ?_
 refine Zu 12 rfl (fun hb => ?_) (fun hb => ?_)
 ·replace H := Zq H hb
  refine Zc 6 rfl ?_
  refine Zg ?_
  refine Zb hK7 ?_
  refine Zr rfl rfl ?_
  refine Zd (fun K hK8 => ?_)
  refine Zf ?_
  refine Za rfl rfl rfl (Zi Yr rfl (Zgy _) hS Xr trivial Vl) ?_
  refine Za rfl rfl rfl (Zi Yr rfl (Zgy _) hS Xr trivial Vl) ?_
  refine Za2 rfl rfl rfl rfl (by kernel_rfl) rfl ?_
  show Calls _ _ #[_, _, _] _ _
  refine Zao Try.func59 rfl Try.ntmps59 rfl ?_
  refine Zd (fun K hK9 => ?_)
  refine Zf ?_
  refine Yd rfl rfl rfl CellsOf.agg hS (fun b10 w hS hB => ?_)
  refine Yd rfl rfl rfl CellsOf.agg hS (fun b12 w hS hB => ?_)
  refine Yb rfl rfl Zey hS (fun b14 w hS hB => ?_)
  refine Zc 1 rfl ?_
  refine Zg ?_
  refine Zb hK9 ?_
  refine Zd (fun K hK16 => ?_)
  refine Zd (fun K hK17 => ?_)
  refine Zf ?_
  refine Zc 1 rfl ?_
  refine Za rfl rfl rfl (Yt rfl) ?_
  refine Zc 10 rfl ?_
  refine Zg ?_
  refine Zb hK17 ?_
  refine Zr rfl rfl ?_
  refine Zd (fun K hK18 => ?_)
  refine Zf ?_
  refine Za rfl rfl rfl (Zi Yr rfl (Zgy _) hS X0 trivial Vl) ?_
  obtain ⟨r19, hm20, H⟩ := bind_some H
  refine Zo rfl rfl rfl rfl (by kernel_rfl) rfl (Zdf x0 A0_ c0_ _ (Zg1 s0_.k (hS.rd0 s0_.rd) (hS.blk0 s0_.blk)) hm20) ?_
  rintro e w ⟨A21, c22, rfl, k23, hN⟩; refine ⟨_, rfl, ?_⟩; obtain ⟨hB, hS⟩ := hS.jn hN
  refine Zm rfl rfl rfl CellsOf.agg hS ps1 Zb0 (by kernel_rfl) rfl (fun w hS hB => ?_)
  refine Zc 1 rfl ?_
  refine Zg ?_
  refine Zb hK18 ?_
  refine Zk ?_
  refine Zj ?_
  refine Zl rfl (RV.cell rfl (Zx Yr hS Xr Vl) (RV.tmp rfl RV.nil)) rfl ?_
  refine ⟨_, rfl, ?_⟩
  refine Za rfl rfl rfl (Z1 rfl rfl) ?_
  refine Za rfl rfl rfl (Z1 rfl rfl) ?_
  refine Zm rfl rfl rfl CellsOf.agg hS ps4 Zb0 (by kernel_rfl) rfl (fun w hS hB => ?_)
  refine Zc 1 rfl ?_
  refine Zg ?_
  refine Zb hK8 ?_
  refine Zk ?_
  refine Zj ?_
  refine Zl rfl (RV.cell rfl (Zx Yr hS hs4 Vl) (RV.tmp rfl RV.nil)) rfl ?_
  obtain rfl := QJ H
  have hS := hS.front 0 rfl
  replace hS := hS.weak Weak.rowRd
  replace hS := hS.cut 1
  exact ⟨A21, c22, rfl, k23, hS⟩
 replace H := Zp H hb
 refine Zc 1 rfl ?_
 refine Za rfl rfl rfl (Zi Yr rfl (Zgy _) hS Xr trivial Vl) ?_
 obtain ⟨r25, hm26, H⟩ := bind_some H
 refine Zo rfl rfl rfl rfl (by kernel_rfl) rfl (Zag x0 A0_ c0_ _ (Zg1 s0_.k (hS.rd0 s0_.rd) (hS.blk0 s0_.blk)) hm26) ?_
 rintro e w ⟨rfl, hN⟩; refine ⟨_, rfl, ?_⟩; obtain ⟨hB, hS⟩ := hS.jn hN
 refine Za rfl rfl rfl (Xf rfl rfl) ?_
 refine Za rfl rfl rfl (Xa rfl rfl) ?_
 refine Zc 1 rfl ?_
 refine Zg ?_
 refine Zb hK7 ?_
 refine Zz rfl (fun hb => ?_) (fun hb => ?_)
 ·replace H := Zq H hb
  refine Zd (fun K hK27 => ?_)
  refine Zf ?_
  refine Za rfl rfl rfl (Zi Yr rfl (Zgy _) hS Xr trivial Vl) ?_
  refine Za rfl rfl rfl (Zi Yr rfl (Zgy _) hS Xr trivial Vl) ?_
  refine Za2 rfl rfl rfl rfl (by kernel_rfl) rfl ?_
  show Calls _ _ #[_, _, _] _ _
  refine Zao Try.func59 rfl Try.ntmps59 rfl ?_
  refine Zd (fun K hK28 => ?_)
  refine Zf ?_
  refine Yd rfl rfl rfl CellsOf.agg hS (fun b29 w hS hB => ?_)
  refine Yd rfl rfl rfl CellsOf.agg hS (fun b31 w hS hB => ?_)
  refine Yb rfl rfl Zey hS (fun b33 w hS hB => ?_)
  refine Zc 1 rfl ?_
  refine Zg ?_
  refine Zb hK28 ?_
  refine Zd (fun K hK35 => ?_)
  refine Zd (fun K hK36 => ?_)
  refine Zf ?_
  refine Zc 1 rfl ?_
  refine Za rfl rfl rfl (Yt rfl) ?_
  refine Zc 10 rfl ?_
  refine Zg ?_
  refine Zb hK36 ?_
  refine Zr rfl rfl ?_
  refine Zd (fun K hK37 => ?_)
  refine Zf ?_
  refine Za rfl rfl rfl (Zi Yr rfl (Zgy _) hS X0 trivial Vl) ?_
  obtain ⟨r38, hm39, H⟩ := bind_some H
  refine Zo rfl rfl rfl rfl (by kernel_rfl) rfl (Zdf x0 A0_ c0_ _ (Zg1 s0_.k (hS.rd0 s0_.rd) (hS.blk0 s0_.blk)) hm39) ?_
  rintro e w ⟨A40, c41, rfl, k42, hN⟩; refine ⟨_, rfl, ?_⟩; obtain ⟨hB, hS⟩ := hS.jn hN
  refine Zm rfl rfl rfl CellsOf.agg hS ps1 Zb0 (by kernel_rfl) rfl (fun w hS hB => ?_)
  refine Zc 1 rfl ?_
  refine Zg ?_
  refine Zb hK37 ?_
  refine Zk ?_
  refine Zj ?_
  refine Zl rfl (RV.cell rfl (Zx Yr hS Xr Vl) (RV.tmp rfl RV.nil)) rfl ?_
  refine ⟨_, rfl, ?_⟩
  refine Za rfl rfl rfl (Z1 rfl rfl) ?_
  refine Za rfl rfl rfl (Z1 rfl rfl) ?_
  refine Zm rfl rfl rfl CellsOf.agg hS ps4 Zb0 (by kernel_rfl) rfl (fun w hS hB => ?_)
  refine Zc 1 rfl ?_
  refine Zg ?_
  refine Zb hK27 ?_
  refine Zk ?_
  refine Zj ?_
  refine Zl rfl (RV.cell rfl (Zx Yr hS hs4 Vl) (RV.tmp rfl RV.nil)) rfl ?_
  obtain rfl := QJ H
  have hS := hS.front 0 rfl
  replace hS := hS.weak Weak.rowRd
  replace hS := hS.cut 1
  exact ⟨A40, c41, rfl, k42, hS⟩
 replace H := Zp H hb
 refine Zt ?_
 refine Zb hK6 ?_
 refine Zd (fun K hK44 => ?_)
 refine Zf ?_
 refine Za rfl rfl rfl (Zi Yr rfl (Zgy _) hS Xr trivial Vl) ?_
 obtain ⟨r45, hm46, H⟩ := bind_some H
 refine Zo rfl rfl rfl rfl (by kernel_rfl) rfl (Zdf x0 A0_ c0_ _ (Zg1 s0_.k (hS.rd0 s0_.rd) (hS.blk0 s0_.blk)) hm46) ?_
 rintro e w ⟨A47, c48, rfl, k49, hN⟩; refine ⟨_, rfl, ?_⟩; obtain ⟨hB, hS⟩ := hS.jn hN
 refine Yb rfl rfl Zey hS (fun b51 w hS hB => ?_)
 refine Zm rfl rfl rfl CellsOf.agg hS ps0 Zb0 (by kernel_rfl) rfl (fun w hS hB => ?_)
 refine Zg ?_
 refine Zb hK44 ?_
 refine Zd (fun K hK53 => ?_)
 refine Zf ?_
 refine Za rfl rfl rfl (Ze Xz rfl) ?_
 refine Za rfl rfl rfl (Zh Xp rfl (Zgy _) hS hs0 trivial Js) ?_
 refine Zc 1 rfl ?_
 refine Za rfl rfl rfl (Ze Xg rfl) ?_
 refine Za rfl rfl rfl (Ze Yi rfl) ?_
 refine Za rfl rfl rfl (Zh Z0 rfl (Zgy _) hS hs3 trivial Y7) ?_
 refine Za rfl rfl rfl (J0 rfl rfl) ?_
 refine Za rfl rfl rfl (J0 rfl rfl) ?_
 obtain ⟨l54, ht55, H⟩ := bind_some H
 refine Za rfl rfl rfl (yx_slice_h Y6 rfl rfl k49.1 ht55) ?_
 refine Za rfl rfl rfl (Ze Xz rfl) ?_
 refine Zm rfl rfl rfl CellsOf.slice hS ps0 st5_1 (by kernel_rfl) rfl (fun w hS hB => ?_)
 refine Zg ?_
 refine Zb hK53 ?_
 refine Zd (fun K hK56 => ?_)
 refine Zf ?_
 refine Za rfl rfl rfl (Zi Yr rfl (Zgy _) hS hs3 trivial Vl) ?_
 refine Za rfl rfl rfl (Zi Yr rfl (Zgy _) hS hs0 trivial Vl) ?_
 refine Za2 rfl rfl rfl rfl (by kernel_rfl) rfl ?_
 show Calls _ _ #[_, _, _] _ _
 refine Zao Try.func59 rfl Try.ntmps59 rfl ?_
 refine Zd (fun K hK57 => ?_)
 refine Zf ?_
 refine Yd rfl rfl rfl CellsOf.agg hS (fun b58 w hS hB => ?_)
 refine Yd rfl rfl rfl CellsOf.agg hS (fun b60 w hS hB => ?_)
 refine Yb rfl rfl Zey hS (fun b62 w hS hB => ?_)
 refine Zc 1 rfl ?_
 refine Zg ?_
 refine Zb hK57 ?_
 refine Zd (fun K hK64 => ?_)
 refine Zd (fun K hK65 => ?_)
 refine Zf ?_
 refine Zc 1 rfl ?_
 refine Za rfl rfl rfl (Yt rfl) ?_
 refine Zc 1 rfl ?_
 refine Za rfl rfl rfl (Zi Yr rfl (Zgy _) hS X0 trivial Vl) ?_
 obtain ⟨r66, hm67, H⟩ := bind_some H
 refine Zo rfl rfl rfl rfl (by kernel_rfl) rfl (Zgd x0 A0_ c0_ _ (Zg1 s0_.k (hS.rd0 s0_.rd) (hS.blk0 s0_.blk)) hm67) ?_
 rintro e w ⟨rfl, hN⟩; refine ⟨_, rfl, ?_⟩; obtain ⟨hB, hS⟩ := hS.jn hN
 refine Za rfl rfl rfl (Yt rfl) ?_
 refine Zc 2 rfl ?_
 refine Zu 15 rfl (fun hb => ?_) (fun hb => ?_)
 ·replace H := Zq H hb
  refine Zc 4 rfl ?_
  refine Zg ?_
  refine Zb hK65 ?_
  refine Zr rfl rfl ?_
  refine Zd (fun K hK68 => ?_)
  refine Zf ?_
  refine Za rfl rfl rfl (Zi Yr rfl (Zgy _) hS X0 trivial Vl) ?_
  obtain ⟨r69, hm70, H⟩ := bind_some H
  refine Zo rfl rfl rfl rfl (by kernel_rfl) rfl (Zdf x0 A0_ c0_ _ (Zg1 s0_.k (hS.rd0 s0_.rd) (hS.blk0 s0_.blk)) hm70) ?_
  rintro e w ⟨A71, c72, rfl, k73, hN⟩; refine ⟨_, rfl, ?_⟩; obtain ⟨hB, hS⟩ := hS.jn hN
  refine Zm rfl rfl rfl CellsOf.agg hS ps1 Zb0 (by kernel_rfl) rfl (fun w hS hB => ?_)
  refine Zc 1 rfl ?_
  refine Zg ?_
  refine Zb hK68 ?_
  refine Zk ?_
  refine Zj ?_
  refine Zl rfl (RV.cell rfl (Zx Yr hS Xr Vl) (RV.tmp rfl RV.nil)) rfl ?_
  refine ⟨_, rfl, ?_⟩
  refine Za rfl rfl rfl (Z1 rfl rfl) ?_
  refine Za rfl rfl rfl (Z1 rfl rfl) ?_
  refine Zm rfl rfl rfl CellsOf.agg hS ps6 Zb0 (by kernel_rfl) rfl (fun w hS hB => ?_)
  refine Zc 1 rfl ?_
  refine Zg ?_
  refine Zb hK56 ?_
  refine Zk ?_
  refine Zl rfl (RV.cell rfl (Zx Yr hS hs6 Vl) (RV.tmp rfl RV.nil)) rfl ?_
  obtain rfl := QJ H
  have hS := hS.front 0 rfl
  replace hS := hS.weak Weak.rowRd
  replace hS := hS.cut 1
  exact ⟨A71, c72, rfl, k73, hS⟩
 replace H := Zp H hb
 refine Za rfl rfl rfl (Zi Yr rfl (Zgy _) hS Xr trivial Vl) ?_
 obtain ⟨r75, hm76, H⟩ := bind_some H
 refine Zo rfl rfl rfl rfl (by kernel_rfl) rfl (Zgd (⟨r45.snap, l54, r45.term, r45.vote⟩ : Tu) A47 c48 _ (Zg1 (k_take k49 ht55) (Rd.takeI X5 (hS.row_rd hs4) ht55) (hS.row_blk hs4)) hm76) ?_
 rintro e w ⟨rfl, hN⟩; refine ⟨_, rfl, ?_⟩; obtain ⟨hB, hS⟩ := hS.jn hN
 refine Za rfl rfl rfl (Yt rfl) ?_
 refine Zc 1 rfl ?_
 refine Zg ?_
 refine Zb hK65 ?_
 refine Zz rfl (fun hb => ?_) (fun hb => ?_)
 rotate_left
 ·replace H := Zp H hb
  refine Zt ?_
  refine Zb hK64 ?_
  refine Zd (fun K hK84 => ?_)
  refine Zf ?_
  refine Za rfl rfl rfl (Zi Yr rfl (Zgy _) hS Xr trivial Vl) ?_
  refine Zm rfl rfl rfl CellsOf.agg hS ps0 Zb0 (by kernel_rfl) rfl (fun w hS hB => ?_)
  refine Zc 1 rfl ?_
  refine Zg ?_
  refine Zb hK84 ?_
  refine Zk ?_
  refine Zl rfl (RV.cell rfl (Zx Yr hS hs0 Vl) (RV.tmp rfl RV.nil)) rfl ?_
  refine ⟨_, rfl, ?_⟩
  refine Za rfl rfl rfl (Z1 rfl rfl) ?_
  refine Za rfl rfl rfl (Z1 rfl rfl) ?_
  refine Zm rfl rfl rfl CellsOf.agg hS ps5 Zb0 (by kernel_rfl) rfl (fun w hS hB => ?_)
  refine Zc 1 rfl ?_
  refine Zg ?_
  refine Zb hK56 ?_
  refine Zk ?_
  refine Zl rfl (RV.cell rfl (Zx Yr hS hs5 Vl) (RV.tmp rfl RV.nil)) rfl ?_
  obtain rfl := QJ H
  have hS := hS.front 4 rfl
  replace hS := hS.weak Weak.rowRd
  replace hS := hS.weak (Weak.rdTake X5 ht55)
  replace hS := hS.cut 1
  exact ⟨A47, c48, rfl, (k_take k49 ht55), hS⟩
 replace H := Zq H hb
 refine Zd (fun K hK77 => ?_)
 refine Zf ?_
 refine Za rfl rfl rfl (Zi Yr rfl (Zgy _) hS X0 trivial Vl) ?_
 obtain ⟨r78, hm79, H⟩ := bind_some H
 refine Zo rfl rfl rfl rfl (by kernel_rfl) rfl (Zdf x0 A0_ c0_ _ (Zg1 s0_.k (hS.rd0 s0_.rd) (hS.blk0 s0_.blk)) hm79) ?_
 rintro e w ⟨A80, c81, rfl, k82, hN⟩; refine ⟨_, rfl, ?_⟩; obtain ⟨hB, hS⟩ := hS.jn hN
 refine Zm rfl rfl rfl CellsOf.agg hS ps1 Zb0 (by kernel_rfl) rfl (fun w hS hB => ?_)
 refine Zc 1 rfl ?_
 refine Zg ?_
 refine Zb hK77 ?_
 refine Zk ?_
 refine Zj ?_
 refine Zl rfl (RV.cell rfl (Zx Yr hS Xr Vl) (RV.tmp rfl RV.nil)) rfl ?_
 refine ⟨_, rfl, ?_⟩
 refine Za rfl rfl rfl (Z1 rfl rfl) ?_
 refine Za rfl rfl rfl (Z1 rfl rfl) ?_
 refine Zm rfl rfl rfl CellsOf.agg hS ps6 Zb0 (by kernel_rfl) rfl (fun w hS hB => ?_)
 refine Zc 1 rfl ?_
 refine Zg ?_
 refine Zb hK56 ?_
 refine Zk ?_
 refine Zl rfl (RV.cell rfl (Zx Yr hS hs6 Vl) (RV.tmp rfl RV.nil)) rfl ?_
 obtain rfl := QJ H
 have hS := hS.front 0 rfl
 replace hS := hS.weak Weak.rowRd
 replace hS := hS.cut 1
 exact ⟨A80, c81, rfl, k82, hS⟩
theorem c_law23_entryAt (x0 : Tu) (x1 : Int) (A0_ : OA) (c0_ : Nat) (w0 : World) (s0_ : SlI w0 Jv A0_ c0_ x0.log) {r : En × Bool} (H : J8 x0 x1 = some r) : Calls Try.prog 30 #[.agg #[.int .i64 x0.snap.index, .int .i64 x0.snap.term, .int .i64 x0.snap.sum, .int .i64 x0.snap.level, .bool x0.snap.final, .slice A0_ x0.log.length c0_, .int .i64 x0.term, .int .i64 x0.vote], .int .i64 x1] w0 fun e w' => e = .returned (.tuple #[.agg #[.int .i64 r.1.term, .int .i64 r.1.kind, .int .i64 r.1.value], .bool r.2]) ∧ St0 All w0 w' [] := by
 unfold J8 at H
 refine Y0 Try.func30 rfl Try.ntmps30 rfl ?_
 have hS := St0.start All w0
 refine Zd (fun K hK1 => ?_)
 refine Zf ?_
 refine Yd rfl rfl rfl CellsOf.agg hS (fun b2 w hS hB => ?_)
 refine Yb rfl rfl Zb6 hS (fun b4 w hS hB => ?_)
 refine Zc 1 rfl ?_
 refine Zg ?_
 refine Zb hK1 ?_
 refine Zd (fun K hK6 => ?_)
 refine Zd (fun K hK7 => ?_)
 refine Zf ?_
 refine Za rfl rfl rfl (Ze Xz rfl) ?_
 refine Za rfl rfl rfl (Zh Xp rfl (Zgy _) hS Xr trivial Js) ?_
 refine Za rfl rfl rfl (Yu Y6 rfl) ?_
 refine Za rfl rfl rfl (Xo rfl rfl) ?_
 refine Zg ?_
 refine Zb hK7 ?_
 refine Zz rfl (fun hb => ?_) (fun hb => ?_)
 ·replace H := Zq H hb
  refine Zd (fun K hK8 => ?_)
  refine Zf ?_
  refine Za rfl rfl rfl (Xw (cells := [.int .i64 0, .int .i64 0, .int .i64 0]) rfl (by kernel_rfl)) ?_
  refine Zm rfl rfl rfl CellsOf.agg hS ps0 Zft (by kernel_rfl) rfl (fun w hS hB => ?_)
  refine Zc 1 rfl ?_
  refine Zg ?_
  refine Zb hK8 ?_
  refine Zk ?_
  refine Zj ?_
  refine Zl rfl (RV.cell rfl (Zx V7 hS hs0 Zbv) (RV.tmp rfl RV.nil)) rfl ?_
  obtain rfl := QJ H
  replace hS := hS.cut 0
  exact ⟨rfl, hS⟩
 replace H := Zp H hb
 refine Zt ?_
 refine Zb hK6 ?_
 refine Zd (fun K hK9 => ?_)
 refine Zf ?_
 refine Za rfl rfl rfl (Zi Yr rfl (Zgy _) hS Xr trivial Vl) ?_
 refine Zc 1 rfl ?_
 obtain ⟨r10, hm11, H⟩ := bind_some H
 refine Zo rfl rfl rfl rfl (by kernel_rfl) rfl (c_ref12_At x0 x1 A0_ c0_ _ (Zg1 s0_.k (hS.rd0 s0_.rd) (hS.blk0 s0_.blk)) hm11) ?_
 rintro e w ⟨rfl, hN⟩; refine ⟨_, rfl, ?_⟩; obtain ⟨hB, hS⟩ := hS.jn hN
 refine Za rfl rfl rfl (Z1 rfl rfl) ?_
 refine Za rfl rfl rfl (Z1 rfl rfl) ?_
 refine Zm rfl rfl rfl CellsOf.agg hS ps0 Zft (by kernel_rfl) rfl (fun w hS hB => ?_)
 refine Zc 1 rfl ?_
 refine Zg ?_
 refine Zb hK9 ?_
 refine Zk ?_
 refine Zl rfl (RV.cell rfl (Zx V7 hS hs0 Zbv) (RV.tmp rfl RV.nil)) rfl ?_
 obtain rfl := QJ H
 replace hS := hS.cut 0
 exact ⟨rfl, hS⟩
end
section
open Go Go.RowKit
set_option maxRecDepth 100000
theorem lastT_app (t : Int) (a b : List En) : Zam t (a ++ b) = Zam (Zam t a) b := by
 induction a generalizing t with
 | nil => rfl
 | cons e a ih => exact ih _
theorem logB_app (t : Int) (a b : List En) : Zci t (a ++ b) = (Zci t a && Zci (Zam t a) b) := by
 induction a generalizing t with
 | nil => simp [Zci, Zam]
 | cons e a ih => simp [Zci, Zam, ih, Bool.and_assoc]
theorem logB_drop (t : Int) (l : List En) (k : Nat) (h : Zci t l = true) : Zci (Zam t (l.take k)) (l.drop k) = true := by
 have h' := h
 rw [← List.take_append_drop k l, logB_app, Bool.and_eq_true] at h'
 exact h'.2
theorem lastT_cut (t : Int) (l : List En) (k : Nat) : Zam (Zam t (l.take k)) (l.drop k) = Zam t l := by rw [← lastT_app, List.take_append_drop]
theorem Zfq (t : Int) (l : List En) (h : Zci t l = true) : t ≤ Zam t l := by
 induction l generalizing t with
 | nil => exact Int.le_refl _
 | cons e l ih =>
  simp only [Zci, Bool.and_eq_true, decide_eq_true_eq] at h
  exact Int.le_trans h.1.2 (ih _ h.2)
theorem Zfj (t : Tu) : Jm t = true ↔ FineP t.snap ∧ (t.snap.index ≤ 1073740824 ∧ t.log.length ≤ 200 ∧ 0 ≤ t.vote ∧ t.vote ≤ 5 ∧ t.term ≤ 1073741824) ∧ Zci t.snap.term t.log = true ∧ Zam t.snap.term t.log ≤ t.term := by
 unfold Jm
 simp only [Bool.and_eq_true, decide_eq_true_eq, Zcq, and_assoc]
theorem chg_yes (x y : Tu) (res : Option Tu) (hx : Jm x = true) (h : res = some y) (hy : Jm y = true) : Zb4 x res = y ∧ chgE x res = 0 := by
 have : Zb7 x res = some y := by unfold Zb7; rw [if_pos hx, h]; exact if_pos hy
 unfold Zb4 chgE
 rw [this]
 exact ⟨rfl, rfl⟩
theorem termAt_log (x : Tu) (k : Nat) (hk : k ≤ x.log.length) : Zba x (x.snap.index + k) = some (Zam x.snap.term (x.log.take k)) := by
 unfold Zba Tu.last
 cases k with
 | zero => rw [if_pos (by simp)]; rfl
 | succ k =>
  rw [if_neg (by omega), if_pos (by omega)]
  have : (x.snap.index + ((k + 1 : Nat) : Int) - x.snap.index - 1).toNat = k := by omega
  rw [this, List.getElem?_eq_getElem (by omega), List.take_add_one, List.getElem?_eq_getElem (by omega)]
  show _ = some (Zam _ (_ ++ [x.log[k]]))
  rw [lastT_snoc]; rfl
theorem cut_yes (x : Tu) (k : Nat) (hx : Jm x = true) (hk : k ≤ x.log.length) :
  Zb4 x (Zgh x (x.snap.index + 1 + k)) = { x with log := x.log.take k } ∧ chgE x (Zgh x (x.snap.index + 1 + k)) = 0 ∧ Jm { x with log := x.log.take k } = true := by
 obtain ⟨g1, g2, g3, g4⟩ := (Zfj x).1 hx
 have hT : Jm { x with log := x.log.take k } = true := by
  refine (Zfj _).2 ⟨g1, ⟨g2.1, ?_, g2.2.2⟩, Zgs _ _ _ g3, ?_⟩
  ·dsimp only; rw [List.length_take]; omega
  ·dsimp only
   refine Int.le_trans ?_ g4
   have h := Zfq _ _ (logB_drop x.snap.term x.log k g3)
   rw [lastT_cut] at h
   exact h
 have hr : Zgh x (x.snap.index + 1 + k) = some { x with log := x.log.take k } := by
  unfold Zgh Tu.last
  rw [if_pos (by omega)]
  have : (x.snap.index + 1 + (k : Int) - x.snap.index - 1).toNat = k := by omega
  rw [this]
 have := chg_yes x _ _ hx hr hT
 exact ⟨this.1, this.2, hT⟩
end
section
open Go Go.RowKit
set_option maxRecDepth 100000
theorem p_number (x : Int) : Jh x = some (numB x) := by
 unfold Jh numB
 by_cases h : 0 ≤ x <;> simp [h]
theorem p_Fine (x : St) : Ja x = some (Za8 x) := by
 obtain ⟨i, t, s, l, f⟩ := x
 simp only [Ja, Zan, p_number, Option.bind_some, Za8, firstS, numB, St.mk.injEq, Bool.cond_not, Bool.cond_decide]
 cases f <;> (repeat' split) <;> simp_all <;> omega
theorem p_Right (x : En) : Za1 x = some (J1 x) := by
 obtain ⟨t, k, v⟩ := x
 simp only [Za1, p_number, Option.bind_some, J1, numB, Bool.cond_not, Bool.cond_decide]
 (repeat' split) <;> (refine congrArg some ?_; rw [Bool.eq_iff_iff]; simp only [decide_eq_true_eq, true_iff, Bool.false_eq_true, false_iff]; omega)
theorem p_Right12_l1 (x : Tu) (hl : x.log.length ≤ 1000000) : ∀ (m k n : Nat) (b : Bool) (t : Int), m = x.log.length - k → k ≤ x.log.length → m < n →
  Jr x n b t k = some (Zci t (x.log.drop k) && decide (Zam t (x.log.drop k) ≤ x.term ∧ 0 ≤ x.term ∧ x.term ≤ 1073741824)) := by
 intro m
 induction m with
 | zero =>
  intro k n b t hm hk hn
  obtain ⟨n, rfl⟩ : ∃ n', n = n' + 1 := ⟨n - 1, by omega⟩
  have hkl : k = x.log.length := by omega
  have hd : x.log.drop k = [] := List.drop_eq_nil_of_le (by omega)
  rw [Jr, hd]
  simp only [Zci, Bool.cond_decide, if_neg (show ¬ ((k : Int) < (x.log.length : Int)) by omega), Bool.true_and]
  (repeat' split) <;> (refine congrArg some ?_; rw [Bool.eq_iff_iff]; simp only [decide_eq_true_eq, true_iff, Bool.false_eq_true, false_iff]; simp only [Zam]; omega)
 | succ m ih =>
  intro k n b t hm hk hn
  obtain ⟨n, rfl⟩ : ∃ n', n = n' + 1 := ⟨n - 1, by omega⟩
  obtain ⟨e, he, hd⟩ := Xq (show k < x.log.length by omega)
  have hi := ih (k + 1) n b e.term (by omega) (by omega) (by omega)
  rw [Jr, hd]
  simp only [Bool.cond_decide, if_pos (show ((k : Int) < (x.log.length : Int)) by omega), Zau, he, Option.bind_some, p_Right, Bool.cond_not, Zci, Zam]
  rw [J2 (by omega), show ((k : Int) + 1) = ((k + 1 : Nat) : Int) by omega, hi]
  cases hr : J1 e with
  | false => rfl
  | true =>
   simp only [cond_true, Bool.true_and]
   by_cases h : e.term < t
   ·rw [if_pos h, decide_eq_false (show ¬ (t ≤ e.term) by omega)]; rfl
   ·rw [if_neg h, decide_eq_true (show t ≤ e.term by omega)]; rfl
theorem p_Right12 (x : Tu) : Za3 x = some (Jm x) := by
 have key : Jm x = (Za8 x.snap && decide (x.snap.index ≤ 1073740824 ∧ x.log.length ≤ 200 ∧ 0 ≤ x.vote ∧ x.vote ≤ 5) && (Zci x.snap.term x.log && decide (Zam x.snap.term x.log ≤ x.term ∧ 0 ≤ x.term ∧ x.term ≤ 1073741824))) := by
  rw [Bool.eq_iff_iff]
  unfold Jm
  simp only [Bool.and_eq_true, decide_eq_true_eq]
  constructor
  ·rintro ⟨⟨⟨h1, h2⟩, h3⟩, h4⟩
   have h5 := Zfq _ _ h3
   have h6 : 0 ≤ x.snap.term := by
    rcases (Zcq _).1 h1 with h | h
    ·rw [h]; decide
    ·omega
   exact ⟨⟨h1, by omega⟩, h3, by omega⟩
  ·rintro ⟨⟨h1, h2⟩, h3, h4⟩
   exact ⟨⟨⟨h1, by omega⟩, h3⟩, by omega⟩
 rw [key]
 simp only [Za3, p_Fine, Option.bind_some, Bool.cond_not, Bool.cond_decide]
 cases hf : Za8 x.snap with
 | false => rfl
 | true =>
  simp only [cond_true, Bool.true_and]
  by_cases h1 : x.snap.index ≤ 1073740824 ∧ x.log.length ≤ 200 ∧ 0 ≤ x.vote ∧ x.vote ≤ 5
  ·rw [if_neg (by omega), if_neg (by omega), if_neg (by omega), if_neg (by omega), decide_eq_true h1, Bool.true_and]
   have := p_Right12_l1 x (by omega) x.log.length 0 Xn false x.snap.term (by omega) (by omega) (by unfold Xn; omega)
   exact this
  ·rw [decide_eq_false h1, Bool.false_and]
   (repeat' split) <;> first | rfl | (exfalso; omega)
theorem p_Same_l1 (a b : List En) (hl : a.length ≤ 1000000) (hab : a.length = b.length) : ∀ (m k n : Nat) (v : Bool), m = a.length - k → k ≤ a.length → m < n → J6 a b n v k = some (decide (a.drop k = b.drop k)) := by
 intro m
 induction m with
 | zero =>
  intro k n v hm hk hn
  obtain ⟨n, rfl⟩ : ∃ n', n = n' + 1 := ⟨n - 1, by omega⟩
  rw [J6, List.drop_eq_nil_of_le (by omega), List.drop_eq_nil_of_le (by omega)]
  simp only [Bool.cond_decide, if_neg (show ¬ ((k : Int) < (a.length : Int)) by omega)]
  rfl
 | succ m ih =>
  intro k n v hm hk hn
  obtain ⟨n, rfl⟩ : ∃ n', n = n' + 1 := ⟨n - 1, by omega⟩
  obtain ⟨e, he, hd⟩ := Xq (show k < a.length by omega)
  obtain ⟨f, hf, hd2⟩ := Xq (show k < b.length by omega)
  rw [J6, hd, hd2]
  simp only [Bool.cond_decide, if_pos (show ((k : Int) < (a.length : Int)) by omega), Zau, he, hf, Option.bind_some, en_eq, Bool.cond_not]
  rw [J2 (by omega), show ((k : Int) + 1) = ((k + 1 : Nat) : Int) by omega, ih (k + 1) n v (by omega) (by omega) (by omega)]
  by_cases h : e = f
  ·subst h; rw [if_pos rfl]; congr 1; rw [Bool.eq_iff_iff]; simp
  ·rw [if_neg h]; congr 1; rw [Bool.eq_iff_iff]; simp [h]
theorem p_Same (a b : List En) (hl : a.length ≤ 1000000) : Zdj a b = some (decide (a = b)) := by
 unfold Zdj
 by_cases h : a.length = b.length
 ·simp only [Bool.cond_decide, if_neg (show ¬ ((a.length : Int) ≠ (b.length : Int)) by omega)]
  have := p_Same_l1 a b hl h a.length 0 Xn false (by omega) (by omega) (by unfold Xn; omega)
  simpa using this
 ·simp only [Bool.cond_decide, if_pos (show ((a.length : Int) ≠ (b.length : Int)) by omega)]
  rw [decide_eq_false (fun h' => h (by rw [h']))]
theorem p_Same12 (x y : Tu) (hl : x.log.length ≤ 1000000) : Zdl x y = some (decide (x = y)) := by
 obtain ⟨s, l, t, v⟩ := x; obtain ⟨s2, l2, t2, v2⟩ := y
 simp only [Zdl, snap_eq, p_Same l l2 hl, Option.bind_some, Bool.cond_decide, Tu.mk.injEq]
 by_cases h1 : s = s2 <;> by_cases h2 : t = t2 <;> by_cases h3 : v = v2 <;> simp [h1, h2, h3]
def bdT (x : Tu) : Prop := x.log.length ≤ 1000000 ∧ -2000000000000 ≤ x.snap.index ∧ x.snap.index ≤ 2000000000000
theorem q_Right (x : Tu) (h : bdT x) : Zc0 x = some (Jm x) := by unfold Zc0; rw [okT_iff.2 h]; rfl
theorem q_State_yes (x : Tu) (k : Nat) (h : bdT x) (hk : k ≤ x.log.length) : Xk x (x.snap.index + k) = some (allS x.snap (x.log.take k), true) := by
 unfold Xk
 rw [okT_iff.2 h, decide_eq_true (by omega)]
 have : (x.snap.index + (k : Int) - x.snap.index).toNat = k := by omega
 rw [this]; rfl
theorem q_State_no (x : Tu) (i : Int) (h : bdT x) (hi : i < x.snap.index ∨ x.snap.index + x.log.length < i) : Xk x i = some (⟨0, 0, 0, 0, false⟩, false) := by
 unfold Xk
 rw [okT_iff.2 h, decide_eq_false (by omega)]; rfl
theorem p_tLast (x : Tu) (h : bdT x) : Zae x = some x.last := by unfold Zae Tu.last; obtain ⟨h1, h2, h3⟩ := h; rw [J2 (by omega)]
theorem p_Own12 (x : Tu) (h : x.log.length ≤ 1000000) : Zaj x = some x := by
 unfold Zaj
 rw [List.nil_append, Zez _ (by omega)]; rfl
theorem Zeq (x : Tu) (h : bdT x) : Vw x = some x.last := p_tLast x h
theorem p_Next (s : St) (e : En) : Zcm s e = some (Zbf s e) := by
 simp only [Zcm, p_Right, p_Fine, Option.bind_some]
 by_cases hc : J1 e = true ∧ Za8 s = true ∧ s.index < 1073741824
 ·obtain ⟨hr, hf, hi⟩ := hc
  have hn : Zbf s e = Zdm e.kind e.value { s with index := s.index + 1, term := e.term } := by unfold Zbf; rw [if_pos ⟨hr, hf, hi⟩]
  have hb : 0 ≤ s.index ∧ 0 ≤ s.sum ∧ s.sum ≤ 1073741824 := by
   rcases (Zcq s).1 hf with h | h
   ·rw [h]; decide
   ·omega
  have hv : 0 ≤ e.value ∧ e.value ≤ 1073741824 := by
   unfold J1 at hr; simp only [decide_eq_true_eq] at hr; omega
  have w0 : IntKind.wrap .i64 (s.index + 1) = s.index + 1 := J2 (by omega)
  have w1 : IntKind.wrap .i64 (31 * s.sum) = 31 * s.sum := J2 (by omega)
  have w2 : IntKind.wrap .i64 (31 * s.sum + e.value) = 31 * s.sum + e.value := J2 (by omega)
  have w3 : IntKind.wrap .i64 (31 * s.sum + e.value + 1) = 31 * s.sum + e.value + 1 := J2 (by omega)
  rw [hn, hr, hf, w0, w1, w2, w3, Int.tmod_eq_emod_of_nonneg (by omega), decide_eq_false (show ¬ (1073741824 ≤ s.index) by omega)]
  simp only [Bool.not_true, cond_false, Bool.cond_decide]
  unfold Zdm
  by_cases k1 : e.kind = 1
  ·rw [if_pos k1, if_pos k1]
  ·rw [if_neg k1, if_neg k1]
   by_cases k2 : e.kind = 2
   ·rw [if_pos k2, if_pos k2]
   ·rw [if_neg k2, if_neg k2]
    by_cases k3 : e.kind = 3
    ·rw [if_pos k3, if_pos k3]
     cases hF : s.final <;> rfl
    ·rw [if_neg k3, if_neg k3]
     by_cases k4 : e.kind = 4
     ·rw [if_pos k4, if_pos k4]
     ·rw [if_neg k4, if_neg k4]
 ·have hn : Zbf s e = s := by unfold Zbf; rw [if_neg hc]
  rw [hn]
  cases hr : J1 e with
  | false => rfl
  | true =>
   cases hf : Za8 s with
   | false => rfl
   | true =>
    rw [decide_eq_true (show 1073741824 ≤ s.index by
     have : ¬ (s.index < 1073741824) := fun h => hc ⟨hr, hf, h⟩
     omega)]
    rfl
theorem p_All_l1 (l : List En) (hl : l.length ≤ 1000000) : ∀ (m k n : Nat) (s : St), m = l.length - k → k ≤ l.length → m < n → Zap l n k s.index s.term s.sum s.level s.final = some (allS s (l.drop k)) := by
 intro m
 induction m with
 | zero =>
  intro k n s hm hk hn
  obtain ⟨n, rfl⟩ : ∃ n', n = n' + 1 := ⟨n - 1, by omega⟩
  rw [Zap, List.drop_eq_nil_of_le (by omega)]
  simp only [Bool.cond_decide, if_neg (show ¬ ((k : Int) < (l.length : Int)) by omega)]
  rfl
 | succ m ih =>
  intro k n s hm hk hn
  obtain ⟨n, rfl⟩ : ∃ n', n = n' + 1 := ⟨n - 1, by omega⟩
  obtain ⟨e, he, hd⟩ := Xq (show k < l.length by omega)
  rw [Zap, hd]
  simp only [Bool.cond_decide, if_pos (show ((k : Int) < (l.length : Int)) by omega), Zau, he, Option.bind_some]
  have : Zcm ⟨s.index, s.term, s.sum, s.level, s.final⟩ e = some (Zbf s e) := p_Next s e
  rw [this, Option.bind_some, J2 (by omega), show ((k : Int) + 1) = ((k + 1 : Nat) : Int) by omega, ih (k + 1) n (Zbf s e) (by omega) (by omega) (by omega)]
  rfl
theorem p_All (s : St) (l : List En) (hl : l.length ≤ 1000000) : Zf8 s l = some (allS s l) := p_All_l1 l hl l.length 0 Xn s (by omega) (by omega) (by unfold Xn; omega)
theorem p_State12 (x : Tu) (i : Int) (h : bdT x) : Zby x i = Xk x i := by
 have h1 := h.1
 have h2 := h.2
 unfold Zby
 rw [Zeq x h]
 simp only [Option.bind_some, Bool.cond_decide, Tu.last]
 by_cases h3 : i < x.snap.index
 ·rw [if_pos h3, q_State_no x i h (.inl h3)]
 ·rw [if_neg h3]
  by_cases h4 : x.snap.index + (x.log.length : Int) < i
  ·rw [if_pos h4, q_State_no x i h (.inr h4)]
  ·rw [if_neg h4]
   obtain ⟨k, hk⟩ : ∃ k : Nat, i = x.snap.index + (k : Int) := ⟨(i - x.snap.index).toNat, by omega⟩
   have w1 : IntKind.wrap .i64 (i - x.snap.index) = (k : Int) := by rw [J2 (by omega)]; omega
   rw [w1, takeI_nat _ _ (by omega), Option.bind_some, p_All _ _ (by rw [List.length_take]; omega), hk, q_State_yes x k h (by omega)]
   rfl
end
section
open Go Go.RowKit
set_option maxRecDepth 100000
noncomputable def cdec (p : Prop) : Bool := @decide p (Classical.propDecidable p)
theorem Vb {p : Prop} (h : p) : cdec p = true := @decide_eq_true p (Classical.propDecidable p) h
theorem Yk {p : Prop} (h : ¬ p) : cdec p = false := @decide_eq_false p (Classical.propDecidable p) h
theorem V2 {p q : Prop} (h : p ↔ q) : cdec p = cdec q := by rw [propext h]
theorem Zep {p : Prop} [Decidable p] : decide p = cdec p := by
 by_cases h : p
 ·rw [Vb h, decide_eq_true h]
 ·rw [Yk h, decide_eq_false h]
def InB (l : List Int) (lo hi : Int) : Prop := ∀ x ∈ l, lo ≤ x ∧ x ≤ hi
theorem Ze4 {lo hi : Int} : InB [] lo hi := fun _ h => by cases h
theorem InB_cons {x : Int} {l : List Int} {lo hi : Int} : InB (x :: l) lo hi ↔ (lo ≤ x ∧ x ≤ hi) ∧ InB l lo hi := by
 unfold InB
 constructor
 ·intro h; exact ⟨h x (by simp), fun y hy => h y (by simp [hy])⟩
 ·rintro ⟨h1, h2⟩ y hy
  rcases List.mem_cons.1 hy with rfl | hy
  ·exact h1
  ·exact h2 y hy
theorem InB.get {l : List Int} {lo hi : Int} (h : InB l lo hi) {i : Nat} {x : Int} (hx : l[i]? = some x) : lo ≤ x ∧ x ≤ hi := h x (List.mem_of_getElem? hx)
theorem InB.set {l : List Int} {lo hi : Int} (h : InB l lo hi) {i : Nat} {x : Int} (hx : lo ≤ x ∧ x ≤ hi) : InB (l.set i x) lo hi := fun y hy => by
 rcases List.mem_or_eq_of_mem_set hy with h1 | rfl
 ·exact h y h1
 ·exact hx
theorem InB.repl {n : Nat} {x lo hi : Int} (hx : lo ≤ x ∧ x ≤ hi) : InB (List.replicate n x) lo hi := fun y hy => by
 rw [List.eq_of_mem_replicate hy]; exact hx
theorem p_within (x lo hi : Int) : Vy x lo hi = some (cdec (lo ≤ x ∧ x ≤ hi)) := by
 unfold Vy
 rw [Bool.cond_decide]
 by_cases h : lo ≤ x
 ·rw [if_pos h, Zep]; congr 1; exact V2 ⟨fun h2 => ⟨h, h2⟩, fun h2 => h2.2⟩
 ·rw [if_neg h, Yk (fun h2 => h h2.1)]
theorem p_each_l1 (l : List Int) (lo hi : Int) (hl : l.length ≤ 1000000) : ∀ (m k n : Nat) (v : Int), m = l.length - k → k ≤ l.length → m < n → Za0 l lo hi n v k = some (cdec (InB (l.drop k) lo hi)) := by
 intro m
 induction m with
 | zero =>
  intro k n v hm hk hn
  obtain ⟨n, rfl⟩ : ∃ n', n = n' + 1 := ⟨n - 1, by omega⟩
  rw [Za0, List.drop_eq_nil_of_le (by omega), Vb Ze4]
  simp only [Bool.cond_decide, if_neg (show ¬ ((k : Int) < (l.length : Int)) by omega)]
  rfl
 | succ m ih =>
  intro k n v hm hk hn
  obtain ⟨n, rfl⟩ : ∃ n', n = n' + 1 := ⟨n - 1, by omega⟩
  obtain ⟨e, he, hd⟩ := Xq (show k < l.length by omega)
  rw [Za0, hd]
  simp only [Bool.cond_decide, if_pos (show ((k : Int) < (l.length : Int)) by omega), Zau, he, Option.bind_some, p_within]
  rw [J2 (by omega), show ((k : Int) + 1) = ((k + 1 : Nat) : Int) by omega, ih (k + 1) n v (by omega) (by omega) (by omega)]
  by_cases h : lo ≤ e ∧ e ≤ hi
  ·rw [Vb h]; show some _ = _; congr 1; exact V2 ⟨fun h2 => InB_cons.2 ⟨h, h2⟩, fun h2 => (InB_cons.1 h2).2⟩
  ·rw [Yk h, Yk (fun h2 => h (InB_cons.1 h2).1), decide_eq_true (show (0 : Int) ≤ (k : Int) by omega)]; rfl
theorem p_each (l : List Int) (n lo hi : Int) (hl : l.length ≤ 1000000) : Zbo l n lo hi = some (cdec ((l.length : Int) = n ∧ InB l lo hi)) := by
 unfold Zbo
 rw [Bool.cond_decide]
 by_cases h : (l.length : Int) = n
 ·rw [if_pos h]
  have := p_each_l1 l lo hi hl l.length 0 Xn 0 (by omega) (by omega) (by unfold Xn; omega)
  rw [show ((0 : Nat) : Int) = 0 from rfl] at this
  rw [this, List.drop_zero]
  congr 1; exact V2 ⟨fun h2 => ⟨h, h2⟩, fun h2 => h2.2⟩
 ·rw [if_neg h, Yk (fun h2 => h h2.1)]
theorem p_eRight (e : En) : Zgk e = some (J1 e) := rfl
def stOf (t : Tu) (i : Int) : Option St := if t.snap.index ≤ i ∧ i ≤ t.last then some (allS t.snap (t.log.take (i - t.snap.index).toNat)) else none
theorem q_State (x : Tu) (i : Int) (h : bdT x) : Xk x i = some ((stOf x i).getD ⟨0, 0, 0, 0, false⟩, (stOf x i).isSome) := by
 unfold stOf Tu.last
 by_cases hi : x.snap.index ≤ i ∧ i ≤ x.snap.index + x.log.length
 ·rw [if_pos hi]
  obtain ⟨k, hk⟩ : ∃ k : Nat, i = x.snap.index + (k : Int) := ⟨(i - x.snap.index).toNat, by omega⟩
  rw [hk, q_State_yes x k h (by omega), show (x.snap.index + (k : Int) - x.snap.index).toNat = k by omega]
  rfl
 ·rw [if_neg hi, q_State_no x i h (by omega)]; rfl
structure RightC (x : Co) : Prop where
 n : 1 ≤ x.n ∧ x.n ≤ 5
 id : 1 ≤ x.id ∧ x.id ≤ x.n
 role : x.role ≤ 2
 bin : 1 ≤ x.binary ∧ x.binary ≤ 2
 tup : Jm x.tuple = true
 st : stOf x.tuple x.commit = some x.applied
 lv : (x.votes.length : Int) = x.n
 ln : (x.next.length : Int) = x.n
 lm : (x.mtch.length : Int) = x.n
 lc : (x.caps.length : Int) = x.n
 next : InB x.next 1 (x.tuple.last + 1)
 mtch : InB x.mtch 0 x.tuple.last
 caps : InB x.caps 0 2
 own : x.caps[(x.id - 1).toNat]? = some x.binary
 lead : x.role = 0 ∨ (0 < x.tuple.term ∧ x.tuple.vote = x.id)
noncomputable def Zd4 (x : Co) : Bool := cdec (RightC x)
structure BdC (x : Co) : Prop where
 tup : bdT x.tuple
 lv : x.votes.length ≤ 1000000
 ln : x.next.length ≤ 1000000
 lm : x.mtch.length ≤ 1000000
 lc : x.caps.length ≤ 1000000
theorem own_get (x : Co) (h1 : 1 ≤ x.n ∧ x.n ≤ 5) (h2 : 1 ≤ x.id ∧ x.id ≤ x.n) (h3 : (x.caps.length : Int) = x.n) : ∃ e, idx x.caps (IntKind.wrap .i64 (x.id - 1)) = some e ∧ x.caps[(x.id - 1).toNat]? = some e := by
 have hw : IntKind.wrap .i64 (x.id - 1) = (((x.id - 1).toNat : Nat) : Int) := by rw [J2 (by omega)]; omega
 obtain ⟨e, he, _⟩ := Xq (show (x.id - 1).toNat < x.caps.length by omega)
 exact ⟨e, by rw [hw, Zau, he], he⟩
theorem last_bd {t : Tu} (h : bdT t) : -3000000000000 ≤ t.last ∧ t.last ≤ 3000000000000 := by
 obtain ⟨h1, h2, h3⟩ := h
 unfold Tu.last; omega
theorem Zfh (x : Co) (h : BdC x) : Zbi x = some (Zd4 x) := by
 have hlb := last_bd h.tup
 have hw : IntKind.wrap .i64 (x.tuple.last + 1) = x.tuple.last + 1 := J2 (by omega)
 simp only [Zbi, p_tLast x.tuple h.tup, p_within, q_Right x.tuple h.tup, q_State x.tuple x.commit h.tup, p_each x.next _ _ _ h.ln, p_each x.mtch _ _ _ h.lm, p_each x.caps _ _ _ h.lc, Option.bind_some, hw, snap_eq]
 unfold Zd4
 by_cases c1 : 1 ≤ x.n ∧ x.n ≤ 5
 case neg => rw [Yk c1, Yk (p := RightC x) fun h => c1 h.n]; rfl
 by_cases c2 : 1 ≤ x.id ∧ x.id ≤ x.n
 case neg => rw [Vb c1, Yk c2, Yk (p := RightC x) fun h => c2 h.id]; rfl
 by_cases c3 : x.role ≤ 2
 case neg => rw [Vb c1, Vb c2, decide_eq_false c3, Yk (p := RightC x) fun h => c3 h.role]; rfl
 by_cases c4 : 1 ≤ x.binary ∧ x.binary ≤ 2
 case neg => rw [Vb c1, Vb c2, decide_eq_true c3, Yk c4, Yk (p := RightC x) fun h => c4 h.bin]; rfl
 rw [Vb c1, Vb c2, decide_eq_true c3, Vb c4]
 simp only [cond_true, Bool.not_true, cond_false]
 cases c5 : Jm x.tuple
 case false => rw [Yk (p := RightC x) fun h => by have h2 := h.tup; rw [c5] at h2; cases h2]; rfl
 simp only [cond_true, Bool.not_true, cond_false]
 cases c6 : stOf x.tuple x.commit with
 | none => rw [Yk (p := RightC x) fun h => by rw [h.st] at c6; cases c6]; rfl
 | some s =>
  simp only [Option.isSome_some, Option.getD_some, cond_true]
  by_cases c7 : s = x.applied
  case neg => rw [decide_eq_false c7, Yk (p := RightC x) fun h => c7 (by have := h.st; rw [c6] at this; exact QJ this)]; rfl
  rw [decide_eq_true c7]
  simp only [cond_true, Bool.not_true, cond_false]
  by_cases c8 : (x.votes.length : Int) = x.n
  case neg => rw [decide_eq_false c8, Yk (p := RightC x) fun h => c8 h.lv]; rfl
  by_cases c9 : (x.next.length : Int) = x.n ∧ InB x.next 1 (x.tuple.last + 1)
  case neg => rw [decide_eq_true c8, Yk c9, Yk (p := RightC x) fun h => c9 ⟨h.ln, h.next⟩]; rfl
  by_cases c10 : (x.mtch.length : Int) = x.n ∧ InB x.mtch 0 x.tuple.last
  case neg => rw [decide_eq_true c8, Vb c9, Yk c10, Yk (p := RightC x) fun h => c10 ⟨h.lm, h.mtch⟩]; rfl
  by_cases c11 : (x.caps.length : Int) = x.n ∧ InB x.caps 0 2
  case neg => rw [decide_eq_true c8, Vb c9, Vb c10, Yk c11, Yk (p := RightC x) fun h => c11 ⟨h.lc, h.caps⟩]; rfl
  rw [decide_eq_true c8, Vb c9, Vb c10, Vb c11]
  obtain ⟨e, he, he2⟩ := own_get x c1 c2 c11.1
  simp only [cond_true, Bool.not_true, cond_false, Option.bind_some, he]
  by_cases c12 : e = x.binary
  case neg => rw [decide_eq_false c12, Yk (p := RightC x) fun h => c12 (by have := h.own; rw [he2] at this; exact QJ this)]; rfl
  rw [decide_eq_true c12]
  simp only [cond_true, Bool.not_true, cond_false, Bool.cond_decide]
  subst c12
  subst c7
  by_cases c13 : x.role = 0
  ·rw [if_pos c13, Vb (p := RightC x) ⟨c1, c2, c3, c4, c5, c6, c8, c9.1, c10.1, c11.1, c9.2, c10.2, c11.2, he2, .inl c13⟩]
  ·rw [if_neg c13]
   by_cases c14 : 0 < x.tuple.term
   ·rw [if_pos c14]
    by_cases c15 : x.tuple.vote = x.id
    ·rw [decide_eq_true c15, Vb (p := RightC x) ⟨c1, c2, c3, c4, c5, c6, c8, c9.1, c10.1, c11.1, c9.2, c10.2, c11.2, he2, .inr ⟨c14, c15⟩⟩]; rfl
    ·rw [decide_eq_false c15, Yk (p := RightC x) fun h => by rcases h.lead with h | h; exact c13 h; exact c15 h.2]; rfl
   ·rw [if_neg c14, Yk (p := RightC x) fun h => by rcases h.lead with h | h; exact c13 h; exact c14 h.1]
theorem p_mOwn (x : Co) (h : BdC x) : Zbb x = some x := by
 have h1 := h.tup.1
 have h2 := h.lv
 have h3 := h.ln
 have h4 := h.lm
 have h5 := h.lc
 simp only [Zbb, Zf4, X9, Jg, Vk, Option.bind_some, Zez _ (show x.tuple.log.length ≤ 1000000000 by omega), Zez _ (show x.votes.length ≤ 1000000000 by omega), Zez _ (show x.next.length ≤ 1000000000 by omega), Zez _ (show x.mtch.length ≤ 1000000000 by omega), Zez _ (show x.caps.length ≤ 1000000000 by omega)]
theorem p_ints_l1 (a b : List Int) (hl : a.length ≤ 1000000) (hab : a.length = b.length) : ∀ (m k n : Nat) (v : Bool), m = a.length - k → k ≤ a.length → m < n → J7 a b n v k = some (decide (a.drop k = b.drop k)) := by
 intro m
 induction m with
 | zero =>
  intro k n v hm hk hn
  obtain ⟨n, rfl⟩ : ∃ n', n = n' + 1 := ⟨n - 1, by omega⟩
  rw [J7, List.drop_eq_nil_of_le (by omega), List.drop_eq_nil_of_le (by omega)]
  simp only [Bool.cond_decide, if_neg (show ¬ ((k : Int) < (a.length : Int)) by omega)]
  rfl
 | succ m ih =>
  intro k n v hm hk hn
  obtain ⟨n, rfl⟩ : ∃ n', n = n' + 1 := ⟨n - 1, by omega⟩
  obtain ⟨e, he, hd⟩ := Xq (show k < a.length by omega)
  obtain ⟨f, hf, hd2⟩ := Xq (show k < b.length by omega)
  rw [J7, hd, hd2]
  simp only [Bool.cond_decide, if_pos (show ((k : Int) < (a.length : Int)) by omega), Zau, he, hf, Option.bind_some]
  rw [J2 (by omega), show ((k : Int) + 1) = ((k + 1 : Nat) : Int) by omega, ih (k + 1) n v (by omega) (by omega) (by omega)]
  by_cases h : e = f
  ·subst h; rw [if_neg (fun h => h rfl)]; congr 1; rw [Bool.eq_iff_iff]; simp
  ·rw [if_pos h]; congr 1; rw [Bool.eq_iff_iff]; simp [h]
theorem p_ints (a b : List Int) (hl : a.length ≤ 1000000) : Zbm a b = some (decide (a = b)) := by
 unfold Zbm
 by_cases h : a.length = b.length
 ·simp only [Bool.cond_decide, if_neg (show ¬ ((a.length : Int) ≠ (b.length : Int)) by omega)]
  have := p_ints_l1 a b hl h a.length 0 Xn false (by omega) (by omega) (by unfold Xn; omega)
  simpa using this
 ·simp only [Bool.cond_decide, if_pos (show ((a.length : Int) ≠ (b.length : Int)) by omega)]
  rw [decide_eq_false (fun h' => h (by rw [h']))]
theorem p_Same20_l1 (x y : Co) (h : BdC x) (hab : x.votes.length = y.votes.length) : ∀ (m k n : Nat) (v : Bool), m = x.votes.length - k → k ≤ x.votes.length → m < n → J5 x y n v k = some (decide (x.votes.drop k = y.votes.drop k ∧ x.next = y.next ∧ x.mtch = y.mtch ∧ x.caps = y.caps)) := by
 have hv := h.lv
 intro m
 induction m with
 | zero =>
  intro k n v hm hk hn
  obtain ⟨n, rfl⟩ : ∃ n', n = n' + 1 := ⟨n - 1, by omega⟩
  rw [J5, List.drop_eq_nil_of_le (by omega), List.drop_eq_nil_of_le (by omega)]
  simp only [Bool.cond_decide, if_neg (show ¬ ((k : Int) < (x.votes.length : Int)) by omega), p_ints _ _ h.ln, p_ints _ _ h.lm, p_ints _ _ h.lc, Option.bind_some]
  (repeat' split) <;> (congr 1; rw [Bool.eq_iff_iff]; simp_all)
 | succ m ih =>
  intro k n v hm hk hn
  obtain ⟨n, rfl⟩ : ∃ n', n = n' + 1 := ⟨n - 1, by omega⟩
  obtain ⟨e, he, hd⟩ := Xq (show k < x.votes.length by omega)
  obtain ⟨f, hf, hd2⟩ := Xq (show k < y.votes.length by omega)
  rw [J5, hd, hd2]
  simp only [Bool.cond_decide, if_pos (show ((k : Int) < (x.votes.length : Int)) by omega), Zau, he, hf, Option.bind_some]
  rw [J2 (by omega), show ((k : Int) + 1) = ((k + 1 : Nat) : Int) by omega, ih (k + 1) n v (by omega) (by omega) (by omega)]
  by_cases h : e = f
  ·subst h; rw [if_neg (fun h => h rfl)]; congr 1; rw [Bool.eq_iff_iff]; simp
  ·rw [if_pos h]; congr 1; rw [Bool.eq_iff_iff]; simp [h]
theorem p_Same20 (x y : Co) (h : BdC x) : Zbn x y = some (decide (x = y)) := by
 have hv := h.lv
 obtain ⟨a1, a2, a3, a4, a5, a6, a7, a8, a9, a10, a11⟩ := x
 obtain ⟨b1, b2, b3, b4, b5, b6, b7, b8, b9, b10, b11⟩ := y
 simp only [Zbn, p_Same12 a5 b5 h.tup.1, snap_eq, Option.bind_some, Bool.cond_decide, Co.mk.injEq, Bool.cond_not]
 by_cases c1 : a1 = b1
 case neg => simp [c1]
 by_cases c2 : a2 = b2
 case neg => simp [c2]
 by_cases c3 : a3 = b3
 case neg => simp [c3]
 by_cases c4 : a4 = b4
 case neg => simp [c4]
 by_cases c5 : a5 = b5
 case neg => simp [c5]
 by_cases c6 : a6 = b6
 case neg => simp [c6]
 by_cases c7 : a7 = b7
 case neg => simp [c7]
 by_cases c8 : a8.length = b8.length
 case neg =>
  have : a8 ≠ b8 := fun h => c8 (by rw [h])
  simp [c8, this]
  intros; omega
 have := p_Same20_l1 ⟨a1, a2, a3, a4, a5, a6, a7, a8, a9, a10, a11⟩ ⟨b1, b2, b3, b4, b5, b6, b7, b8, b9, b10, b11⟩ h c8 a8.length 0 Xn false (by simp) (by omega) (by dsimp only at hv; unfold Xn; omega)
 dsimp only at this
 rw [show ((0 : Nat) : Int) = 0 from rfl] at this
 rw [this]
 subst c1; subst c2; subst c3; subst c4; subst c5; subst c6; subst c7
 simp [c8]
theorem p_Great_no (x : Co) (h : Zal x = some false) : BdC x ∧ x.votes.length ≤ 9 ∧ x.next.length ≤ 9 ∧ x.mtch.length ≤ 9 ∧ x.caps.length ≤ 9 ∧ x.tuple.log.length ≤ 250 := by
 unfold Zal Zct at h
 simp only [Option.bind_some, Bool.cond_decide] at h
 repeat' split at h
 all_goals first | (cases h; done) | skip
 simp only [Option.some.injEq, decide_eq_false_iff_not] at h
 refine ⟨⟨⟨by omega, by omega, by omega⟩, by omega, by omega, by omega, by omega⟩, by omega, by omega, by omega, by omega, by omega⟩
theorem p_Great_some (x : Co) : ∃ b, Zal x = some b := by
 unfold Zal Zct
 simp only [Option.bind_some, Bool.cond_decide]
 repeat' split
 all_goals exact ⟨_, rfl⟩
theorem RightC.bd {x : Co} (h : RightC x) : BdC x := by
 have h1 := Zea _ h.tup
 have := h.n
 have := h.lv
 have := h.ln
 have := h.lm
 have := h.lc
 exact ⟨⟨by omega, h1.1, by omega⟩, by omega, by omega, by omega, by omega⟩
theorem p_State12' (x : Tu) (i : Int) (h : bdT x) : Zby x i = some ((stOf x i).getD ⟨0, 0, 0, 0, false⟩, (stOf x i).isSome) := by rw [p_State12 x i h, q_State x i h]
theorem p_Right20_l1 (x : Co) (hn : 1 ≤ x.n ∧ x.n ≤ 5) (hi : 1 ≤ x.id ∧ x.id ≤ x.n) (h2 : (x.next.length : Int) = x.n) (h3 : (x.mtch.length : Int) = x.n) (h4 : (x.caps.length : Int) = x.n) (hb : bdT x.tuple) : ∀ (m k n : Nat) (b : Bool), m = x.caps.length - k → k ≤ x.caps.length → m < n →
  Jo x x.tuple.last n b k = some (cdec (InB (x.next.drop k) 1 (x.tuple.last + 1) ∧ InB (x.mtch.drop k) 0 x.tuple.last ∧ InB (x.caps.drop k) 0 2 ∧ x.caps[(x.id - 1).toNat]? = some x.binary ∧ (x.role = 0 ∨ (0 < x.tuple.term ∧ x.tuple.vote = x.id)))) := by
 have hlb := last_bd hb
 have hw : IntKind.wrap .i64 (x.tuple.last + 1) = x.tuple.last + 1 := J2 (by omega)
 obtain ⟨e0, he0, he1⟩ := own_get x hn hi h4
 intro m
 induction m with
 | zero =>
  intro k n b hm hk hn'
  obtain ⟨n, rfl⟩ : ∃ n', n = n' + 1 := ⟨n - 1, by omega⟩
  rw [Jo, List.drop_eq_nil_of_le (by omega), List.drop_eq_nil_of_le (by omega), List.drop_eq_nil_of_le (by omega)]
  simp only [Bool.cond_decide, if_neg (show ¬ ((k : Int) < x.n) by omega), he0, he1, Option.bind_some, Option.some.injEq]
  by_cases c1 : x.role = 0
  ·rw [if_neg (fun h => h c1), Zep]; congr 1; exact V2 ⟨fun h => ⟨Ze4, Ze4, Ze4, h, .inl c1⟩, fun h => h.2.2.2.1⟩
  ·rw [if_pos c1]
   by_cases c2 : x.tuple.term < 1
   ·rw [if_pos c2, Yk]; rintro ⟨_, _, _, _, h | h⟩; exact c1 h; omega
   ·rw [if_neg c2]
    by_cases c3 : x.tuple.vote = x.id
    ·rw [if_neg (fun h => h c3), Zep]; congr 1; exact V2 ⟨fun h => ⟨Ze4, Ze4, Ze4, h, .inr ⟨by omega, c3⟩⟩, fun h => h.2.2.2.1⟩
    ·rw [if_pos c3, Yk]; rintro ⟨_, _, _, _, h | h⟩; exact c1 h; exact c3 h.2
 | succ m ih =>
  intro k n b hm hk hn'
  obtain ⟨n, rfl⟩ : ∃ n', n = n' + 1 := ⟨n - 1, by omega⟩
  obtain ⟨e, he, hd⟩ := Xq (show k < x.next.length by omega)
  obtain ⟨f, hf, hd2⟩ := Xq (show k < x.mtch.length by omega)
  obtain ⟨g, hg, hd3⟩ := Xq (show k < x.caps.length by omega)
  rw [Jo, hd, hd2, hd3]
  simp only [Bool.cond_decide, if_pos (show ((k : Int) < x.n) by omega), Zau, he, hf, hg, Option.bind_some, hw]
  rw [J2 (n := (k : Int) + 1) (by omega), show ((k : Int) + 1) = ((k + 1 : Nat) : Int) by omega, ih (k + 1) n b (by omega) (by omega) (by omega)]
  by_cases c1 : e < 1
  ·rw [if_pos c1, Yk]; rintro ⟨h, _⟩; have := (InB_cons.1 h).1; omega
  rw [if_neg c1]
  by_cases c2 : x.tuple.last + 1 < e
  ·rw [if_pos c2, Yk]; rintro ⟨h, _⟩; have := (InB_cons.1 h).1; omega
  rw [if_neg c2]
  by_cases c3 : f < 0
  ·rw [if_pos c3, Yk]; rintro ⟨_, h, _⟩; have := (InB_cons.1 h).1; omega
  rw [if_neg c3]
  by_cases c4 : x.tuple.last < f
  ·rw [if_pos c4, Yk]; rintro ⟨_, h, _⟩; have := (InB_cons.1 h).1; omega
  rw [if_neg c4]
  by_cases c5 : g < 0
  ·rw [if_pos c5, Yk]; rintro ⟨_, _, h, _⟩; have := (InB_cons.1 h).1; omega
  rw [if_neg c5]
  by_cases c6 : 2 < g
  ·rw [if_pos c6, Yk]; rintro ⟨_, _, h, _⟩; have := (InB_cons.1 h).1; omega
  rw [if_neg c6]
  congr 1
  exact V2 ⟨fun h => ⟨InB_cons.2 ⟨by omega, h.1⟩, InB_cons.2 ⟨by omega, h.2.1⟩, InB_cons.2 ⟨by omega, h.2.2.1⟩, h.2.2.2⟩, fun h => ⟨(InB_cons.1 h.1).2, (InB_cons.1 h.2.1).2, (InB_cons.1 h.2.2.1).2, h.2.2.2⟩⟩
theorem p_Right20 (x : Co) (h : BdC x) : Zbw x = some (Zd4 x) := by
 simp only [Zbw, p_Right12, p_State12' x.tuple x.commit h.tup, Zeq x.tuple h.tup, Option.bind_some, snap_eq, Bool.cond_decide]
 unfold Zd4
 by_cases c1 : x.n < 1
 ·rw [if_pos c1, Yk (p := RightC x) fun h => by have := h.n; omega]
 rw [if_neg c1]
 by_cases c2 : 5 < x.n
 ·rw [if_pos c2, Yk (p := RightC x) fun h => by have := h.n; omega]
 rw [if_neg c2]
 by_cases c3 : x.id < 1
 ·rw [if_pos c3, Yk (p := RightC x) fun h => by have := h.id; omega]
 rw [if_neg c3]
 by_cases c4 : x.n < x.id
 ·rw [if_pos c4, Yk (p := RightC x) fun h => by have := h.id; omega]
 rw [if_neg c4]
 by_cases c5 : 2 < x.role
 ·rw [if_pos c5, Yk (p := RightC x) fun h => by have := h.role; omega]
 rw [if_neg c5]
 by_cases c6 : x.binary < 1
 ·rw [if_pos c6, Yk (p := RightC x) fun h => by have := h.bin; omega]
 rw [if_neg c6]
 by_cases c7 : 2 < x.binary
 ·rw [if_pos c7, Yk (p := RightC x) fun h => by have := h.bin; omega]
 rw [if_neg c7]
 cases c8 : Jm x.tuple with
 | false => rw [Yk (p := RightC x) fun h => by have h2 := h.tup; rw [c8] at h2; cases h2]; rfl
 | true =>
  simp only [Bool.not_true, cond_false]
  cases c9 : stOf x.tuple x.commit with
  | none => rw [Yk (p := RightC x) fun h => by rw [h.st] at c9; cases c9]; rfl
  | some s =>
   simp only [Option.isSome_some, Option.getD_some, Bool.not_true, cond_false]
   by_cases d1 : s = x.applied
   case neg => rw [decide_eq_false d1, Yk (p := RightC x) fun h => d1 (by have := h.st; rw [c9] at this; exact QJ this)]; rfl
   rw [decide_eq_true d1]
   simp only [Bool.not_true, cond_false]
   by_cases d2 : (x.votes.length : Int) = x.n
   case neg => rw [if_pos d2, Yk (p := RightC x) fun h => d2 h.lv]
   rw [if_neg (fun h => h d2)]
   by_cases d3 : (x.next.length : Int) = x.n
   case neg => rw [if_pos d3, Yk (p := RightC x) fun h => d3 h.ln]
   rw [if_neg (fun h => h d3)]
   by_cases d4 : (x.mtch.length : Int) = x.n
   case neg => rw [if_pos d4, Yk (p := RightC x) fun h => d4 h.lm]
   rw [if_neg (fun h => h d4)]
   by_cases d5 : (x.caps.length : Int) = x.n
   case neg => rw [if_pos d5, Yk (p := RightC x) fun h => d5 h.lc]
   rw [if_neg (fun h => h d5)]
   have := p_Right20_l1 x (by omega) (by omega) d3 d4 d5 h.tup x.caps.length 0 Xn false (by omega) (by omega) (by have := h.lc; unfold Xn; omega)
   rw [show ((0 : Nat) : Int) = 0 from rfl] at this
   rw [this]
   simp only [List.drop_zero]
   congr 1
   subst d1
   exact V2 ⟨fun h => ⟨by omega, by omega, by omega, by omega, c8, c9, d2, d3, d4, d5, h.1, h.2.1, h.2.2.1, h.2.2.2.1, h.2.2.2.2⟩, fun h => ⟨h.next, h.mtch, h.caps, h.own, h.lead⟩⟩
end

end Go.Proofs.Ytamjlcaoieliaaa
