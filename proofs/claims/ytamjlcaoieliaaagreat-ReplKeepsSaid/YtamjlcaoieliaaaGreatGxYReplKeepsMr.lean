/- Texts of one claim put together. -/
import Derived.Test.YtamjlcaoieliaaaGreatMr1
import Derived.Test.YtamjlcaoieliaaaGreatMr2
import Derived.Test.YtamjlcaoieliaaaGreatMr5
namespace Go.Proofs.YtamjlcaoieliaaaGreat
open Go Go.RowKit
set_option maxRecDepth 100000
set_option maxHeartbeats 4000000
theorem c_law23_ReplKeeps (x0 : Co) (x1 : Ms) (A0_ : OA) (c0_ : Nat) (A1_ : OA) (c1_ : Nat) (A2_ : OA) (c2_ : Nat) (A3_ : OA) (c3_ : Nat) (A4_ : OA) (c4_ : Nat) (A5_ : OA) (c5_ : Nat) (w0 : World) (s0_ : SlI w0 Jj A0_ c0_ x0.tuple.log) (s1_ : SlI w0 enO A1_ c1_ x0.votes) (s2_ : SlI w0 V1 A2_ c2_ x0.next) (s3_ : SlI w0 V1 A3_ c3_ x0.mtch) (s4_ : SlI w0 V1 A4_ c4_ x0.caps) (s5_ : SlI w0 Jj A5_ c5_ x1.entries) {r : Bool} (H : Zbz x0 x1 = some r) : Calls Tryz.prog 5 #[.agg #[.int .i64 x0.id, .int .i64 x0.n, .int .u8 x0.role, .int .i64 x0.binary, .int .i64 x0.tuple.snap.index, .int .i64 x0.tuple.snap.term, .int .i64 x0.tuple.snap.sum, .int .i64 x0.tuple.snap.level, .bool x0.tuple.snap.final, .slice A0_ x0.tuple.log.length c0_, .int .i64 x0.tuple.term, .int .i64 x0.tuple.vote, .int .i64 x0.commit, .int .i64 x0.applied.index, .int .i64 x0.applied.term, .int .i64 x0.applied.sum, .int .i64 x0.applied.level, .bool x0.applied.final, .slice A1_ x0.votes.length c1_, .slice A2_ x0.next.length c2_, .slice A3_ x0.mtch.length c3_, .slice A4_ x0.caps.length c4_], .agg #[.int .u8 x1.kind, .int .i64 x1.frm, .int .i64 x1.dst, .int .i64 x1.term, .int .i64 x1.cap, .int .i64 x1.last, .int .i64 x1.lastTerm, .int .i64 x1.commit, .bool x1.okk, .slice A5_ x1.entries.length c5_, .int .i64 x1.snap.index, .int .i64 x1.snap.term, .int .i64 x1.snap.sum, .int .i64 x1.snap.level, .bool x1.snap.final]] w0 fun e w' => e = .returned (.bool r) ∧ St0 All w0 w' [] := by
 unfold Zbz at H
 refine Yt Tryz.func5 rfl Tryz.ntmps5 rfl ?_
 have hS := St0.start All w0
 refine Ze (fun K hK1 => ?_)
 refine Zf ?_
 refine Yd rfl rfl rfl CellsOf.agg hS (fun b2 w hS hB => ?_)
 refine Yd rfl rfl rfl CellsOf.agg hS (fun b4 w hS hB => ?_)
 refine Zc 1 rfl ?_
 refine Zg ?_
 refine Zb hK1 ?_
 refine Ze (fun K hK6 => ?_)
 refine Ze (fun K hK7 => ?_)
 refine Zf ?_
 refine Za rfl rfl rfl (Zj Ye rfl (Zgw _) hS Xw trivial Z3) ?_
 refine Za rfl rfl rfl (Zj Vi rfl (Zgw _) hS hs0 trivial Xp) ?_
 obtain ⟨r8, hm9, H⟩ := bind_some H
 refine Zq rfl rfl rfl rfl (by kernel_rfl) rfl (c_law23_great x0 x1 A0_ c0_ A1_ c1_ A2_ c2_ A3_ c3_ A4_ c4_ A5_ c5_ _ (Zgz s0_.k (hS.rd0 s0_.rd) (hS.blk0 s0_.blk)) (Zgz s1_.k (hS.rd0 s1_.rd) (hS.blk0 s1_.blk)) (Zgz s2_.k (hS.rd0 s2_.rd) (hS.blk0 s2_.blk)) (Zgz s3_.k (hS.rd0 s3_.rd) (hS.blk0 s3_.blk)) (Zgz s4_.k (hS.rd0 s4_.rd) (hS.blk0 s4_.blk)) (Zgz s5_.k (hS.rd0 s5_.rd) (hS.blk0 s5_.blk)) hm9) ?_
 rintro e w ⟨rfl, hN⟩; refine ⟨_, rfl, ?_⟩; obtain ⟨hB, hS⟩ := hS.jn hN
 refine Zc 1 rfl ?_
 refine Zs 21 rfl (fun hb => ?_) (fun hb => ?_)
 ·replace H := Zp H hb
  refine Zc 4 rfl ?_
  refine Zg ?_
  refine Zb hK7 ?_
  refine Zt rfl rfl ?_
  refine Ze (fun K hK10 => ?_)
  refine Zf ?_
  obtain ⟨r11, hm12, H⟩ := bind_some H
  refine Zq rfl rfl rfl rfl (by kernel_rfl) rfl (Vc _ hm12) ?_
  rintro e w ⟨rfl, hN⟩; refine ⟨_, rfl, ?_⟩; obtain ⟨hB, hS⟩ := hS.jn hN
  refine Zc 1 rfl ?_
  refine Zg ?_
  refine Zb hK10 ?_
  refine Zk ?_
  refine Zi ?_
  refine Zl rfl (RV.tmp rfl RV.nil) rfl ?_
  obtain rfl := QJ H
  replace hS := hS.cut 0
  exact ⟨rfl, hS⟩
 replace H := Zo H hb
 refine Za rfl rfl rfl (Zj Ye rfl (Zgw _) hS Xw trivial Z3) ?_
 obtain ⟨r13, hm14, H⟩ := bind_some H
 refine Zq rfl rfl rfl rfl (by kernel_rfl) rfl (Zcv x0 A0_ c0_ A1_ c1_ A2_ c2_ A3_ c3_ A4_ c4_ _ (Zgz s0_.k (hS.rd0 s0_.rd) (hS.blk0 s0_.blk)) (Zgz s1_.k (hS.rd0 s1_.rd) (hS.blk0 s1_.blk)) (Zgz s2_.k (hS.rd0 s2_.rd) (hS.blk0 s2_.blk)) (Zgz s3_.k (hS.rd0 s3_.rd) (hS.blk0 s3_.blk)) (Zgz s4_.k (hS.rd0 s4_.rd) (hS.blk0 s4_.blk)) hm14) ?_
 rintro e w ⟨rfl, hN⟩; refine ⟨_, rfl, ?_⟩; obtain ⟨hB, hS⟩ := hS.jn hN
 refine Za rfl rfl rfl (Yy rfl) ?_
 refine Zc 1 rfl ?_
 refine Zg ?_
 refine Zb hK7 ?_
 refine Zz rfl (fun hb => ?_) (fun hb => ?_)
 ·replace H := Zp H hb
  refine Ze (fun K hK15 => ?_)
  refine Zf ?_
  obtain ⟨r16, hm17, H⟩ := bind_some H
  refine Zq rfl rfl rfl rfl (by kernel_rfl) rfl (Vc _ hm17) ?_
  rintro e w ⟨rfl, hN⟩; refine ⟨_, rfl, ?_⟩; obtain ⟨hB, hS⟩ := hS.jn hN
  refine Zc 1 rfl ?_
  refine Zg ?_
  refine Zb hK15 ?_
  refine Zk ?_
  refine Zi ?_
  refine Zl rfl (RV.tmp rfl RV.nil) rfl ?_
  obtain rfl := QJ H
  replace hS := hS.cut 0
  exact ⟨rfl, hS⟩
 replace H := Zo H hb
 refine Zr ?_
 refine Zb hK6 ?_
 refine Ze (fun K hK18 => ?_)
 refine Zf ?_
 refine Za rfl rfl rfl (Zj Ye rfl (Zgw _) hS Xw trivial Z3) ?_
 obtain ⟨r19, hm20, H⟩ := bind_some H
 refine Zq rfl rfl rfl rfl (by kernel_rfl) rfl (c_ref20_Own x0 A0_ c0_ A1_ c1_ A2_ c2_ A3_ c3_ A4_ c4_ _ (Zgz s0_.k (hS.rd0 s0_.rd) (hS.blk0 s0_.blk)) (Zgz s1_.k (hS.rd0 s1_.rd) (hS.blk0 s1_.blk)) (Zgz s2_.k (hS.rd0 s2_.rd) (hS.blk0 s2_.blk)) (Zgz s3_.k (hS.rd0 s3_.rd) (hS.blk0 s3_.blk)) (Zgz s4_.k (hS.rd0 s4_.rd) (hS.blk0 s4_.blk)) hm20) ?_
 rintro e w ⟨A21, c22, A25, c26, A29, c30, A33, c34, A37, c38, rfl, k23, k27, k31, k35, k39, hN⟩; refine ⟨_, rfl, ?_⟩; obtain ⟨hB, hS⟩ := hS.jn hN
 refine Yh rfl rfl Zd5 hS (fun b41 w hS hB => ?_)
 refine Zm rfl rfl rfl CellsOf.agg hS ps0 Yz (by kernel_rfl) rfl (fun w hS hB => ?_)
 refine Zg ?_
 refine Zb hK18 ?_
 refine Ze (fun K hK43 => ?_)
 refine Zf ?_
 refine Za rfl rfl rfl (Zj Ye rfl (Zgw _) hS hs7 trivial Z3) ?_
 refine Za rfl rfl rfl (Zj Vi rfl (Zgw _) hS hs6 trivial Xp) ?_
 obtain ⟨r44, hm45, H⟩ := bind_some H
 refine Zq rfl rfl rfl rfl (by kernel_rfl) rfl (Zgg x0 x1 A0_ c0_ A1_ c1_ A2_ c2_ A3_ c3_ A4_ c4_ A5_ c5_ _ (Zgz s0_.k (hS.rd0 s0_.rd) (hS.blk0 s0_.blk)) (Zgz s1_.k (hS.rd0 s1_.rd) (hS.blk0 s1_.blk)) (Zgz s2_.k (hS.rd0 s2_.rd) (hS.blk0 s2_.blk)) (Zgz s3_.k (hS.rd0 s3_.rd) (hS.blk0 s3_.blk)) (Zgz s4_.k (hS.rd0 s4_.rd) (hS.blk0 s4_.blk)) (Zgz s5_.k (hS.rd0 s5_.rd) (hS.blk0 s5_.blk)) hm45) ?_
 rintro e w ⟨A46, c47, A50, c51, A54, c55, A58, c59, A62, c63, A66, c67, q70, rfl, k48, k52, k56, k60, k64, k68, hq71, okq72, hN⟩; refine ⟨_, rfl, ?_⟩; obtain ⟨hB, hS⟩ := hS.jn hN
 refine Zc 1 rfl ?_
 refine Za rfl rfl rfl (Z7 rfl rfl) ?_
 refine Za rfl rfl rfl (Z7 rfl rfl) ?_
 refine Yh rfl rfl Zd5 hS (fun b74 w hS hB => ?_)
 refine Zm rfl rfl rfl CellsOf.agg hS ps0 Yz (by kernel_rfl) rfl (fun w hS hB => ?_)
 refine Zc 1 rfl ?_
 refine Zg ?_
 refine Zb hK43 ?_
 refine Ze (fun K hK76 => ?_)
 refine Ze (fun K hK77 => ?_)
 refine Zf ?_
 refine Za rfl rfl rfl (Zj Ye rfl (Zgw _) hS hs0 trivial Z3) ?_
 obtain ⟨r78, hm79, H⟩ := bind_some H
 refine Zq rfl rfl rfl rfl (by kernel_rfl) rfl (Zcv r44.1 A46 c47 A50 c51 A54 c55 A58 c59 A62 c63 _ (Zgz k48 (hS.rd Xw) (hS.rd_blk Xw)) (Zgz k52 (hS.row_rd Vf) (hS.row_blk Vf)) (Zgz k56 (hS.row_rd hs3) (hS.row_blk hs3)) (Zgz k60 (hS.row_rd hs4) (hS.row_blk hs4)) (Zgz k64 (hS.row_rd hs5) (hS.row_blk hs5)) hm79) ?_
 rintro e w ⟨rfl, hN⟩; refine ⟨_, rfl, ?_⟩; obtain ⟨hB, hS⟩ := hS.jn hN
 refine Za rfl rfl rfl (Yy rfl) ?_
 refine Zc 1 rfl ?_
 refine Zs 38 rfl (fun hb => ?_) (fun hb => ?_)
 ·replace H := Zp H hb
  refine Zc 35 rfl ?_
  refine Zg ?_
  refine Zb hK77 ?_
  refine Zt rfl rfl ?_
  refine Ze (fun K hK80 => ?_)
  refine Zf ?_
  refine Zc 1 rfl ?_
  refine Zg ?_
  refine Zb hK80 ?_
  refine Zk ?_
  refine Zi ?_
  refine Zl rfl (RV.tmp rfl RV.nil) rfl ?_
  obtain rfl := QJ H
  replace hS := hS.cut 0
  exact ⟨rfl, hS⟩
 replace H := Zo H hb
 refine Za rfl rfl rfl (Zj Ye rfl (Zgw _) hS Zev trivial Z3) ?_
 refine Za rfl rfl rfl (Zj Ye rfl (Zgw _) hS hs8 trivial Z3) ?_
 obtain ⟨r81, hm82, H⟩ := bind_some H
 refine Zq rfl rfl rfl rfl (by kernel_rfl) rfl (Zfd x0 r19 A0_ c0_ A1_ c1_ A2_ c2_ A3_ c3_ A4_ c4_ A21 c22 A25 c26 A29 c30 A33 c34 A37 c38 _ (Zgz s0_.k (hS.rd0 s0_.rd) (hS.blk0 s0_.blk)) (Zgz s1_.k (hS.rd0 s1_.rd) (hS.blk0 s1_.blk)) (Zgz s2_.k (hS.rd0 s2_.rd) (hS.blk0 s2_.blk)) (Zgz s3_.k (hS.rd0 s3_.rd) (hS.blk0 s3_.blk)) (Zgz s4_.k (hS.rd0 s4_.rd) (hS.blk0 s4_.blk)) (Zgz k23 (hS.row_rd hs9) (hS.row_blk hs9)) (Zgz k27 (hS.row_rd Zex) (hS.row_blk Zex)) (Zgz k31 (hS.row_rd hs11) (hS.row_blk hs11)) (Zgz k35 (hS.row_rd hs12) (hS.row_blk hs12)) (Zgz k39 (hS.row_rd Zeq) (hS.row_blk Zeq)) hm82) ?_
 rintro e w ⟨rfl, hN⟩; refine ⟨_, rfl, ?_⟩; obtain ⟨hB, hS⟩ := hS.jn hN
 refine Za rfl rfl rfl (Yy rfl) ?_
 refine Zc 2 rfl ?_
 refine Zs 44 rfl (fun hb => ?_) (fun hb => ?_)
 ·replace H := Zp H hb
  refine Zc 29 rfl ?_
  refine Zg ?_
  refine Zb hK77 ?_
  refine Zt rfl rfl ?_
  refine Ze (fun K hK83 => ?_)
  refine Zf ?_
  refine Zc 1 rfl ?_
  refine Zg ?_
  refine Zb hK83 ?_
  refine Zk ?_
  refine Zi ?_
  refine Zl rfl (RV.tmp rfl RV.nil) rfl ?_
  obtain rfl := QJ H
  replace hS := hS.cut 0
  exact ⟨rfl, hS⟩
 replace H := Zo H hb
 refine Za rfl rfl rfl (Zd Vd rfl) ?_
 refine Za rfl rfl rfl (Zh Zw rfl (Zgw _) hS hs0 trivial Jl) ?_
 refine Za rfl rfl rfl (Zd Vd rfl) ?_
 refine Za rfl rfl rfl (Zh Zw rfl (Zgw _) hS Zev trivial Jl) ?_
 refine Za rfl rfl rfl (Xe rfl rfl) ?_
 refine Zc 2 rfl ?_
 refine Zs 51 rfl (fun hb => ?_) (fun hb => ?_)
 ·replace H := Zp H hb
  refine Zc 22 rfl ?_
  refine Zg ?_
  refine Zb hK77 ?_
  refine Zt rfl rfl ?_
  refine Ze (fun K hK84 => ?_)
  refine Zf ?_
  refine Zc 1 rfl ?_
  refine Zg ?_
  refine Zb hK84 ?_
  refine Zk ?_
  refine Zi ?_
  refine Zl rfl (RV.tmp rfl RV.nil) rfl ?_
  obtain rfl := QJ H
  replace hS := hS.cut 0
  exact ⟨rfl, hS⟩
 replace H := Zo H hb
 refine Za rfl rfl rfl (Zd Yr rfl) ?_
 refine Za rfl rfl rfl (Zd Vr rfl) ?_
 refine Za rfl rfl rfl (Zh Zw rfl (Zgw _) hS hs0 trivial J7) ?_
 refine Za rfl rfl rfl (Zd Yr rfl) ?_
 refine Za rfl rfl rfl (Zd Vr rfl) ?_
 refine Za rfl rfl rfl (Zh Zw rfl (Zgw _) hS Zev trivial J7) ?_
 refine Za rfl rfl rfl (Xe rfl rfl) ?_
 refine Zc 2 rfl ?_
 refine Zs 60 rfl (fun hb => ?_) (fun hb => ?_)
 ·replace H := Zp H hb
  refine Zc 13 rfl ?_
  refine Zg ?_
  refine Zb hK77 ?_
  refine Zt rfl rfl ?_
  refine Ze (fun K hK85 => ?_)
  refine Zf ?_
  refine Zc 1 rfl ?_
  refine Zg ?_
  refine Zb hK85 ?_
  refine Zk ?_
  refine Zi ?_
  refine Zl rfl (RV.tmp rfl RV.nil) rfl ?_
  obtain rfl := QJ H
  replace hS := hS.cut 0
  exact ⟨rfl, hS⟩
 replace H := Zo H hb
 refine Zc 1 rfl ?_
 refine Za rfl rfl rfl (Yw V0 rfl) ?_
 refine Za rfl rfl rfl (Y9 rfl rfl) ?_
 refine Zc 2 rfl ?_
 refine Zs 65 rfl (fun hb => ?_) (fun hb => ?_)
 ·replace H := Zp H hb
  refine Zc 8 rfl ?_
  refine Zg ?_
  refine Zb hK77 ?_
  refine Zt rfl rfl ?_
  refine Ze (fun K hK86 => ?_)
  refine Zf ?_
  refine Zc 1 rfl ?_
  refine Zg ?_
  refine Zb hK86 ?_
  refine Zk ?_
  refine Zi ?_
  refine Zl rfl (RV.tmp rfl RV.nil) rfl ?_
  obtain rfl := QJ H
  replace hS := hS.cut 0
  exact ⟨rfl, hS⟩
 replace H := Zo H hb
 refine Za rfl rfl rfl (Zd Yr rfl) ?_
 refine Za rfl rfl rfl (Zd Xj rfl) ?_
 refine Za rfl rfl rfl (Zj Y3 rfl (Zgw _) hS hs0 trivial sg4_5) ?_
 refine Za rfl rfl rfl (Zd Yr rfl) ?_
 refine Za rfl rfl rfl (Zd Xj rfl) ?_
 refine Za rfl rfl rfl (Zj Y3 rfl (Zgw _) hS Zev trivial sg4_5) ?_
 refine Za rfl rfl rfl (yv_neqS (by kernel_rfl) rfl rfl (Zap _ _ _ _ _ _ _ _ _ _)) ?_
 refine Zc 1 rfl ?_
 refine Zg ?_
 refine Zb hK77 ?_
 refine Zz rfl (fun hb => ?_) (fun hb => ?_)
 ·replace H := Zp H hb
  refine Ze (fun K hK87 => ?_)
  refine Zf ?_
  refine Zc 1 rfl ?_
  refine Zg ?_
  refine Zb hK87 ?_
  refine Zk ?_
  refine Zi ?_
  refine Zl rfl (RV.tmp rfl RV.nil) rfl ?_
  obtain rfl := QJ H
  replace hS := hS.cut 0
  exact ⟨rfl, hS⟩
 replace H := Zo H hb
 refine Zr ?_
 refine Zb hK76 ?_
 refine Ze (fun K hK88 => ?_)
 refine Ze (fun K hK89 => ?_)
 refine Zf ?_
 refine Za rfl rfl rfl (Zd Yr rfl) ?_
 refine Za rfl rfl rfl (Zd Xj rfl) ?_
 refine Za rfl rfl rfl (Zd Yj rfl) ?_
 refine Za rfl rfl rfl (Zh Zw rfl (Zgw _) hS Zev trivial Zew) ?_
 refine Za rfl rfl rfl (Xc rfl rfl) ?_
 refine Zc 1 rfl ?_
 refine Zg ?_
 refine Zb hK89 ?_
 refine Yf ?_
 refine Vz (X := Nat × Bool × Int) (fun x => (2, .pointer (some ⟨b2, 0, none⟩)) :: (3, .pointer (some ⟨b4, 0, none⟩)) :: (4, .bool x.2.1) :: (6, .pointer (some ⟨b74, 0, none⟩)) :: (7, .slice A66 r44.2.length c67) :: (8, .int .i64 x.2.2) :: []) (fun x w => St0 All w0 w (.box b74 [.int .i64 r44.1.id, .int .i64 r44.1.n, .int .u8 r44.1.role, .int .i64 r44.1.binary, .int .i64 r44.1.tuple.snap.index, .int .i64 r44.1.tuple.snap.term, .int .i64 r44.1.tuple.snap.sum, .int .i64 r44.1.tuple.snap.level, .bool r44.1.tuple.snap.final, .slice A46 r44.1.tuple.log.length c47, .int .i64 r44.1.tuple.term, .int .i64 r44.1.tuple.vote, .int .i64 r44.1.commit, .int .i64 r44.1.applied.index, .int .i64 r44.1.applied.term, .int .i64 r44.1.applied.sum, .int .i64 r44.1.applied.level, .bool r44.1.applied.final, .slice A50 r44.1.votes.length c51, .slice A54 r44.1.next.length c55, .slice A58 r44.1.mtch.length c59, .slice A62 r44.1.caps.length c63] 30 :: .rd A46 (Yl Jj r44.1.tuple.log) :: .row (.slice A50 r44.1.votes.length c51) 4 1 r44.1.votes.length (Yl enO r44.1.votes) :: .row (.slice A54 r44.1.next.length c55) 3 1 r44.1.next.length (Yl V1 r44.1.next) :: .row (.slice A58 r44.1.mtch.length c59) 3 1 r44.1.mtch.length (Yl V1 r44.1.mtch) :: .row (.slice A62 r44.1.caps.length c63) 3 1 r44.1.caps.length (Yl V1 r44.1.caps) :: .rd A66 (Yl enQ q70) :: .rds (q70.map subQ) :: .box b41 [.int .i64 r19.id, .int .i64 r19.n, .int .u8 r19.role, .int .i64 r19.binary, .int .i64 r19.tuple.snap.index, .int .i64 r19.tuple.snap.term, .int .i64 r19.tuple.snap.sum, .int .i64 r19.tuple.snap.level, .bool r19.tuple.snap.final, .slice A21 r19.tuple.log.length c22, .int .i64 r19.tuple.term, .int .i64 r19.tuple.vote, .int .i64 r19.commit, .int .i64 r19.applied.index, .int .i64 r19.applied.term, .int .i64 r19.applied.sum, .int .i64 r19.applied.level, .bool r19.applied.final, .slice A25 r19.votes.length c26, .slice A29 r19.next.length c30, .slice A33 r19.mtch.length c34, .slice A37 r19.caps.length c38] 30 :: .row (.slice A21 r19.tuple.log.length c22) 53 3 r19.tuple.log.length (Yl Jj r19.tuple.log) :: .row (.slice A25 r19.votes.length c26) 4 1 r19.votes.length (Yl enO r19.votes) :: .row (.slice A29 r19.next.length c30) 3 1 r19.next.length (Yl V1 r19.next) :: .row (.slice A33 r19.mtch.length c34) 3 1 r19.mtch.length (Yl V1 r19.mtch) :: .row (.slice A37 r19.caps.length c38) 3 1 r19.caps.length (Yl V1 r19.caps) :: .box b4 [.int .u8 x1.kind, .int .i64 x1.frm, .int .i64 x1.dst, .int .i64 x1.term, .int .i64 x1.cap, .int .i64 x1.last, .int .i64 x1.lastTerm, .int .i64 x1.commit, .bool x1.okk, .slice A5_ x1.entries.length c5_, .int .i64 x1.snap.index, .int .i64 x1.snap.term, .int .i64 x1.snap.sum, .int .i64 x1.snap.level, .bool x1.snap.final] 32 :: .box b2 [.int .i64 x0.id, .int .i64 x0.n, .int .u8 x0.role, .int .i64 x0.binary, .int .i64 x0.tuple.snap.index, .int .i64 x0.tuple.snap.term, .int .i64 x0.tuple.snap.sum, .int .i64 x0.tuple.snap.level, .bool x0.tuple.snap.final, .slice A0_ x0.tuple.log.length c0_, .int .i64 x0.tuple.term, .int .i64 x0.tuple.vote, .int .i64 x0.commit, .int .i64 x0.applied.index, .int .i64 x0.applied.term, .int .i64 x0.applied.sum, .int .i64 x0.applied.level, .bool x0.applied.final, .slice A1_ x0.votes.length c1_, .slice A2_ x0.next.length c2_, .slice A3_ x0.mtch.length c3_, .slice A4_ x0.caps.length c4_] 30 :: []) ∧ Xm x0 x1 r44 x.1 x.2.1 x.2.2 = some r) (fun x => x.1) (Xo, false, (IntKind.wrap .i64 (x0.tuple.snap.index + 1))) (by repeat (first | exact Sub.nil | refine Sub.cons rfl ?_)) ⟨hS, H⟩ ?_
 rintro ⟨n, v90, v91⟩ w ⟨hS, H⟩
 dsimp only at hS H ⊢
 obtain _ | n := n
 ·have H0 : none = some r := H
  cases H0
 rw [Xm] at H
 refine Ze (fun K hK92 => ?_)
 refine Ze (fun K hK93 => ?_)
 refine Zf ?_
 refine Zc 1 rfl ?_
 refine Za rfl rfl rfl (Zd Vd rfl) ?_
 refine Za rfl rfl rfl (Zh Zw rfl (Zgw _) hS Zev trivial Jl) ?_
 refine Za rfl rfl rfl (Zbn rfl rfl) ?_
 refine Zg ?_
 refine Zb hK93 ?_
 refine Zz rfl (fun hb => ?_) (fun hb => ?_)
 ·replace H := Zp H hb
  refine Zr ?_
  refine Zb hK92 ?_
  refine Ze (fun K hK94 => ?_)
  refine Yf ?_
  refine Ze (fun K hK95 => ?_)
  refine Zf ?_
  refine Za rfl rfl rfl (Zd Yr rfl) ?_
  refine Za rfl rfl rfl (Zj Y7 rfl (Zgw _) hS Zev trivial Zak) ?_
  refine Zc 1 rfl ?_
  obtain ⟨r96, hm97, H⟩ := bind_some H
  refine Zq rfl rfl rfl rfl (by kernel_rfl) rfl (c_ref12_At x0.tuple v91 A0_ c0_ _ (Zgz s0_.k (hS.rd0 s0_.rd) (hS.blk0 s0_.blk)) hm97) ?_
  rintro e w ⟨rfl, hN⟩; refine ⟨_, rfl, ?_⟩; obtain ⟨hB, hS⟩ := hS.jn hN
  refine Zc 1 rfl ?_
  refine Za rfl rfl rfl (Z7 rfl rfl) ?_
  refine Za rfl rfl rfl (Z7 rfl rfl) ?_
  refine Yh rfl rfl Zcr hS (fun b98 w hS hB => ?_)
  refine Zm rfl rfl rfl CellsOf.agg hS ps0 Zf8 (by kernel_rfl) rfl (fun w hS hB => ?_)
  refine Zc 1 rfl ?_
  refine Zg ?_
  refine Zb hK95 ?_
  refine Ze (fun K hK100 => ?_)
  refine Zf ?_
  refine Za rfl rfl rfl (Zd Yr rfl) ?_
  refine Za rfl rfl rfl (Zj Y7 rfl (Zgw _) hS Xw trivial Zak) ?_
  refine Zc 1 rfl ?_
  obtain ⟨r101, hm102, H⟩ := bind_some H
  refine Zq rfl rfl rfl rfl (by kernel_rfl) rfl (c_law23_entryAt r44.1.tuple v91 A46 c47 _ (Zgz k48 (hS.rd Vf) (hS.rd_blk Vf)) hm102) ?_
  rintro e w ⟨rfl, hN⟩; refine ⟨_, rfl, ?_⟩; obtain ⟨hB, hS⟩ := hS.jn hN
  refine Zc 1 rfl ?_
  refine Za rfl rfl rfl (Z7 rfl rfl) ?_
  refine Za rfl rfl rfl (Z7 rfl rfl) ?_
  refine Yh rfl rfl Zcr hS (fun b103 w hS hB => ?_)
  refine Zm rfl rfl rfl CellsOf.agg hS ps0 Zf8 (by kernel_rfl) rfl (fun w hS hB => ?_)
  refine Zc 1 rfl ?_
  refine Zg ?_
  refine Zb hK100 ?_
  refine Ze (fun K hK105 => ?_)
  refine Zf ?_
  refine Zc 1 rfl ?_
  refine Za rfl rfl rfl (Yy rfl) ?_
  refine Zc 1 rfl ?_
  refine Zs 101 rfl (fun hb => ?_) (fun hb => ?_)
  ·replace H := Zp H hb
   refine Zc 4 rfl ?_
   refine Zg ?_
   refine Zb hK105 ?_
   refine Zt rfl rfl ?_
   refine Ze (fun K hK106 => ?_)
   refine Zf ?_
   refine Zc 1 rfl ?_
   refine Zg ?_
   refine Zb hK106 ?_
   refine Zk ?_
   refine Zv ?_
   refine Zi ?_
   refine Zi ?_
   refine Zv ?_
   refine Zi ?_
   refine Zl rfl (RV.tmp rfl RV.nil) rfl ?_
   obtain rfl := QJ H
   replace hS := hS.cut 0
   exact ⟨rfl, hS⟩
  replace H := Zo H hb
  refine Za rfl rfl rfl (Zj V8 rfl (Zgw _) hS Xw trivial Zb8) ?_
  refine Za rfl rfl rfl (Zj V8 rfl (Zgw _) hS hs0 trivial Zb8) ?_
  refine Za rfl rfl rfl (yv_neqS (by kernel_rfl) rfl rfl (eqT_53 _ _ _ _ _ _)) ?_
  refine Zc 1 rfl ?_
  refine Zg ?_
  refine Zb hK105 ?_
  refine Zz rfl (fun hb => ?_) (fun hb => ?_)
  rotate_left
  ·replace H := Zo H hb
   refine Zr ?_
   refine Z1 ?_
   refine Zb hK94 ?_
   refine Zf ?_
   refine Zc 1 rfl ?_
   refine Za rfl rfl rfl (Xc rfl rfl) ?_
   refine Zc 1 rfl ?_
   refine Zg ?_
   exact X3 (n, v90, (IntKind.wrap .i64 (v91 + 1))) (by repeat (first | exact Sub.nil | refine Sub.cons rfl ?_)) ⟨(hS.sub (List.Sublist.cons _ (List.Sublist.cons _ (List.Sublist.cons_cons _ (List.Sublist.cons_cons _ (List.Sublist.cons_cons _ (List.Sublist.cons_cons _ (List.Sublist.cons_cons _ (List.Sublist.cons_cons _ (List.Sublist.cons_cons _ (List.Sublist.cons_cons _ (List.Sublist.cons_cons _ (List.Sublist.cons_cons _ (List.Sublist.cons_cons _ (List.Sublist.cons_cons _ (List.Sublist.cons_cons _ (List.Sublist.cons_cons _ (List.Sublist.cons_cons _ (List.Sublist.cons_cons _ List.Sublist.slnil))))))))))))))))))), H⟩ (Nat.lt_succ_self _)
  replace H := Zp H hb
  refine Ze (fun K hK107 => ?_)
  refine Zf ?_
  refine Zc 1 rfl ?_
  refine Zg ?_
  refine Zb hK107 ?_
  refine Zk ?_
  refine Zv ?_
  refine Zi ?_
  refine Zi ?_
  refine Zv ?_
  refine Zi ?_
  refine Zl rfl (RV.tmp rfl RV.nil) rfl ?_
  obtain rfl := QJ H
  replace hS := hS.cut 0
  exact ⟨rfl, hS⟩
 replace H := Zo H hb
 refine Vl ?_
 refine Yb ?_
 refine Yb ?_
 refine Y6 ?_
 refine Zb hK88 ?_
 refine Ze (fun K hK108 => ?_)
 refine Zf ?_
 refine Za rfl rfl rfl (Zj Ye rfl (Zgw _) hS hs0 trivial Z3) ?_
 refine Za rfl rfl rfl (Zj Vi rfl (Zgw _) hS Zay trivial Xp) ?_
 obtain ⟨r109, hm110, H⟩ := bind_some H
 refine Zq rfl rfl rfl rfl (by kernel_rfl) rfl (Zgg r44.1 x1 A46 c47 A50 c51 A54 c55 A58 c59 A62 c63 A5_ c5_ _ (Zgz k48 (hS.rd Xw) (hS.rd_blk Xw)) (Zgz k52 (hS.row_rd Vf) (hS.row_blk Vf)) (Zgz k56 (hS.row_rd hs3) (hS.row_blk hs3)) (Zgz k60 (hS.row_rd hs4) (hS.row_blk hs4)) (Zgz k64 (hS.row_rd hs5) (hS.row_blk hs5)) (Zgz s5_.k (hS.rd0 s5_.rd) (hS.blk0 s5_.blk)) hm110) ?_
 rintro e w ⟨A111, c112, A115, c116, A119, c120, A123, c124, A127, c128, A131, c132, q135, rfl, k113, k117, k121, k125, k129, k133, hq136, okq137, hN⟩; refine ⟨_, rfl, ?_⟩; obtain ⟨hB, hS⟩ := hS.jn hN
 refine Zc 1 rfl ?_
 refine Za rfl rfl rfl (Z7 rfl rfl) ?_
 refine Za rfl rfl rfl (Z7 rfl rfl) ?_
 refine Yh rfl rfl Zd5 hS (fun b139 w hS hB => ?_)
 refine Zm rfl rfl rfl CellsOf.agg hS ps0 Yz (by kernel_rfl) rfl (fun w hS hB => ?_)
 refine Zc 1 rfl ?_
 refine Zg ?_
 refine Zb hK108 ?_
 refine Ze (fun K hK141 => ?_)
 refine Ze (fun K hK142 => ?_)
 refine Zf ?_
 refine Za rfl rfl rfl (Zj Ye rfl (Zgw _) hS hs0 trivial Z3) ?_
 refine Za rfl rfl rfl (Zj Ye rfl (Zgw _) hS hs8 trivial Z3) ?_
 obtain ⟨r143, hm144, H⟩ := bind_some H
 refine Zq rfl rfl rfl rfl (by kernel_rfl) rfl (Zfd r109.1 r44.1 A111 c112 A115 c116 A119 c120 A123 c124 A127 c128 A46 c47 A50 c51 A54 c55 A58 c59 A62 c63 _ (Zgz k113 (hS.rd Xw) (hS.rd_blk Xw)) (Zgz k117 (hS.row_rd Vf) (hS.row_blk Vf)) (Zgz k121 (hS.row_rd hs3) (hS.row_blk hs3)) (Zgz k125 (hS.row_rd hs4) (hS.row_blk hs4)) (Zgz k129 (hS.row_rd hs5) (hS.row_blk hs5)) (Zgz k48 (hS.rd hs9) (hS.rd_blk hs9)) (Zgz k52 (hS.row_rd Zex) (hS.row_blk Zex)) (Zgz k56 (hS.row_rd hs11) (hS.row_blk hs11)) (Zgz k60 (hS.row_rd hs12) (hS.row_blk hs12)) (Zgz k64 (hS.row_rd Zeq) (hS.row_blk Zeq)) hm144) ?_
 rintro e w ⟨rfl, hN⟩; refine ⟨_, rfl, ?_⟩; obtain ⟨hB, hS⟩ := hS.jn hN
 refine Za rfl rfl rfl (Yy rfl) ?_
 refine Zc 1 rfl ?_
 refine Zs 116 rfl (fun hb => ?_) (fun hb => ?_)
 ·replace H := Zp H hb
  refine Zc 5 rfl ?_
  refine Zg ?_
  refine Zb hK142 ?_
  refine Zt rfl rfl ?_
  refine Ze (fun K hK145 => ?_)
  refine Zf ?_
  refine Zc 1 rfl ?_
  refine Zg ?_
  refine Zb hK145 ?_
  refine Zk ?_
  refine Zi ?_
  refine Zl rfl (RV.tmp rfl RV.nil) rfl ?_
  obtain rfl := QJ H
  replace hS := hS.cut 0
  exact ⟨rfl, hS⟩
 replace H := Zo H hb
 refine Zc 2 rfl ?_
 obtain ⟨r146, hm147, H⟩ := bind_some H
 refine Zq rfl rfl rfl rfl (by kernel_rfl) rfl (c_ref20_All r109.2 r44.2 A131 c132 q135 A66 c67 q70 _ (Zgz (k_q hq136 k133) (hS.rd hs6) (hS.rd_blk hs6)) hq136 (hS.rds_sl hs7 okq137) (Zgz (k_q hq71 k68) (hS.rd Zay) (hS.rd_blk Zay)) hq71 (hS.rds_sl Zev okq72) hm147) ?_
 rintro e w ⟨rfl, hN⟩; refine ⟨_, rfl, ?_⟩; obtain ⟨hB, hS⟩ := hS.jn hN
 refine Za rfl rfl rfl (Yy rfl) ?_
 refine Zc 1 rfl ?_
 refine Zg ?_
 refine Zb hK142 ?_
 refine Zz rfl (fun hb => ?_) (fun hb => ?_)
 ·replace H := Zp H hb
  refine Ze (fun K hK148 => ?_)
  refine Zf ?_
  refine Zc 1 rfl ?_
  refine Zg ?_
  refine Zb hK148 ?_
  refine Zk ?_
  refine Zi ?_
  refine Zl rfl (RV.tmp rfl RV.nil) rfl ?_
  obtain rfl := QJ H
  replace hS := hS.cut 0
  exact ⟨rfl, hS⟩
 replace H := Zo H hb
 refine Zr ?_
 refine Zb hK141 ?_
 refine Ze (fun K hK149 => ?_)
 refine Ze (fun K hK150 => ?_)
 refine Zf ?_
 refine Zc 1 rfl ?_
 refine Za rfl rfl rfl (Yw V0 rfl) ?_
 refine Za rfl rfl rfl (Y5 rfl rfl) ?_
 refine Zg ?_
 refine Zb hK150 ?_
 refine Zz rfl (fun hb => ?_) (fun hb => ?_)
 ·replace H := Zp H hb
  refine Ze (fun K hK151 => ?_)
  refine Zf ?_
  obtain ⟨r152, hm153, H⟩ := bind_some H
  refine Zq rfl rfl rfl rfl (by kernel_rfl) rfl (Vc _ hm153) ?_
  rintro e w ⟨rfl, hN⟩; refine ⟨_, rfl, ?_⟩; obtain ⟨hB, hS⟩ := hS.jn hN
  refine Zc 1 rfl ?_
  refine Zg ?_
  refine Zb hK151 ?_
  refine Zk ?_
  refine Zi ?_
  refine Zl rfl (RV.tmp rfl RV.nil) rfl ?_
  obtain rfl := QJ H
  replace hS := hS.cut 0
  exact ⟨rfl, hS⟩
 replace H := Zo H hb
 refine Zr ?_
 refine Zb hK149 ?_
 refine Ze (fun K hK154 => ?_)
 refine Ze (fun K hK155 => ?_)
 refine Yi 26 [] (fun _ _ => True) ⟨by kernel_rfl, by kernel_rfl⟩ hS (fun w hS hB => ?_)
 refine Zn [true, true, true, true, true] (by decide +kernel) PFC.h ?_
 refine LtK.put rfl rfl rfl (Zu rfl) ?_
 obtain ⟨e156, hi158, H⟩ := bind_some H
 obtain ⟨j157, A159, c160, hi158a, hi158b, hi158c⟩ := idxQ (q := q70) hq71 hi158
 refine LtK.put rfl rfl rfl (Y1 V0 rfl rfl hi158a hi158c (Rd.el (hS.rd Zay) Jb hi158b)) ?_
 refine LtK.put rfl rfl rfl (Zc8 Vi rfl (Zgx _) (Rd.el (hS.rd Zay) Jb hi158b) Xp) ?_
 refine LtK.put rfl rfl rfl (Zd Ja rfl) ?_
 refine LtK.put rfl rfl rfl (Zh Zw rfl (Zgx _) hS hs23 trivial Vp) ?_
 refine LtK.nil ?_
 refine Z6 [false, false, false, false, false, true] 5 ⟨by decide, by kernel_rfl, by kernel_rfl⟩ rfl rfl ?_
 try dsimp only [Zy]
 obtain ⟨r161, hm162, H⟩ := bind_some H
 refine Zq rfl rfl rfl rfl (by kernel_rfl) rfl (c_ref20_Fine e156 x0.n A159 c160 _ (Zgz (okq72 _ (List.mem_of_getElem? hi158b)) (hS.rds_rd Zev hi158b) (hS.rds_blk Zev hi158b)) hm162) ?_
 rintro e w ⟨rfl, hN⟩; refine ⟨_, rfl, ?_⟩; obtain ⟨hB, hS⟩ := hS.jn hN
 refine Zg ?_
 refine Z8 hB ?_
 refine Zn [false, false, false, false, false, false, true, true] (by decide +kernel) PFC.h ?_
 refine LtK.put rfl rfl rfl (Yy rfl) ?_
 refine LtK.put rfl rfl rfl (Zu rfl) ?_
 refine LtK.nil ?_
 refine Xx 133 rfl (fun hb => ?_) (fun hb => ?_)
 ·replace H := Zp H hb
  refine Zn [false, false, false, false, false, false, false, false, true, true, true, true, true, true, true, true, true, true, true, true, true, true, true, true, true, true] (by decide +kernel) PFC.h ?_
  refine LtK.skip rfl rfl rfl ?_
  refine LtK.skip rfl rfl rfl ?_
  refine LtK.skip rfl rfl rfl ?_
  refine LtK.skip rfl rfl rfl ?_
  refine LtK.skip rfl rfl rfl ?_
  refine LtK.skip rfl rfl rfl ?_
  refine LtK.skip rfl rfl rfl ?_
  refine LtK.put rfl rfl rfl (Ya rfl rfl rfl) ?_
  refine LtK.put rfl rfl rfl (Zu rfl) ?_
  refine LtK.skip rfl rfl rfl ?_
  refine LtK.skip rfl rfl rfl ?_
  refine LtK.skip rfl rfl rfl ?_
  refine LtK.skip rfl rfl rfl ?_
  refine LtK.skip rfl rfl rfl ?_
  refine LtK.skip rfl rfl rfl ?_
  refine LtK.skip rfl rfl rfl ?_
  refine LtK.skip rfl rfl rfl ?_
  refine LtK.put rfl rfl rfl (Ya rfl rfl rfl) ?_
  refine LtK.nil ?_
  refine Z4 (by kernel_rfl) ?_
  refine Zb hK155 ?_
  refine Zt rfl rfl ?_
  refine Ze (fun K hK163 => ?_)
  refine Zf ?_
  refine Zc 1 rfl ?_
  refine Zg ?_
  refine Zb hK163 ?_
  refine Zk ?_
  refine Zi ?_
  refine Zl rfl (RV.tmp rfl RV.nil) rfl ?_
  obtain rfl := QJ H
  replace hS := hS.cut 0
  exact ⟨rfl, hS⟩
 replace H := Zo H hb
 refine Zn [false, false, false, false, false, false, false, false, true, true, true, true, true, true, true, true, true] (by decide +kernel) PFC.h ?_
 refine LtK.put rfl rfl rfl (Zu rfl) ?_
 obtain ⟨e164, hi166, H⟩ := bind_some H
 obtain ⟨j165, A167, c168, hi166a, hi166b, hi166c⟩ := idxQ (q := q70) hq71 hi166
 refine LtK.put rfl rfl rfl (Y1 V0 rfl rfl hi166a hi166c (Rd.el (hS.rd Zay) Jb hi166b)) ?_
 refine LtK.put rfl rfl rfl (Vv Zdy rfl (Rd.el (hS.rd Zay) Jb hi166b)) ?_
 refine LtK.put rfl rfl rfl (yx_ld Zw rfl (Zgx _) (Rd.el (hS.rd Zay) Jb hi166b) rfl) ?_
 refine LtK.put rfl rfl rfl (Zd Zby rfl) ?_
 refine LtK.put rfl rfl rfl (Zh Zw rfl (Zgx _) hS hs22 trivial Vp) ?_
 refine LtK.put rfl rfl rfl (Xh rfl rfl) ?_
 refine LtK.put rfl rfl rfl (Yc rfl rfl rfl) ?_
 refine LtK.put rfl rfl rfl (Zu rfl) ?_
 refine LtK.nil ?_
 refine Xx 142 rfl (fun hb => ?_) (fun hb => ?_)
 ·replace H := Zp H hb
  refine Zn [false, false, false, false, false, false, false, false, false, false, false, false, false, false, false, false, false, true, true, true, true, true, true, true, true, true] (by decide +kernel) PFC.h ?_
  refine LtK.skip rfl rfl rfl ?_
  refine LtK.skip rfl rfl rfl ?_
  refine LtK.skip rfl rfl rfl ?_
  refine LtK.skip rfl rfl rfl ?_
  refine LtK.skip rfl rfl rfl ?_
  refine LtK.skip rfl rfl rfl ?_
  refine LtK.skip rfl rfl rfl ?_
  refine LtK.skip rfl rfl rfl ?_
  refine LtK.put rfl rfl rfl (Ya rfl rfl rfl) ?_
  refine LtK.nil ?_
  refine Z4 (by kernel_rfl) ?_
  refine Zb hK155 ?_
  refine Zt rfl rfl ?_
  refine Ze (fun K hK169 => ?_)
  refine Zf ?_
  refine Zc 1 rfl ?_
  refine Zg ?_
  refine Zb hK169 ?_
  refine Zk ?_
  refine Zi ?_
  refine Zl rfl (RV.tmp rfl RV.nil) rfl ?_
  obtain rfl := QJ H
  replace hS := hS.cut 0
  exact ⟨rfl, hS⟩
 replace H := Zo H hb
 refine Zn [false, false, false, false, false, false, false, false, false, false, false, false, false, false, false, false, false, true, true, true, true, true, true, true, true, true] (by decide +kernel) PFC.h ?_
 refine LtK.put rfl rfl rfl (Zu rfl) ?_
 obtain ⟨e170, hi172, H⟩ := bind_some H
 obtain ⟨j171, A173, c174, hi172a, hi172b, hi172c⟩ := idxQ (q := q70) hq71 hi172
 refine LtK.put rfl rfl rfl (Y1 V0 rfl rfl hi172a hi172c (Rd.el (hS.rd Zay) Jb hi172b)) ?_
 refine LtK.put rfl rfl rfl (Vv Zb1 rfl (Rd.el (hS.rd Zay) Jb hi172b)) ?_
 refine LtK.put rfl rfl rfl (yx_ld Zw rfl (Zgx _) (Rd.el (hS.rd Zay) Jb hi172b) rfl) ?_
 refine LtK.put rfl rfl rfl (Zd Yr rfl) ?_
 refine LtK.put rfl rfl rfl (Zd Vr rfl) ?_
 refine LtK.put rfl rfl rfl (Zh Zw rfl (Zgx _) hS hs8 trivial J7) ?_
 refine LtK.put rfl rfl rfl (Xh rfl rfl) ?_
 refine LtK.put rfl rfl rfl (Yc rfl rfl rfl) ?_
 refine LtK.nil ?_
 refine Z4 (by kernel_rfl) ?_
 refine Zb hK155 ?_
 refine Zz rfl (fun hb => ?_) (fun hb => ?_)
 ·replace H := Zp H hb
  refine Ze (fun K hK175 => ?_)
  refine Zf ?_
  refine Zc 1 rfl ?_
  refine Zg ?_
  refine Zb hK175 ?_
  refine Zk ?_
  refine Zi ?_
  refine Zl rfl (RV.tmp rfl RV.nil) rfl ?_
  obtain rfl := QJ H
  replace hS := hS.cut 0
  exact ⟨rfl, hS⟩
 replace H := Zo H hb
 refine Zr ?_
 refine Zb hK154 ?_
 refine Ze (fun K hK176 => ?_)
 refine Ze (fun K hK177 => ?_)
 refine Zf ?_
 refine Zc 1 rfl ?_
 obtain ⟨e178, hi180, H⟩ := bind_some H
 obtain ⟨j179, A181, c182, hi180a, hi180b, hi180c⟩ := idxQ (q := q70) hq71 hi180
 refine Za rfl rfl rfl (Y1 V0 rfl rfl hi180a hi180c (Rd.el (hS.rd Zay) Jb hi180b)) ?_
 refine Za rfl rfl rfl (Vv Zel rfl (Rd.el (hS.rd Zay) Jb hi180b)) ?_
 refine Za rfl rfl rfl (yx_ld sc_4 rfl (Zgw _) (Rd.el (hS.rd Zay) Jb hi180b) rfl) ?_
 refine Za rfl rfl rfl (Yy rfl) ?_
 refine Zg ?_
 refine Zb hK177 ?_
 refine Zz rfl (fun hb => ?_) (fun hb => ?_)
 ·replace H := Zp H hb
  refine Ze (fun K hK183 => ?_)
  refine Zf ?_
  refine Za rfl rfl rfl (Zd Vd rfl) ?_
  refine Za rfl rfl rfl (Zh Zw rfl (Zgw _) hS hs8 trivial Jl) ?_
  refine Za rfl rfl rfl (Zd Vd rfl) ?_
  refine Za rfl rfl rfl (Zh Zw rfl (Zgw _) hS hs23 trivial Jl) ?_
  refine Za rfl rfl rfl (Y5 rfl rfl) ?_
  refine Zc 1 rfl ?_
  refine Zs 162 rfl (fun hb => ?_) (fun hb => ?_)
  rotate_left
  ·replace H := Zo H hb
   refine Zc 14 rfl ?_
   refine Zg ?_
   refine Zb hK183 ?_
   refine Zk ?_
   refine Zi ?_
   refine Zl rfl (RV.tmp rfl RV.nil) rfl ?_
   obtain rfl := QJ H
   replace hS := hS.cut 0
   exact ⟨rfl, hS⟩
  replace H := Zp H hb
  refine Za rfl rfl rfl (Zd Yr rfl) ?_
  refine Za rfl rfl rfl (Zd X0 rfl) ?_
  refine Za rfl rfl rfl (Zh Xq rfl (Zgw _) hS hs8 trivial Jg) ?_
  refine Za rfl rfl rfl (Yw Y4 rfl) ?_
  refine Za rfl rfl rfl (Zd Yr rfl) ?_
  refine Za rfl rfl rfl (Zd X0 rfl) ?_
  refine Za rfl rfl rfl (Zh Xq rfl (Zgw _) hS hs23 trivial Jg) ?_
  refine Za rfl rfl rfl (Yw Y4 rfl) ?_
  refine Za rfl rfl rfl (Y5 rfl rfl) ?_
  refine Zc 2 rfl ?_
  refine Zs 173 rfl (fun hb => ?_) (fun hb => ?_)
  rotate_left
  ·replace H := Zo H hb
   refine Zc 3 rfl ?_
   refine Zg ?_
   refine Zb hK183 ?_
   refine Zk ?_
   refine Zi ?_
   refine Zl rfl (RV.tmp rfl RV.nil) rfl ?_
   obtain rfl := QJ H
   replace hS := hS.cut 0
   exact ⟨rfl, hS⟩
  replace H := Zp H hb
  obtain ⟨r184, hm185, H⟩ := bind_some H
  refine Zq rfl rfl rfl rfl (by kernel_rfl) rfl (Vc _ hm185) ?_
  rintro e w ⟨rfl, hN⟩; refine ⟨_, rfl, ?_⟩; obtain ⟨hB, hS⟩ := hS.jn hN
  refine Zc 2 rfl ?_
  refine Zg ?_
  refine Zb hK183 ?_
  refine Zk ?_
  refine Zi ?_
  refine Zl rfl (RV.tmp rfl RV.nil) rfl ?_
  obtain rfl := QJ H
  replace hS := hS.cut 0
  exact ⟨rfl, hS⟩
 replace H := Zo H hb
 refine Zr ?_
 refine Zb hK176 ?_
 refine Ze (fun K hK186 => ?_)
 refine Ze (fun K hK187 => ?_)
 refine Yi 31 [] (fun _ _ => True) ⟨by kernel_rfl, by kernel_rfl⟩ hS (fun w hS hB => ?_)
 refine Zn [true, true, true, true, true, true, true, true, true, true, true, true] (by decide +kernel) PFC.h ?_
 refine LtK.put rfl rfl rfl (Zu rfl) ?_
 obtain ⟨e188, hi190, H⟩ := bind_some H
 obtain ⟨j189, A191, c192, hi190a, hi190b, hi190c⟩ := idxQ (q := q70) hq71 hi190
 refine LtK.put rfl rfl rfl (Y1 V0 rfl rfl hi190a hi190c (Rd.el (hS.rd Zay) Jb hi190b)) ?_
 refine LtK.put rfl rfl rfl (Vv Vu rfl (Rd.el (hS.rd Zay) Jb hi190b)) ?_
 refine LtK.put rfl rfl rfl (yx_ld Zw rfl (Zgx _) (Rd.el (hS.rd Zay) Jb hi190b) rfl) ?_
 refine LtK.put rfl rfl rfl (Zd Vu rfl) ?_
 refine LtK.put rfl rfl rfl (Zh Zw rfl (Zgx _) hS hs22 trivial V7) ?_
 refine LtK.put rfl rfl rfl (Zd X5 rfl) ?_
 refine LtK.put rfl rfl rfl (Zh Xq rfl (Zgx _) hS hs22 trivial Jg) ?_
 refine LtK.put rfl rfl rfl (Yw Y4 rfl) ?_
 refine LtK.put rfl rfl rfl (Xc rfl rfl) ?_
 refine LtK.put rfl rfl rfl (Xh rfl rfl) ?_
 refine LtK.put rfl rfl rfl (Zu rfl) ?_
 refine LtK.nil ?_
 refine Xx 187 rfl (fun hb => ?_) (fun hb => ?_)
 ·replace H := Zp H hb
  refine Zn [false, false, false, false, false, false, false, false, false, false, false, false, true, true, true, true, true, true, true, true, true, true, true, true, false, true, true, true, true] (by decide +kernel) PFC.h ?_
  refine LtK.skip rfl rfl rfl ?_
  refine LtK.skip rfl rfl rfl ?_
  refine LtK.skip rfl rfl rfl ?_
  refine LtK.skip rfl rfl rfl ?_
  refine LtK.skip rfl rfl rfl ?_
  refine LtK.skip rfl rfl rfl ?_
  refine LtK.skip rfl rfl rfl ?_
  refine LtK.skip rfl rfl rfl ?_
  refine LtK.put rfl rfl rfl (Ya rfl rfl rfl) ?_
  refine LtK.put rfl rfl rfl (Zu rfl) ?_
  refine LtK.skip rfl rfl rfl ?_
  refine LtK.skip rfl rfl rfl ?_
  refine LtK.skip rfl rfl rfl ?_
  refine LtK.skip rfl rfl rfl ?_
  refine LtK.skip rfl rfl rfl ?_
  refine LtK.skip rfl rfl rfl ?_
  refine LtK.nil ?_
  refine Z6 [false, false, false, false, false, false, false, false, false, false, false, false, false, false, false, false, false, false, false, false, false, false, false, false, true] 24 ⟨by decide, by kernel_rfl, by kernel_rfl⟩ rfl rfl ?_
  try dsimp only [Zy]
  refine Vg rfl rfl rfl ?_
  refine Zg ?_
  refine Z8 (Below.refl _ _) ?_
  refine Zn [false, false, false, false, false, false, false, false, false, false, false, false, false, false, false, false, false, false, false, false, false, false, false, false, false, false, false, false, false, true, true] (by decide +kernel) PFC.h ?_
  refine LtK.skip rfl rfl rfl ?_
  refine LtK.put rfl rfl rfl (Ya rfl rfl rfl) ?_
  refine LtK.nil ?_
  refine Z4 (by kernel_rfl) ?_
  refine Zb hK187 ?_
  refine Zt rfl rfl ?_
  refine Ze (fun K hK193 => ?_)
  refine Zf ?_
  refine Zc 1 rfl ?_
  refine Zg ?_
  refine Zb hK193 ?_
  refine Zk ?_
  refine Zi ?_
  refine Zl rfl (RV.tmp rfl RV.nil) rfl ?_
  obtain rfl := QJ H
  replace hS := hS.cut 0
  exact ⟨rfl, hS⟩
 replace H := Zo H hb
 refine Zn [false, false, false, false, false, false, false, false, false, false, false, false, true, true, true, true, true, true, true, true, true, true] (by decide +kernel) PFC.h ?_
 refine LtK.put rfl rfl rfl (Zd Vd rfl) ?_
 refine LtK.put rfl rfl rfl (Zh Zw rfl (Zgx _) hS hs8 trivial Jl) ?_
 refine LtK.put rfl rfl rfl (Zd Vd rfl) ?_
 refine LtK.put rfl rfl rfl (Zh Zw rfl (Zgx _) hS hs23 trivial Jl) ?_
 refine LtK.put rfl rfl rfl (Zd Zcl rfl) ?_
 refine LtK.put rfl rfl rfl (Zh Zw rfl (Zgx _) hS hs22 trivial Zey) ?_
 refine LtK.put rfl rfl rfl (Ze0 rfl rfl) ?_
 refine LtK.put rfl rfl rfl (Y9 rfl rfl) ?_
 refine LtK.put rfl rfl rfl (Yc rfl rfl rfl) ?_
 refine LtK.put rfl rfl rfl (Zu rfl) ?_
 refine LtK.nil ?_
 refine Xx 197 rfl (fun hb => ?_) (fun hb => ?_)
 ·replace H := Zp H hb
  refine Zn [false, false, false, false, false, false, false, false, false, false, false, false, false, false, false, false, false, false, false, false, false, false, true, true, false, true, true, true, true] (by decide +kernel) PFC.h ?_
  refine LtK.skip rfl rfl rfl ?_
  refine LtK.skip rfl rfl rfl ?_
  refine LtK.skip rfl rfl rfl ?_
  refine LtK.skip rfl rfl rfl ?_
  refine LtK.skip rfl rfl rfl ?_
  refine LtK.skip rfl rfl rfl ?_
  refine LtK.nil ?_
  refine Z6 [false, false, false, false, false, false, false, false, false, false, false, false, false, false, false, false, false, false, false, false, false, false, false, false, true] 24 ⟨by decide, by kernel_rfl, by kernel_rfl⟩ rfl rfl ?_
  try dsimp only [Zy]
  refine Vg rfl rfl rfl ?_
  refine Zg ?_
  refine Z8 (Below.refl _ _) ?_
  refine Zn [false, false, false, false, false, false, false, false, false, false, false, false, false, false, false, false, false, false, false, false, false, false, false, false, false, false, false, false, false, true, true] (by decide +kernel) PFC.h ?_
  refine LtK.skip rfl rfl rfl ?_
  refine LtK.put rfl rfl rfl (Ya rfl rfl rfl) ?_
  refine LtK.nil ?_
  refine Z4 (by kernel_rfl) ?_
  refine Zb hK187 ?_
  refine Zt rfl rfl ?_
  refine Ze (fun K hK194 => ?_)
  refine Zf ?_
  refine Zc 1 rfl ?_
  refine Zg ?_
  refine Zb hK194 ?_
  refine Zk ?_
  refine Zi ?_
  refine Zl rfl (RV.tmp rfl RV.nil) rfl ?_
  obtain rfl := QJ H
  replace hS := hS.cut 0
  exact ⟨rfl, hS⟩
 replace H := Zo H hb
 refine Zn [false, false, false, false, false, false, false, false, false, false, false, false, false, false, false, false, false, false, false, false, false, false, true, true, false, true, true, true, true] (by decide +kernel) PFC.h ?_
 refine LtK.put rfl rfl rfl (Zd Yr rfl) ?_
 refine LtK.put rfl rfl rfl (Zj Y7 rfl (Zgx _) hS hs8 trivial Zak) ?_
 refine LtK.put rfl rfl rfl (Zu rfl) ?_
 obtain ⟨e195, hi197, H⟩ := bind_some H
 obtain ⟨j196, A198, c199, hi197a, hi197b, hi197c⟩ := idxQ (q := q70) hq71 hi197
 refine LtK.put rfl rfl rfl (Y1 V0 rfl rfl hi197a hi197c (Rd.el (hS.rd Zay) Jb hi197b)) ?_
 refine LtK.put rfl rfl rfl (Vv Vu rfl (Rd.el (hS.rd Zay) Jb hi197b)) ?_
 refine LtK.put rfl rfl rfl (yx_ld Zw rfl (Zgx _) (Rd.el (hS.rd Zay) Jb hi197b) rfl) ?_
 refine LtK.nil ?_
 refine Z6 [false, false, false, false, false, false, false, false, false, false, false, false, false, false, false, false, false, false, false, false, false, false, false, false, true] 24 ⟨by decide, by kernel_rfl, by kernel_rfl⟩ rfl rfl ?_
 try dsimp only [Zy]
 obtain ⟨r200, hm201, H⟩ := bind_some H
 refine Zq rfl rfl rfl rfl (by kernel_rfl) rfl (Zck r44.1.tuple A46 c47 _ (Zgz k48 (hS.rd hs9) (hS.rd_blk hs9)) hm201) ?_
 rintro e w ⟨rfl, hN⟩; refine ⟨_, rfl, ?_⟩; obtain ⟨hB, hS⟩ := hS.jn hN
 refine Zg ?_
 refine Z8 hB ?_
 refine Zn [false, false, false, false, false, false, false, false, false, false, false, false, false, false, false, false, false, false, false, false, false, false, false, false, false, false, false, false, false, true, true] (by decide +kernel) PFC.h ?_
 refine LtK.put rfl rfl rfl (Xe rfl rfl) ?_
 refine LtK.put rfl rfl rfl (Yc rfl rfl rfl) ?_
 refine LtK.nil ?_
 refine Z4 (by kernel_rfl) ?_
 refine Zb hK187 ?_
 refine Zz rfl (fun hb => ?_) (fun hb => ?_)
 ·replace H := Zp H hb
  refine Ze (fun K hK202 => ?_)
  refine Zf ?_
  refine Zc 1 rfl ?_
  refine Zg ?_
  refine Zb hK202 ?_
  refine Zk ?_
  refine Zi ?_
  refine Zl rfl (RV.tmp rfl RV.nil) rfl ?_
  obtain rfl := QJ H
  replace hS := hS.cut 0
  exact ⟨rfl, hS⟩
 replace H := Zo H hb
 refine Zr ?_
 refine Zb hK186 ?_
 refine Ze (fun K hK203 => ?_)
 refine Ze (fun K hK204 => ?_)
 refine Zf ?_
 refine Zc 1 rfl ?_
 refine Zg ?_
 refine Zb hK204 ?_
 refine Yf ?_
 refine Vz (X := Nat × Bool × Int) (fun x => (3, .pointer (some ⟨b4, 0, none⟩)) :: (4, .bool x.2.1) :: (6, .pointer (some ⟨b74, 0, none⟩)) :: (15, .int .i64 x.2.2) :: []) (fun x w => St0 All w0 w (.box b139 [.int .i64 r109.1.id, .int .i64 r109.1.n, .int .u8 r109.1.role, .int .i64 r109.1.binary, .int .i64 r109.1.tuple.snap.index, .int .i64 r109.1.tuple.snap.term, .int .i64 r109.1.tuple.snap.sum, .int .i64 r109.1.tuple.snap.level, .bool r109.1.tuple.snap.final, .slice A111 r109.1.tuple.log.length c112, .int .i64 r109.1.tuple.term, .int .i64 r109.1.tuple.vote, .int .i64 r109.1.commit, .int .i64 r109.1.applied.index, .int .i64 r109.1.applied.term, .int .i64 r109.1.applied.sum, .int .i64 r109.1.applied.level, .bool r109.1.applied.final, .slice A115 r109.1.votes.length c116, .slice A119 r109.1.next.length c120, .slice A123 r109.1.mtch.length c124, .slice A127 r109.1.caps.length c128] 30 :: .rd A111 (Yl Jj r109.1.tuple.log) :: .row (.slice A115 r109.1.votes.length c116) 4 1 r109.1.votes.length (Yl enO r109.1.votes) :: .row (.slice A119 r109.1.next.length c120) 3 1 r109.1.next.length (Yl V1 r109.1.next) :: .row (.slice A123 r109.1.mtch.length c124) 3 1 r109.1.mtch.length (Yl V1 r109.1.mtch) :: .row (.slice A127 r109.1.caps.length c128) 3 1 r109.1.caps.length (Yl V1 r109.1.caps) :: .rd A131 (Yl enQ q135) :: .rds (q135.map subQ) :: .box b74 [.int .i64 r44.1.id, .int .i64 r44.1.n, .int .u8 r44.1.role, .int .i64 r44.1.binary, .int .i64 r44.1.tuple.snap.index, .int .i64 r44.1.tuple.snap.term, .int .i64 r44.1.tuple.snap.sum, .int .i64 r44.1.tuple.snap.level, .bool r44.1.tuple.snap.final, .slice A46 r44.1.tuple.log.length c47, .int .i64 r44.1.tuple.term, .int .i64 r44.1.tuple.vote, .int .i64 r44.1.commit, .int .i64 r44.1.applied.index, .int .i64 r44.1.applied.term, .int .i64 r44.1.applied.sum, .int .i64 r44.1.applied.level, .bool r44.1.applied.final, .slice A50 r44.1.votes.length c51, .slice A54 r44.1.next.length c55, .slice A58 r44.1.mtch.length c59, .slice A62 r44.1.caps.length c63] 30 :: .rd A46 (Yl Jj r44.1.tuple.log) :: .row (.slice A50 r44.1.votes.length c51) 4 1 r44.1.votes.length (Yl enO r44.1.votes) :: .row (.slice A54 r44.1.next.length c55) 3 1 r44.1.next.length (Yl V1 r44.1.next) :: .row (.slice A58 r44.1.mtch.length c59) 3 1 r44.1.mtch.length (Yl V1 r44.1.mtch) :: .row (.slice A62 r44.1.caps.length c63) 3 1 r44.1.caps.length (Yl V1 r44.1.caps) :: .rd A66 (Yl enQ q70) :: .rds (q70.map subQ) :: .box b41 [.int .i64 r19.id, .int .i64 r19.n, .int .u8 r19.role, .int .i64 r19.binary, .int .i64 r19.tuple.snap.index, .int .i64 r19.tuple.snap.term, .int .i64 r19.tuple.snap.sum, .int .i64 r19.tuple.snap.level, .bool r19.tuple.snap.final, .slice A21 r19.tuple.log.length c22, .int .i64 r19.tuple.term, .int .i64 r19.tuple.vote, .int .i64 r19.commit, .int .i64 r19.applied.index, .int .i64 r19.applied.term, .int .i64 r19.applied.sum, .int .i64 r19.applied.level, .bool r19.applied.final, .slice A25 r19.votes.length c26, .slice A29 r19.next.length c30, .slice A33 r19.mtch.length c34, .slice A37 r19.caps.length c38] 30 :: .row (.slice A21 r19.tuple.log.length c22) 53 3 r19.tuple.log.length (Yl Jj r19.tuple.log) :: .row (.slice A25 r19.votes.length c26) 4 1 r19.votes.length (Yl enO r19.votes) :: .row (.slice A29 r19.next.length c30) 3 1 r19.next.length (Yl V1 r19.next) :: .row (.slice A33 r19.mtch.length c34) 3 1 r19.mtch.length (Yl V1 r19.mtch) :: .row (.slice A37 r19.caps.length c38) 3 1 r19.caps.length (Yl V1 r19.caps) :: .box b4 [.int .u8 x1.kind, .int .i64 x1.frm, .int .i64 x1.dst, .int .i64 x1.term, .int .i64 x1.cap, .int .i64 x1.last, .int .i64 x1.lastTerm, .int .i64 x1.commit, .bool x1.okk, .slice A5_ x1.entries.length c5_, .int .i64 x1.snap.index, .int .i64 x1.snap.term, .int .i64 x1.snap.sum, .int .i64 x1.snap.level, .bool x1.snap.final] 32 :: .box b2 [.int .i64 x0.id, .int .i64 x0.n, .int .u8 x0.role, .int .i64 x0.binary, .int .i64 x0.tuple.snap.index, .int .i64 x0.tuple.snap.term, .int .i64 x0.tuple.snap.sum, .int .i64 x0.tuple.snap.level, .bool x0.tuple.snap.final, .slice A0_ x0.tuple.log.length c0_, .int .i64 x0.tuple.term, .int .i64 x0.tuple.vote, .int .i64 x0.commit, .int .i64 x0.applied.index, .int .i64 x0.applied.term, .int .i64 x0.applied.sum, .int .i64 x0.applied.level, .bool x0.applied.final, .slice A1_ x0.votes.length c1_, .slice A2_ x0.next.length c2_, .slice A3_ x0.mtch.length c3_, .slice A4_ x0.caps.length c4_] 30 :: []) ∧ Xy x1 r44 x.1 x.2.1 x.2.2 = some r) (fun x => x.1) (Xo, v90, 0) (by repeat (first | exact Sub.nil | refine Sub.cons rfl ?_)) ⟨hS, H⟩ ?_
 rintro ⟨n, v205, v206⟩ w ⟨hS, H⟩
 dsimp only at hS H ⊢
 obtain _ | n := n
 ·have H0 : none = some r := H
  cases H0
 rw [Xy] at H
 refine Ze (fun K hK207 => ?_)
 refine Ze (fun K hK208 => ?_)
 refine Zf ?_
 refine Zc 1 rfl ?_
 refine Za rfl rfl rfl (Zd X5 rfl) ?_
 refine Za rfl rfl rfl (Zh Xq rfl (Zgw _) hS hs22 trivial Jg) ?_
 refine Za rfl rfl rfl (Yw Y4 rfl) ?_
 refine Za rfl rfl rfl (Xe rfl rfl) ?_
 refine Zg ?_
 refine Zb hK208 ?_
 refine Zz rfl (fun hb => ?_) (fun hb => ?_)
 rotate_left
 ·replace H := Zo H hb
  refine Vl ?_
  refine Yb ?_
  refine Yb ?_
  refine Y6 ?_
  refine Zb hK203 ?_
  refine Ze (fun K hK222 => ?_)
  refine Zf ?_
  obtain ⟨r223, hm224, H⟩ := bind_some H
  refine Zq rfl rfl rfl rfl (by kernel_rfl) rfl (Vc _ hm224) ?_
  rintro e w ⟨rfl, hN⟩; refine ⟨_, rfl, ?_⟩; obtain ⟨hB, hS⟩ := hS.jn hN
  refine Zc 1 rfl ?_
  refine Zg ?_
  refine Zb hK222 ?_
  refine Zk ?_
  refine Zl rfl (RV.tmp rfl RV.nil) rfl ?_
  obtain rfl := QJ H
  replace hS := hS.cut 0
  exact ⟨rfl, hS⟩
 replace H := Zp H hb
 refine Zr ?_
 refine Zb hK207 ?_
 refine Ze (fun K hK209 => ?_)
 refine Yf ?_
 refine Ze (fun K hK210 => ?_)
 refine Zf ?_
 refine Za rfl rfl rfl (Zd Yr rfl) ?_
 refine Za rfl rfl rfl (Zj Y7 rfl (Zgw _) hS hs8 trivial Zak) ?_
 refine Za rfl rfl rfl (Zd Vu rfl) ?_
 refine Za rfl rfl rfl (Zh Zw rfl (Zgw _) hS hs22 trivial V7) ?_
 refine Za rfl rfl rfl (Xc rfl rfl) ?_
 refine Zc 1 rfl ?_
 refine Za rfl rfl rfl (Xc rfl rfl) ?_
 obtain ⟨r211, hm212, H⟩ := bind_some H
 refine Zq rfl rfl rfl rfl (by kernel_rfl) rfl (c_law23_entryAt r44.1.tuple (IntKind.wrap .i64 ((IntKind.wrap .i64 (x1.last + 1)) + v206)) A46 c47 _ (Zgz k48 (hS.rd hs9) (hS.rd_blk hs9)) hm212) ?_
 rintro e w ⟨rfl, hN⟩; refine ⟨_, rfl, ?_⟩; obtain ⟨hB, hS⟩ := hS.jn hN
 refine Zc 1 rfl ?_
 refine Za rfl rfl rfl (Z7 rfl rfl) ?_
 refine Za rfl rfl rfl (Z7 rfl rfl) ?_
 refine Yh rfl rfl Zcr hS (fun b213 w hS hB => ?_)
 refine Zm rfl rfl rfl CellsOf.agg hS ps0 Zf8 (by kernel_rfl) rfl (fun w hS hB => ?_)
 refine Zc 1 rfl ?_
 refine Zg ?_
 refine Zb hK210 ?_
 refine Ze (fun K hK215 => ?_)
 refine Yi 28 [] (fun _ _ => True) ⟨by kernel_rfl, by kernel_rfl⟩ hS (fun w hS hB => ?_)
 refine Zn [true, true] (by decide +kernel) PFC.h ?_
 refine LtK.put rfl rfl rfl (Zu rfl) ?_
 refine LtK.put rfl rfl rfl (Zu rfl) ?_
 refine LtK.nil ?_
 refine Xx 226 rfl (fun hb => ?_) (fun hb => ?_)
 rotate_left
 ·replace H := Zo H hb
  refine Zn [false, false, true, true, true, true, true, true, true, true, true, true, true, true, true, true] (by decide +kernel) PFC.h ?_
  refine LtK.skip rfl rfl rfl ?_
  refine LtK.skip rfl rfl rfl ?_
  refine LtK.skip rfl rfl rfl ?_
  refine LtK.skip rfl rfl rfl ?_
  refine LtK.skip rfl rfl rfl ?_
  refine LtK.skip rfl rfl rfl ?_
  refine LtK.skip rfl rfl rfl ?_
  refine LtK.skip rfl rfl rfl ?_
  refine LtK.skip rfl rfl rfl ?_
  refine LtK.put rfl rfl rfl (Yc rfl rfl rfl) ?_
  refine LtK.put rfl rfl rfl (Zu rfl) ?_
  refine LtK.put rfl rfl rfl (Zu rfl) ?_
  refine LtK.put rfl rfl rfl (Yy rfl) ?_
  refine LtK.put rfl rfl rfl (Zu rfl) ?_
  refine LtK.nil ?_
  refine Xx 240 rfl (fun hb => ?_) (fun hb => ?_)
  rotate_left
  ·replace H := Zo H hb
   refine Zn [false, false, false, false, false, false, false, false, false, false, false, false, false, false, false, false, true, true, true, true, true, true, true, true, true, true, true, true] (by decide +kernel) PFC.h ?_
   refine LtK.skip rfl rfl rfl ?_
   refine LtK.skip rfl rfl rfl ?_
   refine LtK.skip rfl rfl rfl ?_
   refine LtK.skip rfl rfl rfl ?_
   refine LtK.skip rfl rfl rfl ?_
   refine LtK.skip rfl rfl rfl ?_
   refine LtK.skip rfl rfl rfl ?_
   refine LtK.skip rfl rfl rfl ?_
   refine LtK.skip rfl rfl rfl ?_
   refine LtK.skip rfl rfl rfl ?_
   refine LtK.put rfl rfl rfl (Yc rfl rfl rfl) ?_
   refine LtK.put rfl rfl rfl (Yc rfl rfl rfl) ?_
   refine LtK.nil ?_
   refine Z4 (by kernel_rfl) ?_
   refine Zb hK215 ?_
   refine Yp rfl rfl ?_
   refine Zr ?_
   refine Z1 ?_
   refine Zb hK209 ?_
   refine Zf ?_
   refine Zc 1 rfl ?_
   refine Za rfl rfl rfl (Xc rfl rfl) ?_
   refine Zc 1 rfl ?_
   refine Zg ?_
   exact X3 (n, v205, (IntKind.wrap .i64 (v206 + 1))) (by repeat (first | exact Sub.nil | refine Sub.cons rfl ?_)) ⟨(hS.sub (List.Sublist.cons _ (List.Sublist.cons_cons _ (List.Sublist.cons_cons _ (List.Sublist.cons_cons _ (List.Sublist.cons_cons _ (List.Sublist.cons_cons _ (List.Sublist.cons_cons _ (List.Sublist.cons_cons _ (List.Sublist.cons_cons _ (List.Sublist.cons_cons _ (List.Sublist.cons_cons _ (List.Sublist.cons_cons _ (List.Sublist.cons_cons _ (List.Sublist.cons_cons _ (List.Sublist.cons_cons _ (List.Sublist.cons_cons _ (List.Sublist.cons_cons _ (List.Sublist.cons_cons _ (List.Sublist.cons_cons _ (List.Sublist.cons_cons _ (List.Sublist.cons_cons _ (List.Sublist.cons_cons _ (List.Sublist.cons_cons _ (List.Sublist.cons_cons _ (List.Sublist.cons_cons _ List.Sublist.slnil)))))))))))))))))))))))))), H⟩ (Nat.lt_succ_self _)
  replace H := Zp H hb
  refine Zn [false, false, false, false, false, false, false, false, false, false, false, false, false, false, false, false, true, true, true, true, true, true, true, true, true, true, true, true] (by decide +kernel) PFC.h ?_
  refine LtK.put rfl rfl rfl (Zd Vu rfl) ?_
  refine LtK.put rfl rfl rfl (Zh Zw rfl (Zgx _) hS hs23 trivial V7) ?_
  refine LtK.put rfl rfl rfl (Xc rfl rfl) ?_
  refine LtK.put rfl rfl rfl (Zu rfl) ?_
  refine LtK.put rfl rfl rfl (Xc rfl rfl) ?_
  refine LtK.put rfl rfl rfl (Zd Yr rfl) ?_
  refine LtK.put rfl rfl rfl (Zd Xj rfl) ?_
  refine LtK.put rfl rfl rfl (Zd Yj rfl) ?_
  refine LtK.put rfl rfl rfl (Zh Zw rfl (Zgx _) hS hs9 trivial Zew) ?_
  refine LtK.put rfl rfl rfl (Y9 rfl rfl) ?_
  refine LtK.put rfl rfl rfl (Ya rfl rfl rfl) ?_
  refine LtK.put rfl rfl rfl (Yc rfl rfl rfl) ?_
  refine LtK.nil ?_
  refine Z4 (by kernel_rfl) ?_
  refine Zb hK215 ?_
  refine Zz rfl (fun hb => ?_) (fun hb => ?_)
  rotate_left
  ·replace H := Zo H hb
   refine Zr ?_
   refine Z1 ?_
   refine Zb hK209 ?_
   refine Zf ?_
   refine Zc 1 rfl ?_
   refine Za rfl rfl rfl (Xc rfl rfl) ?_
   refine Zc 1 rfl ?_
   refine Zg ?_
   exact X3 (n, v205, (IntKind.wrap .i64 (v206 + 1))) (by repeat (first | exact Sub.nil | refine Sub.cons rfl ?_)) ⟨(hS.sub (List.Sublist.cons _ (List.Sublist.cons_cons _ (List.Sublist.cons_cons _ (List.Sublist.cons_cons _ (List.Sublist.cons_cons _ (List.Sublist.cons_cons _ (List.Sublist.cons_cons _ (List.Sublist.cons_cons _ (List.Sublist.cons_cons _ (List.Sublist.cons_cons _ (List.Sublist.cons_cons _ (List.Sublist.cons_cons _ (List.Sublist.cons_cons _ (List.Sublist.cons_cons _ (List.Sublist.cons_cons _ (List.Sublist.cons_cons _ (List.Sublist.cons_cons _ (List.Sublist.cons_cons _ (List.Sublist.cons_cons _ (List.Sublist.cons_cons _ (List.Sublist.cons_cons _ (List.Sublist.cons_cons _ (List.Sublist.cons_cons _ (List.Sublist.cons_cons _ (List.Sublist.cons_cons _ List.Sublist.slnil)))))))))))))))))))))))))), H⟩ (Nat.lt_succ_self _)
  replace H := Zp H hb
  refine Ze (fun K hK221 => ?_)
  refine Zf ?_
  refine Zc 1 rfl ?_
  refine Zg ?_
  refine Zb hK221 ?_
  refine Zk ?_
  refine Zv ?_
  refine Zi ?_
  refine Zi ?_
  refine Zv ?_
  refine Zi ?_
  refine Zl rfl (RV.tmp rfl RV.nil) rfl ?_
  obtain rfl := QJ H
  replace hS := hS.cut 0
  exact ⟨rfl, hS⟩
 replace H := Zp H hb
 refine Zn [false, false, true, true, true, true, true, true, true, true, true, true, true] (by decide +kernel) PFC.h ?_
 refine LtK.put rfl rfl rfl (Zd Zba rfl) ?_
 refine LtK.put rfl rfl rfl (Zh Zw rfl (Zgx _) hS hs0 trivial Y8) ?_
 refine LtK.put rfl rfl rfl (Zd X5 rfl) ?_
 refine LtK.put rfl rfl rfl (Zh Xq rfl (Zgx _) hS hs23 trivial Jg) ?_
 refine LtK.put rfl rfl rfl (Zu rfl) ?_
 obtain ⟨e216, hi218, H⟩ := bind_some H
 obtain ⟨j217, hi218a, hi218b, hi218c⟩ := Ym hi218
 refine LtK.put rfl rfl rfl (Y1 Y4 rfl rfl hi218a hi218c (Rd.el (hS.rd0 s5_.rd) X6 hi218b)) ?_
 refine LtK.put rfl rfl rfl (Vv Zba rfl (Rd.el (hS.rd0 s5_.rd) X6 hi218b)) ?_
 refine LtK.put rfl rfl rfl (Xn Zw rfl (Zgx _) (Rd.el (hS.rd0 s5_.rd) X6 hi218b) rfl) ?_
 refine LtK.put rfl rfl rfl (Xh rfl rfl) ?_
 refine LtK.put rfl rfl rfl (Ya rfl rfl rfl) ?_
 refine LtK.put rfl rfl rfl (Zu rfl) ?_
 refine LtK.nil ?_
 refine Xx 237 rfl (fun hb => ?_) (fun hb => ?_)
 ·replace H := Zp H hb
  refine Zn [false, false, false, false, false, false, false, false, false, false, false, false, false, true, true, true, true, true, true, true, true, true, true, true, true, true, true, true] (by decide +kernel) PFC.h ?_
  refine LtK.skip rfl rfl rfl ?_
  refine LtK.skip rfl rfl rfl ?_
  refine LtK.skip rfl rfl rfl ?_
  refine LtK.skip rfl rfl rfl ?_
  refine LtK.skip rfl rfl rfl ?_
  refine LtK.skip rfl rfl rfl ?_
  refine LtK.skip rfl rfl rfl ?_
  refine LtK.skip rfl rfl rfl ?_
  refine LtK.skip rfl rfl rfl ?_
  refine LtK.skip rfl rfl rfl ?_
  refine LtK.skip rfl rfl rfl ?_
  refine LtK.skip rfl rfl rfl ?_
  refine LtK.skip rfl rfl rfl ?_
  refine LtK.skip rfl rfl rfl ?_
  refine LtK.put rfl rfl rfl (Ya rfl rfl rfl) ?_
  refine LtK.nil ?_
  refine Z4 (by kernel_rfl) ?_
  refine Zb hK215 ?_
  refine Zt rfl rfl ?_
  refine Ze (fun K hK219 => ?_)
  refine Zf ?_
  refine Zc 1 rfl ?_
  refine Zg ?_
  refine Zb hK219 ?_
  refine Zk ?_
  refine Zv ?_
  refine Zi ?_
  refine Zi ?_
  refine Zv ?_
  refine Zi ?_
  refine Zl rfl (RV.tmp rfl RV.nil) rfl ?_
  obtain rfl := QJ H
  replace hS := hS.cut 0
  exact ⟨rfl, hS⟩
 replace H := Zo H hb
 refine Zn [false, false, false, false, false, false, false, false, false, false, false, false, false, true, true, true] (by decide +kernel) PFC.h ?_
 refine LtK.put rfl rfl rfl (Zu rfl) ?_
 refine LtK.put rfl rfl rfl (Yy rfl) ?_
 refine LtK.put rfl rfl rfl (Zu rfl) ?_
 refine LtK.nil ?_
 refine Xx 240 rfl (fun hb => ?_) (fun hb => ?_)
 rotate_left
 ·replace H := Zo H hb
  refine Zn [false, false, false, false, false, false, false, false, false, false, false, false, false, false, false, false, true, true, true, true, true, true, true, true, true, true, true, true] (by decide +kernel) PFC.h ?_
  refine LtK.skip rfl rfl rfl ?_
  refine LtK.skip rfl rfl rfl ?_
  refine LtK.skip rfl rfl rfl ?_
  refine LtK.skip rfl rfl rfl ?_
  refine LtK.skip rfl rfl rfl ?_
  refine LtK.skip rfl rfl rfl ?_
  refine LtK.skip rfl rfl rfl ?_
  refine LtK.skip rfl rfl rfl ?_
  refine LtK.skip rfl rfl rfl ?_
  refine LtK.skip rfl rfl rfl ?_
  refine LtK.put rfl rfl rfl (Yc rfl rfl rfl) ?_
  refine LtK.put rfl rfl rfl (Yc rfl rfl rfl) ?_
  refine LtK.nil ?_
  refine Z4 (by kernel_rfl) ?_
  refine Zb hK215 ?_
  refine Yp rfl rfl ?_
  refine Zr ?_
  refine Z1 ?_
  refine Zb hK209 ?_
  refine Zf ?_
  refine Zc 1 rfl ?_
  refine Za rfl rfl rfl (Xc rfl rfl) ?_
  refine Zc 1 rfl ?_
  refine Zg ?_
  exact X3 (n, v205, (IntKind.wrap .i64 (v206 + 1))) (by repeat (first | exact Sub.nil | refine Sub.cons rfl ?_)) ⟨(hS.sub (List.Sublist.cons _ (List.Sublist.cons_cons _ (List.Sublist.cons_cons _ (List.Sublist.cons_cons _ (List.Sublist.cons_cons _ (List.Sublist.cons_cons _ (List.Sublist.cons_cons _ (List.Sublist.cons_cons _ (List.Sublist.cons_cons _ (List.Sublist.cons_cons _ (List.Sublist.cons_cons _ (List.Sublist.cons_cons _ (List.Sublist.cons_cons _ (List.Sublist.cons_cons _ (List.Sublist.cons_cons _ (List.Sublist.cons_cons _ (List.Sublist.cons_cons _ (List.Sublist.cons_cons _ (List.Sublist.cons_cons _ (List.Sublist.cons_cons _ (List.Sublist.cons_cons _ (List.Sublist.cons_cons _ (List.Sublist.cons_cons _ (List.Sublist.cons_cons _ (List.Sublist.cons_cons _ List.Sublist.slnil)))))))))))))))))))))))))), H⟩ (Nat.lt_succ_self _)
 replace H := Zp H hb
 refine Zn [false, false, false, false, false, false, false, false, false, false, false, false, false, false, false, false, true, true, true, true, true, true, true, true, true, true, true, true] (by decide +kernel) PFC.h ?_
 refine LtK.put rfl rfl rfl (Zd Vu rfl) ?_
 refine LtK.put rfl rfl rfl (Zh Zw rfl (Zgx _) hS hs23 trivial V7) ?_
 refine LtK.put rfl rfl rfl (Xc rfl rfl) ?_
 refine LtK.put rfl rfl rfl (Zu rfl) ?_
 refine LtK.put rfl rfl rfl (Xc rfl rfl) ?_
 refine LtK.put rfl rfl rfl (Zd Yr rfl) ?_
 refine LtK.put rfl rfl rfl (Zd Xj rfl) ?_
 refine LtK.put rfl rfl rfl (Zd Yj rfl) ?_
 refine LtK.put rfl rfl rfl (Zh Zw rfl (Zgx _) hS hs9 trivial Zew) ?_
 refine LtK.put rfl rfl rfl (Y9 rfl rfl) ?_
 refine LtK.put rfl rfl rfl (Ya rfl rfl rfl) ?_
 refine LtK.put rfl rfl rfl (Yc rfl rfl rfl) ?_
 refine LtK.nil ?_
 refine Z4 (by kernel_rfl) ?_
 refine Zb hK215 ?_
 refine Zz rfl (fun hb => ?_) (fun hb => ?_)
 rotate_left
 ·replace H := Zo H hb
  refine Zr ?_
  refine Z1 ?_
  refine Zb hK209 ?_
  refine Zf ?_
  refine Zc 1 rfl ?_
  refine Za rfl rfl rfl (Xc rfl rfl) ?_
  refine Zc 1 rfl ?_
  refine Zg ?_
  exact X3 (n, v205, (IntKind.wrap .i64 (v206 + 1))) (by repeat (first | exact Sub.nil | refine Sub.cons rfl ?_)) ⟨(hS.sub (List.Sublist.cons _ (List.Sublist.cons_cons _ (List.Sublist.cons_cons _ (List.Sublist.cons_cons _ (List.Sublist.cons_cons _ (List.Sublist.cons_cons _ (List.Sublist.cons_cons _ (List.Sublist.cons_cons _ (List.Sublist.cons_cons _ (List.Sublist.cons_cons _ (List.Sublist.cons_cons _ (List.Sublist.cons_cons _ (List.Sublist.cons_cons _ (List.Sublist.cons_cons _ (List.Sublist.cons_cons _ (List.Sublist.cons_cons _ (List.Sublist.cons_cons _ (List.Sublist.cons_cons _ (List.Sublist.cons_cons _ (List.Sublist.cons_cons _ (List.Sublist.cons_cons _ (List.Sublist.cons_cons _ (List.Sublist.cons_cons _ (List.Sublist.cons_cons _ (List.Sublist.cons_cons _ List.Sublist.slnil)))))))))))))))))))))))))), H⟩ (Nat.lt_succ_self _)
 replace H := Zp H hb
 refine Ze (fun K hK220 => ?_)
 refine Zf ?_
 refine Zc 1 rfl ?_
 refine Zg ?_
 refine Zb hK220 ?_
 refine Zk ?_
 refine Zv ?_
 refine Zi ?_
 refine Zi ?_
 refine Zv ?_
 refine Zi ?_
 refine Zl rfl (RV.tmp rfl RV.nil) rfl ?_
 obtain rfl := QJ H
 replace hS := hS.cut 0
 exact ⟨rfl, hS⟩
end Go.Proofs.YtamjlcaoieliaaaGreat
