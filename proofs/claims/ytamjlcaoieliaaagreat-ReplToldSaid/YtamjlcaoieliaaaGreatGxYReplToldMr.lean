/- Texts of one claim put together. -/
import Derived.Test.YtamjlcaoieliaaaGreatMr1
import Derived.Test.YtamjlcaoieliaaaGreatMr2
import Derived.Test.YtamjlcaoieliaaaGreatMr5
namespace Go.Proofs.YtamjlcaoieliaaaGreat
open Go Go.RowKit
set_option maxRecDepth 100000
set_option maxHeartbeats 4000000
theorem c_law23_ReplTold (x0 : Co) (x1 : Ms) (A0_ : OA) (c0_ : Nat) (A1_ : OA) (c1_ : Nat) (A2_ : OA) (c2_ : Nat) (A3_ : OA) (c3_ : Nat) (A4_ : OA) (c4_ : Nat) (A5_ : OA) (c5_ : Nat) (w0 : World) (s0_ : SlI w0 Jj A0_ c0_ x0.tuple.log) (s1_ : SlI w0 enO A1_ c1_ x0.votes) (s2_ : SlI w0 V1 A2_ c2_ x0.next) (s3_ : SlI w0 V1 A3_ c3_ x0.mtch) (s4_ : SlI w0 V1 A4_ c4_ x0.caps) (s5_ : SlI w0 Jj A5_ c5_ x1.entries) {r : Bool} (H : Zci x0 x1 = some r) : Calls Tryz.prog 6 #[.agg #[.int .i64 x0.id, .int .i64 x0.n, .int .u8 x0.role, .int .i64 x0.binary, .int .i64 x0.tuple.snap.index, .int .i64 x0.tuple.snap.term, .int .i64 x0.tuple.snap.sum, .int .i64 x0.tuple.snap.level, .bool x0.tuple.snap.final, .slice A0_ x0.tuple.log.length c0_, .int .i64 x0.tuple.term, .int .i64 x0.tuple.vote, .int .i64 x0.commit, .int .i64 x0.applied.index, .int .i64 x0.applied.term, .int .i64 x0.applied.sum, .int .i64 x0.applied.level, .bool x0.applied.final, .slice A1_ x0.votes.length c1_, .slice A2_ x0.next.length c2_, .slice A3_ x0.mtch.length c3_, .slice A4_ x0.caps.length c4_], .agg #[.int .u8 x1.kind, .int .i64 x1.frm, .int .i64 x1.dst, .int .i64 x1.term, .int .i64 x1.cap, .int .i64 x1.last, .int .i64 x1.lastTerm, .int .i64 x1.commit, .bool x1.okk, .slice A5_ x1.entries.length c5_, .int .i64 x1.snap.index, .int .i64 x1.snap.term, .int .i64 x1.snap.sum, .int .i64 x1.snap.level, .bool x1.snap.final]] w0 fun e w' => e = .returned (.bool r) ∧ St0 All w0 w' [] := by
 unfold Zci at H
 refine Yt Tryz.func6 rfl Tryz.ntmps6 rfl ?_
 have hS := St0.start All w0
 refine Ze (fun K hK1 => ?_)
 refine Zf ?_
 refine Yd rfl rfl rfl CellsOf.agg hS (fun b2 w hS hB => ?_)
 refine Yd rfl rfl rfl CellsOf.agg hS (fun b4 w hS hB => ?_)
 refine Zc 1 rfl ?_
 refine Zg ?_
 refine Zb hK1 ?_
 refine Ze (fun K hK6 => ?_)
 refine Ze (fun K hK7 => ?_)
 refine Zf ?_
 refine Za rfl rfl rfl (Zj Ye rfl (Zgw _) hS Xw trivial Z3) ?_
 refine Za rfl rfl rfl (Zj Vi rfl (Zgw _) hS hs0 trivial Xp) ?_
 obtain ⟨r8, hm9, H⟩ := bind_some H
 refine Zq rfl rfl rfl rfl (by kernel_rfl) rfl (c_law23_great x0 x1 A0_ c0_ A1_ c1_ A2_ c2_ A3_ c3_ A4_ c4_ A5_ c5_ _ (Zgz s0_.k (hS.rd0 s0_.rd) (hS.blk0 s0_.blk)) (Zgz s1_.k (hS.rd0 s1_.rd) (hS.blk0 s1_.blk)) (Zgz s2_.k (hS.rd0 s2_.rd) (hS.blk0 s2_.blk)) (Zgz s3_.k (hS.rd0 s3_.rd) (hS.blk0 s3_.blk)) (Zgz s4_.k (hS.rd0 s4_.rd) (hS.blk0 s4_.blk)) (Zgz s5_.k (hS.rd0 s5_.rd) (hS.blk0 s5_.blk)) hm9) ?_
 rintro e w ⟨rfl, hN⟩; refine ⟨_, rfl, ?_⟩; obtain ⟨hB, hS⟩ := hS.jn hN
 refine Zc 1 rfl ?_
 refine Zs 11 rfl (fun hb => ?_) (fun hb => ?_)
 ·replace H := Zp H hb
  refine Zc 4 rfl ?_
  refine Zg ?_
  refine Zb hK7 ?_
  refine Zt rfl rfl ?_
  refine Ze (fun K hK10 => ?_)
  refine Zf ?_
  obtain ⟨r11, hm12, H⟩ := bind_some H
  refine Zq rfl rfl rfl rfl (by kernel_rfl) rfl (Vc _ hm12) ?_
  rintro e w ⟨rfl, hN⟩; refine ⟨_, rfl, ?_⟩; obtain ⟨hB, hS⟩ := hS.jn hN
  refine Zc 1 rfl ?_
  refine Zg ?_
  refine Zb hK10 ?_
  refine Zk ?_
  refine Zi ?_
  refine Zl rfl (RV.tmp rfl RV.nil) rfl ?_
  obtain rfl := QJ H
  replace hS := hS.cut 0
  exact ⟨rfl, hS⟩
 replace H := Zo H hb
 refine Za rfl rfl rfl (Zj Ye rfl (Zgw _) hS Xw trivial Z3) ?_
 obtain ⟨r13, hm14, H⟩ := bind_some H
 refine Zq rfl rfl rfl rfl (by kernel_rfl) rfl (Zcv x0 A0_ c0_ A1_ c1_ A2_ c2_ A3_ c3_ A4_ c4_ _ (Zgz s0_.k (hS.rd0 s0_.rd) (hS.blk0 s0_.blk)) (Zgz s1_.k (hS.rd0 s1_.rd) (hS.blk0 s1_.blk)) (Zgz s2_.k (hS.rd0 s2_.rd) (hS.blk0 s2_.blk)) (Zgz s3_.k (hS.rd0 s3_.rd) (hS.blk0 s3_.blk)) (Zgz s4_.k (hS.rd0 s4_.rd) (hS.blk0 s4_.blk)) hm14) ?_
 rintro e w ⟨rfl, hN⟩; refine ⟨_, rfl, ?_⟩; obtain ⟨hB, hS⟩ := hS.jn hN
 refine Za rfl rfl rfl (Yy rfl) ?_
 refine Zc 1 rfl ?_
 refine Zg ?_
 refine Zb hK7 ?_
 refine Zz rfl (fun hb => ?_) (fun hb => ?_)
 ·replace H := Zp H hb
  refine Ze (fun K hK15 => ?_)
  refine Zf ?_
  obtain ⟨r16, hm17, H⟩ := bind_some H
  refine Zq rfl rfl rfl rfl (by kernel_rfl) rfl (Vc _ hm17) ?_
  rintro e w ⟨rfl, hN⟩; refine ⟨_, rfl, ?_⟩; obtain ⟨hB, hS⟩ := hS.jn hN
  refine Zc 1 rfl ?_
  refine Zg ?_
  refine Zb hK15 ?_
  refine Zk ?_
  refine Zi ?_
  refine Zl rfl (RV.tmp rfl RV.nil) rfl ?_
  obtain rfl := QJ H
  replace hS := hS.cut 0
  exact ⟨rfl, hS⟩
 replace H := Zo H hb
 refine Zr ?_
 refine Zb hK6 ?_
 refine Ze (fun K hK18 => ?_)
 refine Zf ?_
 refine Za rfl rfl rfl (Zj Ye rfl (Zgw _) hS Xw trivial Z3) ?_
 refine Za rfl rfl rfl (Zj Vi rfl (Zgw _) hS hs0 trivial Xp) ?_
 obtain ⟨r19, hm20, H⟩ := bind_some H
 refine Zq rfl rfl rfl rfl (by kernel_rfl) rfl (c_repl_Told x0 x1 A0_ c0_ A1_ c1_ A2_ c2_ A3_ c3_ A4_ c4_ A5_ c5_ _ (Zgz s0_.k (hS.rd0 s0_.rd) (hS.blk0 s0_.blk)) (Zgz s1_.k (hS.rd0 s1_.rd) (hS.blk0 s1_.blk)) (Zgz s2_.k (hS.rd0 s2_.rd) (hS.blk0 s2_.blk)) (Zgz s3_.k (hS.rd0 s3_.rd) (hS.blk0 s3_.blk)) (Zgz s4_.k (hS.rd0 s4_.rd) (hS.blk0 s4_.blk)) (Zgz s5_.k (hS.rd0 s5_.rd) (hS.blk0 s5_.blk)) hm20) ?_
 rintro e w ⟨A21, c22, A25, c26, A29, c30, A33, c34, A37, c38, rfl, k23, k27, k31, k35, k39, hN⟩; refine ⟨_, rfl, ?_⟩; obtain ⟨hB, hS⟩ := hS.jn hN
 refine Yh rfl rfl Zd5 hS (fun b41 w hS hB => ?_)
 refine Zm rfl rfl rfl CellsOf.agg hS ps0 Yz (by kernel_rfl) rfl (fun w hS hB => ?_)
 refine Zg ?_
 refine Zb hK18 ?_
 refine Ze (fun K hK43 => ?_)
 refine Ze (fun K hK44 => ?_)
 refine Zf ?_
 refine Za rfl rfl rfl (Zj Ye rfl (Zgw _) hS hs0 trivial Z3) ?_
 obtain ⟨r45, hm46, H⟩ := bind_some H
 refine Zq rfl rfl rfl rfl (by kernel_rfl) rfl (Zcv r19 A21 c22 A25 c26 A29 c30 A33 c34 A37 c38 _ (Zgz k23 (hS.rd Xw) (hS.rd_blk Xw)) (Zgz k27 (hS.row_rd Vf) (hS.row_blk Vf)) (Zgz k31 (hS.row_rd hs3) (hS.row_blk hs3)) (Zgz k35 (hS.row_rd hs4) (hS.row_blk hs4)) (Zgz k39 (hS.row_rd hs5) (hS.row_blk hs5)) hm46) ?_
 rintro e w ⟨rfl, hN⟩; refine ⟨_, rfl, ?_⟩; obtain ⟨hB, hS⟩ := hS.jn hN
 refine Za rfl rfl rfl (Yy rfl) ?_
 refine Zc 1 rfl ?_
 refine Zs 23 rfl (fun hb => ?_) (fun hb => ?_)
 ·replace H := Zp H hb
  refine Zc 16 rfl ?_
  refine Zg ?_
  refine Zb hK44 ?_
  refine Zt rfl rfl ?_
  refine Ze (fun K hK47 => ?_)
  refine Zf ?_
  refine Zc 1 rfl ?_
  refine Zg ?_
  refine Zb hK47 ?_
  refine Zk ?_
  refine Zi ?_
  refine Zl rfl (RV.tmp rfl RV.nil) rfl ?_
  obtain rfl := QJ H
  replace hS := hS.cut 0
  exact ⟨rfl, hS⟩
 replace H := Zo H hb
 refine Za rfl rfl rfl (Zd Vd rfl) ?_
 refine Za rfl rfl rfl (Zh Zw rfl (Zgw _) hS hs0 trivial Jl) ?_
 refine Za rfl rfl rfl (Zd Vd rfl) ?_
 refine Za rfl rfl rfl (Zh Zw rfl (Zgw _) hS hs7 trivial Jl) ?_
 refine Za rfl rfl rfl (Xh rfl rfl) ?_
 refine Zc 2 rfl ?_
 refine Zs 30 rfl (fun hb => ?_) (fun hb => ?_)
 ·replace H := Zp H hb
  refine Zc 9 rfl ?_
  refine Zg ?_
  refine Zb hK44 ?_
  refine Zt rfl rfl ?_
  refine Ze (fun K hK48 => ?_)
  refine Zf ?_
  refine Zc 1 rfl ?_
  refine Zg ?_
  refine Zb hK48 ?_
  refine Zk ?_
  refine Zi ?_
  refine Zl rfl (RV.tmp rfl RV.nil) rfl ?_
  obtain rfl := QJ H
  replace hS := hS.cut 0
  exact ⟨rfl, hS⟩
 replace H := Zo H hb
 refine Za rfl rfl rfl (Zd Yr rfl) ?_
 refine Za rfl rfl rfl (Zd X0 rfl) ?_
 refine Za rfl rfl rfl (Zh Xq rfl (Zgw _) hS hs0 trivial Jg) ?_
 refine Za rfl rfl rfl (Zd Yr rfl) ?_
 refine Za rfl rfl rfl (Zd X0 rfl) ?_
 refine Za rfl rfl rfl (Zh Xq rfl (Zgw _) hS hs7 trivial Jg) ?_
 obtain ⟨r49, hm50, H⟩ := bind_some H
 refine Zq rfl rfl rfl rfl (by kernel_rfl) rfl (c_ref06_Same r19.tuple.log x0.tuple.log A21 c22 A0_ c0_ _ (Zgz k23 (hS.rd Xw) (hS.rd_blk Xw)) (Zgz s0_.k (hS.rd0 s0_.rd) (hS.blk0 s0_.blk)) hm50) ?_
 rintro e w ⟨rfl, hN⟩; refine ⟨_, rfl, ?_⟩; obtain ⟨hB, hS⟩ := hS.jn hN
 refine Za rfl rfl rfl (Yy rfl) ?_
 refine Zc 1 rfl ?_
 refine Zg ?_
 refine Zb hK44 ?_
 refine Zz rfl (fun hb => ?_) (fun hb => ?_)
 ·replace H := Zp H hb
  refine Ze (fun K hK51 => ?_)
  refine Zf ?_
  refine Zc 1 rfl ?_
  refine Zg ?_
  refine Zb hK51 ?_
  refine Zk ?_
  refine Zi ?_
  refine Zl rfl (RV.tmp rfl RV.nil) rfl ?_
  obtain rfl := QJ H
  replace hS := hS.cut 0
  exact ⟨rfl, hS⟩
 replace H := Zo H hb
 refine Zr ?_
 refine Zb hK43 ?_
 refine Ze (fun K hK52 => ?_)
 refine Ze (fun K hK53 => ?_)
 refine Zf ?_
 refine Za rfl rfl rfl (Zj Ye rfl (Zgw _) hS hs7 trivial Z3) ?_
 refine Za rfl rfl rfl (Zj Vi rfl (Zgw _) hS hs6 trivial Xp) ?_
 obtain ⟨r54, hm55, H⟩ := bind_some H
 refine Zq rfl rfl rfl rfl (by kernel_rfl) rfl (c_ref21_To x0 x1 A0_ c0_ A1_ c1_ A2_ c2_ A3_ c3_ A4_ c4_ A5_ c5_ _ (Zgz s0_.k (hS.rd0 s0_.rd) (hS.blk0 s0_.blk)) (Zgz s1_.k (hS.rd0 s1_.rd) (hS.blk0 s1_.blk)) (Zgz s2_.k (hS.rd0 s2_.rd) (hS.blk0 s2_.blk)) (Zgz s3_.k (hS.rd0 s3_.rd) (hS.blk0 s3_.blk)) (Zgz s4_.k (hS.rd0 s4_.rd) (hS.blk0 s4_.blk)) (Zgz s5_.k (hS.rd0 s5_.rd) (hS.blk0 s5_.blk)) hm55) ?_
 rintro e w ⟨rfl, hN⟩; refine ⟨_, rfl, ?_⟩; obtain ⟨hB, hS⟩ := hS.jn hN
 refine Za rfl rfl rfl (Yy rfl) ?_
 refine Zc 1 rfl ?_
 refine Zs 44 rfl (fun hb => ?_) (fun hb => ?_)
 ·replace H := Zp H hb
  refine Zc 4 rfl ?_
  refine Zg ?_
  refine Zb hK53 ?_
  refine Zt rfl rfl ?_
  refine Ze (fun K hK56 => ?_)
  refine Zf ?_
  refine Za rfl rfl rfl (Zj Ye rfl (Zgw _) hS hs0 trivial Z3) ?_
  refine Za rfl rfl rfl (Zj Ye rfl (Zgw _) hS hs7 trivial Z3) ?_
  obtain ⟨r57, hm58, H⟩ := bind_some H
  refine Zq rfl rfl rfl rfl (by kernel_rfl) rfl (Zfd r19 x0 A21 c22 A25 c26 A29 c30 A33 c34 A37 c38 A0_ c0_ A1_ c1_ A2_ c2_ A3_ c3_ A4_ c4_ _ (Zgz k23 (hS.rd Xw) (hS.rd_blk Xw)) (Zgz k27 (hS.row_rd Vf) (hS.row_blk Vf)) (Zgz k31 (hS.row_rd hs3) (hS.row_blk hs3)) (Zgz k35 (hS.row_rd hs4) (hS.row_blk hs4)) (Zgz k39 (hS.row_rd hs5) (hS.row_blk hs5)) (Zgz s0_.k (hS.rd0 s0_.rd) (hS.blk0 s0_.blk)) (Zgz s1_.k (hS.rd0 s1_.rd) (hS.blk0 s1_.blk)) (Zgz s2_.k (hS.rd0 s2_.rd) (hS.blk0 s2_.blk)) (Zgz s3_.k (hS.rd0 s3_.rd) (hS.blk0 s3_.blk)) (Zgz s4_.k (hS.rd0 s4_.rd) (hS.blk0 s4_.blk)) hm58) ?_
  rintro e w ⟨rfl, hN⟩; refine ⟨_, rfl, ?_⟩; obtain ⟨hB, hS⟩ := hS.jn hN
  refine Zc 1 rfl ?_
  refine Zs 52 rfl (fun hb => ?_) (fun hb => ?_)
  rotate_left
  ·replace H := Zo H hb
   refine Zc 3 rfl ?_
   refine Zg ?_
   refine Zb hK56 ?_
   refine Zk ?_
   refine Zi ?_
   refine Zl rfl (RV.tmp rfl RV.nil) rfl ?_
   obtain rfl := QJ H
   replace hS := hS.cut 0
   exact ⟨rfl, hS⟩
  replace H := Zp H hb
  obtain ⟨r59, hm60, H⟩ := bind_some H
  refine Zq rfl rfl rfl rfl (by kernel_rfl) rfl (Vc _ hm60) ?_
  rintro e w ⟨rfl, hN⟩; refine ⟨_, rfl, ?_⟩; obtain ⟨hB, hS⟩ := hS.jn hN
  refine Zc 2 rfl ?_
  refine Zg ?_
  refine Zb hK56 ?_
  refine Zk ?_
  refine Zi ?_
  refine Zl rfl (RV.tmp rfl RV.nil) rfl ?_
  obtain rfl := QJ H
  replace hS := hS.cut 0
  exact ⟨rfl, hS⟩
 replace H := Zo H hb
 refine Za rfl rfl rfl (Zd Vq rfl) ?_
 refine Za rfl rfl rfl (Zh Zbd rfl (Zgw _) hS hs6 trivial Y8) ?_
 refine Za rfl rfl rfl (Xh rfl rfl) ?_
 refine Zc 1 rfl ?_
 refine Zg ?_
 refine Zb hK53 ?_
 refine Zz rfl (fun hb => ?_) (fun hb => ?_)
 ·replace H := Zp H hb
  refine Ze (fun K hK61 => ?_)
  refine Zf ?_
  refine Za rfl rfl rfl (Zj Ye rfl (Zgw _) hS hs0 trivial Z3) ?_
  refine Za rfl rfl rfl (Zj Ye rfl (Zgw _) hS hs7 trivial Z3) ?_
  obtain ⟨r62, hm63, H⟩ := bind_some H
  refine Zq rfl rfl rfl rfl (by kernel_rfl) rfl (Zfd r19 x0 A21 c22 A25 c26 A29 c30 A33 c34 A37 c38 A0_ c0_ A1_ c1_ A2_ c2_ A3_ c3_ A4_ c4_ _ (Zgz k23 (hS.rd Xw) (hS.rd_blk Xw)) (Zgz k27 (hS.row_rd Vf) (hS.row_blk Vf)) (Zgz k31 (hS.row_rd hs3) (hS.row_blk hs3)) (Zgz k35 (hS.row_rd hs4) (hS.row_blk hs4)) (Zgz k39 (hS.row_rd hs5) (hS.row_blk hs5)) (Zgz s0_.k (hS.rd0 s0_.rd) (hS.blk0 s0_.blk)) (Zgz s1_.k (hS.rd0 s1_.rd) (hS.blk0 s1_.blk)) (Zgz s2_.k (hS.rd0 s2_.rd) (hS.blk0 s2_.blk)) (Zgz s3_.k (hS.rd0 s3_.rd) (hS.blk0 s3_.blk)) (Zgz s4_.k (hS.rd0 s4_.rd) (hS.blk0 s4_.blk)) hm63) ?_
  rintro e w ⟨rfl, hN⟩; refine ⟨_, rfl, ?_⟩; obtain ⟨hB, hS⟩ := hS.jn hN
  refine Zc 1 rfl ?_
  refine Zs 52 rfl (fun hb => ?_) (fun hb => ?_)
  rotate_left
  ·replace H := Zo H hb
   refine Zc 3 rfl ?_
   refine Zg ?_
   refine Zb hK61 ?_
   refine Zk ?_
   refine Zi ?_
   refine Zl rfl (RV.tmp rfl RV.nil) rfl ?_
   obtain rfl := QJ H
   replace hS := hS.cut 0
   exact ⟨rfl, hS⟩
  replace H := Zp H hb
  obtain ⟨r64, hm65, H⟩ := bind_some H
  refine Zq rfl rfl rfl rfl (by kernel_rfl) rfl (Vc _ hm65) ?_
  rintro e w ⟨rfl, hN⟩; refine ⟨_, rfl, ?_⟩; obtain ⟨hB, hS⟩ := hS.jn hN
  refine Zc 2 rfl ?_
  refine Zg ?_
  refine Zb hK61 ?_
  refine Zk ?_
  refine Zi ?_
  refine Zl rfl (RV.tmp rfl RV.nil) rfl ?_
  obtain rfl := QJ H
  replace hS := hS.cut 0
  exact ⟨rfl, hS⟩
 replace H := Zo H hb
 refine Zr ?_
 refine Zb hK52 ?_
 refine Ze (fun K hK66 => ?_)
 refine Ze (fun K hK67 => ?_)
 refine Zf ?_
 refine Za rfl rfl rfl (Zd Zb0 rfl) ?_
 refine Za rfl rfl rfl (Zh Zbd rfl (Zgw _) hS hs0 trivial Zav) ?_
 refine Za rfl rfl rfl (Xh rfl rfl) ?_
 refine Zg ?_
 refine Zb hK67 ?_
 refine Zz rfl (fun hb => ?_) (fun hb => ?_)
 ·replace H := Zp H hb
  refine Ze (fun K hK68 => ?_)
  refine Zf ?_
  refine Za rfl rfl rfl (Zd Zb0 rfl) ?_
  refine Za rfl rfl rfl (Zh Zbd rfl (Zgw _) hS hs7 trivial Zav) ?_
  refine Za rfl rfl rfl (Xh rfl rfl) ?_
  refine Zc 1 rfl ?_
  refine Zs 61 rfl (fun hb => ?_) (fun hb => ?_)
  ·replace H := Zp H hb
   refine Zc 8 rfl ?_
   obtain ⟨r69, hm70, H⟩ := bind_some H
   refine Zq rfl rfl rfl rfl (by kernel_rfl) rfl (Vc _ hm70) ?_
   rintro e w ⟨rfl, hN⟩; refine ⟨_, rfl, ?_⟩; obtain ⟨hB, hS⟩ := hS.jn hN
   refine Zc 2 rfl ?_
   refine Zg ?_
   refine Zb hK68 ?_
   refine Zk ?_
   refine Zi ?_
   refine Zl rfl (RV.tmp rfl RV.nil) rfl ?_
   obtain rfl := QJ H
   replace hS := hS.cut 0
   exact ⟨rfl, hS⟩
  replace H := Zo H hb
  refine Za rfl rfl rfl (Zd Zb1 rfl) ?_
  refine Za rfl rfl rfl (Zh Zw rfl (Zgw _) hS hs6 trivial Zan) ?_
  refine Za rfl rfl rfl (Zd Yr rfl) ?_
  refine Za rfl rfl rfl (Zd Vr rfl) ?_
  refine Za rfl rfl rfl (Zh Zw rfl (Zgw _) hS hs7 trivial J7) ?_
  refine Za rfl rfl rfl (Y9 rfl rfl) ?_
  refine Zc 2 rfl ?_
  refine Zs 69 rfl (fun hb => ?_) (fun hb => ?_)
  rotate_left
  ·replace H := Zo H hb
   refine Zc 3 rfl ?_
   refine Zg ?_
   refine Zb hK68 ?_
   refine Zk ?_
   refine Zi ?_
   refine Zl rfl (RV.tmp rfl RV.nil) rfl ?_
   obtain rfl := QJ H
   replace hS := hS.cut 0
   exact ⟨rfl, hS⟩
  replace H := Zp H hb
  obtain ⟨r71, hm72, H⟩ := bind_some H
  refine Zq rfl rfl rfl rfl (by kernel_rfl) rfl (Vc _ hm72) ?_
  rintro e w ⟨rfl, hN⟩; refine ⟨_, rfl, ?_⟩; obtain ⟨hB, hS⟩ := hS.jn hN
  refine Zc 2 rfl ?_
  refine Zg ?_
  refine Zb hK68 ?_
  refine Zk ?_
  refine Zi ?_
  refine Zl rfl (RV.tmp rfl RV.nil) rfl ?_
  obtain rfl := QJ H
  replace hS := hS.cut 0
  exact ⟨rfl, hS⟩
 replace H := Zo H hb
 refine Zr ?_
 refine Zb hK66 ?_
 refine Ze (fun K hK73 => ?_)
 refine Ze (fun K hK74 => ?_)
 refine Zf ?_
 refine Zc 1 rfl ?_
 refine Zg ?_
 refine Zb hK74 ?_
 refine Yf ?_
 refine Vz (X := Nat × Bool × Int) (fun x => (2, .pointer (some ⟨b2, 0, none⟩)) :: (3, .pointer (some ⟨b4, 0, none⟩)) :: (4, .bool x.2.1) :: (5, .pointer (some ⟨b41, 0, none⟩)) :: (6, .int .i64 x.2.2) :: []) (fun x w => St0 All w0 w (.box b41 [.int .i64 r19.id, .int .i64 r19.n, .int .u8 r19.role, .int .i64 r19.binary, .int .i64 r19.tuple.snap.index, .int .i64 r19.tuple.snap.term, .int .i64 r19.tuple.snap.sum, .int .i64 r19.tuple.snap.level, .bool r19.tuple.snap.final, .slice A21 r19.tuple.log.length c22, .int .i64 r19.tuple.term, .int .i64 r19.tuple.vote, .int .i64 r19.commit, .int .i64 r19.applied.index, .int .i64 r19.applied.term, .int .i64 r19.applied.sum, .int .i64 r19.applied.level, .bool r19.applied.final, .slice A25 r19.votes.length c26, .slice A29 r19.next.length c30, .slice A33 r19.mtch.length c34, .slice A37 r19.caps.length c38] 30 :: .rd A21 (Yl Jj r19.tuple.log) :: .row (.slice A25 r19.votes.length c26) 4 1 r19.votes.length (Yl enO r19.votes) :: .row (.slice A29 r19.next.length c30) 3 1 r19.next.length (Yl V1 r19.next) :: .row (.slice A33 r19.mtch.length c34) 3 1 r19.mtch.length (Yl V1 r19.mtch) :: .row (.slice A37 r19.caps.length c38) 3 1 r19.caps.length (Yl V1 r19.caps) :: .box b4 [.int .u8 x1.kind, .int .i64 x1.frm, .int .i64 x1.dst, .int .i64 x1.term, .int .i64 x1.cap, .int .i64 x1.last, .int .i64 x1.lastTerm, .int .i64 x1.commit, .bool x1.okk, .slice A5_ x1.entries.length c5_, .int .i64 x1.snap.index, .int .i64 x1.snap.term, .int .i64 x1.snap.sum, .int .i64 x1.snap.level, .bool x1.snap.final] 32 :: .box b2 [.int .i64 x0.id, .int .i64 x0.n, .int .u8 x0.role, .int .i64 x0.binary, .int .i64 x0.tuple.snap.index, .int .i64 x0.tuple.snap.term, .int .i64 x0.tuple.snap.sum, .int .i64 x0.tuple.snap.level, .bool x0.tuple.snap.final, .slice A0_ x0.tuple.log.length c0_, .int .i64 x0.tuple.term, .int .i64 x0.tuple.vote, .int .i64 x0.commit, .int .i64 x0.applied.index, .int .i64 x0.applied.term, .int .i64 x0.applied.sum, .int .i64 x0.applied.level, .bool x0.applied.final, .slice A1_ x0.votes.length c1_, .slice A2_ x0.next.length c2_, .slice A3_ x0.mtch.length c3_, .slice A4_ x0.caps.length c4_] 30 :: []) ∧ Vs x0 x1 r19 x.1 x.2.1 x.2.2 = some r) (fun x => x.1) (Xo, false, 0) (by repeat (first | exact Sub.nil | refine Sub.cons rfl ?_)) ⟨hS, H⟩ ?_
 rintro ⟨n, v75, v76⟩ w ⟨hS, H⟩
 dsimp only at hS H ⊢
 obtain _ | n := n
 ·have H0 : none = some r := H
  cases H0
 rw [Vs] at H
 refine Ze (fun K hK77 => ?_)
 refine Ze (fun K hK78 => ?_)
 refine Zf ?_
 refine Zc 1 rfl ?_
 refine Za rfl rfl rfl (Zd Ja rfl) ?_
 refine Za rfl rfl rfl (Zh Zw rfl (Zgw _) hS hs7 trivial Vp) ?_
 refine Za rfl rfl rfl (Xe rfl rfl) ?_
 refine Zg ?_
 refine Zb hK78 ?_
 refine Zz rfl (fun hb => ?_) (fun hb => ?_)
 ·replace H := Zp H hb
  refine Zr ?_
  refine Zb hK77 ?_
  refine Ze (fun K hK79 => ?_)
  refine Yf ?_
  refine Ze (fun K hK80 => ?_)
  refine Yi 44 [] (fun _ _ => True) ⟨by kernel_rfl, by kernel_rfl⟩ hS (fun w hS hB => ?_)
  refine Zn [true, true, true, true, true, true, true, true, true, true, true, true] (by decide +kernel) PFC.h ?_
  refine LtK.put rfl rfl rfl (Zd Vt rfl) ?_
  refine LtK.put rfl rfl rfl (Zh Xt rfl (Zgx _) hS hs0 trivial Jz) ?_
  refine LtK.put rfl rfl rfl (Zu rfl) ?_
  obtain ⟨e81, hi83, H⟩ := bind_some H
  obtain ⟨j82, hi83a, hi83b, hi83c⟩ := Ym hi83
  refine LtK.put rfl rfl rfl (Y1 Xl rfl rfl hi83a hi83c (Rd.el (hS.row_rd hs4) Z9 hi83b)) ?_
  refine LtK.put rfl rfl rfl (Xn Zw rfl (Zgx _) (Rd.el (hS.row_rd hs4) Z9 hi83b) rfl) ?_
  refine LtK.put rfl rfl rfl (Zd Vt rfl) ?_
  refine LtK.put rfl rfl rfl (Zh Xt rfl (Zgx _) hS hs7 trivial Jz) ?_
  refine LtK.put rfl rfl rfl (Zu rfl) ?_
  obtain ⟨e84, hi86, H⟩ := bind_some H
  obtain ⟨j85, hi86a, hi86b, hi86c⟩ := Ym hi86
  refine LtK.put rfl rfl rfl (Y1 Xl rfl rfl hi86a hi86c (Rd.el (hS.rd0 s3_.rd) Z9 hi86b)) ?_
  refine LtK.put rfl rfl rfl (Xn Zw rfl (Zgx _) (Rd.el (hS.rd0 s3_.rd) Z9 hi86b) rfl) ?_
  refine LtK.put rfl rfl rfl (Xe rfl rfl) ?_
  refine LtK.put rfl rfl rfl (Zu rfl) ?_
  refine LtK.nil ?_
  refine Xx 89 rfl (fun hb => ?_) (fun hb => ?_)
  ·replace H := Zp H hb
   refine Zn [false, false, false, false, false, false, false, false, false, false, false, false, true, true, true, true, true, true, true, true, true, true, true, true, true, true, true, true, true, true, true, true, true, true, true, true, true, true, true, true, true, true, true, true] (by decide +kernel) PFC.h ?_
   refine LtK.skip rfl rfl rfl ?_
   refine LtK.skip rfl rfl rfl ?_
   refine LtK.skip rfl rfl rfl ?_
   refine LtK.skip rfl rfl rfl ?_
   refine LtK.skip rfl rfl rfl ?_
   refine LtK.skip rfl rfl rfl ?_
   refine LtK.skip rfl rfl rfl ?_
   refine LtK.skip rfl rfl rfl ?_
   refine LtK.skip rfl rfl rfl ?_
   refine LtK.skip rfl rfl rfl ?_
   refine LtK.skip rfl rfl rfl ?_
   refine LtK.skip rfl rfl rfl ?_
   refine LtK.skip rfl rfl rfl ?_
   refine LtK.skip rfl rfl rfl ?_
   refine LtK.skip rfl rfl rfl ?_
   refine LtK.skip rfl rfl rfl ?_
   refine LtK.skip rfl rfl rfl ?_
   refine LtK.skip rfl rfl rfl ?_
   refine LtK.skip rfl rfl rfl ?_
   refine LtK.skip rfl rfl rfl ?_
   refine LtK.skip rfl rfl rfl ?_
   refine LtK.skip rfl rfl rfl ?_
   refine LtK.skip rfl rfl rfl ?_
   refine LtK.skip rfl rfl rfl ?_
   refine LtK.skip rfl rfl rfl ?_
   refine LtK.skip rfl rfl rfl ?_
   refine LtK.skip rfl rfl rfl ?_
   refine LtK.skip rfl rfl rfl ?_
   refine LtK.skip rfl rfl rfl ?_
   refine LtK.skip rfl rfl rfl ?_
   refine LtK.skip rfl rfl rfl ?_
   refine LtK.put rfl rfl rfl (Ya rfl rfl rfl) ?_
   refine LtK.nil ?_
   refine Z4 (by kernel_rfl) ?_
   refine Zb hK80 ?_
   refine Zt rfl rfl ?_
   refine Ze (fun K hK87 => ?_)
   refine Zf ?_
   refine Zc 1 rfl ?_
   refine Zg ?_
   refine Zb hK87 ?_
   refine Zk ?_
   refine Zv ?_
   refine Zi ?_
   refine Zi ?_
   refine Zv ?_
   refine Zi ?_
   refine Zl rfl (RV.tmp rfl RV.nil) rfl ?_
   obtain rfl := QJ H
   replace hS := hS.cut 0
   exact ⟨rfl, hS⟩
  replace H := Zo H hb
  refine Zn [false, false, false, false, false, false, false, false, false, false, false, false, true, true, true, true, true, true] (by decide +kernel) PFC.h ?_
  refine LtK.put rfl rfl rfl (Zu rfl) ?_
  refine LtK.put rfl rfl rfl (Zd Zby rfl) ?_
  refine LtK.put rfl rfl rfl (Zh Zw rfl (Zgx _) hS hs6 trivial Vp) ?_
  refine LtK.put rfl rfl rfl (Za6 rfl rfl) ?_
  refine LtK.put rfl rfl rfl (Xh rfl rfl) ?_
  refine LtK.put rfl rfl rfl (Zu rfl) ?_
  refine LtK.nil ?_
  refine Xx 95 rfl (fun hb => ?_) (fun hb => ?_)
  rotate_left
  ·replace H := Zo H hb
   refine Zn [false, false, false, false, false, false, false, false, false, false, false, false, false, false, false, false, false, false, true, true, true, true, true, true, true, true, true, true, true, true, true, true, true, true, true, true, true, true, true, true, true, true, true, true] (by decide +kernel) PFC.h ?_
   refine LtK.skip rfl rfl rfl ?_
   refine LtK.skip rfl rfl rfl ?_
   refine LtK.skip rfl rfl rfl ?_
   refine LtK.skip rfl rfl rfl ?_
   refine LtK.skip rfl rfl rfl ?_
   refine LtK.skip rfl rfl rfl ?_
   refine LtK.skip rfl rfl rfl ?_
   refine LtK.skip rfl rfl rfl ?_
   refine LtK.skip rfl rfl rfl ?_
   refine LtK.skip rfl rfl rfl ?_
   refine LtK.skip rfl rfl rfl ?_
   refine LtK.skip rfl rfl rfl ?_
   refine LtK.skip rfl rfl rfl ?_
   refine LtK.skip rfl rfl rfl ?_
   refine LtK.skip rfl rfl rfl ?_
   refine LtK.skip rfl rfl rfl ?_
   refine LtK.skip rfl rfl rfl ?_
   refine LtK.skip rfl rfl rfl ?_
   refine LtK.skip rfl rfl rfl ?_
   refine LtK.skip rfl rfl rfl ?_
   refine LtK.skip rfl rfl rfl ?_
   refine LtK.skip rfl rfl rfl ?_
   refine LtK.skip rfl rfl rfl ?_
   refine LtK.skip rfl rfl rfl ?_
   refine LtK.put rfl rfl rfl (Yc rfl rfl rfl) ?_
   refine LtK.put rfl rfl rfl (Yc rfl rfl rfl) ?_
   refine LtK.nil ?_
   refine Z4 (by kernel_rfl) ?_
   refine Zb hK80 ?_
   refine Yp rfl rfl ?_
   refine Zr ?_
   refine Z1 ?_
   refine Zb hK79 ?_
   refine Zf ?_
   refine Zc 1 rfl ?_
   refine Za rfl rfl rfl (Xc rfl rfl) ?_
   refine Zc 1 rfl ?_
   refine Zg ?_
   exact X3 (n, v75, (IntKind.wrap .i64 (v76 + 1))) (by repeat (first | exact Sub.nil | refine Sub.cons rfl ?_)) ⟨hS, H⟩ (Nat.lt_succ_self _)
  replace H := Zp H hb
  refine Zn [false, false, false, false, false, false, false, false, false, false, false, false, false, false, false, false, false, false, true, true, true, true, true, true, true, true, true, true, true, true] (by decide +kernel) PFC.h ?_
  refine LtK.put rfl rfl rfl (Zd Vt rfl) ?_
  refine LtK.put rfl rfl rfl (Zh Xt rfl (Zgx _) hS hs0 trivial Jz) ?_
  refine LtK.put rfl rfl rfl (Zu rfl) ?_
  obtain ⟨e88, hi90, H⟩ := bind_some H
  obtain ⟨j89, hi90a, hi90b, hi90c⟩ := Ym hi90
  refine LtK.put rfl rfl rfl (Y1 Xl rfl rfl hi90a hi90c (Rd.el (hS.row_rd hs4) Z9 hi90b)) ?_
  refine LtK.put rfl rfl rfl (Xn Zw rfl (Zgx _) (Rd.el (hS.row_rd hs4) Z9 hi90b) rfl) ?_
  refine LtK.put rfl rfl rfl (Zd Vt rfl) ?_
  refine LtK.put rfl rfl rfl (Zh Xt rfl (Zgx _) hS hs7 trivial Jz) ?_
  refine LtK.put rfl rfl rfl (Zu rfl) ?_
  obtain ⟨e91, hi93, H⟩ := bind_some H
  obtain ⟨j92, hi93a, hi93b, hi93c⟩ := Ym hi93
  refine LtK.put rfl rfl rfl (Y1 Xl rfl rfl hi93a hi93c (Rd.el (hS.rd0 s3_.rd) Z9 hi93b)) ?_
  refine LtK.put rfl rfl rfl (Xn Zw rfl (Zgx _) (Rd.el (hS.rd0 s3_.rd) Z9 hi93b) rfl) ?_
  refine LtK.put rfl rfl rfl (Xh rfl rfl) ?_
  refine LtK.put rfl rfl rfl (Zu rfl) ?_
  refine LtK.nil ?_
  refine Xx 107 rfl (fun hb => ?_) (fun hb => ?_)
  ·replace H := Zp H hb
   refine Zn [false, false, false, false, false, false, false, false, false, false, false, false, false, false, false, false, false, false, false, false, false, false, false, false, false, false, false, false, false, false, true, true, true, true, true, true, true, true, true, true, true, true, true, true] (by decide +kernel) PFC.h ?_
   refine LtK.skip rfl rfl rfl ?_
   refine LtK.skip rfl rfl rfl ?_
   refine LtK.skip rfl rfl rfl ?_
   refine LtK.skip rfl rfl rfl ?_
   refine LtK.skip rfl rfl rfl ?_
   refine LtK.skip rfl rfl rfl ?_
   refine LtK.skip rfl rfl rfl ?_
   refine LtK.skip rfl rfl rfl ?_
   refine LtK.skip rfl rfl rfl ?_
   refine LtK.skip rfl rfl rfl ?_
   refine LtK.skip rfl rfl rfl ?_
   refine LtK.put rfl rfl rfl (Ya rfl rfl rfl) ?_
   refine LtK.put rfl rfl rfl (Ya rfl rfl rfl) ?_
   refine LtK.put rfl rfl rfl (Yc rfl rfl rfl) ?_
   refine LtK.nil ?_
   refine Z4 (by kernel_rfl) ?_
   refine Zb hK80 ?_
   refine Zt rfl rfl ?_
   refine Ze (fun K hK94 => ?_)
   refine Zf ?_
   refine Zc 1 rfl ?_
   refine Zg ?_
   refine Zb hK94 ?_
   refine Zk ?_
   refine Zv ?_
   refine Zi ?_
   refine Zi ?_
   refine Zv ?_
   refine Zi ?_
   refine Zl rfl (RV.tmp rfl RV.nil) rfl ?_
   obtain rfl := QJ H
   replace hS := hS.cut 0
   exact ⟨rfl, hS⟩
  replace H := Zo H hb
  refine Zn [false, false, false, false, false, false, false, false, false, false, false, false, false, false, false, false, false, false, false, false, false, false, false, false, false, false, false, false, false, false, true, true, true, true, true, true, true, true, true, true, true, true, true, true] (by decide +kernel) PFC.h ?_
  refine LtK.put rfl rfl rfl (Zd Vo rfl) ?_
  refine LtK.put rfl rfl rfl (Zh Xt rfl (Zgx _) hS hs0 trivial Jr) ?_
  refine LtK.put rfl rfl rfl (Zu rfl) ?_
  obtain ⟨e95, hi97, H⟩ := bind_some H
  obtain ⟨j96, hi97a, hi97b, hi97c⟩ := Ym hi97
  refine LtK.put rfl rfl rfl (Y1 Xl rfl rfl hi97a hi97c (Rd.el (hS.row_rd hs3) Z9 hi97b)) ?_
  refine LtK.put rfl rfl rfl (Xn Zw rfl (Zgx _) (Rd.el (hS.row_rd hs3) Z9 hi97b) rfl) ?_
  refine LtK.put rfl rfl rfl (Zd Vo rfl) ?_
  refine LtK.put rfl rfl rfl (Zh Xt rfl (Zgx _) hS hs7 trivial Jr) ?_
  refine LtK.put rfl rfl rfl (Zu rfl) ?_
  obtain ⟨e98, hi100, H⟩ := bind_some H
  obtain ⟨j99, hi100a, hi100b, hi100c⟩ := Ym hi100
  refine LtK.put rfl rfl rfl (Y1 Xl rfl rfl hi100a hi100c (Rd.el (hS.rd0 s2_.rd) Z9 hi100b)) ?_
  refine LtK.put rfl rfl rfl (Xn Zw rfl (Zgx _) (Rd.el (hS.rd0 s2_.rd) Z9 hi100b) rfl) ?_
  refine LtK.put rfl rfl rfl (Xh rfl rfl) ?_
  refine LtK.put rfl rfl rfl (Yc rfl rfl rfl) ?_
  refine LtK.put rfl rfl rfl (Ya rfl rfl rfl) ?_
  refine LtK.put rfl rfl rfl (Yc rfl rfl rfl) ?_
  refine LtK.nil ?_
  refine Z4 (by kernel_rfl) ?_
  refine Zb hK80 ?_
  refine Zz rfl (fun hb => ?_) (fun hb => ?_)
  rotate_left
  ·replace H := Zo H hb
   refine Zr ?_
   refine Z1 ?_
   refine Zb hK79 ?_
   refine Zf ?_
   refine Zc 1 rfl ?_
   refine Za rfl rfl rfl (Xc rfl rfl) ?_
   refine Zc 1 rfl ?_
   refine Zg ?_
   exact X3 (n, v75, (IntKind.wrap .i64 (v76 + 1))) (by repeat (first | exact Sub.nil | refine Sub.cons rfl ?_)) ⟨hS, H⟩ (Nat.lt_succ_self _)
  replace H := Zp H hb
  refine Ze (fun K hK101 => ?_)
  refine Zf ?_
  refine Zc 1 rfl ?_
  refine Zg ?_
  refine Zb hK101 ?_
  refine Zk ?_
  refine Zv ?_
  refine Zi ?_
  refine Zi ?_
  refine Zv ?_
  refine Zi ?_
  refine Zl rfl (RV.tmp rfl RV.nil) rfl ?_
  obtain rfl := QJ H
  replace hS := hS.cut 0
  exact ⟨rfl, hS⟩
 replace H := Zo H hb
 refine Vl ?_
 refine Yb ?_
 refine Yb ?_
 refine Y6 ?_
 refine Zb hK73 ?_
 refine Ze (fun K hK102 => ?_)
 refine Zf ?_
 refine Za rfl rfl rfl (Zd Zby rfl) ?_
 refine Za rfl rfl rfl (Zh Zw rfl (Zgw _) hS hs6 trivial Vp) ?_
 refine Za rfl rfl rfl (Za6 rfl rfl) ?_
 refine Zc 1 rfl ?_
 refine Zg ?_
 refine Zb hK102 ?_
 refine Ze (fun K hK103 => ?_)
 refine Ze (fun K hK104 => ?_)
 refine Zf ?_
 refine Za rfl rfl rfl (Zd Zb1 rfl) ?_
 refine Za rfl rfl rfl (Zh Zw rfl (Zgw _) hS hs6 trivial Zan) ?_
 refine Za rfl rfl rfl (Zd Yr rfl) ?_
 refine Za rfl rfl rfl (Zd Vr rfl) ?_
 refine Za rfl rfl rfl (Zh Zw rfl (Zgw _) hS hs7 trivial J7) ?_
 refine Za rfl rfl rfl (Xh rfl rfl) ?_
 refine Zg ?_
 refine Zb hK104 ?_
 refine Zz rfl (fun hb => ?_) (fun hb => ?_)
 ·replace H := Zp H hb
  refine Ze (fun K hK105 => ?_)
  refine Yi 28 [] (fun _ _ => True) ⟨by kernel_rfl, by kernel_rfl⟩ hS (fun w hS hB => ?_)
  refine Zn [true, true, true, true, true, true, true, true, true, true, true, true] (by decide +kernel) PFC.h ?_
  refine LtK.put rfl rfl rfl (Zd Vo rfl) ?_
  refine LtK.put rfl rfl rfl (Zh Xt rfl (Zgx _) hS hs0 trivial Jr) ?_
  refine LtK.put rfl rfl rfl (Zu rfl) ?_
  obtain ⟨e106, hi108, H⟩ := bind_some H
  obtain ⟨j107, hi108a, hi108b, hi108c⟩ := Ym hi108
  refine LtK.put rfl rfl rfl (Y1 Xl rfl rfl hi108a hi108c (Rd.el (hS.row_rd hs3) Z9 hi108b)) ?_
  refine LtK.put rfl rfl rfl (Xn Zw rfl (Zgx _) (Rd.el (hS.row_rd hs3) Z9 hi108b) rfl) ?_
  refine LtK.put rfl rfl rfl (Zd Vo rfl) ?_
  refine LtK.put rfl rfl rfl (Zh Xt rfl (Zgx _) hS hs7 trivial Jr) ?_
  refine LtK.put rfl rfl rfl (Zu rfl) ?_
  obtain ⟨e109, hi111, H⟩ := bind_some H
  obtain ⟨j110, hi111a, hi111b, hi111c⟩ := Ym hi111
  refine LtK.put rfl rfl rfl (Y1 Xl rfl rfl hi111a hi111c (Rd.el (hS.rd0 s2_.rd) Z9 hi111b)) ?_
  refine LtK.put rfl rfl rfl (Xn Zw rfl (Zgx _) (Rd.el (hS.rd0 s2_.rd) Z9 hi111b) rfl) ?_
  refine LtK.put rfl rfl rfl (Y5 rfl rfl) ?_
  refine LtK.put rfl rfl rfl (Zu rfl) ?_
  refine LtK.nil ?_
  refine Xx 142 rfl (fun hb => ?_) (fun hb => ?_)
  rotate_left
  ·replace H := Zo H hb
   refine Zn [false, false, false, false, false, false, false, false, false, false, false, false, true, true, true, true, true, true, true, true, true, true, true, true, true] (by decide +kernel) PFC.h ?_
   refine LtK.skip rfl rfl rfl ?_
   refine LtK.skip rfl rfl rfl ?_
   refine LtK.skip rfl rfl rfl ?_
   refine LtK.skip rfl rfl rfl ?_
   refine LtK.skip rfl rfl rfl ?_
   refine LtK.skip rfl rfl rfl ?_
   refine LtK.skip rfl rfl rfl ?_
   refine LtK.skip rfl rfl rfl ?_
   refine LtK.skip rfl rfl rfl ?_
   refine LtK.skip rfl rfl rfl ?_
   refine LtK.skip rfl rfl rfl ?_
   refine LtK.put rfl rfl rfl (Yc rfl rfl rfl) ?_
   refine LtK.put rfl rfl rfl (Zu rfl) ?_
   refine LtK.nil ?_
   refine Z6 [false, false, false, false, false, false, false, false, false, false, false, false, false, false, false, false, false, false, false, false, false, false, false, false, false, true] 25 ⟨by decide, by kernel_rfl, by kernel_rfl⟩ rfl rfl ?_
   try dsimp only [Zy]
   refine Vg rfl rfl rfl ?_
   refine Zg ?_
   refine Z8 (Below.refl _ _) ?_
   refine Zn [false, false, false, false, false, false, false, false, false, false, false, false, false, false, false, false, false, false, false, false, false, false, false, false, false, false, true, true] (by decide +kernel) PFC.h ?_
   refine LtK.put rfl rfl rfl (Yc rfl rfl rfl) ?_
   refine LtK.put rfl rfl rfl (Zx rfl) ?_
   refine LtK.nil ?_
   refine Z4 (by kernel_rfl) ?_
   refine Zb hK105 ?_
   refine Zk ?_
   refine Zi ?_
   refine Zl rfl (RV.tmp rfl RV.nil) rfl ?_
   obtain rfl := QJ H
   replace hS := hS.cut 0
   exact ⟨rfl, hS⟩
  replace H := Zp H hb
  refine Zn [false, false, false, false, false, false, false, false, false, false, false, false, true, true, true, true, true, true, true, true, true, true, true, true, true] (by decide +kernel) PFC.h ?_
  refine LtK.put rfl rfl rfl (Zd Vt rfl) ?_
  refine LtK.put rfl rfl rfl (Zh Xt rfl (Zgx _) hS hs0 trivial Jz) ?_
  refine LtK.put rfl rfl rfl (Zu rfl) ?_
  obtain ⟨e112, hi114, H⟩ := bind_some H
  obtain ⟨j113, hi114a, hi114b, hi114c⟩ := Ym hi114
  refine LtK.put rfl rfl rfl (Y1 Xl rfl rfl hi114a hi114c (Rd.el (hS.row_rd hs4) Z9 hi114b)) ?_
  refine LtK.put rfl rfl rfl (Xn Zw rfl (Zgx _) (Rd.el (hS.row_rd hs4) Z9 hi114b) rfl) ?_
  refine LtK.put rfl rfl rfl (Zd Vt rfl) ?_
  refine LtK.put rfl rfl rfl (Zh Xt rfl (Zgx _) hS hs7 trivial Jz) ?_
  refine LtK.put rfl rfl rfl (Zu rfl) ?_
  obtain ⟨e115, hi117, H⟩ := bind_some H
  obtain ⟨j116, hi117a, hi117b, hi117c⟩ := Ym hi117
  refine LtK.put rfl rfl rfl (Y1 Xl rfl rfl hi117a hi117c (Rd.el (hS.rd0 s3_.rd) Z9 hi117b)) ?_
  refine LtK.put rfl rfl rfl (Xn Zw rfl (Zgx _) (Rd.el (hS.rd0 s3_.rd) Z9 hi117b) rfl) ?_
  refine LtK.put rfl rfl rfl (Y5 rfl rfl) ?_
  refine LtK.put rfl rfl rfl (Ya rfl rfl rfl) ?_
  refine LtK.put rfl rfl rfl (Zu rfl) ?_
  refine LtK.nil ?_
  refine Xx 155 rfl (fun hb => ?_) (fun hb => ?_)
  rotate_left
  ·replace H := Zo H hb
   refine Z6 [false, false, false, false, false, false, false, false, false, false, false, false, false, false, false, false, false, false, false, false, false, false, false, false, false, true] 25 ⟨by decide, by kernel_rfl, by kernel_rfl⟩ rfl rfl ?_
   try dsimp only [Zy]
   refine Vg rfl rfl rfl ?_
   refine Zg ?_
   refine Z8 (Below.refl _ _) ?_
   refine Zn [false, false, false, false, false, false, false, false, false, false, false, false, false, false, false, false, false, false, false, false, false, false, false, false, false, false, true, true] (by decide +kernel) PFC.h ?_
   refine LtK.put rfl rfl rfl (Yc rfl rfl rfl) ?_
   refine LtK.put rfl rfl rfl (Zx rfl) ?_
   refine LtK.nil ?_
   refine Z4 (by kernel_rfl) ?_
   refine Zb hK105 ?_
   refine Zk ?_
   refine Zi ?_
   refine Zl rfl (RV.tmp rfl RV.nil) rfl ?_
   obtain rfl := QJ H
   replace hS := hS.cut 0
   exact ⟨rfl, hS⟩
  replace H := Zp H hb
  refine Z6 [false, false, false, false, false, false, false, false, false, false, false, false, false, false, false, false, false, false, false, false, false, false, false, false, false, true] 25 ⟨by decide, by kernel_rfl, by kernel_rfl⟩ rfl rfl ?_
  try dsimp only [Zy]
  obtain ⟨r118, hm119, H⟩ := bind_some H
  refine Zq rfl rfl rfl rfl (by kernel_rfl) rfl (Vc _ hm119) ?_
  rintro e w ⟨rfl, hN⟩; refine ⟨_, rfl, ?_⟩; obtain ⟨hB, hS⟩ := hS.jn hN
  refine Zg ?_
  refine Z8 hB ?_
  refine Zn [false, false, false, false, false, false, false, false, false, false, false, false, false, false, false, false, false, false, false, false, false, false, false, false, false, false, true, true] (by decide +kernel) PFC.h ?_
  refine LtK.put rfl rfl rfl (Ya rfl rfl rfl) ?_
  refine LtK.put rfl rfl rfl (Zx rfl) ?_
  refine LtK.nil ?_
  refine Z4 (by kernel_rfl) ?_
  refine Zb hK105 ?_
  refine Zk ?_
  refine Zi ?_
  refine Zl rfl (RV.tmp rfl RV.nil) rfl ?_
  obtain rfl := QJ H
  replace hS := hS.cut 0
  exact ⟨rfl, hS⟩
 replace H := Zo H hb
 refine Zr ?_
 refine Zb hK103 ?_
 refine Ze (fun K hK120 => ?_)
 refine Ze (fun K hK121 => ?_)
 refine Zf ?_
 refine Za rfl rfl rfl (Zd Zel rfl) ?_
 refine Za rfl rfl rfl (Zh sc_4 rfl (Zgw _) hS hs6 trivial sg8_1) ?_
 refine Zg ?_
 refine Zb hK121 ?_
 refine Zz rfl (fun hb => ?_) (fun hb => ?_)
 ·replace H := Zp H hb
  refine Ze (fun K hK122 => ?_)
  refine Yi 42 [] (fun _ _ => True) ⟨by kernel_rfl, by kernel_rfl⟩ hS (fun w hS hB => ?_)
  refine Zn [true, true, true, true, true, true, true, true, true] (by decide +kernel) PFC.h ?_
  refine LtK.put rfl rfl rfl (Zd Vt rfl) ?_
  refine LtK.put rfl rfl rfl (Zh Xt rfl (Zgx _) hS hs0 trivial Jz) ?_
  refine LtK.put rfl rfl rfl (Zu rfl) ?_
  obtain ⟨e123, hi125, H⟩ := bind_some H
  obtain ⟨j124, hi125a, hi125b, hi125c⟩ := Ym hi125
  refine LtK.put rfl rfl rfl (Y1 Xl rfl rfl hi125a hi125c (Rd.el (hS.row_rd hs4) Z9 hi125b)) ?_
  refine LtK.put rfl rfl rfl (Xn Zw rfl (Zgx _) (Rd.el (hS.row_rd hs4) Z9 hi125b) rfl) ?_
  refine LtK.put rfl rfl rfl (Zd Vu rfl) ?_
  refine LtK.put rfl rfl rfl (Zh Zw rfl (Zgx _) hS hs6 trivial V7) ?_
  refine LtK.put rfl rfl rfl (Zd Yr rfl) ?_
  refine LtK.put rfl rfl rfl (Zj Y7 rfl (Zgx _) hS hs7 trivial Zak) ?_
  refine LtK.nil ?_
  refine Z6 [false, false, false, false, false, false, false, false, false, true] 9 ⟨by decide, by kernel_rfl, by kernel_rfl⟩ rfl rfl ?_
  try dsimp only [Zy]
  obtain ⟨r126, hm127, H⟩ := bind_some H
  refine Zq rfl rfl rfl rfl (by kernel_rfl) rfl (Zck x0.tuple A0_ c0_ _ (Zgz s0_.k (hS.rd0 s0_.rd) (hS.blk0 s0_.blk)) hm127) ?_
  rintro e w ⟨rfl, hN⟩; refine ⟨_, rfl, ?_⟩; obtain ⟨hB, hS⟩ := hS.jn hN
  refine Zg ?_
  refine Z8 hB ?_
  refine Zn [false, false, false, false, false, false, false, false, false, false, true, true, true] (by decide +kernel) PFC.h ?_
  refine LtK.put rfl rfl rfl (Ze3 rfl rfl) ?_
  refine LtK.put rfl rfl rfl (Zcu rfl rfl) ?_
  refine LtK.put rfl rfl rfl (Zu rfl) ?_
  refine LtK.nil ?_
  refine Xx 172 rfl (fun hb => ?_) (fun hb => ?_)
  rotate_left
  ·replace H := Zo H hb
   refine Zn [false, false, false, false, false, false, false, false, false, false, false, false, false, true, true, true, true, true, true, true, true, true, true, true, true, true, true, true, true, true, true, true, true, true, true, true, true, true, true] (by decide +kernel) PFC.h ?_
   refine LtK.skip rfl rfl rfl ?_
   refine LtK.skip rfl rfl rfl ?_
   refine LtK.skip rfl rfl rfl ?_
   refine LtK.skip rfl rfl rfl ?_
   refine LtK.skip rfl rfl rfl ?_
   refine LtK.skip rfl rfl rfl ?_
   refine LtK.skip rfl rfl rfl ?_
   refine LtK.skip rfl rfl rfl ?_
   refine LtK.skip rfl rfl rfl ?_
   refine LtK.skip rfl rfl rfl ?_
   refine LtK.skip rfl rfl rfl ?_
   refine LtK.put rfl rfl rfl (Yc rfl rfl rfl) ?_
   refine LtK.put rfl rfl rfl (Zu rfl) ?_
   refine LtK.skip rfl rfl rfl ?_
   refine LtK.skip rfl rfl rfl ?_
   refine LtK.skip rfl rfl rfl ?_
   refine LtK.skip rfl rfl rfl ?_
   refine LtK.skip rfl rfl rfl ?_
   refine LtK.skip rfl rfl rfl ?_
   refine LtK.skip rfl rfl rfl ?_
   refine LtK.skip rfl rfl rfl ?_
   refine LtK.skip rfl rfl rfl ?_
   refine LtK.skip rfl rfl rfl ?_
   refine LtK.skip rfl rfl rfl ?_
   refine LtK.put rfl rfl rfl (Yc rfl rfl rfl) ?_
   refine LtK.put rfl rfl rfl (Zu rfl) ?_
   refine LtK.nil ?_
   refine Z6 [false, false, false, false, false, false, false, false, false, false, false, false, false, false, false, false, false, false, false, false, false, false, false, false, false, false, false, false, false, false, false, false, false, false, false, false, false, false, false, true] 39 ⟨by decide, by kernel_rfl, by kernel_rfl⟩ rfl rfl ?_
   try dsimp only [Zy]
   refine Vg rfl rfl rfl ?_
   refine Zg ?_
   refine Z8 (Below.refl _ _) ?_
   refine Zn [false, false, false, false, false, false, false, false, false, false, false, false, false, false, false, false, false, false, false, false, false, false, false, false, false, false, false, false, false, false, false, false, false, false, false, false, false, false, false, false, true, true] (by decide +kernel) PFC.h ?_
   refine LtK.put rfl rfl rfl (Yc rfl rfl rfl) ?_
   refine LtK.put rfl rfl rfl (Zx rfl) ?_
   refine LtK.nil ?_
   refine Z4 (by kernel_rfl) ?_
   refine Zb hK122 ?_
   refine Zk ?_
   refine Zi ?_
   refine Zl rfl (RV.tmp rfl RV.nil) rfl ?_
   obtain rfl := QJ H
   replace hS := hS.cut 0
   exact ⟨rfl, hS⟩
  replace H := Zp H hb
  refine Zn [false, false, false, false, false, false, false, false, false, false, false, false, false, true, true, true, true, true, true, true, true, true, true, true, true, true] (by decide +kernel) PFC.h ?_
  refine LtK.put rfl rfl rfl (Zd Vo rfl) ?_
  refine LtK.put rfl rfl rfl (Zh Xt rfl (Zgx _) hS hs0 trivial Jr) ?_
  refine LtK.put rfl rfl rfl (Zu rfl) ?_
  obtain ⟨e128, hi130, H⟩ := bind_some H
  obtain ⟨j129, hi130a, hi130b, hi130c⟩ := Ym hi130
  refine LtK.put rfl rfl rfl (Y1 Xl rfl rfl hi130a hi130c (Rd.el (hS.row_rd hs3) Z9 hi130b)) ?_
  refine LtK.put rfl rfl rfl (Xn Zw rfl (Zgx _) (Rd.el (hS.row_rd hs3) Z9 hi130b) rfl) ?_
  refine LtK.put rfl rfl rfl (Zd Vt rfl) ?_
  refine LtK.put rfl rfl rfl (Zh Xt rfl (Zgx _) hS hs0 trivial Jz) ?_
  refine LtK.put rfl rfl rfl (Zu rfl) ?_
  obtain ⟨e131, hi133, H⟩ := bind_some H
  obtain ⟨j132, hi133a, hi133b, hi133c⟩ := Ym hi133
  refine LtK.put rfl rfl rfl (Y1 Xl rfl rfl hi133a hi133c (Rd.el (hS.row_rd hs4) Z9 hi133b)) ?_
  refine LtK.put rfl rfl rfl (Xn Zw rfl (Zgx _) (Rd.el (hS.row_rd hs4) Z9 hi133b) rfl) ?_
  refine LtK.put rfl rfl rfl (Y9 rfl rfl) ?_
  refine LtK.put rfl rfl rfl (Ya rfl rfl rfl) ?_
  refine LtK.put rfl rfl rfl (Zu rfl) ?_
  refine LtK.nil ?_
  refine Xx 185 rfl (fun hb => ?_) (fun hb => ?_)
  rotate_left
  ·replace H := Zo H hb
   refine Zn [false, false, false, false, false, false, false, false, false, false, false, false, false, false, false, false, false, false, false, false, false, false, false, false, false, false, true, true, true, true, true, true, true, true, true, true, true, true, true] (by decide +kernel) PFC.h ?_
   refine LtK.skip rfl rfl rfl ?_
   refine LtK.skip rfl rfl rfl ?_
   refine LtK.skip rfl rfl rfl ?_
   refine LtK.skip rfl rfl rfl ?_
   refine LtK.skip rfl rfl rfl ?_
   refine LtK.skip rfl rfl rfl ?_
   refine LtK.skip rfl rfl rfl ?_
   refine LtK.skip rfl rfl rfl ?_
   refine LtK.skip rfl rfl rfl ?_
   refine LtK.skip rfl rfl rfl ?_
   refine LtK.skip rfl rfl rfl ?_
   refine LtK.put rfl rfl rfl (Yc rfl rfl rfl) ?_
   refine LtK.put rfl rfl rfl (Zu rfl) ?_
   refine LtK.nil ?_
   refine Z6 [false, false, false, false, false, false, false, false, false, false, false, false, false, false, false, false, false, false, false, false, false, false, false, false, false, false, false, false, false, false, false, false, false, false, false, false, false, false, false, true] 39 ⟨by decide, by kernel_rfl, by kernel_rfl⟩ rfl rfl ?_
   try dsimp only [Zy]
   refine Vg rfl rfl rfl ?_
   refine Zg ?_
   refine Z8 (Below.refl _ _) ?_
   refine Zn [false, false, false, false, false, false, false, false, false, false, false, false, false, false, false, false, false, false, false, false, false, false, false, false, false, false, false, false, false, false, false, false, false, false, false, false, false, false, false, false, true, true] (by decide +kernel) PFC.h ?_
   refine LtK.put rfl rfl rfl (Yc rfl rfl rfl) ?_
   refine LtK.put rfl rfl rfl (Zx rfl) ?_
   refine LtK.nil ?_
   refine Z4 (by kernel_rfl) ?_
   refine Zb hK122 ?_
   refine Zk ?_
   refine Zi ?_
   refine Zl rfl (RV.tmp rfl RV.nil) rfl ?_
   obtain rfl := QJ H
   replace hS := hS.cut 0
   exact ⟨rfl, hS⟩
  replace H := Zp H hb
  refine Zn [false, false, false, false, false, false, false, false, false, false, false, false, false, false, false, false, false, false, false, false, false, false, false, false, false, false, true, true, true, true, true, true, true, true, true, true, true, true, true] (by decide +kernel) PFC.h ?_
  refine LtK.put rfl rfl rfl (Zd Vo rfl) ?_
  refine LtK.put rfl rfl rfl (Zh Xt rfl (Zgx _) hS hs0 trivial Jr) ?_
  refine LtK.put rfl rfl rfl (Zu rfl) ?_
  obtain ⟨e134, hi136, H⟩ := bind_some H
  obtain ⟨j135, hi136a, hi136b, hi136c⟩ := Ym hi136
  refine LtK.put rfl rfl rfl (Y1 Xl rfl rfl hi136a hi136c (Rd.el (hS.row_rd hs3) Z9 hi136b)) ?_
  refine LtK.put rfl rfl rfl (Xn Zw rfl (Zgx _) (Rd.el (hS.row_rd hs3) Z9 hi136b) rfl) ?_
  refine LtK.put rfl rfl rfl (Zd Vo rfl) ?_
  refine LtK.put rfl rfl rfl (Zh Xt rfl (Zgx _) hS hs7 trivial Jr) ?_
  refine LtK.put rfl rfl rfl (Zu rfl) ?_
  obtain ⟨e137, hi139, H⟩ := bind_some H
  obtain ⟨j138, hi139a, hi139b, hi139c⟩ := Ym hi139
  refine LtK.put rfl rfl rfl (Y1 Xl rfl rfl hi139a hi139c (Rd.el (hS.rd0 s2_.rd) Z9 hi139b)) ?_
  refine LtK.put rfl rfl rfl (Xn Zw rfl (Zgx _) (Rd.el (hS.rd0 s2_.rd) Z9 hi139b) rfl) ?_
  refine LtK.put rfl rfl rfl (Zcu rfl rfl) ?_
  refine LtK.put rfl rfl rfl (Ya rfl rfl rfl) ?_
  refine LtK.put rfl rfl rfl (Zu rfl) ?_
  refine LtK.nil ?_
  refine Xx 198 rfl (fun hb => ?_) (fun hb => ?_)
  rotate_left
  ·replace H := Zo H hb
   refine Z6 [false, false, false, false, false, false, false, false, false, false, false, false, false, false, false, false, false, false, false, false, false, false, false, false, false, false, false, false, false, false, false, false, false, false, false, false, false, false, false, true] 39 ⟨by decide, by kernel_rfl, by kernel_rfl⟩ rfl rfl ?_
   try dsimp only [Zy]
   refine Vg rfl rfl rfl ?_
   refine Zg ?_
   refine Z8 (Below.refl _ _) ?_
   refine Zn [false, false, false, false, false, false, false, false, false, false, false, false, false, false, false, false, false, false, false, false, false, false, false, false, false, false, false, false, false, false, false, false, false, false, false, false, false, false, false, false, true, true] (by decide +kernel) PFC.h ?_
   refine LtK.put rfl rfl rfl (Yc rfl rfl rfl) ?_
   refine LtK.put rfl rfl rfl (Zx rfl) ?_
   refine LtK.nil ?_
   refine Z4 (by kernel_rfl) ?_
   refine Zb hK122 ?_
   refine Zk ?_
   refine Zi ?_
   refine Zl rfl (RV.tmp rfl RV.nil) rfl ?_
   obtain rfl := QJ H
   replace hS := hS.cut 0
   exact ⟨rfl, hS⟩
  replace H := Zp H hb
  refine Z6 [false, false, false, false, false, false, false, false, false, false, false, false, false, false, false, false, false, false, false, false, false, false, false, false, false, false, false, false, false, false, false, false, false, false, false, false, false, false, false, true] 39 ⟨by decide, by kernel_rfl, by kernel_rfl⟩ rfl rfl ?_
  try dsimp only [Zy]
  obtain ⟨r140, hm141, H⟩ := bind_some H
  refine Zq rfl rfl rfl rfl (by kernel_rfl) rfl (Vc _ hm141) ?_
  rintro e w ⟨rfl, hN⟩; refine ⟨_, rfl, ?_⟩; obtain ⟨hB, hS⟩ := hS.jn hN
  refine Zg ?_
  refine Z8 hB ?_
  refine Zn [false, false, false, false, false, false, false, false, false, false, false, false, false, false, false, false, false, false, false, false, false, false, false, false, false, false, false, false, false, false, false, false, false, false, false, false, false, false, false, false, true, true] (by decide +kernel) PFC.h ?_
  refine LtK.put rfl rfl rfl (Ya rfl rfl rfl) ?_
  refine LtK.put rfl rfl rfl (Zx rfl) ?_
  refine LtK.nil ?_
  refine Z4 (by kernel_rfl) ?_
  refine Zb hK122 ?_
  refine Zk ?_
  refine Zi ?_
  refine Zl rfl (RV.tmp rfl RV.nil) rfl ?_
  obtain rfl := QJ H
  replace hS := hS.cut 0
  exact ⟨rfl, hS⟩
 replace H := Zo H hb
 refine Zr ?_
 refine Zb hK120 ?_
 refine Ze (fun K hK142 => ?_)
 refine Yi 55 [] (fun _ _ => True) ⟨by kernel_rfl, by kernel_rfl⟩ hS (fun w hS hB => ?_)
 refine Zn [true, true, true, true, true, true, true, true, true, true, true, true] (by decide +kernel) PFC.h ?_
 refine LtK.put rfl rfl rfl (Zd Vt rfl) ?_
 refine LtK.put rfl rfl rfl (Zh Xt rfl (Zgx _) hS hs0 trivial Jz) ?_
 refine LtK.put rfl rfl rfl (Zu rfl) ?_
 obtain ⟨e143, hi145, H⟩ := bind_some H
 obtain ⟨j144, hi145a, hi145b, hi145c⟩ := Ym hi145
 refine LtK.put rfl rfl rfl (Y1 Xl rfl rfl hi145a hi145c (Rd.el (hS.row_rd hs4) Z9 hi145b)) ?_
 refine LtK.put rfl rfl rfl (Xn Zw rfl (Zgx _) (Rd.el (hS.row_rd hs4) Z9 hi145b) rfl) ?_
 refine LtK.put rfl rfl rfl (Zd Vt rfl) ?_
 refine LtK.put rfl rfl rfl (Zh Xt rfl (Zgx _) hS hs7 trivial Jz) ?_
 refine LtK.put rfl rfl rfl (Zu rfl) ?_
 obtain ⟨e146, hi148, H⟩ := bind_some H
 obtain ⟨j147, hi148a, hi148b, hi148c⟩ := Ym hi148
 refine LtK.put rfl rfl rfl (Y1 Xl rfl rfl hi148a hi148c (Rd.el (hS.rd0 s3_.rd) Z9 hi148b)) ?_
 refine LtK.put rfl rfl rfl (Xn Zw rfl (Zgx _) (Rd.el (hS.rd0 s3_.rd) Z9 hi148b) rfl) ?_
 refine LtK.put rfl rfl rfl (Y5 rfl rfl) ?_
 refine LtK.put rfl rfl rfl (Zu rfl) ?_
 refine LtK.nil ?_
 refine Xx 212 rfl (fun hb => ?_) (fun hb => ?_)
 rotate_left
 ·replace H := Zo H hb
  refine Zn [false, false, false, false, false, false, false, false, false, false, false, false, true, true, true, true, true, true, true, true, true, true, true, true, true, true, true, true, true, true, true, true, true, true, true, true, true, true, true, true, true, true, true, true, true, true, true, true, true, true, true, true] (by decide +kernel) PFC.h ?_
  refine LtK.skip rfl rfl rfl ?_
  refine LtK.skip rfl rfl rfl ?_
  refine LtK.skip rfl rfl rfl ?_
  refine LtK.skip rfl rfl rfl ?_
  refine LtK.skip rfl rfl rfl ?_
  refine LtK.skip rfl rfl rfl ?_
  refine LtK.skip rfl rfl rfl ?_
  refine LtK.skip rfl rfl rfl ?_
  refine LtK.skip rfl rfl rfl ?_
  refine LtK.skip rfl rfl rfl ?_
  refine LtK.skip rfl rfl rfl ?_
  refine LtK.put rfl rfl rfl (Yc rfl rfl rfl) ?_
  refine LtK.put rfl rfl rfl (Zu rfl) ?_
  refine LtK.skip rfl rfl rfl ?_
  refine LtK.skip rfl rfl rfl ?_
  refine LtK.skip rfl rfl rfl ?_
  refine LtK.skip rfl rfl rfl ?_
  refine LtK.skip rfl rfl rfl ?_
  refine LtK.skip rfl rfl rfl ?_
  refine LtK.skip rfl rfl rfl ?_
  refine LtK.skip rfl rfl rfl ?_
  refine LtK.skip rfl rfl rfl ?_
  refine LtK.skip rfl rfl rfl ?_
  refine LtK.skip rfl rfl rfl ?_
  refine LtK.skip rfl rfl rfl ?_
  refine LtK.skip rfl rfl rfl ?_
  refine LtK.skip rfl rfl rfl ?_
  refine LtK.skip rfl rfl rfl ?_
  refine LtK.skip rfl rfl rfl ?_
  refine LtK.skip rfl rfl rfl ?_
  refine LtK.skip rfl rfl rfl ?_
  refine LtK.skip rfl rfl rfl ?_
  refine LtK.skip rfl rfl rfl ?_
  refine LtK.skip rfl rfl rfl ?_
  refine LtK.skip rfl rfl rfl ?_
  refine LtK.skip rfl rfl rfl ?_
  refine LtK.skip rfl rfl rfl ?_
  refine LtK.skip rfl rfl rfl ?_
  refine LtK.put rfl rfl rfl (Yc rfl rfl rfl) ?_
  refine LtK.put rfl rfl rfl (Zu rfl) ?_
  refine LtK.nil ?_
  refine Z6 [false, false, false, false, false, false, false, false, false, false, false, false, false, false, false, false, false, false, false, false, false, false, false, false, false, false, false, false, false, false, false, false, false, false, false, false, false, false, false, false, false, false, false, false, false, false, false, false, false, false, false, false, true] 52 ⟨by decide, by kernel_rfl, by kernel_rfl⟩ rfl rfl ?_
  try dsimp only [Zy]
  refine Vg rfl rfl rfl ?_
  refine Zg ?_
  refine Z8 (Below.refl _ _) ?_
  refine Zn [false, false, false, false, false, false, false, false, false, false, false, false, false, false, false, false, false, false, false, false, false, false, false, false, false, false, false, false, false, false, false, false, false, false, false, false, false, false, false, false, false, false, false, false, false, false, false, false, false, false, false, false, false, true, true] (by decide +kernel) PFC.h ?_
  refine LtK.put rfl rfl rfl (Yc rfl rfl rfl) ?_
  refine LtK.put rfl rfl rfl (Zx rfl) ?_
  refine LtK.nil ?_
  refine Z4 (by kernel_rfl) ?_
  refine Zb hK142 ?_
  refine Zk ?_
  refine Zl rfl (RV.tmp rfl RV.nil) rfl ?_
  obtain rfl := QJ H
  replace hS := hS.cut 0
  exact ⟨rfl, hS⟩
 replace H := Zp H hb
 refine Zn [false, false, false, false, false, false, false, false, false, false, false, false, true, true, true, true, true, true, true, true, true, true, true, true, true] (by decide +kernel) PFC.h ?_
 refine LtK.put rfl rfl rfl (Zd Vo rfl) ?_
 refine LtK.put rfl rfl rfl (Zh Xt rfl (Zgx _) hS hs0 trivial Jr) ?_
 refine LtK.put rfl rfl rfl (Zu rfl) ?_
 obtain ⟨e149, hi151, H⟩ := bind_some H
 obtain ⟨j150, hi151a, hi151b, hi151c⟩ := Ym hi151
 refine LtK.put rfl rfl rfl (Y1 Xl rfl rfl hi151a hi151c (Rd.el (hS.row_rd hs3) Z9 hi151b)) ?_
 refine LtK.put rfl rfl rfl (Xn Zw rfl (Zgx _) (Rd.el (hS.row_rd hs3) Z9 hi151b) rfl) ?_
 refine LtK.put rfl rfl rfl (Zd Vt rfl) ?_
 refine LtK.put rfl rfl rfl (Zh Xt rfl (Zgx _) hS hs0 trivial Jz) ?_
 refine LtK.put rfl rfl rfl (Zu rfl) ?_
 obtain ⟨e152, hi154, H⟩ := bind_some H
 obtain ⟨j153, hi154a, hi154b, hi154c⟩ := Ym hi154
 refine LtK.put rfl rfl rfl (Y1 Xl rfl rfl hi154a hi154c (Rd.el (hS.row_rd hs4) Z9 hi154b)) ?_
 refine LtK.put rfl rfl rfl (Xn Zw rfl (Zgx _) (Rd.el (hS.row_rd hs4) Z9 hi154b) rfl) ?_
 refine LtK.put rfl rfl rfl (Y9 rfl rfl) ?_
 refine LtK.put rfl rfl rfl (Ya rfl rfl rfl) ?_
 refine LtK.put rfl rfl rfl (Zu rfl) ?_
 refine LtK.nil ?_
 refine Xx 225 rfl (fun hb => ?_) (fun hb => ?_)
 rotate_left
 ·replace H := Zo H hb
  refine Zn [false, false, false, false, false, false, false, false, false, false, false, false, false, false, false, false, false, false, false, false, false, false, false, false, false, true, true, true, true, true, true, true, true, true, true, true, true, true, true, true, true, true, true, true, true, true, true, true, true, true, true, true] (by decide +kernel) PFC.h ?_
  refine LtK.skip rfl rfl rfl ?_
  refine LtK.skip rfl rfl rfl ?_
  refine LtK.skip rfl rfl rfl ?_
  refine LtK.skip rfl rfl rfl ?_
  refine LtK.skip rfl rfl rfl ?_
  refine LtK.skip rfl rfl rfl ?_
  refine LtK.skip rfl rfl rfl ?_
  refine LtK.skip rfl rfl rfl ?_
  refine LtK.skip rfl rfl rfl ?_
  refine LtK.skip rfl rfl rfl ?_
  refine LtK.skip rfl rfl rfl ?_
  refine LtK.skip rfl rfl rfl ?_
  refine LtK.skip rfl rfl rfl ?_
  refine LtK.skip rfl rfl rfl ?_
  refine LtK.skip rfl rfl rfl ?_
  refine LtK.skip rfl rfl rfl ?_
  refine LtK.skip rfl rfl rfl ?_
  refine LtK.skip rfl rfl rfl ?_
  refine LtK.skip rfl rfl rfl ?_
  refine LtK.skip rfl rfl rfl ?_
  refine LtK.skip rfl rfl rfl ?_
  refine LtK.skip rfl rfl rfl ?_
  refine LtK.skip rfl rfl rfl ?_
  refine LtK.skip rfl rfl rfl ?_
  refine LtK.skip rfl rfl rfl ?_
  refine LtK.put rfl rfl rfl (Yc rfl rfl rfl) ?_
  refine LtK.put rfl rfl rfl (Zu rfl) ?_
  refine LtK.nil ?_
  refine Z6 [false, false, false, false, false, false, false, false, false, false, false, false, false, false, false, false, false, false, false, false, false, false, false, false, false, false, false, false, false, false, false, false, false, false, false, false, false, false, false, false, false, false, false, false, false, false, false, false, false, false, false, false, true] 52 ⟨by decide, by kernel_rfl, by kernel_rfl⟩ rfl rfl ?_
  try dsimp only [Zy]
  refine Vg rfl rfl rfl ?_
  refine Zg ?_
  refine Z8 (Below.refl _ _) ?_
  refine Zn [false, false, false, false, false, false, false, false, false, false, false, false, false, false, false, false, false, false, false, false, false, false, false, false, false, false, false, false, false, false, false, false, false, false, false, false, false, false, false, false, false, false, false, false, false, false, false, false, false, false, false, false, false, true, true] (by decide +kernel) PFC.h ?_
  refine LtK.put rfl rfl rfl (Yc rfl rfl rfl) ?_
  refine LtK.put rfl rfl rfl (Zx rfl) ?_
  refine LtK.nil ?_
  refine Z4 (by kernel_rfl) ?_
  refine Zb hK142 ?_
  refine Zk ?_
  refine Zl rfl (RV.tmp rfl RV.nil) rfl ?_
  obtain rfl := QJ H
  replace hS := hS.cut 0
  exact ⟨rfl, hS⟩
 replace H := Zp H hb
 refine Zn [false, false, false, false, false, false, false, false, false, false, false, false, false, false, false, false, false, false, false, false, false, false, false, false, false, true, true, true, true, true, true, true, true, true, true, true, true] (by decide +kernel) PFC.h ?_
 refine LtK.put rfl rfl rfl (Zd Vo rfl) ?_
 refine LtK.put rfl rfl rfl (Zh Xt rfl (Zgx _) hS hs0 trivial Jr) ?_
 refine LtK.put rfl rfl rfl (Zu rfl) ?_
 obtain ⟨e155, hi157, H⟩ := bind_some H
 obtain ⟨j156, hi157a, hi157b, hi157c⟩ := Ym hi157
 refine LtK.put rfl rfl rfl (Y1 Xl rfl rfl hi157a hi157c (Rd.el (hS.row_rd hs3) Z9 hi157b)) ?_
 refine LtK.put rfl rfl rfl (Xn Zw rfl (Zgx _) (Rd.el (hS.row_rd hs3) Z9 hi157b) rfl) ?_
 refine LtK.put rfl rfl rfl (Zd Vo rfl) ?_
 refine LtK.put rfl rfl rfl (Zh Xt rfl (Zgx _) hS hs7 trivial Jr) ?_
 refine LtK.put rfl rfl rfl (Zu rfl) ?_
 obtain ⟨e158, hi160, H⟩ := bind_some H
 obtain ⟨j159, hi160a, hi160b, hi160c⟩ := Ym hi160
 refine LtK.put rfl rfl rfl (Y1 Xl rfl rfl hi160a hi160c (Rd.el (hS.rd0 s2_.rd) Z9 hi160b)) ?_
 refine LtK.put rfl rfl rfl (Xn Zw rfl (Zgx _) (Rd.el (hS.rd0 s2_.rd) Z9 hi160b) rfl) ?_
 refine LtK.put rfl rfl rfl (Xe rfl rfl) ?_
 refine LtK.put rfl rfl rfl (Zu rfl) ?_
 refine LtK.nil ?_
 refine Xx 237 rfl (fun hb => ?_) (fun hb => ?_)
 ·replace H := Zp H hb
  refine Zn [false, false, false, false, false, false, false, false, false, false, false, false, false, false, false, false, false, false, false, false, false, false, false, false, false, false, false, false, false, false, false, false, false, false, false, false, false, true, true, true, true, true, true, true, true, true, true, true, true, true, true, true] (by decide +kernel) PFC.h ?_
  refine LtK.skip rfl rfl rfl ?_
  refine LtK.skip rfl rfl rfl ?_
  refine LtK.skip rfl rfl rfl ?_
  refine LtK.skip rfl rfl rfl ?_
  refine LtK.skip rfl rfl rfl ?_
  refine LtK.skip rfl rfl rfl ?_
  refine LtK.skip rfl rfl rfl ?_
  refine LtK.skip rfl rfl rfl ?_
  refine LtK.skip rfl rfl rfl ?_
  refine LtK.skip rfl rfl rfl ?_
  refine LtK.skip rfl rfl rfl ?_
  refine LtK.skip rfl rfl rfl ?_
  refine LtK.put rfl rfl rfl (Ya rfl rfl rfl) ?_
  refine LtK.put rfl rfl rfl (Ya rfl rfl rfl) ?_
  refine LtK.put rfl rfl rfl (Zu rfl) ?_
  refine LtK.nil ?_
  refine Z6 [false, false, false, false, false, false, false, false, false, false, false, false, false, false, false, false, false, false, false, false, false, false, false, false, false, false, false, false, false, false, false, false, false, false, false, false, false, false, false, false, false, false, false, false, false, false, false, false, false, false, false, false, true] 52 ⟨by decide, by kernel_rfl, by kernel_rfl⟩ rfl rfl ?_
  try dsimp only [Zy]
  obtain ⟨r161, hm162, H⟩ := bind_some H
  refine Zq rfl rfl rfl rfl (by kernel_rfl) rfl (Vc _ hm162) ?_
  rintro e w ⟨rfl, hN⟩; refine ⟨_, rfl, ?_⟩; obtain ⟨hB, hS⟩ := hS.jn hN
  refine Zg ?_
  refine Z8 hB ?_
  refine Zn [false, false, false, false, false, false, false, false, false, false, false, false, false, false, false, false, false, false, false, false, false, false, false, false, false, false, false, false, false, false, false, false, false, false, false, false, false, false, false, false, false, false, false, false, false, false, false, false, false, false, false, false, false, true, true] (by decide +kernel) PFC.h ?_
  refine LtK.put rfl rfl rfl (Ya rfl rfl rfl) ?_
  refine LtK.put rfl rfl rfl (Zx rfl) ?_
  refine LtK.nil ?_
  refine Z4 (by kernel_rfl) ?_
  refine Zb hK142 ?_
  refine Zk ?_
  refine Zl rfl (RV.tmp rfl RV.nil) rfl ?_
  obtain rfl := QJ H
  replace hS := hS.cut 0
  exact ⟨rfl, hS⟩
 replace H := Zo H hb
 refine Zn [false, false, false, false, false, false, false, false, false, false, false, false, false, false, false, false, false, false, false, false, false, false, false, false, false, false, false, false, false, false, false, false, false, false, false, false, false, true, true, true, true, true, true, true, true, true, true, true, true, true, true, true] (by decide +kernel) PFC.h ?_
 refine LtK.put rfl rfl rfl (Zd Vo rfl) ?_
 refine LtK.put rfl rfl rfl (Zh Xt rfl (Zgx _) hS hs0 trivial Jr) ?_
 refine LtK.put rfl rfl rfl (Zu rfl) ?_
 obtain ⟨e163, hi165, H⟩ := bind_some H
 obtain ⟨j164, hi165a, hi165b, hi165c⟩ := Ym hi165
 refine LtK.put rfl rfl rfl (Y1 Xl rfl rfl hi165a hi165c (Rd.el (hS.row_rd hs3) Z9 hi165b)) ?_
 refine LtK.put rfl rfl rfl (Xn Zw rfl (Zgx _) (Rd.el (hS.row_rd hs3) Z9 hi165b) rfl) ?_
 refine LtK.put rfl rfl rfl (Zd Vt rfl) ?_
 refine LtK.put rfl rfl rfl (Zh Xt rfl (Zgx _) hS hs7 trivial Jz) ?_
 refine LtK.put rfl rfl rfl (Zu rfl) ?_
 obtain ⟨e166, hi168, H⟩ := bind_some H
 obtain ⟨j167, hi168a, hi168b, hi168c⟩ := Ym hi168
 refine LtK.put rfl rfl rfl (Y1 Xl rfl rfl hi168a hi168c (Rd.el (hS.rd0 s3_.rd) Z9 hi168b)) ?_
 refine LtK.put rfl rfl rfl (Xn Zw rfl (Zgx _) (Rd.el (hS.rd0 s3_.rd) Z9 hi168b) rfl) ?_
 refine LtK.put rfl rfl rfl (Xc rfl rfl) ?_
 refine LtK.put rfl rfl rfl (Y5 rfl rfl) ?_
 refine LtK.put rfl rfl rfl (Yc rfl rfl rfl) ?_
 refine LtK.put rfl rfl rfl (Ya rfl rfl rfl) ?_
 refine LtK.put rfl rfl rfl (Zu rfl) ?_
 refine LtK.nil ?_
 refine Xx 252 rfl (fun hb => ?_) (fun hb => ?_)
 rotate_left
 ·replace H := Zo H hb
  refine Z6 [false, false, false, false, false, false, false, false, false, false, false, false, false, false, false, false, false, false, false, false, false, false, false, false, false, false, false, false, false, false, false, false, false, false, false, false, false, false, false, false, false, false, false, false, false, false, false, false, false, false, false, false, true] 52 ⟨by decide, by kernel_rfl, by kernel_rfl⟩ rfl rfl ?_
  try dsimp only [Zy]
  refine Vg rfl rfl rfl ?_
  refine Zg ?_
  refine Z8 (Below.refl _ _) ?_
  refine Zn [false, false, false, false, false, false, false, false, false, false, false, false, false, false, false, false, false, false, false, false, false, false, false, false, false, false, false, false, false, false, false, false, false, false, false, false, false, false, false, false, false, false, false, false, false, false, false, false, false, false, false, false, false, true, true] (by decide +kernel) PFC.h ?_
  refine LtK.put rfl rfl rfl (Yc rfl rfl rfl) ?_
  refine LtK.put rfl rfl rfl (Zx rfl) ?_
  refine LtK.nil ?_
  refine Z4 (by kernel_rfl) ?_
  refine Zb hK142 ?_
  refine Zk ?_
  refine Zl rfl (RV.tmp rfl RV.nil) rfl ?_
  obtain rfl := QJ H
  replace hS := hS.cut 0
  exact ⟨rfl, hS⟩
 replace H := Zp H hb
 refine Z6 [false, false, false, false, false, false, false, false, false, false, false, false, false, false, false, false, false, false, false, false, false, false, false, false, false, false, false, false, false, false, false, false, false, false, false, false, false, false, false, false, false, false, false, false, false, false, false, false, false, false, false, false, true] 52 ⟨by decide, by kernel_rfl, by kernel_rfl⟩ rfl rfl ?_
 try dsimp only [Zy]
 obtain ⟨r169, hm170, H⟩ := bind_some H
 refine Zq rfl rfl rfl rfl (by kernel_rfl) rfl (Vc _ hm170) ?_
 rintro e w ⟨rfl, hN⟩; refine ⟨_, rfl, ?_⟩; obtain ⟨hB, hS⟩ := hS.jn hN
 refine Zg ?_
 refine Z8 hB ?_
 refine Zn [false, false, false, false, false, false, false, false, false, false, false, false, false, false, false, false, false, false, false, false, false, false, false, false, false, false, false, false, false, false, false, false, false, false, false, false, false, false, false, false, false, false, false, false, false, false, false, false, false, false, false, false, false, true, true] (by decide +kernel) PFC.h ?_
 refine LtK.put rfl rfl rfl (Ya rfl rfl rfl) ?_
 refine LtK.put rfl rfl rfl (Zx rfl) ?_
 refine LtK.nil ?_
 refine Z4 (by kernel_rfl) ?_
 refine Zb hK142 ?_
 refine Zk ?_
 refine Zl rfl (RV.tmp rfl RV.nil) rfl ?_
 obtain rfl := QJ H
 replace hS := hS.cut 0
 exact ⟨rfl, hS⟩
end Go.Proofs.YtamjlcaoieliaaaGreat
