/- Texts of one claim put together. -/
import Derived.Test.YtamjlcaoieliaaaMs1
import Derived.Test.YtamjlcaoieliaaaMs2
import Derived.Test.YtamjlcaoieliaaaMs5
namespace Go.Proofs.Ytamjlcaoieliaaa
open Go Go.RowKit
set_option maxRecDepth 100000
set_option maxHeartbeats 4000000
theorem c_law23_ReplSends (x0 : Co) (x1 : Int) (x2 : Int) (A0_ : OA) (c0_ : Nat) (A1_ : OA) (c1_ : Nat) (A2_ : OA) (c2_ : Nat) (A3_ : OA) (c3_ : Nat) (A4_ : OA) (c4_ : Nat) (w0 : World) (s0_ : SlI w0 Jv A0_ c0_ x0.tuple.log) (s1_ : SlI w0 enO A1_ c1_ x0.votes) (s2_ : SlI w0 V9 A2_ c2_ x0.next) (s3_ : SlI w0 V9 A3_ c3_ x0.mtch) (s4_ : SlI w0 V9 A4_ c4_ x0.caps) {r : Bool} (H : Zb1 x0 x1 x2 = some r) : Calls Try.prog 7 #[.agg #[.int .i64 x0.id, .int .i64 x0.n, .int .u8 x0.role, .int .i64 x0.binary, .int .i64 x0.tuple.snap.index, .int .i64 x0.tuple.snap.term, .int .i64 x0.tuple.snap.sum, .int .i64 x0.tuple.snap.level, .bool x0.tuple.snap.final, .slice A0_ x0.tuple.log.length c0_, .int .i64 x0.tuple.term, .int .i64 x0.tuple.vote, .int .i64 x0.commit, .int .i64 x0.applied.index, .int .i64 x0.applied.term, .int .i64 x0.applied.sum, .int .i64 x0.applied.level, .bool x0.applied.final, .slice A1_ x0.votes.length c1_, .slice A2_ x0.next.length c2_, .slice A3_ x0.mtch.length c3_, .slice A4_ x0.caps.length c4_], .int .i64 x1, .int .i64 x2] w0 fun e w' => e = .returned (.bool r) ∧ St0 All w0 w' [] := by
 unfold Zb1 at H
 refine Zao Try.func7 rfl Try.ntmps7 rfl ?_
 have hS := St0.start All w0
 refine Zd (fun K hK1 => ?_)
 refine Zf ?_
 refine Yd rfl rfl rfl CellsOf.agg hS (fun b2 w hS hB => ?_)
 refine Zc 1 rfl ?_
 refine Zg ?_
 refine Zb hK1 ?_
 refine Zd (fun K hK4 => ?_)
 refine Zd (fun K hK5 => ?_)
 refine Zf ?_
 refine Za rfl rfl rfl (Zi Yh rfl (Zgy _) hS hs0 trivial Z8) ?_
 obtain ⟨r6, hm7, H⟩ := bind_some H
 refine Zo rfl rfl rfl rfl (by kernel_rfl) rfl (c_ref20_Great x0 A0_ c0_ A1_ c1_ A2_ c2_ A3_ c3_ A4_ c4_ _ (Zg1 s0_.k (hS.rd0 s0_.rd) (hS.blk0 s0_.blk)) (Zg1 s1_.k (hS.rd0 s1_.rd) (hS.blk0 s1_.blk)) (Zg1 s2_.k (hS.rd0 s2_.rd) (hS.blk0 s2_.blk)) (Zg1 s3_.k (hS.rd0 s3_.rd) (hS.blk0 s3_.blk)) (Zg1 s4_.k (hS.rd0 s4_.rd) (hS.blk0 s4_.blk)) hm7) ?_
 rintro e w ⟨rfl, hN⟩; refine ⟨_, rfl, ?_⟩; obtain ⟨hB, hS⟩ := hS.jn hN
 refine Zc 1 rfl ?_
 refine Zu 22 rfl (fun hb => ?_) (fun hb => ?_)
 ·replace H := Zq H hb
  refine Zc 4 rfl ?_
  refine Zg ?_
  refine Zb hK5 ?_
  refine Zr rfl rfl ?_
  refine Zd (fun K hK8 => ?_)
  refine Zf ?_
  obtain ⟨r9, hm10, H⟩ := bind_some H
  refine Zo rfl rfl rfl rfl (by kernel_rfl) rfl (Vg _ hm10) ?_
  rintro e w ⟨rfl, hN⟩; refine ⟨_, rfl, ?_⟩; obtain ⟨hB, hS⟩ := hS.jn hN
  refine Zc 1 rfl ?_
  refine Zg ?_
  refine Zb hK8 ?_
  refine Zk ?_
  refine Zj ?_
  refine Zl rfl (RV.tmp rfl RV.nil) rfl ?_
  obtain rfl := QJ H
  replace hS := hS.cut 0
  exact ⟨rfl, hS⟩
 replace H := Zp H hb
 refine Za rfl rfl rfl (Zi Yh rfl (Zgy _) hS hs0 trivial Z8) ?_
 obtain ⟨r11, hm12, H⟩ := bind_some H
 refine Zo rfl rfl rfl rfl (by kernel_rfl) rfl (c_ref20_Right x0 A0_ c0_ A1_ c1_ A2_ c2_ A3_ c3_ A4_ c4_ _ (Zg1 s0_.k (hS.rd0 s0_.rd) (hS.blk0 s0_.blk)) (Zg1 s1_.k (hS.rd0 s1_.rd) (hS.blk0 s1_.blk)) (Zg1 s2_.k (hS.rd0 s2_.rd) (hS.blk0 s2_.blk)) (Zg1 s3_.k (hS.rd0 s3_.rd) (hS.blk0 s3_.blk)) (Zg1 s4_.k (hS.rd0 s4_.rd) (hS.blk0 s4_.blk)) hm12) ?_
 rintro e w ⟨rfl, hN⟩; refine ⟨_, rfl, ?_⟩; obtain ⟨hB, hS⟩ := hS.jn hN
 refine Za rfl rfl rfl (Yt rfl) ?_
 refine Zc 1 rfl ?_
 refine Zg ?_
 refine Zb hK5 ?_
 refine Zz rfl (fun hb => ?_) (fun hb => ?_)
 ·replace H := Zq H hb
  refine Zd (fun K hK13 => ?_)
  refine Zf ?_
  obtain ⟨r14, hm15, H⟩ := bind_some H
  refine Zo rfl rfl rfl rfl (by kernel_rfl) rfl (Vg _ hm15) ?_
  rintro e w ⟨rfl, hN⟩; refine ⟨_, rfl, ?_⟩; obtain ⟨hB, hS⟩ := hS.jn hN
  refine Zc 1 rfl ?_
  refine Zg ?_
  refine Zb hK13 ?_
  refine Zk ?_
  refine Zj ?_
  refine Zl rfl (RV.tmp rfl RV.nil) rfl ?_
  obtain rfl := QJ H
  replace hS := hS.cut 0
  exact ⟨rfl, hS⟩
 replace H := Zp H hb
 refine Zt ?_
 refine Zb hK4 ?_
 refine Zd (fun K hK16 => ?_)
 refine Zf ?_
 refine Za rfl rfl rfl (Zi Yh rfl (Zgy _) hS hs0 trivial Z8) ?_
 refine Zc 1 rfl ?_
 obtain ⟨r17, hm18, H⟩ := bind_some H
 refine Zo rfl rfl rfl rfl (by kernel_rfl) rfl (Zdp x0 x1 A0_ c0_ A1_ c1_ A2_ c2_ A3_ c3_ A4_ c4_ _ (Zg1 s0_.k (hS.rd0 s0_.rd) (hS.blk0 s0_.blk)) (Zg1 s1_.k (hS.rd0 s1_.rd) (hS.blk0 s1_.blk)) (Zg1 s2_.k (hS.rd0 s2_.rd) (hS.blk0 s2_.blk)) (Zg1 s3_.k (hS.rd0 s3_.rd) (hS.blk0 s3_.blk)) (Zg1 s4_.k (hS.rd0 s4_.rd) (hS.blk0 s4_.blk)) hm18) ?_
 rintro e w ⟨A19, c20, rfl, k21, hN⟩; refine ⟨_, rfl, ?_⟩; obtain ⟨hB, hS⟩ := hS.jn hN
 refine Zc 1 rfl ?_
 refine Za rfl rfl rfl (Z1 rfl rfl) ?_
 refine Za rfl rfl rfl (Z1 rfl rfl) ?_
 refine Yb rfl rfl J9 hS (fun b23 w hS hB => ?_)
 refine Zm rfl rfl rfl CellsOf.agg hS ps0 Zd7 (by kernel_rfl) rfl (fun w hS hB => ?_)
 refine Zc 1 rfl ?_
 refine Zg ?_
 refine Zb hK16 ?_
 refine Zd (fun K hK25 => ?_)
 refine Zf ?_
 refine Za rfl rfl rfl (Ze Zcj rfl) ?_
 refine Za rfl rfl rfl (Zh Zbs rfl (Zgy _) hS X0 trivial Zbk) ?_
 refine Za rfl rfl rfl (Xo rfl rfl) ?_
 refine Zc 1 rfl ?_
 refine Zu 37 rfl (fun hb => ?_) (fun hb => ?_)
 rotate_left
 ·replace H := Zp H hb
  refine Zc 16 rfl ?_
  refine Zg ?_
  refine Zb hK25 ?_
  refine Zd (fun K hK297 => ?_)
  refine Zd (fun K hK298 => ?_)
  refine Zf ?_
  refine Zc 1 rfl ?_
  refine Za rfl rfl rfl (Yt rfl) ?_
  refine Zg ?_
  refine Zb hK298 ?_
  refine Zr rfl rfl ?_
  refine Zd (fun K hK299 => ?_)
  refine Zf ?_
  refine Zc 1 rfl ?_
  refine Za rfl rfl rfl (Yt rfl) ?_
  refine Zc 1 rfl ?_
  refine Zu 57 rfl (fun hb => ?_) (fun hb => ?_)
  rotate_left
  ·replace H := Zp H hb
   refine Zc 3 rfl ?_
   refine Zg ?_
   refine Zb hK299 ?_
   refine Zk ?_
   refine Zj ?_
   refine Zl rfl (RV.tmp rfl RV.nil) rfl ?_
   obtain rfl := QJ H
   replace hS := hS.cut 0
   exact ⟨rfl, hS⟩
  replace H := Zq H hb
  obtain ⟨r300, hm301, H⟩ := bind_some H
  refine Zo rfl rfl rfl rfl (by kernel_rfl) rfl (Vg _ hm301) ?_
  rintro e w ⟨rfl, hN⟩; refine ⟨_, rfl, ?_⟩; obtain ⟨hB, hS⟩ := hS.jn hN
  refine Zc 2 rfl ?_
  refine Zg ?_
  refine Zb hK299 ?_
  refine Zk ?_
  refine Zj ?_
  refine Zl rfl (RV.tmp rfl RV.nil) rfl ?_
  obtain rfl := QJ H
  replace hS := hS.cut 0
  exact ⟨rfl, hS⟩
 replace H := Zq H hb
 refine Zc 1 rfl ?_
 refine Za rfl rfl rfl (Zc7 rfl rfl) ?_
 refine Zc 2 rfl ?_
 refine Zu 41 rfl (fun hb => ?_) (fun hb => ?_)
 rotate_left
 ·replace H := Zp H hb
  refine Zc 12 rfl ?_
  refine Zg ?_
  refine Zb hK25 ?_
  refine Zd (fun K hK292 => ?_)
  refine Zd (fun K hK293 => ?_)
  refine Zf ?_
  refine Zc 1 rfl ?_
  refine Za rfl rfl rfl (Yt rfl) ?_
  refine Zg ?_
  refine Zb hK293 ?_
  refine Zr rfl rfl ?_
  refine Zd (fun K hK294 => ?_)
  refine Zf ?_
  refine Zc 1 rfl ?_
  refine Za rfl rfl rfl (Yt rfl) ?_
  refine Zc 1 rfl ?_
  refine Zu 57 rfl (fun hb => ?_) (fun hb => ?_)
  rotate_left
  ·replace H := Zp H hb
   refine Zc 3 rfl ?_
   refine Zg ?_
   refine Zb hK294 ?_
   refine Zk ?_
   refine Zj ?_
   refine Zl rfl (RV.tmp rfl RV.nil) rfl ?_
   obtain rfl := QJ H
   replace hS := hS.cut 0
   exact ⟨rfl, hS⟩
  replace H := Zq H hb
  obtain ⟨r295, hm296, H⟩ := bind_some H
  refine Zo rfl rfl rfl rfl (by kernel_rfl) rfl (Vg _ hm296) ?_
  rintro e w ⟨rfl, hN⟩; refine ⟨_, rfl, ?_⟩; obtain ⟨hB, hS⟩ := hS.jn hN
  refine Zc 2 rfl ?_
  refine Zg ?_
  refine Zb hK294 ?_
  refine Zk ?_
  refine Zj ?_
  refine Zl rfl (RV.tmp rfl RV.nil) rfl ?_
  obtain rfl := QJ H
  replace hS := hS.cut 0
  exact ⟨rfl, hS⟩
 replace H := Zq H hb
 refine Zc 1 rfl ?_
 refine Za rfl rfl rfl (Ze Jc rfl) ?_
 refine Za rfl rfl rfl (Zh Z0 rfl (Zgy _) hS X0 trivial Vo) ?_
 refine Za rfl rfl rfl (Zah rfl rfl) ?_
 refine Zc 2 rfl ?_
 refine Zu 47 rfl (fun hb => ?_) (fun hb => ?_)
 rotate_left
 ·replace H := Zp H hb
  refine Zc 6 rfl ?_
  refine Zg ?_
  refine Zb hK25 ?_
  refine Zd (fun K hK287 => ?_)
  refine Zd (fun K hK288 => ?_)
  refine Zf ?_
  refine Zc 1 rfl ?_
  refine Za rfl rfl rfl (Yt rfl) ?_
  refine Zg ?_
  refine Zb hK288 ?_
  refine Zr rfl rfl ?_
  refine Zd (fun K hK289 => ?_)
  refine Zf ?_
  refine Zc 1 rfl ?_
  refine Za rfl rfl rfl (Yt rfl) ?_
  refine Zc 1 rfl ?_
  refine Zu 57 rfl (fun hb => ?_) (fun hb => ?_)
  rotate_left
  ·replace H := Zp H hb
   refine Zc 3 rfl ?_
   refine Zg ?_
   refine Zb hK289 ?_
   refine Zk ?_
   refine Zj ?_
   refine Zl rfl (RV.tmp rfl RV.nil) rfl ?_
   obtain rfl := QJ H
   replace hS := hS.cut 0
   exact ⟨rfl, hS⟩
  replace H := Zq H hb
  obtain ⟨r290, hm291, H⟩ := bind_some H
  refine Zo rfl rfl rfl rfl (by kernel_rfl) rfl (Vg _ hm291) ?_
  rintro e w ⟨rfl, hN⟩; refine ⟨_, rfl, ?_⟩; obtain ⟨hB, hS⟩ := hS.jn hN
  refine Zc 2 rfl ?_
  refine Zg ?_
  refine Zb hK289 ?_
  refine Zk ?_
  refine Zj ?_
  refine Zl rfl (RV.tmp rfl RV.nil) rfl ?_
  obtain rfl := QJ H
  replace hS := hS.cut 0
  exact ⟨rfl, hS⟩
 replace H := Zq H hb
 refine Zc 1 rfl ?_
 refine Za rfl rfl rfl (Ze Zay rfl) ?_
 refine Za rfl rfl rfl (Zh Z0 rfl (Zgy _) hS X0 trivial Y7) ?_
 refine Za rfl rfl rfl (Y5 rfl rfl) ?_
 refine Zc 2 rfl ?_
 refine Zg ?_
 refine Zb hK25 ?_
 refine Zd (fun K hK26 => ?_)
 refine Zd (fun K hK27 => ?_)
 refine Zf ?_
 refine Zc 1 rfl ?_
 refine Za rfl rfl rfl (Yt rfl) ?_
 refine Zg ?_
 refine Zb hK27 ?_
 refine Zz rfl (fun hb => ?_) (fun hb => ?_)
 ·replace H := Zq H hb
  refine Zd (fun K hK28 => ?_)
  refine Zf ?_
  refine Zc 1 rfl ?_
  refine Za rfl rfl rfl (Yt rfl) ?_
  refine Zc 1 rfl ?_
  refine Zu 57 rfl (fun hb => ?_) (fun hb => ?_)
  rotate_left
  ·replace H := Zp H hb
   refine Zc 3 rfl ?_
   refine Zg ?_
   refine Zb hK28 ?_
   refine Zk ?_
   refine Zj ?_
   refine Zl rfl (RV.tmp rfl RV.nil) rfl ?_
   obtain rfl := QJ H
   replace hS := hS.cut 0
   exact ⟨rfl, hS⟩
  replace H := Zq H hb
  obtain ⟨r29, hm30, H⟩ := bind_some H
  refine Zo rfl rfl rfl rfl (by kernel_rfl) rfl (Vg _ hm30) ?_
  rintro e w ⟨rfl, hN⟩; refine ⟨_, rfl, ?_⟩; obtain ⟨hB, hS⟩ := hS.jn hN
  refine Zc 2 rfl ?_
  refine Zg ?_
  refine Zb hK28 ?_
  refine Zk ?_
  refine Zj ?_
  refine Zl rfl (RV.tmp rfl RV.nil) rfl ?_
  obtain rfl := QJ H
  replace hS := hS.cut 0
  exact ⟨rfl, hS⟩
 replace H := Zp H hb
 refine Zt ?_
 refine Zb hK26 ?_
 refine Zd (fun K hK31 => ?_)
 refine Zf ?_
 refine Za rfl rfl rfl (Ze Vm rfl) ?_
 refine Za rfl rfl rfl (Zh Xt rfl (Zgy _) hS X0 trivial Jz) ?_
 refine Zc 1 rfl ?_
 refine Za rfl rfl rfl (J0 rfl rfl) ?_
 obtain ⟨e32, hi34, H⟩ := bind_some H
 obtain ⟨j33, hi34a, hi34b, hi34c⟩ := Yw hi34
 refine Za rfl rfl rfl (Y8 Xm rfl rfl hi34a hi34c (Rd.el (hS.rd0 s2_.rd) Yl hi34b)) ?_
 refine Za rfl rfl rfl (X1 Z0 rfl (Zgy _) (Rd.el (hS.rd0 s2_.rd) Yl hi34b) rfl) ?_
 refine Zc 1 rfl ?_
 refine Zg ?_
 refine Zb hK31 ?_
 refine Zd (fun K hK35 => ?_)
 refine Zd (fun K hK36 => ?_)
 refine Zf ?_
 refine Zc 2 rfl ?_
 refine Za rfl rfl rfl (Ze Yz rfl) ?_
 refine Za rfl rfl rfl (Ze Xg rfl) ?_
 refine Za rfl rfl rfl (Ze Yi rfl) ?_
 refine Za rfl rfl rfl (Zh Z0 rfl (Zgy _) hS X0 trivial Zfn) ?_
 refine Za rfl rfl rfl (Xa rfl rfl) ?_
 refine Za rfl rfl rfl (yv_neqB (by kernel_rfl) rfl rfl) ?_
 refine Zg ?_
 refine Zb hK36 ?_
 refine Zz rfl (fun hb => ?_) (fun hb => ?_)
 ·replace H := Zq H hb
  refine Zd (fun K hK37 => ?_)
  refine Zf ?_
  refine Zc 1 rfl ?_
  refine Zg ?_
  refine Zb hK37 ?_
  refine Zk ?_
  refine Zj ?_
  refine Zl rfl (RV.tmp rfl RV.nil) rfl ?_
  obtain rfl := QJ H
  replace hS := hS.cut 0
  exact ⟨rfl, hS⟩
 replace H := Zp H hb
 refine Zt ?_
 refine Zb hK35 ?_
 refine Zd (fun K hK38 => ?_)
 refine Zd (fun K hK39 => ?_)
 refine Zf ?_
 refine Zc 1 rfl ?_
 refine Za rfl rfl rfl (Yt rfl) ?_
 refine Zg ?_
 refine Zb hK39 ?_
 refine Zz rfl (fun hb => ?_) (fun hb => ?_)
 ·replace H := Zq H hb
  refine Zd (fun K hK40 => ?_)
  refine Zf ?_
  obtain ⟨r41, hm42, H⟩ := bind_some H
  refine Zo rfl rfl rfl rfl (by kernel_rfl) rfl (Vg _ hm42) ?_
  rintro e w ⟨rfl, hN⟩; refine ⟨_, rfl, ?_⟩; obtain ⟨hB, hS⟩ := hS.jn hN
  refine Zc 1 rfl ?_
  refine Zg ?_
  refine Zb hK40 ?_
  refine Zk ?_
  refine Zj ?_
  refine Zl rfl (RV.tmp rfl RV.nil) rfl ?_
  obtain rfl := QJ H
  replace hS := hS.cut 0
  exact ⟨rfl, hS⟩
 replace H := Zp H hb
 refine Zt ?_
 refine Zb hK38 ?_
 refine Zd (fun K hK43 => ?_)
 refine Zd (fun K hK44 => ?_)
 refine Yg 50 [] (fun _ _ => True) ⟨by kernel_rfl, by kernel_rfl⟩ hS (fun w hS hB => ?_)
 refine Zn [true, true, true] (by decide +kernel) PFC.h ?_
 refine LtK.put rfl rfl rfl (Zi Vp rfl (Zgz _) hS hs0 trivial Xv) ?_
 refine LtK.put rfl rfl rfl (Ze Jc rfl) ?_
 refine LtK.put rfl rfl rfl (Zh Z0 rfl (Zgz _) hS X0 trivial Vo) ?_
 refine LtK.nil ?_
 refine Z4 [false, false, false, true] 3 ⟨by decide, by kernel_rfl, by kernel_rfl⟩ rfl rfl ?_
 try dsimp only [Zw]
 obtain ⟨r45, hm46, H⟩ := bind_some H
 refine Zo rfl rfl rfl rfl (by kernel_rfl) rfl (c_ref20_Fine r17.1 x0.n A19 c20 _ (Zg1 k21 (hS.row_rd Xr) (hS.row_blk Xr)) hm46) ?_
 rintro e w ⟨rfl, hN⟩; refine ⟨_, rfl, ?_⟩; obtain ⟨hB, hS⟩ := hS.jn hN
 refine Zg ?_
 refine Z7 hB ?_
 refine Zn [false, false, false, false, true, true] (by decide +kernel) PFC.h ?_
 refine LtK.put rfl rfl rfl (Yt rfl) ?_
 refine LtK.put rfl rfl rfl (Zs rfl) ?_
 refine LtK.nil ?_
 refine Xl 82 rfl (fun hb => ?_) (fun hb => ?_)
 ·replace H := Zq H hb
  refine Zn [false, false, false, false, false, false, true, true, true, true, true, true, true, true, true, true, true, true, true, true, true, true, true, true, true, true, true, true, true, true, true, true, true, true, true, true, true, true, true, true, true, true, true, false, true] (by decide +kernel) PFC.h ?_
  refine LtK.skip rfl rfl rfl ?_
  refine LtK.skip rfl rfl rfl ?_
  refine LtK.skip rfl rfl rfl ?_
  refine LtK.skip rfl rfl rfl ?_
  refine LtK.put rfl rfl rfl (Z3 rfl rfl rfl) ?_
  refine LtK.put rfl rfl rfl (Zs rfl) ?_
  refine LtK.skip rfl rfl rfl ?_
  refine LtK.skip rfl rfl rfl ?_
  refine LtK.skip rfl rfl rfl ?_
  refine LtK.skip rfl rfl rfl ?_
  refine LtK.skip rfl rfl rfl ?_
  refine LtK.put rfl rfl rfl (Z3 rfl rfl rfl) ?_
  refine LtK.put rfl rfl rfl (Zs rfl) ?_
  refine LtK.skip rfl rfl rfl ?_
  refine LtK.skip rfl rfl rfl ?_
  refine LtK.skip rfl rfl rfl ?_
  refine LtK.put rfl rfl rfl (Z3 rfl rfl rfl) ?_
  refine LtK.put rfl rfl rfl (Zs rfl) ?_
  refine LtK.skip rfl rfl rfl ?_
  refine LtK.skip rfl rfl rfl ?_
  refine LtK.skip rfl rfl rfl ?_
  refine LtK.skip rfl rfl rfl ?_
  refine LtK.skip rfl rfl rfl ?_
  refine LtK.put rfl rfl rfl (Z3 rfl rfl rfl) ?_
  refine LtK.put rfl rfl rfl (Zs rfl) ?_
  refine LtK.skip rfl rfl rfl ?_
  refine LtK.skip rfl rfl rfl ?_
  refine LtK.skip rfl rfl rfl ?_
  refine LtK.skip rfl rfl rfl ?_
  refine LtK.skip rfl rfl rfl ?_
  refine LtK.put rfl rfl rfl (Z3 rfl rfl rfl) ?_
  refine LtK.put rfl rfl rfl (Zs rfl) ?_
  refine LtK.skip rfl rfl rfl ?_
  refine LtK.skip rfl rfl rfl ?_
  refine LtK.skip rfl rfl rfl ?_
  refine LtK.skip rfl rfl rfl ?_
  refine LtK.skip rfl rfl rfl ?_
  refine LtK.skip rfl rfl rfl ?_
  refine LtK.nil ?_
  refine Z4 [false, false, false, false, false, false, false, false, false, false, false, false, false, false, false, false, false, false, false, false, false, false, false, false, false, false, false, false, false, false, false, false, false, false, false, false, false, false, false, false, false, false, false, true] 43 ⟨by decide, by kernel_rfl, by kernel_rfl⟩ rfl rfl ?_
  try dsimp only [Zw]
  refine Xc rfl rfl rfl ?_
  refine Zg ?_
  refine Z7 (Below.refl _ _) ?_
  refine Zn [false, false, false, false, false, false, false, false, false, false, false, false, false, false, false, false, false, false, false, false, false, false, false, false, false, false, false, false, false, false, false, false, false, false, false, false, false, false, false, false, false, false, false, false, false, true, true, true, true, true] (by decide +kernel) PFC.h ?_
  refine LtK.skip rfl rfl rfl ?_
  refine LtK.skip rfl rfl rfl ?_
  refine LtK.skip rfl rfl rfl ?_
  refine LtK.skip rfl rfl rfl ?_
  refine LtK.put rfl rfl rfl (Z3 rfl rfl rfl) ?_
  refine LtK.nil ?_
  refine Z6 (by kernel_rfl) ?_
  refine Zb hK44 ?_
  refine Zr rfl rfl ?_
  refine Zd (fun K hK47 => ?_)
  refine Zf ?_
  refine Zc 1 rfl ?_
  refine Zg ?_
  refine Zb hK47 ?_
  refine Zk ?_
  refine Zj ?_
  refine Zl rfl (RV.tmp rfl RV.nil) rfl ?_
  obtain rfl := QJ H
  replace hS := hS.cut 0
  exact ⟨rfl, hS⟩
 replace H := Zp H hb
 refine Zn [false, false, false, false, false, false, true, true, true, true, true, true] (by decide +kernel) PFC.h ?_
 refine LtK.put rfl rfl rfl (Ze Zga rfl) ?_
 refine LtK.put rfl rfl rfl (Zh Z0 rfl (Zgz _) hS hs0 trivial Zbk) ?_
 refine LtK.put rfl rfl rfl (Zs rfl) ?_
 refine LtK.put rfl rfl rfl (Y5 rfl rfl) ?_
 refine LtK.put rfl rfl rfl (Yj rfl rfl rfl) ?_
 refine LtK.put rfl rfl rfl (Zs rfl) ?_
 refine LtK.nil ?_
 refine Xl 88 rfl (fun hb => ?_) (fun hb => ?_)
 ·replace H := Zq H hb
  refine Zn [false, false, false, false, false, false, false, false, false, false, false, false, true, true, true, true, true, true, true, true, true, true, true, true, true, true, true, true, true, true, true, true, true, true, true, true, true, true, true, true, true, true, true, false, true] (by decide +kernel) PFC.h ?_
  refine LtK.skip rfl rfl rfl ?_
  refine LtK.skip rfl rfl rfl ?_
  refine LtK.skip rfl rfl rfl ?_
  refine LtK.skip rfl rfl rfl ?_
  refine LtK.skip rfl rfl rfl ?_
  refine LtK.put rfl rfl rfl (Z3 rfl rfl rfl) ?_
  refine LtK.put rfl rfl rfl (Zs rfl) ?_
  refine LtK.skip rfl rfl rfl ?_
  refine LtK.skip rfl rfl rfl ?_
  refine LtK.skip rfl rfl rfl ?_
  refine LtK.put rfl rfl rfl (Z3 rfl rfl rfl) ?_
  refine LtK.put rfl rfl rfl (Zs rfl) ?_
  refine LtK.skip rfl rfl rfl ?_
  refine LtK.skip rfl rfl rfl ?_
  refine LtK.skip rfl rfl rfl ?_
  refine LtK.skip rfl rfl rfl ?_
  refine LtK.skip rfl rfl rfl ?_
  refine LtK.put rfl rfl rfl (Z3 rfl rfl rfl) ?_
  refine LtK.put rfl rfl rfl (Zs rfl) ?_
  refine LtK.skip rfl rfl rfl ?_
  refine LtK.skip rfl rfl rfl ?_
  refine LtK.skip rfl rfl rfl ?_
  refine LtK.skip rfl rfl rfl ?_
  refine LtK.skip rfl rfl rfl ?_
  refine LtK.put rfl rfl rfl (Z3 rfl rfl rfl) ?_
  refine LtK.put rfl rfl rfl (Zs rfl) ?_
  refine LtK.skip rfl rfl rfl ?_
  refine LtK.skip rfl rfl rfl ?_
  refine LtK.skip rfl rfl rfl ?_
  refine LtK.skip rfl rfl rfl ?_
  refine LtK.skip rfl rfl rfl ?_
  refine LtK.skip rfl rfl rfl ?_
  refine LtK.nil ?_
  refine Z4 [false, false, false, false, false, false, false, false, false, false, false, false, false, false, false, false, false, false, false, false, false, false, false, false, false, false, false, false, false, false, false, false, false, false, false, false, false, false, false, false, false, false, false, true] 43 ⟨by decide, by kernel_rfl, by kernel_rfl⟩ rfl rfl ?_
  try dsimp only [Zw]
  refine Xc rfl rfl rfl ?_
  refine Zg ?_
  refine Z7 (Below.refl _ _) ?_
  refine Zn [false, false, false, false, false, false, false, false, false, false, false, false, false, false, false, false, false, false, false, false, false, false, false, false, false, false, false, false, false, false, false, false, false, false, false, false, false, false, false, false, false, false, false, false, false, true, true, true, true, true] (by decide +kernel) PFC.h ?_
  refine LtK.skip rfl rfl rfl ?_
  refine LtK.skip rfl rfl rfl ?_
  refine LtK.skip rfl rfl rfl ?_
  refine LtK.skip rfl rfl rfl ?_
  refine LtK.put rfl rfl rfl (Z3 rfl rfl rfl) ?_
  refine LtK.nil ?_
  refine Z6 (by kernel_rfl) ?_
  refine Zb hK44 ?_
  refine Zr rfl rfl ?_
  refine Zd (fun K hK48 => ?_)
  refine Zf ?_
  refine Zc 1 rfl ?_
  refine Zg ?_
  refine Zb hK48 ?_
  refine Zk ?_
  refine Zj ?_
  refine Zl rfl (RV.tmp rfl RV.nil) rfl ?_
  obtain rfl := QJ H
  replace hS := hS.cut 0
  exact ⟨rfl, hS⟩
 replace H := Zp H hb
 refine Zn [false, false, false, false, false, false, false, false, false, false, false, false, true, true, true, true, true, true, true] (by decide +kernel) PFC.h ?_
 refine LtK.put rfl rfl rfl (Ze Zee rfl) ?_
 refine LtK.put rfl rfl rfl (Zh Z0 rfl (Zgz _) hS hs0 trivial Vo) ?_
 refine LtK.put rfl rfl rfl (Ze Zay rfl) ?_
 refine LtK.put rfl rfl rfl (Zh Z0 rfl (Zgz _) hS X0 trivial Y7) ?_
 refine LtK.put rfl rfl rfl (Y5 rfl rfl) ?_
 refine LtK.put rfl rfl rfl (Yj rfl rfl rfl) ?_
 refine LtK.put rfl rfl rfl (Zs rfl) ?_
 refine LtK.nil ?_
 refine Xl 95 rfl (fun hb => ?_) (fun hb => ?_)
 ·replace H := Zq H hb
  refine Zn [false, false, false, false, false, false, false, false, false, false, false, false, false, false, false, false, false, false, false, true, true, true, true, true, true, true, true, true, true, true, true, true, true, true, true, true, true, true, true, true, true, true, true, false, true] (by decide +kernel) PFC.h ?_
  refine LtK.skip rfl rfl rfl ?_
  refine LtK.skip rfl rfl rfl ?_
  refine LtK.skip rfl rfl rfl ?_
  refine LtK.put rfl rfl rfl (Z3 rfl rfl rfl) ?_
  refine LtK.put rfl rfl rfl (Zs rfl) ?_
  refine LtK.skip rfl rfl rfl ?_
  refine LtK.skip rfl rfl rfl ?_
  refine LtK.skip rfl rfl rfl ?_
  refine LtK.skip rfl rfl rfl ?_
  refine LtK.skip rfl rfl rfl ?_
  refine LtK.put rfl rfl rfl (Z3 rfl rfl rfl) ?_
  refine LtK.put rfl rfl rfl (Zs rfl) ?_
  refine LtK.skip rfl rfl rfl ?_
  refine LtK.skip rfl rfl rfl ?_
  refine LtK.skip rfl rfl rfl ?_
  refine LtK.skip rfl rfl rfl ?_
  refine LtK.skip rfl rfl rfl ?_
  refine LtK.put rfl rfl rfl (Z3 rfl rfl rfl) ?_
  refine LtK.put rfl rfl rfl (Zs rfl) ?_
  refine LtK.skip rfl rfl rfl ?_
  refine LtK.skip rfl rfl rfl ?_
  refine LtK.skip rfl rfl rfl ?_
  refine LtK.skip rfl rfl rfl ?_
  refine LtK.skip rfl rfl rfl ?_
  refine LtK.skip rfl rfl rfl ?_
  refine LtK.nil ?_
  refine Z4 [false, false, false, false, false, false, false, false, false, false, false, false, false, false, false, false, false, false, false, false, false, false, false, false, false, false, false, false, false, false, false, false, false, false, false, false, false, false, false, false, false, false, false, true] 43 ⟨by decide, by kernel_rfl, by kernel_rfl⟩ rfl rfl ?_
  try dsimp only [Zw]
  refine Xc rfl rfl rfl ?_
  refine Zg ?_
  refine Z7 (Below.refl _ _) ?_
  refine Zn [false, false, false, false, false, false, false, false, false, false, false, false, false, false, false, false, false, false, false, false, false, false, false, false, false, false, false, false, false, false, false, false, false, false, false, false, false, false, false, false, false, false, false, false, false, true, true, true, true, true] (by decide +kernel) PFC.h ?_
  refine LtK.skip rfl rfl rfl ?_
  refine LtK.skip rfl rfl rfl ?_
  refine LtK.skip rfl rfl rfl ?_
  refine LtK.skip rfl rfl rfl ?_
  refine LtK.put rfl rfl rfl (Z3 rfl rfl rfl) ?_
  refine LtK.nil ?_
  refine Z6 (by kernel_rfl) ?_
  refine Zb hK44 ?_
  refine Zr rfl rfl ?_
  refine Zd (fun K hK49 => ?_)
  refine Zf ?_
  refine Zc 1 rfl ?_
  refine Zg ?_
  refine Zb hK49 ?_
  refine Zk ?_
  refine Zj ?_
  refine Zl rfl (RV.tmp rfl RV.nil) rfl ?_
  obtain rfl := QJ H
  replace hS := hS.cut 0
  exact ⟨rfl, hS⟩
 replace H := Zp H hb
 refine Zn [false, false, false, false, false, false, false, false, false, false, false, false, false, false, false, false, false, false, false, true, true, true, true, true] (by decide +kernel) PFC.h ?_
 refine LtK.put rfl rfl rfl (Ze Vq rfl) ?_
 refine LtK.put rfl rfl rfl (Zh Zbs rfl (Zgz _) hS hs0 trivial Y7) ?_
 refine LtK.put rfl rfl rfl (Y5 rfl rfl) ?_
 refine LtK.put rfl rfl rfl (Yj rfl rfl rfl) ?_
 refine LtK.put rfl rfl rfl (Zs rfl) ?_
 refine LtK.nil ?_
 refine Xl 100 rfl (fun hb => ?_) (fun hb => ?_)
 ·replace H := Zq H hb
  refine Zn [false, false, false, false, false, false, false, false, false, false, false, false, false, false, false, false, false, false, false, false, false, false, false, false, true, true, true, true, true, true, true, true, true, true, true, true, true, true, true, true, true, true, true, false, true] (by decide +kernel) PFC.h ?_
  refine LtK.skip rfl rfl rfl ?_
  refine LtK.skip rfl rfl rfl ?_
  refine LtK.skip rfl rfl rfl ?_
  refine LtK.skip rfl rfl rfl ?_
  refine LtK.skip rfl rfl rfl ?_
  refine LtK.put rfl rfl rfl (Z3 rfl rfl rfl) ?_
  refine LtK.put rfl rfl rfl (Zs rfl) ?_
  refine LtK.skip rfl rfl rfl ?_
  refine LtK.skip rfl rfl rfl ?_
  refine LtK.skip rfl rfl rfl ?_
  refine LtK.skip rfl rfl rfl ?_
  refine LtK.skip rfl rfl rfl ?_
  refine LtK.put rfl rfl rfl (Z3 rfl rfl rfl) ?_
  refine LtK.put rfl rfl rfl (Zs rfl) ?_
  refine LtK.skip rfl rfl rfl ?_
  refine LtK.skip rfl rfl rfl ?_
  refine LtK.skip rfl rfl rfl ?_
  refine LtK.skip rfl rfl rfl ?_
  refine LtK.skip rfl rfl rfl ?_
  refine LtK.skip rfl rfl rfl ?_
  refine LtK.nil ?_
  refine Z4 [false, false, false, false, false, false, false, false, false, false, false, false, false, false, false, false, false, false, false, false, false, false, false, false, false, false, false, false, false, false, false, false, false, false, false, false, false, false, false, false, false, false, false, true] 43 ⟨by decide, by kernel_rfl, by kernel_rfl⟩ rfl rfl ?_
  try dsimp only [Zw]
  refine Xc rfl rfl rfl ?_
  refine Zg ?_
  refine Z7 (Below.refl _ _) ?_
  refine Zn [false, false, false, false, false, false, false, false, false, false, false, false, false, false, false, false, false, false, false, false, false, false, false, false, false, false, false, false, false, false, false, false, false, false, false, false, false, false, false, false, false, false, false, false, false, true, true, true, true, true] (by decide +kernel) PFC.h ?_
  refine LtK.skip rfl rfl rfl ?_
  refine LtK.skip rfl rfl rfl ?_
  refine LtK.skip rfl rfl rfl ?_
  refine LtK.skip rfl rfl rfl ?_
  refine LtK.put rfl rfl rfl (Z3 rfl rfl rfl) ?_
  refine LtK.nil ?_
  refine Z6 (by kernel_rfl) ?_
  refine Zb hK44 ?_
  refine Zr rfl rfl ?_
  refine Zd (fun K hK50 => ?_)
  refine Zf ?_
  refine Zc 1 rfl ?_
  refine Zg ?_
  refine Zb hK50 ?_
  refine Zk ?_
  refine Zj ?_
  refine Zl rfl (RV.tmp rfl RV.nil) rfl ?_
  obtain rfl := QJ H
  replace hS := hS.cut 0
  exact ⟨rfl, hS⟩
 replace H := Zp H hb
 refine Zn [false, false, false, false, false, false, false, false, false, false, false, false, false, false, false, false, false, false, false, false, false, false, false, false, true, true, true, true, true, true, true] (by decide +kernel) PFC.h ?_
 refine LtK.put rfl rfl rfl (Ze Vx rfl) ?_
 refine LtK.put rfl rfl rfl (Zh Z0 rfl (Zgz _) hS hs0 trivial Js) ?_
 refine LtK.put rfl rfl rfl (Zs rfl) ?_
 refine LtK.put rfl rfl rfl (J0 rfl rfl) ?_
 refine LtK.put rfl rfl rfl (Y5 rfl rfl) ?_
 refine LtK.put rfl rfl rfl (Yj rfl rfl rfl) ?_
 refine LtK.put rfl rfl rfl (Zs rfl) ?_
 refine LtK.nil ?_
 refine Xl 107 rfl (fun hb => ?_) (fun hb => ?_)
 ·replace H := Zq H hb
  refine Zn [false, false, false, false, false, false, false, false, false, false, false, false, false, false, false, false, false, false, false, false, false, false, false, false, false, false, false, false, false, false, false, true, true, true, true, true, true, true, true, true, true, true, true, false, true] (by decide +kernel) PFC.h ?_
  refine LtK.skip rfl rfl rfl ?_
  refine LtK.skip rfl rfl rfl ?_
  refine LtK.skip rfl rfl rfl ?_
  refine LtK.skip rfl rfl rfl ?_
  refine LtK.skip rfl rfl rfl ?_
  refine LtK.put rfl rfl rfl (Z3 rfl rfl rfl) ?_
  refine LtK.put rfl rfl rfl (Zs rfl) ?_
  refine LtK.skip rfl rfl rfl ?_
  refine LtK.skip rfl rfl rfl ?_
  refine LtK.skip rfl rfl rfl ?_
  refine LtK.skip rfl rfl rfl ?_
  refine LtK.skip rfl rfl rfl ?_
  refine LtK.skip rfl rfl rfl ?_
  refine LtK.nil ?_
  refine Z4 [false, false, false, false, false, false, false, false, false, false, false, false, false, false, false, false, false, false, false, false, false, false, false, false, false, false, false, false, false, false, false, false, false, false, false, false, false, false, false, false, false, false, false, true] 43 ⟨by decide, by kernel_rfl, by kernel_rfl⟩ rfl rfl ?_
  try dsimp only [Zw]
  refine Xc rfl rfl rfl ?_
  refine Zg ?_
  refine Z7 (Below.refl _ _) ?_
  refine Zn [false, false, false, false, false, false, false, false, false, false, false, false, false, false, false, false, false, false, false, false, false, false, false, false, false, false, false, false, false, false, false, false, false, false, false, false, false, false, false, false, false, false, false, false, false, true, true, true, true, true] (by decide +kernel) PFC.h ?_
  refine LtK.skip rfl rfl rfl ?_
  refine LtK.skip rfl rfl rfl ?_
  refine LtK.skip rfl rfl rfl ?_
  refine LtK.skip rfl rfl rfl ?_
  refine LtK.put rfl rfl rfl (Z3 rfl rfl rfl) ?_
  refine LtK.nil ?_
  refine Z6 (by kernel_rfl) ?_
  refine Zb hK44 ?_
  refine Zr rfl rfl ?_
  refine Zd (fun K hK51 => ?_)
  refine Zf ?_
  refine Zc 1 rfl ?_
  refine Zg ?_
  refine Zb hK51 ?_
  refine Zk ?_
  refine Zj ?_
  refine Zl rfl (RV.tmp rfl RV.nil) rfl ?_
  obtain rfl := QJ H
  replace hS := hS.cut 0
  exact ⟨rfl, hS⟩
 replace H := Zp H hb
 refine Zn [false, false, false, false, false, false, false, false, false, false, false, false, false, false, false, false, false, false, false, false, false, false, false, false, false, false, false, false, false, false, false, true, true, true, true, true, true, true] (by decide +kernel) PFC.h ?_
 refine LtK.put rfl rfl rfl (Ze Zdn rfl) ?_
 refine LtK.put rfl rfl rfl (Zh Z0 rfl (Zgz _) hS hs0 trivial Zfd) ?_
 refine LtK.put rfl rfl rfl (Ze V5 rfl) ?_
 refine LtK.put rfl rfl rfl (Zh Z0 rfl (Zgz _) hS X0 trivial Zbe) ?_
 refine LtK.put rfl rfl rfl (Y5 rfl rfl) ?_
 refine LtK.put rfl rfl rfl (Yj rfl rfl rfl) ?_
 refine LtK.put rfl rfl rfl (Zs rfl) ?_
 refine LtK.nil ?_
 refine Xl 114 rfl (fun hb => ?_) (fun hb => ?_)
 ·replace H := Zq H hb
  refine Zn [false, false, false, false, false, false, false, false, false, false, false, false, false, false, false, false, false, false, false, false, false, false, false, false, false, false, false, false, false, false, false, false, false, false, false, false, false, false, true, true, true, true, true, false, true] (by decide +kernel) PFC.h ?_
  refine LtK.skip rfl rfl rfl ?_
  refine LtK.skip rfl rfl rfl ?_
  refine LtK.skip rfl rfl rfl ?_
  refine LtK.skip rfl rfl rfl ?_
  refine LtK.skip rfl rfl rfl ?_
  refine LtK.skip rfl rfl rfl ?_
  refine LtK.nil ?_
  refine Z4 [false, false, false, false, false, false, false, false, false, false, false, false, false, false, false, false, false, false, false, false, false, false, false, false, false, false, false, false, false, false, false, false, false, false, false, false, false, false, false, false, false, false, false, true] 43 ⟨by decide, by kernel_rfl, by kernel_rfl⟩ rfl rfl ?_
  try dsimp only [Zw]
  refine Xc rfl rfl rfl ?_
  refine Zg ?_
  refine Z7 (Below.refl _ _) ?_
  refine Zn [false, false, false, false, false, false, false, false, false, false, false, false, false, false, false, false, false, false, false, false, false, false, false, false, false, false, false, false, false, false, false, false, false, false, false, false, false, false, false, false, false, false, false, false, false, true, true, true, true, true] (by decide +kernel) PFC.h ?_
  refine LtK.skip rfl rfl rfl ?_
  refine LtK.skip rfl rfl rfl ?_
  refine LtK.skip rfl rfl rfl ?_
  refine LtK.skip rfl rfl rfl ?_
  refine LtK.put rfl rfl rfl (Z3 rfl rfl rfl) ?_
  refine LtK.nil ?_
  refine Z6 (by kernel_rfl) ?_
  refine Zb hK44 ?_
  refine Zr rfl rfl ?_
  refine Zd (fun K hK52 => ?_)
  refine Zf ?_
  refine Zc 1 rfl ?_
  refine Zg ?_
  refine Zb hK52 ?_
  refine Zk ?_
  refine Zj ?_
  refine Zl rfl (RV.tmp rfl RV.nil) rfl ?_
  obtain rfl := QJ H
  replace hS := hS.cut 0
  exact ⟨rfl, hS⟩
 replace H := Zp H hb
 refine Zn [false, false, false, false, false, false, false, false, false, false, false, false, false, false, false, false, false, false, false, false, false, false, false, false, false, false, false, false, false, false, false, false, false, false, false, false, false, false, true, true, true, true, true, false, true] (by decide +kernel) PFC.h ?_
 refine LtK.put rfl rfl rfl (Ze Vc rfl) ?_
 refine LtK.put rfl rfl rfl (Zh Xp rfl (Zgz _) hS hs0 trivial Zak) ?_
 refine LtK.put rfl rfl rfl (Yu Y6 rfl) ?_
 refine LtK.put rfl rfl rfl (Ze Yz rfl) ?_
 refine LtK.put rfl rfl rfl (Zi Yr rfl (Zgz _) hS X0 trivial Jw) ?_
 refine LtK.put rfl rfl rfl (Zs rfl) ?_
 refine LtK.nil ?_
 refine Z4 [false, false, false, false, false, false, false, false, false, false, false, false, false, false, false, false, false, false, false, false, false, false, false, false, false, false, false, false, false, false, false, false, false, false, false, false, false, false, false, false, false, false, false, true] 43 ⟨by decide, by kernel_rfl, by kernel_rfl⟩ rfl rfl ?_
 try dsimp only [Zw]
 obtain ⟨r53, hm54, H⟩ := bind_some H
 refine Zo rfl rfl rfl rfl (by kernel_rfl) rfl (Zag x0.tuple A0_ c0_ _ (Zg1 s0_.k (hS.rd0 s0_.rd) (hS.blk0 s0_.blk)) hm54) ?_
 rintro e w ⟨rfl, hN⟩; refine ⟨_, rfl, ?_⟩; obtain ⟨hB, hS⟩ := hS.jn hN
 refine Zg ?_
 refine Z7 hB ?_
 refine Zn [false, false, false, false, false, false, false, false, false, false, false, false, false, false, false, false, false, false, false, false, false, false, false, false, false, false, false, false, false, false, false, false, false, false, false, false, false, false, false, false, false, false, false, false, false, true, true, true, true, true] (by decide +kernel) PFC.h ?_
 refine LtK.put rfl rfl rfl (J0 rfl rfl) ?_
 refine LtK.put rfl rfl rfl (Xf rfl rfl) ?_
 refine LtK.put rfl rfl rfl (Zer rfl rfl) ?_
 refine LtK.put rfl rfl rfl (Y5 rfl rfl) ?_
 refine LtK.put rfl rfl rfl (Yj rfl rfl rfl) ?_
 refine LtK.nil ?_
 refine Z6 (by kernel_rfl) ?_
 refine Zb hK44 ?_
 refine Zz rfl (fun hb => ?_) (fun hb => ?_)
 ·replace H := Zq H hb
  refine Zd (fun K hK55 => ?_)
  refine Zf ?_
  refine Zc 1 rfl ?_
  refine Zg ?_
  refine Zb hK55 ?_
  refine Zk ?_
  refine Zj ?_
  refine Zl rfl (RV.tmp rfl RV.nil) rfl ?_
  obtain rfl := QJ H
  replace hS := hS.cut 0
  exact ⟨rfl, hS⟩
 replace H := Zp H hb
 refine Zt ?_
 refine Zb hK43 ?_
 refine Zd (fun K hK56 => ?_)
 refine Zf ?_
 refine Za rfl rfl rfl (Ze Yz rfl) ?_
 refine Za rfl rfl rfl (Zi Yr rfl (Zgy _) hS X0 trivial Jw) ?_
 refine Zc 1 rfl ?_
 obtain ⟨r57, hm58, H⟩ := bind_some H
 refine Zo rfl rfl rfl rfl (by kernel_rfl) rfl (c_ref12_Cut x0.tuple e32 A0_ c0_ _ (Zg1 s0_.k (hS.rd0 s0_.rd) (hS.blk0 s0_.blk)) hm58) ?_
 rintro e w ⟨A59, c60, rfl, k61, hN⟩; refine ⟨_, rfl, ?_⟩; obtain ⟨hB, hS⟩ := hS.jn hN
 refine Zc 1 rfl ?_
 refine Za rfl rfl rfl (Z1 rfl rfl) ?_
 refine Za rfl rfl rfl (Z1 rfl rfl) ?_
 refine Yb rfl rfl Zey hS (fun b63 w hS hB => ?_)
 refine Zm rfl rfl rfl CellsOf.agg hS ps0 Zb0 (by kernel_rfl) rfl (fun w hS hB => ?_)
 refine Zc 1 rfl ?_
 refine Zg ?_
 refine Zb hK56 ?_
 refine Zd (fun K hK65 => ?_)
 refine Zd (fun K hK66 => ?_)
 refine Zf ?_
 refine Zc 1 rfl ?_
 refine Za rfl rfl rfl (Y5 rfl rfl) ?_
 refine Zc 1 rfl ?_
 refine Zu 136 rfl (fun hb => ?_) (fun hb => ?_)
 ·replace H := Zq H hb
  refine Zc 7 rfl ?_
  refine Zg ?_
  refine Zb hK66 ?_
  refine Zr rfl rfl ?_
  refine Zd (fun K hK67 => ?_)
  refine Zf ?_
  obtain ⟨r68, hm69, H⟩ := bind_some H
  refine Zo rfl rfl rfl rfl (by kernel_rfl) rfl (Vg _ hm69) ?_
  rintro e w ⟨rfl, hN⟩; refine ⟨_, rfl, ?_⟩; obtain ⟨hB, hS⟩ := hS.jn hN
  refine Zc 1 rfl ?_
  refine Zg ?_
  refine Zb hK67 ?_
  refine Zk ?_
  refine Zj ?_
  refine Zl rfl (RV.tmp rfl RV.nil) rfl ?_
  obtain rfl := QJ H
  replace hS := hS.cut 0
  exact ⟨rfl, hS⟩
 replace H := Zp H hb
 refine Zc 1 rfl ?_
 refine Za rfl rfl rfl (Y5 rfl rfl) ?_
 refine Zc 1 rfl ?_
 refine Zu 139 rfl (fun hb => ?_) (fun hb => ?_)
 rotate_left
 ·replace H := Zp H hb
  refine Zc 4 rfl ?_
  refine Zg ?_
  refine Zb hK66 ?_
  refine Yo rfl rfl ?_
  refine Zt ?_
  refine Zb hK65 ?_
  refine Zd (fun K hK180 => ?_)
  refine Zf ?_
  refine Za rfl rfl rfl (Ze J4 rfl) ?_
  refine Zm rfl rfl rfl CellsOf.int hS ps0 st7_1 (by kernel_rfl) rfl (fun w hS hB => ?_)
  refine Zg ?_
  refine Zb hK180 ?_
  refine Zd (fun K hK181 => ?_)
  refine Yg 14 [12] (fun i b => (i = 12 → b = b63 ∨ b = b23 ∨ b = b2)) ⟨by kernel_rfl, by kernel_rfl⟩ hS (fun w hS hB => ?_)
  refine Zd8 [⟨11, 13, 30, [.int .i64 0, .int .i64 0, .int .u8 0, .int .i64 0, .int .i64 0, .int .i64 0, .int .i64 0, .int .i64 0, .bool false, .slice none 0 0, .int .i64 0, .int .i64 0, .int .i64 0, .int .i64 0, .int .i64 0, .int .i64 0, .int .i64 0, .bool false, .slice none 0 0, .slice none 0 0, .slice none 0 0, .slice none 0 0]⟩] (.cons rfl Zex rfl rfl rfl .nil) hS (fun hok => ?_)
  dsimp only [List.cons_append, List.nil_append]
  refine Ji [true, true, true, true, true, false, true] [] (fun _ => True) (by decide +kernel) (fun _ h => by cases h) PFC.h (fun X Y tk ht w hS => ?_)
  refine LtK.put rfl rfl rfl (Zs rfl) ?_
  refine LtK.put rfl rfl rfl (Ze Jc rfl) ?_
  refine LtK.put rfl rfl rfl (Zh Z0 rfl (Zg0 _ _) hS hs4 trivial Vo) ?_
  refine LtK.put rfl rfl rfl (Zs rfl) ?_
  refine LtK.put rfl rfl rfl (Zi Yr rfl (Zg0 _ _) hS hs0 trivial Vl) ?_
  refine LtK.put rfl rfl rfl (Zi Vp rfl (Zg0 _ _) hS X0 trivial Xv) ?_
  refine Zds ht hS (by repeat (first | exact App.nil | apply App.cons)) (by repeat (first | exact App.nil | apply App.cons)) ?_
  dsimp only [List.cons_append, List.nil_append]
  refine Zch [false, false, false, false, false, true] 5 hok ⟨by decide, by decide +kernel, by decide, by decide⟩ rfl rfl (fun _ => rfl) (fun _ => rfl) rfl (Ze5 (by decide +kernel)) (fun X Y tk ht w hS => ?_)
  try dsimp only [Zw]
  obtain ⟨r182, hm183, H⟩ := bind_some H
  refine Zo rfl rfl rfl rfl (by kernel_rfl) rfl (Zf9 x1 x0.n x2 (⟨r57.1.snap, r57.1.log, r57.1.term, 0⟩ : Tu) A59 c60 _ (Zg1 k61 (hS.rd Xr) (hS.rd_blk Xr)) hm183) ?_
  rintro e w ⟨A184, c185, A188, c189, A192, c193, A196, c197, A200, c201, rfl, k186, k190, k194, k198, k202, hN⟩; refine ⟨_, rfl, ?_⟩; obtain ⟨hB, hS⟩ := hS.jn hN
  refine Zg ?_
  refine Zcp ht hS hB (by repeat (first | exact App.nil | apply App.cons)) (by repeat (first | exact App.nil | apply App.cons)) ?_
  dsimp only [List.cons_append, List.nil_append]
  refine Zch [false, false, false, false, false, false, false, true] 7 hok ⟨by decide, by decide +kernel, by decide, by decide⟩ rfl rfl (fun _ => rfl) (fun _ => rfl) rfl (Ze5 (by decide +kernel)) (fun X Y tk ht w hS => ?_)
  try dsimp only [Zw]
  obtain ⟨r204, hm205, H⟩ := bind_some H
  refine Zo rfl rfl rfl rfl (by kernel_rfl) rfl (Zgf r182 r17.1 A184 c185 A188 c189 A192 c193 A196 c197 A200 c201 A19 c20 _ (Zg1 k186 (hS.row_rd hs0) (hS.row_blk hs0)) (Zg1 k190 (hS.row_rd Xr) (hS.row_blk Xr)) (Zg1 k194 (hS.row_rd X0) (hS.row_blk X0)) (Zg1 k198 (hS.row_rd hs3) (hS.row_blk hs3)) (Zg1 k202 (hS.row_rd hs4) (hS.row_blk hs4)) (Zg1 k21 (hS.row_rd hs8) (hS.row_blk hs8)) hm205) ?_
  rintro e w ⟨A206, c207, A210, c211, A214, c215, A218, c219, A222, c223, A226, c227, q230, rfl, k208, k212, k216, k220, k224, k228, hq231, okq232, hN⟩; refine ⟨_, rfl, ?_⟩; obtain ⟨hB, hS⟩ := hS.jn hN
  refine Zg ?_
  refine Zcp ht hS hB (by repeat (first | exact App.nil | apply App.cons)) (by repeat (first | exact App.nil | apply App.cons)) ?_
  dsimp only [List.cons_append, List.nil_append]
  refine Ji [false, false, false, false, false, false, false, false, true, true] [] (fun _ => True) (by decide +kernel) (fun _ h => by cases h) PFC.h (fun X Y tk ht w hS => ?_)
  refine LtK.put rfl rfl rfl (Zs rfl) ?_
  refine LtK.put rfl rfl rfl (Z1 rfl rfl) ?_
  refine Zds ht hS (by repeat (first | exact App.nil | apply App.cons)) (by repeat (first | exact App.nil | apply App.cons)) ?_
  dsimp only [List.cons_append, List.nil_append]
  refine Ji [false, false, false, false, false, false, false, false, false, false, true] [12] (fun b => (b = b63 ∨ b = b23 ∨ b = b2)) (by decide +kernel) (by intro j hj b hb; simp only [List.mem_cons, List.not_mem_nil, or_false] at hj; (try rcases hj with rfl | rfl | rfl | rfl | rfl) <;> first | (simp [hb]; done) | simp_all) PFC.h (fun X Y tk ht w hS => ?_)
  refine LtK.put rfl rfl rfl (Z1 rfl rfl) ?_
  refine Zds ht hS (by repeat (first | exact App.nil | apply App.cons)) (by repeat (first | exact App.nil | apply App.cons)) ?_
  dsimp only [List.cons_append, List.nil_append]
  refine Ze8 hok (by decide) (by decide +kernel) (fun _ => rfl) (fun _ => rfl) rfl (fun tk htk w hS => ?_)
  obtain ⟨b234, tkb234, rfl, htk236⟩ := tk_cons htk
  obtain rfl := tk_nil htk236
  dsimp only [tkH, tkL, List.map] at hS ⊢
  refine Yp [false, false, false, false, false, false, false, false, false, false, false, false, true] 12 ⟨by decide, by kernel_rfl, by kernel_rfl⟩ rfl rfl ?_
  try dsimp only [Zw]
  refine Zm rfl rfl rfl CellsOf.agg hS ps17 Yy (by kernel_rfl) rfl (fun w hS hB => ?_)
  refine Zg ?_
  refine Ye (hB.sub (fun b _ h => by have h0 : b = b63 ∨ b = b23 ∨ b = b2 := (by simpa using h); rcases h0 with h0 | h0 | h0; (rw [h0]; exact hS.ne 12 17 rfl rfl rfl); (rw [h0]; exact hS.ne 14 17 rfl rfl rfl); (rw [h0]; exact hS.ne 16 17 rfl rfl rfl))) ?_
  refine Zn [false, false, false, false, false, false, false, false, false, false, false, false, false, true] (by decide +kernel) PFC.h ?_
  refine LtK.put rfl rfl rfl (Zy rfl) ?_
  refine LtK.nil ?_
  refine Z6 (by kernel_rfl) ?_
  refine Zb hK181 ?_
  refine Zd (fun K hK237 => ?_)
  refine Zd (fun K hK238 => ?_)
  refine Yg 33 [] (fun _ _ => True) ⟨by kernel_rfl, by kernel_rfl⟩ hS (fun w hS hB => ?_)
  refine Zn [true, true, true, true] (by decide +kernel) PFC.h ?_
  refine LtK.put rfl rfl rfl (Zs rfl) ?_
  refine LtK.put rfl rfl rfl (Yu Je rfl) ?_
  refine LtK.put rfl rfl rfl (Y5 rfl rfl) ?_
  refine LtK.put rfl rfl rfl (Zs rfl) ?_
  refine LtK.nil ?_
  refine Xl 160 rfl (fun hb => ?_) (fun hb => ?_)
  ·replace H := Zq H hb
   refine Zn [false, false, false, false, true, true, true, true, true, true, true, true, true, true, true, true, true, true, true, true, true, true, true, true, true, true, false, true, true, true, true] (by decide +kernel) PFC.h ?_
   refine LtK.skip rfl rfl rfl ?_
   refine LtK.skip rfl rfl rfl ?_
   refine LtK.skip rfl rfl rfl ?_
   refine LtK.skip rfl rfl rfl ?_
   refine LtK.skip rfl rfl rfl ?_
   refine LtK.put rfl rfl rfl (Z3 rfl rfl rfl) ?_
   refine LtK.put rfl rfl rfl (Zs rfl) ?_
   refine LtK.skip rfl rfl rfl ?_
   refine LtK.skip rfl rfl rfl ?_
   refine LtK.skip rfl rfl rfl ?_
   refine LtK.skip rfl rfl rfl ?_
   refine LtK.skip rfl rfl rfl ?_
   refine LtK.skip rfl rfl rfl ?_
   refine LtK.skip rfl rfl rfl ?_
   refine LtK.skip rfl rfl rfl ?_
   refine LtK.skip rfl rfl rfl ?_
   refine LtK.skip rfl rfl rfl ?_
   refine LtK.skip rfl rfl rfl ?_
   refine LtK.put rfl rfl rfl (Z3 rfl rfl rfl) ?_
   refine LtK.put rfl rfl rfl (Zs rfl) ?_
   refine LtK.skip rfl rfl rfl ?_
   refine LtK.skip rfl rfl rfl ?_
   refine LtK.skip rfl rfl rfl ?_
   refine LtK.skip rfl rfl rfl ?_
   refine LtK.skip rfl rfl rfl ?_
   refine LtK.skip rfl rfl rfl ?_
   refine LtK.nil ?_
   refine Z4 [false, false, false, false, false, false, false, false, false, false, false, false, false, false, false, false, false, false, false, false, false, false, false, false, false, false, true] 26 ⟨by decide, by kernel_rfl, by kernel_rfl⟩ rfl rfl ?_
   try dsimp only [Zw]
   refine Xc rfl rfl rfl ?_
   refine Zg ?_
   refine Z7 (Below.refl _ _) ?_
   refine Zn [false, false, false, false, false, false, false, false, false, false, false, false, false, false, false, false, false, false, false, false, false, false, false, false, false, false, false, false, false, false, false, true, true] (by decide +kernel) PFC.h ?_
   refine LtK.skip rfl rfl rfl ?_
   refine LtK.put rfl rfl rfl (Z3 rfl rfl rfl) ?_
   refine LtK.nil ?_
   refine Z6 (by kernel_rfl) ?_
   refine Zb hK238 ?_
   refine Zr rfl rfl ?_
   refine Zd (fun K hK239 => ?_)
   refine Zf ?_
   refine Zc 1 rfl ?_
   refine Zg ?_
   refine Zb hK239 ?_
   refine Zk ?_
   refine Zj ?_
   refine Zl rfl (RV.tmp rfl RV.nil) rfl ?_
   obtain rfl := QJ H
   replace hS := hS.cut 0
   exact ⟨rfl, hS⟩
  replace H := Zp H hb
  refine Zn [false, false, false, false, true, true, true, true, true, true, true] (by decide +kernel) PFC.h ?_
  refine LtK.put rfl rfl rfl (Zs rfl) ?_
  obtain ⟨e240, hi242, H⟩ := bind_some H
  obtain ⟨j241, A243, c244, hi242a, hi242b, hi242c⟩ := idxQ (q := q230) hq231 hi242
  refine LtK.put rfl rfl rfl (Y8 Je rfl rfl hi242a hi242c (Rd.el (hS.rd hs5) V1 hi242b)) ?_
  refine LtK.put rfl rfl rfl (Vd Zf0 rfl (Rd.el (hS.rd hs5) V1 hi242b)) ?_
  refine LtK.put rfl rfl rfl (yx_ld sc_4 rfl (Zgz _) (Rd.el (hS.rd hs5) V1 hi242b) rfl) ?_
  refine LtK.put rfl rfl rfl (Yt rfl) ?_
  refine LtK.put rfl rfl rfl (Yj rfl rfl rfl) ?_
  refine LtK.put rfl rfl rfl (Zs rfl) ?_
  refine LtK.nil ?_
  refine Xl 167 rfl (fun hb => ?_) (fun hb => ?_)
  ·replace H := Zq H hb
   refine Zn [false, false, false, false, false, false, false, false, false, false, false, true, true, true, true, true, true, true, true, true, true, true, true, true, true, true, false, true, true, true, true] (by decide +kernel) PFC.h ?_
   refine LtK.skip rfl rfl rfl ?_
   refine LtK.skip rfl rfl rfl ?_
   refine LtK.skip rfl rfl rfl ?_
   refine LtK.skip rfl rfl rfl ?_
   refine LtK.skip rfl rfl rfl ?_
   refine LtK.skip rfl rfl rfl ?_
   refine LtK.skip rfl rfl rfl ?_
   refine LtK.skip rfl rfl rfl ?_
   refine LtK.skip rfl rfl rfl ?_
   refine LtK.skip rfl rfl rfl ?_
   refine LtK.skip rfl rfl rfl ?_
   refine LtK.put rfl rfl rfl (Z3 rfl rfl rfl) ?_
   refine LtK.put rfl rfl rfl (Zs rfl) ?_
   refine LtK.skip rfl rfl rfl ?_
   refine LtK.skip rfl rfl rfl ?_
   refine LtK.skip rfl rfl rfl ?_
   refine LtK.skip rfl rfl rfl ?_
   refine LtK.skip rfl rfl rfl ?_
   refine LtK.skip rfl rfl rfl ?_
   refine LtK.nil ?_
   refine Z4 [false, false, false, false, false, false, false, false, false, false, false, false, false, false, false, false, false, false, false, false, false, false, false, false, false, false, true] 26 ⟨by decide, by kernel_rfl, by kernel_rfl⟩ rfl rfl ?_
   try dsimp only [Zw]
   refine Xc rfl rfl rfl ?_
   refine Zg ?_
   refine Z7 (Below.refl _ _) ?_
   refine Zn [false, false, false, false, false, false, false, false, false, false, false, false, false, false, false, false, false, false, false, false, false, false, false, false, false, false, false, false, false, false, false, true, true] (by decide +kernel) PFC.h ?_
   refine LtK.skip rfl rfl rfl ?_
   refine LtK.put rfl rfl rfl (Z3 rfl rfl rfl) ?_
   refine LtK.nil ?_
   refine Z6 (by kernel_rfl) ?_
   refine Zb hK238 ?_
   refine Zr rfl rfl ?_
   refine Zd (fun K hK245 => ?_)
   refine Zf ?_
   refine Zc 1 rfl ?_
   refine Zg ?_
   refine Zb hK245 ?_
   refine Zk ?_
   refine Zj ?_
   refine Zl rfl (RV.tmp rfl RV.nil) rfl ?_
   obtain rfl := QJ H
   replace hS := hS.cut 0
   exact ⟨rfl, hS⟩
  replace H := Zp H hb
  refine Zn [false, false, false, false, false, false, false, false, false, false, false, true, true, true, true, true, true, true, true, true, true, true, true, true] (by decide +kernel) PFC.h ?_
  refine LtK.put rfl rfl rfl (Zs rfl) ?_
  obtain ⟨e246, hi248, H⟩ := bind_some H
  obtain ⟨j247, A249, c250, hi248a, hi248b, hi248c⟩ := idxQ (q := q230) hq231 hi248
  refine LtK.put rfl rfl rfl (Y8 Je rfl rfl hi248a hi248c (Rd.el (hS.rd hs5) V1 hi248b)) ?_
  refine LtK.put rfl rfl rfl (Vd Vx rfl (Rd.el (hS.rd hs5) V1 hi248b)) ?_
  refine LtK.put rfl rfl rfl (yx_ld Z0 rfl (Zgz _) (Rd.el (hS.rd hs5) V1 hi248b) rfl) ?_
  refine LtK.put rfl rfl rfl (Zs rfl) ?_
  refine LtK.put rfl rfl rfl (J0 rfl rfl) ?_
  refine LtK.put rfl rfl rfl (Ze Vc rfl) ?_
  refine LtK.put rfl rfl rfl (Zh Xp rfl (Zgz _) hS Zej trivial Zak) ?_
  refine LtK.put rfl rfl rfl (Yu Y6 rfl) ?_
  refine LtK.put rfl rfl rfl (Xf rfl rfl) ?_
  refine LtK.put rfl rfl rfl (Y5 rfl rfl) ?_
  refine LtK.put rfl rfl rfl (Yj rfl rfl rfl) ?_
  refine LtK.put rfl rfl rfl (Zs rfl) ?_
  refine LtK.nil ?_
  refine Xl 180 rfl (fun hb => ?_) (fun hb => ?_)
  ·replace H := Zq H hb
   refine Zn [false, false, false, false, false, false, false, false, false, false, false, false, false, false, false, false, false, false, false, false, false, false, false, false, true, true, false, true, true, true, true] (by decide +kernel) PFC.h ?_
   refine LtK.skip rfl rfl rfl ?_
   refine LtK.skip rfl rfl rfl ?_
   refine LtK.skip rfl rfl rfl ?_
   refine LtK.skip rfl rfl rfl ?_
   refine LtK.skip rfl rfl rfl ?_
   refine LtK.skip rfl rfl rfl ?_
   refine LtK.nil ?_
   refine Z4 [false, false, false, false, false, false, false, false, false, false, false, false, false, false, false, false, false, false, false, false, false, false, false, false, false, false, true] 26 ⟨by decide, by kernel_rfl, by kernel_rfl⟩ rfl rfl ?_
   try dsimp only [Zw]
   refine Xc rfl rfl rfl ?_
   refine Zg ?_
   refine Z7 (Below.refl _ _) ?_
   refine Zn [false, false, false, false, false, false, false, false, false, false, false, false, false, false, false, false, false, false, false, false, false, false, false, false, false, false, false, false, false, false, false, true, true] (by decide +kernel) PFC.h ?_
   refine LtK.skip rfl rfl rfl ?_
   refine LtK.put rfl rfl rfl (Z3 rfl rfl rfl) ?_
   refine LtK.nil ?_
   refine Z6 (by kernel_rfl) ?_
   refine Zb hK238 ?_
   refine Zr rfl rfl ?_
   refine Zd (fun K hK251 => ?_)
   refine Zf ?_
   refine Zc 1 rfl ?_
   refine Zg ?_
   refine Zb hK251 ?_
   refine Zk ?_
   refine Zj ?_
   refine Zl rfl (RV.tmp rfl RV.nil) rfl ?_
   obtain rfl := QJ H
   replace hS := hS.cut 0
   exact ⟨rfl, hS⟩
  replace H := Zp H hb
  refine Zn [false, false, false, false, false, false, false, false, false, false, false, false, false, false, false, false, false, false, false, false, false, false, false, false, true, true, false, true, true, true, true] (by decide +kernel) PFC.h ?_
  refine LtK.put rfl rfl rfl (Ze Yz rfl) ?_
  refine LtK.put rfl rfl rfl (Zi Yr rfl (Zgz _) hS hs17 trivial Jw) ?_
  refine LtK.put rfl rfl rfl (Zs rfl) ?_
  obtain ⟨e252, hi254, H⟩ := bind_some H
  obtain ⟨j253, A255, c256, hi254a, hi254b, hi254c⟩ := idxQ (q := q230) hq231 hi254
  refine LtK.put rfl rfl rfl (Y8 Je rfl rfl hi254a hi254c (Rd.el (hS.rd hs5) V1 hi254b)) ?_
  refine LtK.put rfl rfl rfl (Vd Vx rfl (Rd.el (hS.rd hs5) V1 hi254b)) ?_
  refine LtK.put rfl rfl rfl (yx_ld Z0 rfl (Zgz _) (Rd.el (hS.rd hs5) V1 hi254b) rfl) ?_
  refine LtK.nil ?_
  refine Z4 [false, false, false, false, false, false, false, false, false, false, false, false, false, false, false, false, false, false, false, false, false, false, false, false, false, false, true] 26 ⟨by decide, by kernel_rfl, by kernel_rfl⟩ rfl rfl ?_
  try dsimp only [Zw]
  obtain ⟨r257, hm258, H⟩ := bind_some H
  refine Zo rfl rfl rfl rfl (by kernel_rfl) rfl (Zag r204.1.tuple A206 c207 _ (Zg1 k208 (hS.rd hs0) (hS.rd_blk hs0)) hm258) ?_
  rintro e w ⟨rfl, hN⟩; refine ⟨_, rfl, ?_⟩; obtain ⟨hB, hS⟩ := hS.jn hN
  refine Zg ?_
  refine Z7 hB ?_
  refine Zn [false, false, false, false, false, false, false, false, false, false, false, false, false, false, false, false, false, false, false, false, false, false, false, false, false, false, false, false, false, false, false, true, true] (by decide +kernel) PFC.h ?_
  refine LtK.put rfl rfl rfl (Y5 rfl rfl) ?_
  refine LtK.put rfl rfl rfl (Yj rfl rfl rfl) ?_
  refine LtK.nil ?_
  refine Z6 (by kernel_rfl) ?_
  refine Zb hK238 ?_
  refine Zz rfl (fun hb => ?_) (fun hb => ?_)
  ·replace H := Zq H hb
   refine Zd (fun K hK259 => ?_)
   refine Zf ?_
   refine Zc 1 rfl ?_
   refine Zg ?_
   refine Zb hK259 ?_
   refine Zk ?_
   refine Zj ?_
   refine Zl rfl (RV.tmp rfl RV.nil) rfl ?_
   obtain rfl := QJ H
   replace hS := hS.cut 0
   exact ⟨rfl, hS⟩
  replace H := Zp H hb
  refine Zt ?_
  refine Zb hK237 ?_
  refine Zd (fun K hK260 => ?_)
  refine Zd (fun K hK261 => ?_)
  refine Zf ?_
  refine Za rfl rfl rfl (Ze Yz rfl) ?_
  refine Za rfl rfl rfl (Ze Xg rfl) ?_
  refine Za rfl rfl rfl (Ze Yi rfl) ?_
  refine Za rfl rfl rfl (Zh Z0 rfl (Zgy _) hS hs16 trivial Zfn) ?_
  refine Za rfl rfl rfl (Xf rfl rfl) ?_
  refine Zc 1 rfl ?_
  refine Zg ?_
  refine Zb hK261 ?_
  refine Yc ?_
  refine V0 (X := Nat × Bool × Int) (fun x => (3, .pointer (some ⟨b2, 0, none⟩)) :: (6, .bool x.2.1) :: (13, .pointer (some ⟨b234, 0, none⟩)) :: (14, .slice A226 r204.2.length c227) :: (15, .int .i64 x.2.2) :: []) (fun x w => St0 All w0 w (.rd A206 (Yf Jv r204.1.tuple.log) :: .row (.slice A210 r204.1.votes.length c211) 4 1 r204.1.votes.length (Yf enO r204.1.votes) :: .row (.slice A214 r204.1.next.length c215) 3 1 r204.1.next.length (Yf V9 r204.1.next) :: .row (.slice A218 r204.1.mtch.length c219) 3 1 r204.1.mtch.length (Yf V9 r204.1.mtch) :: .row (.slice A222 r204.1.caps.length c223) 3 1 r204.1.caps.length (Yf V9 r204.1.caps) :: .rd A226 (Yf enQ q230) :: .rds (q230.map subQ) :: .row (.slice A184 r182.tuple.log.length c185) 56 3 r182.tuple.log.length (Yf Jv r182.tuple.log) :: .row (.slice A188 r182.votes.length c189) 4 1 r182.votes.length (Yf enO r182.votes) :: .row (.slice A192 r182.next.length c193) 3 1 r182.next.length (Yf V9 r182.next) :: .row (.slice A196 r182.mtch.length c197) 3 1 r182.mtch.length (Yf V9 r182.mtch) :: .row (.slice A200 r182.caps.length c201) 3 1 r182.caps.length (Yf V9 r182.caps) :: .box b63 [.int .i64 r57.1.snap.index, .int .i64 r57.1.snap.term, .int .i64 r57.1.snap.sum, .int .i64 r57.1.snap.level, .bool r57.1.snap.final, .slice A59 r57.1.log.length c60, .int .i64 r57.1.term, .int .i64 0] 26 :: .rd A59 (Yf Jv r57.1.log) :: .box b23 [.int .u8 r17.1.kind, .int .i64 r17.1.frm, .int .i64 r17.1.dst, .int .i64 r17.1.term, .int .i64 r17.1.cap, .int .i64 r17.1.last, .int .i64 r17.1.lastTerm, .int .i64 r17.1.commit, .bool r17.1.okk, .slice A19 r17.1.entries.length c20, .int .i64 r17.1.snap.index, .int .i64 r17.1.snap.term, .int .i64 r17.1.snap.sum, .int .i64 r17.1.snap.level, .bool r17.1.snap.final] 36 :: .row (.slice A19 r17.1.entries.length c20) 56 3 r17.1.entries.length (Yf Jv r17.1.entries) :: .box b2 [.int .i64 x0.id, .int .i64 x0.n, .int .u8 x0.role, .int .i64 x0.binary, .int .i64 x0.tuple.snap.index, .int .i64 x0.tuple.snap.term, .int .i64 x0.tuple.snap.sum, .int .i64 x0.tuple.snap.level, .bool x0.tuple.snap.final, .slice A0_ x0.tuple.log.length c0_, .int .i64 x0.tuple.term, .int .i64 x0.tuple.vote, .int .i64 x0.commit, .int .i64 x0.applied.index, .int .i64 x0.applied.term, .int .i64 x0.applied.sum, .int .i64 x0.applied.level, .bool x0.applied.final, .slice A1_ x0.votes.length c1_, .slice A2_ x0.next.length c2_, .slice A3_ x0.mtch.length c3_, .slice A4_ x0.caps.length c4_] 30 :: .box b234 [.int .i64 r204.1.id, .int .i64 r204.1.n, .int .u8 r204.1.role, .int .i64 r204.1.binary, .int .i64 r204.1.tuple.snap.index, .int .i64 r204.1.tuple.snap.term, .int .i64 r204.1.tuple.snap.sum, .int .i64 r204.1.tuple.snap.level, .bool r204.1.tuple.snap.final, .slice A206 r204.1.tuple.log.length c207, .int .i64 r204.1.tuple.term, .int .i64 r204.1.tuple.vote, .int .i64 r204.1.commit, .int .i64 r204.1.applied.index, .int .i64 r204.1.applied.term, .int .i64 r204.1.applied.sum, .int .i64 r204.1.applied.level, .bool r204.1.applied.final, .slice A210 r204.1.votes.length c211, .slice A214 r204.1.next.length c215, .slice A218 r204.1.mtch.length c219, .slice A222 r204.1.caps.length c223] 30 :: []) ∧ Vr x0 r204 x.1 x.2.1 x.2.2 = some r) (fun x => x.1) (Xn, false, (IntKind.wrap .i64 (x0.tuple.snap.index + 1))) (by repeat (first | exact Sub.nil | refine Sub.cons rfl ?_)) ⟨hS, H⟩ ?_
  rintro ⟨n, v262, v263⟩ w ⟨hS, H⟩
  dsimp only at hS H ⊢
  obtain _ | n := n
  ·have H0 : none = some r := H
   cases H0
  rw [Vr] at H
  refine Zd (fun K hK264 => ?_)
  refine Zd (fun K hK265 => ?_)
  refine Zf ?_
  refine Zc 2 rfl ?_
  obtain ⟨e266, hi268, H⟩ := bind_some H
  obtain ⟨j267, A269, c270, hi268a, hi268b, hi268c⟩ := idxQ (q := q230) hq231 hi268
  refine Za rfl rfl rfl (Y8 Je rfl rfl hi268a hi268c (Rd.el (hS.rd hs5) V1 hi268b)) ?_
  refine Za rfl rfl rfl (Vd Vx rfl (Rd.el (hS.rd hs5) V1 hi268b)) ?_
  refine Za rfl rfl rfl (yx_ld Z0 rfl (Zgy _) (Rd.el (hS.rd hs5) V1 hi268b) rfl) ?_
  refine Za rfl rfl rfl (Zah rfl rfl) ?_
  refine Zg ?_
  refine Zb hK265 ?_
  refine Zz rfl (fun hb => ?_) (fun hb => ?_)
  rotate_left
  ·replace H := Zp H hb
   refine Vj ?_
   refine Ya ?_
   refine Ya ?_
   refine Y3 ?_
   refine Zb hK260 ?_
   refine Zd (fun K hK284 => ?_)
   refine Zf ?_
   obtain ⟨r285, hm286, H⟩ := bind_some H
   refine Zo rfl rfl rfl rfl (by kernel_rfl) rfl (Vg _ hm286) ?_
   rintro e w ⟨rfl, hN⟩; refine ⟨_, rfl, ?_⟩; obtain ⟨hB, hS⟩ := hS.jn hN
   refine Zc 1 rfl ?_
   refine Zg ?_
   refine Zb hK284 ?_
   refine Zk ?_
   refine Zl rfl (RV.tmp rfl RV.nil) rfl ?_
   obtain rfl := QJ H
   replace hS := hS.cut 0
   exact ⟨rfl, hS⟩
  replace H := Zq H hb
  refine Zt ?_
  refine Zb hK264 ?_
  refine Zd (fun K hK271 => ?_)
  refine Yc ?_
  refine Zd (fun K hK272 => ?_)
  refine Zf ?_
  refine Za rfl rfl rfl (Ze Yz rfl) ?_
  refine Za rfl rfl rfl (Zi Yr rfl (Zgy _) hS hs16 trivial Jw) ?_
  refine Zc 1 rfl ?_
  obtain ⟨r273, hm274, H⟩ := bind_some H
  refine Zo rfl rfl rfl rfl (by kernel_rfl) rfl (c_ref12_At x0.tuple v263 A0_ c0_ _ (Zg1 s0_.k (hS.rd0 s0_.rd) (hS.blk0 s0_.blk)) hm274) ?_
  rintro e w ⟨rfl, hN⟩; refine ⟨_, rfl, ?_⟩; obtain ⟨hB, hS⟩ := hS.jn hN
  refine Zc 1 rfl ?_
  refine Za rfl rfl rfl (Z1 rfl rfl) ?_
  refine Za rfl rfl rfl (Z1 rfl rfl) ?_
  refine Yb rfl rfl Zb6 hS (fun b275 w hS hB => ?_)
  refine Zm rfl rfl rfl CellsOf.agg hS ps0 Zft (by kernel_rfl) rfl (fun w hS hB => ?_)
  refine Zc 1 rfl ?_
  refine Zg ?_
  refine Zb hK272 ?_
  refine Zd (fun K hK277 => ?_)
  refine Zf ?_
  refine Za rfl rfl rfl (Ze Yz rfl) ?_
  refine Za rfl rfl rfl (Zi Yr rfl (Zgy _) hS hs18 trivial Jw) ?_
  refine Zc 1 rfl ?_
  obtain ⟨r278, hm279, H⟩ := bind_some H
  refine Zo rfl rfl rfl rfl (by kernel_rfl) rfl (c_law23_entryAt r204.1.tuple v263 A206 c207 _ (Zg1 k208 (hS.rd Xr) (hS.rd_blk Xr)) hm279) ?_
  rintro e w ⟨rfl, hN⟩; refine ⟨_, rfl, ?_⟩; obtain ⟨hB, hS⟩ := hS.jn hN
  refine Zc 1 rfl ?_
  refine Za rfl rfl rfl (Z1 rfl rfl) ?_
  refine Za rfl rfl rfl (Z1 rfl rfl) ?_
  refine Yb rfl rfl Zb6 hS (fun b280 w hS hB => ?_)
  refine Zm rfl rfl rfl CellsOf.agg hS ps0 Zft (by kernel_rfl) rfl (fun w hS hB => ?_)
  refine Zc 1 rfl ?_
  refine Zg ?_
  refine Zb hK277 ?_
  refine Zd (fun K hK282 => ?_)
  refine Zf ?_
  refine Za rfl rfl rfl (Zi V7 rfl (Zgy _) hS Xr trivial Zbv) ?_
  refine Za rfl rfl rfl (Zi V7 rfl (Zgy _) hS hs0 trivial Zbv) ?_
  refine Za rfl rfl rfl (yv_neqS (by kernel_rfl) rfl rfl (eqT_56 _ _ _ _ _ _)) ?_
  refine Zg ?_
  refine Zb hK282 ?_
  refine Zz rfl (fun hb => ?_) (fun hb => ?_)
  rotate_left
  ·replace H := Zp H hb
   refine Zt ?_
   refine Z2 ?_
   refine Zb hK271 ?_
   refine Zf ?_
   refine Zc 1 rfl ?_
   refine Za rfl rfl rfl (Xf rfl rfl) ?_
   refine Zc 1 rfl ?_
   refine Zg ?_
   exact Va (n, v262, (IntKind.wrap .i64 (v263 + 1))) (by repeat (first | exact Sub.nil | refine Sub.cons rfl ?_)) ⟨(hS.sub (List.Sublist.cons _ (List.Sublist.cons _ (List.Sublist.cons_cons _ (List.Sublist.cons_cons _ (List.Sublist.cons_cons _ (List.Sublist.cons_cons _ (List.Sublist.cons_cons _ (List.Sublist.cons_cons _ (List.Sublist.cons_cons _ (List.Sublist.cons_cons _ (List.Sublist.cons_cons _ (List.Sublist.cons_cons _ (List.Sublist.cons_cons _ (List.Sublist.cons_cons _ (List.Sublist.cons_cons _ (List.Sublist.cons_cons _ (List.Sublist.cons_cons _ (List.Sublist.cons_cons _ (List.Sublist.cons_cons _ (List.Sublist.cons_cons _ List.Sublist.slnil))))))))))))))))))))), H⟩ (Nat.lt_succ_self _)
  replace H := Zq H hb
  refine Zd (fun K hK283 => ?_)
  refine Zf ?_
  refine Zc 1 rfl ?_
  refine Zg ?_
  refine Zb hK283 ?_
  refine Zk ?_
  refine Zv ?_
  refine Zj ?_
  refine Zj ?_
  refine Zv ?_
  refine Zj ?_
  refine Zl rfl (RV.tmp rfl RV.nil) rfl ?_
  obtain rfl := QJ H
  replace hS := hS.cut 0
  exact ⟨rfl, hS⟩
 replace H := Zq H hb
 refine Zc 1 rfl ?_
 refine Za rfl rfl rfl (Y5 rfl rfl) ?_
 refine Zc 2 rfl ?_
 refine Zg ?_
 refine Zb hK66 ?_
 refine Zz rfl (fun hb => ?_) (fun hb => ?_)
 ·replace H := Zq H hb
  refine Zd (fun K hK70 => ?_)
  refine Zf ?_
  obtain ⟨r71, hm72, H⟩ := bind_some H
  refine Zo rfl rfl rfl rfl (by kernel_rfl) rfl (Vg _ hm72) ?_
  rintro e w ⟨rfl, hN⟩; refine ⟨_, rfl, ?_⟩; obtain ⟨hB, hS⟩ := hS.jn hN
  refine Zc 1 rfl ?_
  refine Zg ?_
  refine Zb hK70 ?_
  refine Zk ?_
  refine Zj ?_
  refine Zl rfl (RV.tmp rfl RV.nil) rfl ?_
  obtain rfl := QJ H
  replace hS := hS.cut 0
  exact ⟨rfl, hS⟩
 replace H := Zp H hb
 refine Zt ?_
 refine Zb hK65 ?_
 refine Zd (fun K hK73 => ?_)
 refine Zf ?_
 refine Za rfl rfl rfl (Ze J4 rfl) ?_
 refine Zm rfl rfl rfl CellsOf.int hS ps0 st7_1 (by kernel_rfl) rfl (fun w hS hB => ?_)
 refine Zg ?_
 refine Zb hK73 ?_
 refine Zd (fun K hK74 => ?_)
 refine Yg 14 [12] (fun i b => (i = 12 → b = b63 ∨ b = b23 ∨ b = b2)) ⟨by kernel_rfl, by kernel_rfl⟩ hS (fun w hS hB => ?_)
 refine Zd8 [⟨11, 13, 30, [.int .i64 0, .int .i64 0, .int .u8 0, .int .i64 0, .int .i64 0, .int .i64 0, .int .i64 0, .int .i64 0, .bool false, .slice none 0 0, .int .i64 0, .int .i64 0, .int .i64 0, .int .i64 0, .int .i64 0, .int .i64 0, .int .i64 0, .bool false, .slice none 0 0, .slice none 0 0, .slice none 0 0, .slice none 0 0]⟩] (.cons rfl Zex rfl rfl rfl .nil) hS (fun hok => ?_)
 dsimp only [List.cons_append, List.nil_append]
 refine Ji [true, true, true, true, true, false, true] [] (fun _ => True) (by decide +kernel) (fun _ h => by cases h) PFC.h (fun X Y tk ht w hS => ?_)
 refine LtK.put rfl rfl rfl (Zs rfl) ?_
 refine LtK.put rfl rfl rfl (Ze Jc rfl) ?_
 refine LtK.put rfl rfl rfl (Zh Z0 rfl (Zg0 _ _) hS hs4 trivial Vo) ?_
 refine LtK.put rfl rfl rfl (Zs rfl) ?_
 refine LtK.put rfl rfl rfl (Zi Yr rfl (Zg0 _ _) hS hs0 trivial Vl) ?_
 refine LtK.put rfl rfl rfl (Zi Vp rfl (Zg0 _ _) hS X0 trivial Xv) ?_
 refine Zds ht hS (by repeat (first | exact App.nil | apply App.cons)) (by repeat (first | exact App.nil | apply App.cons)) ?_
 dsimp only [List.cons_append, List.nil_append]
 refine Zch [false, false, false, false, false, true] 5 hok ⟨by decide, by decide +kernel, by decide, by decide⟩ rfl rfl (fun _ => rfl) (fun _ => rfl) rfl (Ze5 (by decide +kernel)) (fun X Y tk ht w hS => ?_)
 try dsimp only [Zw]
 obtain ⟨r75, hm76, H⟩ := bind_some H
 refine Zo rfl rfl rfl rfl (by kernel_rfl) rfl (Zf9 x1 x0.n x2 (⟨r57.1.snap, r57.1.log, r57.1.term, 0⟩ : Tu) A59 c60 _ (Zg1 k61 (hS.rd Xr) (hS.rd_blk Xr)) hm76) ?_
 rintro e w ⟨A77, c78, A81, c82, A85, c86, A89, c90, A93, c94, rfl, k79, k83, k87, k91, k95, hN⟩; refine ⟨_, rfl, ?_⟩; obtain ⟨hB, hS⟩ := hS.jn hN
 refine Zg ?_
 refine Zcp ht hS hB (by repeat (first | exact App.nil | apply App.cons)) (by repeat (first | exact App.nil | apply App.cons)) ?_
 dsimp only [List.cons_append, List.nil_append]
 refine Zch [false, false, false, false, false, false, false, true] 7 hok ⟨by decide, by decide +kernel, by decide, by decide⟩ rfl rfl (fun _ => rfl) (fun _ => rfl) rfl (Ze5 (by decide +kernel)) (fun X Y tk ht w hS => ?_)
 try dsimp only [Zw]
 obtain ⟨r97, hm98, H⟩ := bind_some H
 refine Zo rfl rfl rfl rfl (by kernel_rfl) rfl (Zgf r75 r17.1 A77 c78 A81 c82 A85 c86 A89 c90 A93 c94 A19 c20 _ (Zg1 k79 (hS.row_rd hs0) (hS.row_blk hs0)) (Zg1 k83 (hS.row_rd Xr) (hS.row_blk Xr)) (Zg1 k87 (hS.row_rd X0) (hS.row_blk X0)) (Zg1 k91 (hS.row_rd hs3) (hS.row_blk hs3)) (Zg1 k95 (hS.row_rd hs4) (hS.row_blk hs4)) (Zg1 k21 (hS.row_rd hs8) (hS.row_blk hs8)) hm98) ?_
 rintro e w ⟨A99, c100, A103, c104, A107, c108, A111, c112, A115, c116, A119, c120, q123, rfl, k101, k105, k109, k113, k117, k121, hq124, okq125, hN⟩; refine ⟨_, rfl, ?_⟩; obtain ⟨hB, hS⟩ := hS.jn hN
 refine Zg ?_
 refine Zcp ht hS hB (by repeat (first | exact App.nil | apply App.cons)) (by repeat (first | exact App.nil | apply App.cons)) ?_
 dsimp only [List.cons_append, List.nil_append]
 refine Ji [false, false, false, false, false, false, false, false, true, true] [] (fun _ => True) (by decide +kernel) (fun _ h => by cases h) PFC.h (fun X Y tk ht w hS => ?_)
 refine LtK.put rfl rfl rfl (Zs rfl) ?_
 refine LtK.put rfl rfl rfl (Z1 rfl rfl) ?_
 refine Zds ht hS (by repeat (first | exact App.nil | apply App.cons)) (by repeat (first | exact App.nil | apply App.cons)) ?_
 dsimp only [List.cons_append, List.nil_append]
 refine Ji [false, false, false, false, false, false, false, false, false, false, true] [12] (fun b => (b = b63 ∨ b = b23 ∨ b = b2)) (by decide +kernel) (by intro j hj b hb; simp only [List.mem_cons, List.not_mem_nil, or_false] at hj; (try rcases hj with rfl | rfl | rfl | rfl | rfl) <;> first | (simp [hb]; done) | simp_all) PFC.h (fun X Y tk ht w hS => ?_)
 refine LtK.put rfl rfl rfl (Z1 rfl rfl) ?_
 refine Zds ht hS (by repeat (first | exact App.nil | apply App.cons)) (by repeat (first | exact App.nil | apply App.cons)) ?_
 dsimp only [List.cons_append, List.nil_append]
 refine Ze8 hok (by decide) (by decide +kernel) (fun _ => rfl) (fun _ => rfl) rfl (fun tk htk w hS => ?_)
 obtain ⟨b127, tkb127, rfl, htk129⟩ := tk_cons htk
 obtain rfl := tk_nil htk129
 dsimp only [tkH, tkL, List.map] at hS ⊢
 refine Yp [false, false, false, false, false, false, false, false, false, false, false, false, true] 12 ⟨by decide, by kernel_rfl, by kernel_rfl⟩ rfl rfl ?_
 try dsimp only [Zw]
 refine Zm rfl rfl rfl CellsOf.agg hS ps17 Yy (by kernel_rfl) rfl (fun w hS hB => ?_)
 refine Zg ?_
 refine Ye (hB.sub (fun b _ h => by have h0 : b = b63 ∨ b = b23 ∨ b = b2 := (by simpa using h); rcases h0 with h0 | h0 | h0; (rw [h0]; exact hS.ne 12 17 rfl rfl rfl); (rw [h0]; exact hS.ne 14 17 rfl rfl rfl); (rw [h0]; exact hS.ne 16 17 rfl rfl rfl))) ?_
 refine Zn [false, false, false, false, false, false, false, false, false, false, false, false, false, true] (by decide +kernel) PFC.h ?_
 refine LtK.put rfl rfl rfl (Zy rfl) ?_
 refine LtK.nil ?_
 refine Z6 (by kernel_rfl) ?_
 refine Zb hK74 ?_
 refine Zd (fun K hK130 => ?_)
 refine Zd (fun K hK131 => ?_)
 refine Yg 33 [] (fun _ _ => True) ⟨by kernel_rfl, by kernel_rfl⟩ hS (fun w hS hB => ?_)
 refine Zn [true, true, true, true] (by decide +kernel) PFC.h ?_
 refine LtK.put rfl rfl rfl (Zs rfl) ?_
 refine LtK.put rfl rfl rfl (Yu Je rfl) ?_
 refine LtK.put rfl rfl rfl (Y5 rfl rfl) ?_
 refine LtK.put rfl rfl rfl (Zs rfl) ?_
 refine LtK.nil ?_
 refine Xl 160 rfl (fun hb => ?_) (fun hb => ?_)
 ·replace H := Zq H hb
  refine Zn [false, false, false, false, true, true, true, true, true, true, true, true, true, true, true, true, true, true, true, true, true, true, true, true, true, true, false, true, true, true, true] (by decide +kernel) PFC.h ?_
  refine LtK.skip rfl rfl rfl ?_
  refine LtK.skip rfl rfl rfl ?_
  refine LtK.skip rfl rfl rfl ?_
  refine LtK.skip rfl rfl rfl ?_
  refine LtK.skip rfl rfl rfl ?_
  refine LtK.put rfl rfl rfl (Z3 rfl rfl rfl) ?_
  refine LtK.put rfl rfl rfl (Zs rfl) ?_
  refine LtK.skip rfl rfl rfl ?_
  refine LtK.skip rfl rfl rfl ?_
  refine LtK.skip rfl rfl rfl ?_
  refine LtK.skip rfl rfl rfl ?_
  refine LtK.skip rfl rfl rfl ?_
  refine LtK.skip rfl rfl rfl ?_
  refine LtK.skip rfl rfl rfl ?_
  refine LtK.skip rfl rfl rfl ?_
  refine LtK.skip rfl rfl rfl ?_
  refine LtK.skip rfl rfl rfl ?_
  refine LtK.skip rfl rfl rfl ?_
  refine LtK.put rfl rfl rfl (Z3 rfl rfl rfl) ?_
  refine LtK.put rfl rfl rfl (Zs rfl) ?_
  refine LtK.skip rfl rfl rfl ?_
  refine LtK.skip rfl rfl rfl ?_
  refine LtK.skip rfl rfl rfl ?_
  refine LtK.skip rfl rfl rfl ?_
  refine LtK.skip rfl rfl rfl ?_
  refine LtK.skip rfl rfl rfl ?_
  refine LtK.nil ?_
  refine Z4 [false, false, false, false, false, false, false, false, false, false, false, false, false, false, false, false, false, false, false, false, false, false, false, false, false, false, true] 26 ⟨by decide, by kernel_rfl, by kernel_rfl⟩ rfl rfl ?_
  try dsimp only [Zw]
  refine Xc rfl rfl rfl ?_
  refine Zg ?_
  refine Z7 (Below.refl _ _) ?_
  refine Zn [false, false, false, false, false, false, false, false, false, false, false, false, false, false, false, false, false, false, false, false, false, false, false, false, false, false, false, false, false, false, false, true, true] (by decide +kernel) PFC.h ?_
  refine LtK.skip rfl rfl rfl ?_
  refine LtK.put rfl rfl rfl (Z3 rfl rfl rfl) ?_
  refine LtK.nil ?_
  refine Z6 (by kernel_rfl) ?_
  refine Zb hK131 ?_
  refine Zr rfl rfl ?_
  refine Zd (fun K hK132 => ?_)
  refine Zf ?_
  refine Zc 1 rfl ?_
  refine Zg ?_
  refine Zb hK132 ?_
  refine Zk ?_
  refine Zj ?_
  refine Zl rfl (RV.tmp rfl RV.nil) rfl ?_
  obtain rfl := QJ H
  replace hS := hS.cut 0
  exact ⟨rfl, hS⟩
 replace H := Zp H hb
 refine Zn [false, false, false, false, true, true, true, true, true, true, true] (by decide +kernel) PFC.h ?_
 refine LtK.put rfl rfl rfl (Zs rfl) ?_
 obtain ⟨e133, hi135, H⟩ := bind_some H
 obtain ⟨j134, A136, c137, hi135a, hi135b, hi135c⟩ := idxQ (q := q123) hq124 hi135
 refine LtK.put rfl rfl rfl (Y8 Je rfl rfl hi135a hi135c (Rd.el (hS.rd hs5) V1 hi135b)) ?_
 refine LtK.put rfl rfl rfl (Vd Zf0 rfl (Rd.el (hS.rd hs5) V1 hi135b)) ?_
 refine LtK.put rfl rfl rfl (yx_ld sc_4 rfl (Zgz _) (Rd.el (hS.rd hs5) V1 hi135b) rfl) ?_
 refine LtK.put rfl rfl rfl (Yt rfl) ?_
 refine LtK.put rfl rfl rfl (Yj rfl rfl rfl) ?_
 refine LtK.put rfl rfl rfl (Zs rfl) ?_
 refine LtK.nil ?_
 refine Xl 167 rfl (fun hb => ?_) (fun hb => ?_)
 ·replace H := Zq H hb
  refine Zn [false, false, false, false, false, false, false, false, false, false, false, true, true, true, true, true, true, true, true, true, true, true, true, true, true, true, false, true, true, true, true] (by decide +kernel) PFC.h ?_
  refine LtK.skip rfl rfl rfl ?_
  refine LtK.skip rfl rfl rfl ?_
  refine LtK.skip rfl rfl rfl ?_
  refine LtK.skip rfl rfl rfl ?_
  refine LtK.skip rfl rfl rfl ?_
  refine LtK.skip rfl rfl rfl ?_
  refine LtK.skip rfl rfl rfl ?_
  refine LtK.skip rfl rfl rfl ?_
  refine LtK.skip rfl rfl rfl ?_
  refine LtK.skip rfl rfl rfl ?_
  refine LtK.skip rfl rfl rfl ?_
  refine LtK.put rfl rfl rfl (Z3 rfl rfl rfl) ?_
  refine LtK.put rfl rfl rfl (Zs rfl) ?_
  refine LtK.skip rfl rfl rfl ?_
  refine LtK.skip rfl rfl rfl ?_
  refine LtK.skip rfl rfl rfl ?_
  refine LtK.skip rfl rfl rfl ?_
  refine LtK.skip rfl rfl rfl ?_
  refine LtK.skip rfl rfl rfl ?_
  refine LtK.nil ?_
  refine Z4 [false, false, false, false, false, false, false, false, false, false, false, false, false, false, false, false, false, false, false, false, false, false, false, false, false, false, true] 26 ⟨by decide, by kernel_rfl, by kernel_rfl⟩ rfl rfl ?_
  try dsimp only [Zw]
  refine Xc rfl rfl rfl ?_
  refine Zg ?_
  refine Z7 (Below.refl _ _) ?_
  refine Zn [false, false, false, false, false, false, false, false, false, false, false, false, false, false, false, false, false, false, false, false, false, false, false, false, false, false, false, false, false, false, false, true, true] (by decide +kernel) PFC.h ?_
  refine LtK.skip rfl rfl rfl ?_
  refine LtK.put rfl rfl rfl (Z3 rfl rfl rfl) ?_
  refine LtK.nil ?_
  refine Z6 (by kernel_rfl) ?_
  refine Zb hK131 ?_
  refine Zr rfl rfl ?_
  refine Zd (fun K hK138 => ?_)
  refine Zf ?_
  refine Zc 1 rfl ?_
  refine Zg ?_
  refine Zb hK138 ?_
  refine Zk ?_
  refine Zj ?_
  refine Zl rfl (RV.tmp rfl RV.nil) rfl ?_
  obtain rfl := QJ H
  replace hS := hS.cut 0
  exact ⟨rfl, hS⟩
 replace H := Zp H hb
 refine Zn [false, false, false, false, false, false, false, false, false, false, false, true, true, true, true, true, true, true, true, true, true, true, true, true] (by decide +kernel) PFC.h ?_
 refine LtK.put rfl rfl rfl (Zs rfl) ?_
 obtain ⟨e139, hi141, H⟩ := bind_some H
 obtain ⟨j140, A142, c143, hi141a, hi141b, hi141c⟩ := idxQ (q := q123) hq124 hi141
 refine LtK.put rfl rfl rfl (Y8 Je rfl rfl hi141a hi141c (Rd.el (hS.rd hs5) V1 hi141b)) ?_
 refine LtK.put rfl rfl rfl (Vd Vx rfl (Rd.el (hS.rd hs5) V1 hi141b)) ?_
 refine LtK.put rfl rfl rfl (yx_ld Z0 rfl (Zgz _) (Rd.el (hS.rd hs5) V1 hi141b) rfl) ?_
 refine LtK.put rfl rfl rfl (Zs rfl) ?_
 refine LtK.put rfl rfl rfl (J0 rfl rfl) ?_
 refine LtK.put rfl rfl rfl (Ze Vc rfl) ?_
 refine LtK.put rfl rfl rfl (Zh Xp rfl (Zgz _) hS Zej trivial Zak) ?_
 refine LtK.put rfl rfl rfl (Yu Y6 rfl) ?_
 refine LtK.put rfl rfl rfl (Xf rfl rfl) ?_
 refine LtK.put rfl rfl rfl (Y5 rfl rfl) ?_
 refine LtK.put rfl rfl rfl (Yj rfl rfl rfl) ?_
 refine LtK.put rfl rfl rfl (Zs rfl) ?_
 refine LtK.nil ?_
 refine Xl 180 rfl (fun hb => ?_) (fun hb => ?_)
 ·replace H := Zq H hb
  refine Zn [false, false, false, false, false, false, false, false, false, false, false, false, false, false, false, false, false, false, false, false, false, false, false, false, true, true, false, true, true, true, true] (by decide +kernel) PFC.h ?_
  refine LtK.skip rfl rfl rfl ?_
  refine LtK.skip rfl rfl rfl ?_
  refine LtK.skip rfl rfl rfl ?_
  refine LtK.skip rfl rfl rfl ?_
  refine LtK.skip rfl rfl rfl ?_
  refine LtK.skip rfl rfl rfl ?_
  refine LtK.nil ?_
  refine Z4 [false, false, false, false, false, false, false, false, false, false, false, false, false, false, false, false, false, false, false, false, false, false, false, false, false, false, true] 26 ⟨by decide, by kernel_rfl, by kernel_rfl⟩ rfl rfl ?_
  try dsimp only [Zw]
  refine Xc rfl rfl rfl ?_
  refine Zg ?_
  refine Z7 (Below.refl _ _) ?_
  refine Zn [false, false, false, false, false, false, false, false, false, false, false, false, false, false, false, false, false, false, false, false, false, false, false, false, false, false, false, false, false, false, false, true, true] (by decide +kernel) PFC.h ?_
  refine LtK.skip rfl rfl rfl ?_
  refine LtK.put rfl rfl rfl (Z3 rfl rfl rfl) ?_
  refine LtK.nil ?_
  refine Z6 (by kernel_rfl) ?_
  refine Zb hK131 ?_
  refine Zr rfl rfl ?_
  refine Zd (fun K hK144 => ?_)
  refine Zf ?_
  refine Zc 1 rfl ?_
  refine Zg ?_
  refine Zb hK144 ?_
  refine Zk ?_
  refine Zj ?_
  refine Zl rfl (RV.tmp rfl RV.nil) rfl ?_
  obtain rfl := QJ H
  replace hS := hS.cut 0
  exact ⟨rfl, hS⟩
 replace H := Zp H hb
 refine Zn [false, false, false, false, false, false, false, false, false, false, false, false, false, false, false, false, false, false, false, false, false, false, false, false, true, true, false, true, true, true, true] (by decide +kernel) PFC.h ?_
 refine LtK.put rfl rfl rfl (Ze Yz rfl) ?_
 refine LtK.put rfl rfl rfl (Zi Yr rfl (Zgz _) hS hs17 trivial Jw) ?_
 refine LtK.put rfl rfl rfl (Zs rfl) ?_
 obtain ⟨e145, hi147, H⟩ := bind_some H
 obtain ⟨j146, A148, c149, hi147a, hi147b, hi147c⟩ := idxQ (q := q123) hq124 hi147
 refine LtK.put rfl rfl rfl (Y8 Je rfl rfl hi147a hi147c (Rd.el (hS.rd hs5) V1 hi147b)) ?_
 refine LtK.put rfl rfl rfl (Vd Vx rfl (Rd.el (hS.rd hs5) V1 hi147b)) ?_
 refine LtK.put rfl rfl rfl (yx_ld Z0 rfl (Zgz _) (Rd.el (hS.rd hs5) V1 hi147b) rfl) ?_
 refine LtK.nil ?_
 refine Z4 [false, false, false, false, false, false, false, false, false, false, false, false, false, false, false, false, false, false, false, false, false, false, false, false, false, false, true] 26 ⟨by decide, by kernel_rfl, by kernel_rfl⟩ rfl rfl ?_
 try dsimp only [Zw]
 obtain ⟨r150, hm151, H⟩ := bind_some H
 refine Zo rfl rfl rfl rfl (by kernel_rfl) rfl (Zag r97.1.tuple A99 c100 _ (Zg1 k101 (hS.rd hs0) (hS.rd_blk hs0)) hm151) ?_
 rintro e w ⟨rfl, hN⟩; refine ⟨_, rfl, ?_⟩; obtain ⟨hB, hS⟩ := hS.jn hN
 refine Zg ?_
 refine Z7 hB ?_
 refine Zn [false, false, false, false, false, false, false, false, false, false, false, false, false, false, false, false, false, false, false, false, false, false, false, false, false, false, false, false, false, false, false, true, true] (by decide +kernel) PFC.h ?_
 refine LtK.put rfl rfl rfl (Y5 rfl rfl) ?_
 refine LtK.put rfl rfl rfl (Yj rfl rfl rfl) ?_
 refine LtK.nil ?_
 refine Z6 (by kernel_rfl) ?_
 refine Zb hK131 ?_
 refine Zz rfl (fun hb => ?_) (fun hb => ?_)
 ·replace H := Zq H hb
  refine Zd (fun K hK152 => ?_)
  refine Zf ?_
  refine Zc 1 rfl ?_
  refine Zg ?_
  refine Zb hK152 ?_
  refine Zk ?_
  refine Zj ?_
  refine Zl rfl (RV.tmp rfl RV.nil) rfl ?_
  obtain rfl := QJ H
  replace hS := hS.cut 0
  exact ⟨rfl, hS⟩
 replace H := Zp H hb
 refine Zt ?_
 refine Zb hK130 ?_
 refine Zd (fun K hK153 => ?_)
 refine Zd (fun K hK154 => ?_)
 refine Zf ?_
 refine Za rfl rfl rfl (Ze Yz rfl) ?_
 refine Za rfl rfl rfl (Ze Xg rfl) ?_
 refine Za rfl rfl rfl (Ze Yi rfl) ?_
 refine Za rfl rfl rfl (Zh Z0 rfl (Zgy _) hS hs16 trivial Zfn) ?_
 refine Za rfl rfl rfl (Xf rfl rfl) ?_
 refine Zc 1 rfl ?_
 refine Zg ?_
 refine Zb hK154 ?_
 refine Yc ?_
 refine V0 (X := Nat × Bool × Int) (fun x => (3, .pointer (some ⟨b2, 0, none⟩)) :: (6, .bool x.2.1) :: (13, .pointer (some ⟨b127, 0, none⟩)) :: (14, .slice A119 r97.2.length c120) :: (15, .int .i64 x.2.2) :: []) (fun x w => St0 All w0 w (.rd A99 (Yf Jv r97.1.tuple.log) :: .row (.slice A103 r97.1.votes.length c104) 4 1 r97.1.votes.length (Yf enO r97.1.votes) :: .row (.slice A107 r97.1.next.length c108) 3 1 r97.1.next.length (Yf V9 r97.1.next) :: .row (.slice A111 r97.1.mtch.length c112) 3 1 r97.1.mtch.length (Yf V9 r97.1.mtch) :: .row (.slice A115 r97.1.caps.length c116) 3 1 r97.1.caps.length (Yf V9 r97.1.caps) :: .rd A119 (Yf enQ q123) :: .rds (q123.map subQ) :: .row (.slice A77 r75.tuple.log.length c78) 56 3 r75.tuple.log.length (Yf Jv r75.tuple.log) :: .row (.slice A81 r75.votes.length c82) 4 1 r75.votes.length (Yf enO r75.votes) :: .row (.slice A85 r75.next.length c86) 3 1 r75.next.length (Yf V9 r75.next) :: .row (.slice A89 r75.mtch.length c90) 3 1 r75.mtch.length (Yf V9 r75.mtch) :: .row (.slice A93 r75.caps.length c94) 3 1 r75.caps.length (Yf V9 r75.caps) :: .box b63 [.int .i64 r57.1.snap.index, .int .i64 r57.1.snap.term, .int .i64 r57.1.snap.sum, .int .i64 r57.1.snap.level, .bool r57.1.snap.final, .slice A59 r57.1.log.length c60, .int .i64 r57.1.term, .int .i64 0] 26 :: .rd A59 (Yf Jv r57.1.log) :: .box b23 [.int .u8 r17.1.kind, .int .i64 r17.1.frm, .int .i64 r17.1.dst, .int .i64 r17.1.term, .int .i64 r17.1.cap, .int .i64 r17.1.last, .int .i64 r17.1.lastTerm, .int .i64 r17.1.commit, .bool r17.1.okk, .slice A19 r17.1.entries.length c20, .int .i64 r17.1.snap.index, .int .i64 r17.1.snap.term, .int .i64 r17.1.snap.sum, .int .i64 r17.1.snap.level, .bool r17.1.snap.final] 36 :: .row (.slice A19 r17.1.entries.length c20) 56 3 r17.1.entries.length (Yf Jv r17.1.entries) :: .box b2 [.int .i64 x0.id, .int .i64 x0.n, .int .u8 x0.role, .int .i64 x0.binary, .int .i64 x0.tuple.snap.index, .int .i64 x0.tuple.snap.term, .int .i64 x0.tuple.snap.sum, .int .i64 x0.tuple.snap.level, .bool x0.tuple.snap.final, .slice A0_ x0.tuple.log.length c0_, .int .i64 x0.tuple.term, .int .i64 x0.tuple.vote, .int .i64 x0.commit, .int .i64 x0.applied.index, .int .i64 x0.applied.term, .int .i64 x0.applied.sum, .int .i64 x0.applied.level, .bool x0.applied.final, .slice A1_ x0.votes.length c1_, .slice A2_ x0.next.length c2_, .slice A3_ x0.mtch.length c3_, .slice A4_ x0.caps.length c4_] 30 :: .box b127 [.int .i64 r97.1.id, .int .i64 r97.1.n, .int .u8 r97.1.role, .int .i64 r97.1.binary, .int .i64 r97.1.tuple.snap.index, .int .i64 r97.1.tuple.snap.term, .int .i64 r97.1.tuple.snap.sum, .int .i64 r97.1.tuple.snap.level, .bool r97.1.tuple.snap.final, .slice A99 r97.1.tuple.log.length c100, .int .i64 r97.1.tuple.term, .int .i64 r97.1.tuple.vote, .int .i64 r97.1.commit, .int .i64 r97.1.applied.index, .int .i64 r97.1.applied.term, .int .i64 r97.1.applied.sum, .int .i64 r97.1.applied.level, .bool r97.1.applied.final, .slice A103 r97.1.votes.length c104, .slice A107 r97.1.next.length c108, .slice A111 r97.1.mtch.length c112, .slice A115 r97.1.caps.length c116] 30 :: []) ∧ Vs x0 r97 x.1 x.2.1 x.2.2 = some r) (fun x => x.1) (Xn, false, (IntKind.wrap .i64 (x0.tuple.snap.index + 1))) (by repeat (first | exact Sub.nil | refine Sub.cons rfl ?_)) ⟨hS, H⟩ ?_
 rintro ⟨n, v155, v156⟩ w ⟨hS, H⟩
 dsimp only at hS H ⊢
 obtain _ | n := n
 ·have H0 : none = some r := H
  cases H0
 rw [Vs] at H
 refine Zd (fun K hK157 => ?_)
 refine Zd (fun K hK158 => ?_)
 refine Zf ?_
 refine Zc 2 rfl ?_
 obtain ⟨e159, hi161, H⟩ := bind_some H
 obtain ⟨j160, A162, c163, hi161a, hi161b, hi161c⟩ := idxQ (q := q123) hq124 hi161
 refine Za rfl rfl rfl (Y8 Je rfl rfl hi161a hi161c (Rd.el (hS.rd hs5) V1 hi161b)) ?_
 refine Za rfl rfl rfl (Vd Vx rfl (Rd.el (hS.rd hs5) V1 hi161b)) ?_
 refine Za rfl rfl rfl (yx_ld Z0 rfl (Zgy _) (Rd.el (hS.rd hs5) V1 hi161b) rfl) ?_
 refine Za rfl rfl rfl (Zah rfl rfl) ?_
 refine Zg ?_
 refine Zb hK158 ?_
 refine Zz rfl (fun hb => ?_) (fun hb => ?_)
 rotate_left
 ·replace H := Zp H hb
  refine Vj ?_
  refine Ya ?_
  refine Ya ?_
  refine Y3 ?_
  refine Zb hK153 ?_
  refine Zd (fun K hK177 => ?_)
  refine Zf ?_
  obtain ⟨r178, hm179, H⟩ := bind_some H
  refine Zo rfl rfl rfl rfl (by kernel_rfl) rfl (Vg _ hm179) ?_
  rintro e w ⟨rfl, hN⟩; refine ⟨_, rfl, ?_⟩; obtain ⟨hB, hS⟩ := hS.jn hN
  refine Zc 1 rfl ?_
  refine Zg ?_
  refine Zb hK177 ?_
  refine Zk ?_
  refine Zl rfl (RV.tmp rfl RV.nil) rfl ?_
  obtain rfl := QJ H
  replace hS := hS.cut 0
  exact ⟨rfl, hS⟩
 replace H := Zq H hb
 refine Zt ?_
 refine Zb hK157 ?_
 refine Zd (fun K hK164 => ?_)
 refine Yc ?_
 refine Zd (fun K hK165 => ?_)
 refine Zf ?_
 refine Za rfl rfl rfl (Ze Yz rfl) ?_
 refine Za rfl rfl rfl (Zi Yr rfl (Zgy _) hS hs16 trivial Jw) ?_
 refine Zc 1 rfl ?_
 obtain ⟨r166, hm167, H⟩ := bind_some H
 refine Zo rfl rfl rfl rfl (by kernel_rfl) rfl (c_ref12_At x0.tuple v156 A0_ c0_ _ (Zg1 s0_.k (hS.rd0 s0_.rd) (hS.blk0 s0_.blk)) hm167) ?_
 rintro e w ⟨rfl, hN⟩; refine ⟨_, rfl, ?_⟩; obtain ⟨hB, hS⟩ := hS.jn hN
 refine Zc 1 rfl ?_
 refine Za rfl rfl rfl (Z1 rfl rfl) ?_
 refine Za rfl rfl rfl (Z1 rfl rfl) ?_
 refine Yb rfl rfl Zb6 hS (fun b168 w hS hB => ?_)
 refine Zm rfl rfl rfl CellsOf.agg hS ps0 Zft (by kernel_rfl) rfl (fun w hS hB => ?_)
 refine Zc 1 rfl ?_
 refine Zg ?_
 refine Zb hK165 ?_
 refine Zd (fun K hK170 => ?_)
 refine Zf ?_
 refine Za rfl rfl rfl (Ze Yz rfl) ?_
 refine Za rfl rfl rfl (Zi Yr rfl (Zgy _) hS hs18 trivial Jw) ?_
 refine Zc 1 rfl ?_
 obtain ⟨r171, hm172, H⟩ := bind_some H
 refine Zo rfl rfl rfl rfl (by kernel_rfl) rfl (c_law23_entryAt r97.1.tuple v156 A99 c100 _ (Zg1 k101 (hS.rd Xr) (hS.rd_blk Xr)) hm172) ?_
 rintro e w ⟨rfl, hN⟩; refine ⟨_, rfl, ?_⟩; obtain ⟨hB, hS⟩ := hS.jn hN
 refine Zc 1 rfl ?_
 refine Za rfl rfl rfl (Z1 rfl rfl) ?_
 refine Za rfl rfl rfl (Z1 rfl rfl) ?_
 refine Yb rfl rfl Zb6 hS (fun b173 w hS hB => ?_)
 refine Zm rfl rfl rfl CellsOf.agg hS ps0 Zft (by kernel_rfl) rfl (fun w hS hB => ?_)
 refine Zc 1 rfl ?_
 refine Zg ?_
 refine Zb hK170 ?_
 refine Zd (fun K hK175 => ?_)
 refine Zf ?_
 refine Za rfl rfl rfl (Zi V7 rfl (Zgy _) hS Xr trivial Zbv) ?_
 refine Za rfl rfl rfl (Zi V7 rfl (Zgy _) hS hs0 trivial Zbv) ?_
 refine Za rfl rfl rfl (yv_neqS (by kernel_rfl) rfl rfl (eqT_56 _ _ _ _ _ _)) ?_
 refine Zg ?_
 refine Zb hK175 ?_
 refine Zz rfl (fun hb => ?_) (fun hb => ?_)
 rotate_left
 ·replace H := Zp H hb
  refine Zt ?_
  refine Z2 ?_
  refine Zb hK164 ?_
  refine Zf ?_
  refine Zc 1 rfl ?_
  refine Za rfl rfl rfl (Xf rfl rfl) ?_
  refine Zc 1 rfl ?_
  refine Zg ?_
  exact Va (n, v155, (IntKind.wrap .i64 (v156 + 1))) (by repeat (first | exact Sub.nil | refine Sub.cons rfl ?_)) ⟨(hS.sub (List.Sublist.cons _ (List.Sublist.cons _ (List.Sublist.cons_cons _ (List.Sublist.cons_cons _ (List.Sublist.cons_cons _ (List.Sublist.cons_cons _ (List.Sublist.cons_cons _ (List.Sublist.cons_cons _ (List.Sublist.cons_cons _ (List.Sublist.cons_cons _ (List.Sublist.cons_cons _ (List.Sublist.cons_cons _ (List.Sublist.cons_cons _ (List.Sublist.cons_cons _ (List.Sublist.cons_cons _ (List.Sublist.cons_cons _ (List.Sublist.cons_cons _ (List.Sublist.cons_cons _ (List.Sublist.cons_cons _ (List.Sublist.cons_cons _ List.Sublist.slnil))))))))))))))))))))), H⟩ (Nat.lt_succ_self _)
 replace H := Zq H hb
 refine Zd (fun K hK176 => ?_)
 refine Zf ?_
 refine Zc 1 rfl ?_
 refine Zg ?_
 refine Zb hK176 ?_
 refine Zk ?_
 refine Zv ?_
 refine Zj ?_
 refine Zj ?_
 refine Zv ?_
 refine Zj ?_
 refine Zl rfl (RV.tmp rfl RV.nil) rfl ?_
 obtain rfl := QJ H
 replace hS := hS.cut 0
 exact ⟨rfl, hS⟩
end Go.Proofs.Ytamjlcaoieliaaa
