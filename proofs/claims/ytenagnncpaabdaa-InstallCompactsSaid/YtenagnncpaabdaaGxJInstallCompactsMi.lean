/- Texts of one claim put together. -/
import Derived.Test.YtenagnncpaabdaaMi4
import Derived.Test.YtenagnncpaabdaaMi5
namespace Go.Proofs.Ytenagnncpaabdaa
open Go Go.RowKit
set_option maxRecDepth 100000
set_option maxHeartbeats 4000000
theorem Zfq (x0 : Co) (A0_ : Option Addr) (c0_ : Nat) (A1_ : Option Addr) (c1_ : Nat) (A2_ : Option Addr) (c2_ : Nat) (A3_ : Option Addr) (c3_ : Nat) (A4_ : Option Addr) (c4_ : Nat) (w0 : World) (s0_ : SlI w0 Jv A0_ c0_ x0.tuple.log) (s1_ : SlI w0 enO A1_ c1_ x0.votes) (s2_ : SlI w0 Vu A2_ c2_ x0.next) (s3_ : SlI w0 Vu A3_ c3_ x0.mtch) (s4_ : SlI w0 Vu A4_ c4_ x0.caps) {r : Bool} (H : Jw x0 = some r) : Calls Try.prog 4 #[.agg #[.int .i64 x0.id, .int .i64 x0.n, .int .u8 x0.role, .int .i64 x0.binary, .int .i64 x0.tuple.snap.index, .int .i64 x0.tuple.snap.term, .int .i64 x0.tuple.snap.sum, .int .i64 x0.tuple.snap.level, .bool x0.tuple.snap.final, .slice A0_ x0.tuple.log.length c0_, .int .i64 x0.tuple.term, .int .i64 x0.tuple.vote, .int .i64 x0.commit, .int .i64 x0.applied.index, .int .i64 x0.applied.term, .int .i64 x0.applied.sum, .int .i64 x0.applied.level, .bool x0.applied.final, .slice A1_ x0.votes.length c1_, .slice A2_ x0.next.length c2_, .slice A3_ x0.mtch.length c3_, .slice A4_ x0.caps.length c4_]] w0 fun e w' => e = .returned (.bool r) ∧ St0 All w0 w' [] := by
 unfold Jw at H
 refine Yl Try.func4 rfl Try.ntmps4 rfl ?_
 have hS := St0.start All w0
 refine Zd (fun K hK1 => ?_)
 refine Zf ?_
 refine Z9 rfl rfl rfl CellsOf.agg hS (fun b2 w hS hB => ?_)
 refine Zb 1 rfl ?_
 refine Zg ?_
 refine Zc hK1 ?_
 refine Zd (fun K hK4 => ?_)
 refine Zd (fun K hK5 => ?_)
 refine Zf ?_
 refine Za rfl rfl rfl (Zj Yp rfl (RW.here _) hS hs0 trivial Yb) ?_
 obtain ⟨r6, hm7, H⟩ := bind_some H
 refine Zr rfl rfl rfl rfl (by kernel_rfl) rfl (Zfh x0 A0_ c0_ A1_ c1_ A2_ c2_ A3_ c3_ A4_ c4_ _ (SlI.of_rd s0_.k (hS.rd0 s0_.rd) (hS.blk0 s0_.blk)) (SlI.of_rd s1_.k (hS.rd0 s1_.rd) (hS.blk0 s1_.blk)) (SlI.of_rd s2_.k (hS.rd0 s2_.rd) (hS.blk0 s2_.blk)) (SlI.of_rd s3_.k (hS.rd0 s3_.rd) (hS.blk0 s3_.blk)) (SlI.of_rd s4_.k (hS.rd0 s4_.rd) (hS.blk0 s4_.blk)) hm7) ?_
 rintro e w ⟨rfl, hN⟩; refine ⟨_, rfl, ?_⟩; have hB := hN.pure; have hS := hS.join hN; clear hN
 refine Zb 1 rfl ?_
 refine Zt 16 rfl (fun hb => ?_) (fun hb => ?_)
 ·replace H := Zq H hb
  refine Zb 11 rfl ?_
  refine Zg ?_
  refine Zc hK5 ?_
  refine Zs rfl rfl ?_
  refine Zd (fun K hK8 => ?_)
  refine Zf ?_
  obtain ⟨r9, hm10, H⟩ := bind_some H
  refine Zr rfl rfl rfl rfl (by kernel_rfl) rfl (Xm _ hm10) ?_
  rintro e w ⟨rfl, hN⟩; refine ⟨_, rfl, ?_⟩; have hB := hN.pure; have hS := hS.join hN; clear hN
  refine Zb 1 rfl ?_
  refine Zg ?_
  refine Zc hK8 ?_
  refine Zk ?_
  refine Zi ?_
  refine Zl rfl (RV.tmp rfl RV.nil) rfl ?_
  obtain rfl := Option.some.inj H
  replace hS := hS.cut 0
  exact ⟨rfl, hS⟩
 replace H := Zp H hb
 refine Za rfl rfl rfl (Zj Yp rfl (RW.here _) hS hs0 trivial Yb) ?_
 obtain ⟨r11, hm12, H⟩ := bind_some H
 refine Zr rfl rfl rfl rfl (by kernel_rfl) rfl (Zd9 x0 A0_ c0_ A1_ c1_ A2_ c2_ A3_ c3_ A4_ c4_ _ (SlI.of_rd s0_.k (hS.rd0 s0_.rd) (hS.blk0 s0_.blk)) (SlI.of_rd s1_.k (hS.rd0 s1_.rd) (hS.blk0 s1_.blk)) (SlI.of_rd s2_.k (hS.rd0 s2_.rd) (hS.blk0 s2_.blk)) (SlI.of_rd s3_.k (hS.rd0 s3_.rd) (hS.blk0 s3_.blk)) (SlI.of_rd s4_.k (hS.rd0 s4_.rd) (hS.blk0 s4_.blk)) hm12) ?_
 rintro e w ⟨rfl, hN⟩; refine ⟨_, rfl, ?_⟩; have hB := hN.pure; have hS := hS.join hN; clear hN
 refine Za rfl rfl rfl (Yt rfl) ?_
 refine Zb 2 rfl ?_
 refine Zt 21 rfl (fun hb => ?_) (fun hb => ?_)
 ·replace H := Zq H hb
  refine Zb 6 rfl ?_
  refine Zg ?_
  refine Zc hK5 ?_
  refine Zs rfl rfl ?_
  refine Zd (fun K hK13 => ?_)
  refine Zf ?_
  obtain ⟨r14, hm15, H⟩ := bind_some H
  refine Zr rfl rfl rfl rfl (by kernel_rfl) rfl (Xm _ hm15) ?_
  rintro e w ⟨rfl, hN⟩; refine ⟨_, rfl, ?_⟩; have hB := hN.pure; have hS := hS.join hN; clear hN
  refine Zb 1 rfl ?_
  refine Zg ?_
  refine Zc hK13 ?_
  refine Zk ?_
  refine Zi ?_
  refine Zl rfl (RV.tmp rfl RV.nil) rfl ?_
  obtain rfl := Option.some.inj H
  replace hS := hS.cut 0
  exact ⟨rfl, hS⟩
 replace H := Zp H hb
 refine Za rfl rfl rfl (Ze Yu rfl) ?_
 refine Za rfl rfl rfl (Ze Yx rfl) ?_
 refine Za rfl rfl rfl (Ze Z5 rfl) ?_
 refine Za rfl rfl rfl (Zh Zx rfl (RW.here _) hS hs0 trivial Zeg) ?_
 refine Za rfl rfl rfl (Xa rfl rfl) ?_
 refine Zb 1 rfl ?_
 refine Zg ?_
 refine Zc hK5 ?_
 refine Z0 rfl (fun hb => ?_) (fun hb => ?_)
 ·replace H := Zq H hb
  refine Zd (fun K hK16 => ?_)
  refine Zf ?_
  obtain ⟨r17, hm18, H⟩ := bind_some H
  refine Zr rfl rfl rfl rfl (by kernel_rfl) rfl (Xm _ hm18) ?_
  rintro e w ⟨rfl, hN⟩; refine ⟨_, rfl, ?_⟩; have hB := hN.pure; have hS := hS.join hN; clear hN
  refine Zb 1 rfl ?_
  refine Zg ?_
  refine Zc hK16 ?_
  refine Zk ?_
  refine Zi ?_
  refine Zl rfl (RV.tmp rfl RV.nil) rfl ?_
  obtain rfl := Option.some.inj H
  replace hS := hS.cut 0
  exact ⟨rfl, hS⟩
 replace H := Zp H hb
 refine Zu ?_
 refine Zc hK4 ?_
 refine Zd (fun K hK19 => ?_)
 refine Zf ?_
 refine Za rfl rfl rfl (Zj Yp rfl (RW.here _) hS hs0 trivial Yb) ?_
 obtain ⟨r20, hm21, H⟩ := bind_some H
 refine Zr rfl rfl rfl rfl (by kernel_rfl) rfl (Zds x0 A0_ c0_ A1_ c1_ A2_ c2_ A3_ c3_ A4_ c4_ _ (SlI.of_rd s0_.k (hS.rd0 s0_.rd) (hS.blk0 s0_.blk)) (SlI.of_rd s1_.k (hS.rd0 s1_.rd) (hS.blk0 s1_.blk)) (SlI.of_rd s2_.k (hS.rd0 s2_.rd) (hS.blk0 s2_.blk)) (SlI.of_rd s3_.k (hS.rd0 s3_.rd) (hS.blk0 s3_.blk)) (SlI.of_rd s4_.k (hS.rd0 s4_.rd) (hS.blk0 s4_.blk)) hm21) ?_
 rintro e w ⟨A22, c23, A26, c27, A30, c31, A34, c35, A38, c39, rfl, k24, k28, k32, k36, k40, hN⟩; refine ⟨_, rfl, ?_⟩; have hB := hN.pure; have hS := hS.join hN; clear hN
 refine Zb 1 rfl ?_
 refine Za rfl rfl rfl (Ya rfl rfl) ?_
 refine Za rfl rfl rfl (Ya rfl rfl) ?_
 refine Z6 rfl rfl Zc0 hS (fun b42 w hS hB => ?_)
 refine Zo rfl rfl rfl CellsOf.agg hS ps0 Xq (by kernel_rfl) rfl (fun w hS hB => ?_)
 refine Zb 1 rfl ?_
 refine Zg ?_
 refine Zc hK19 ?_
 refine Zd (fun K hK44 => ?_)
 refine Zd (fun K hK45 => ?_)
 refine Zf ?_
 refine Zb 1 rfl ?_
 refine Za rfl rfl rfl (Ze Zah rfl) ?_
 refine Za rfl rfl rfl (Zh Zx rfl (RW.here _) hS hs6 trivial Zbs) ?_
 refine Za rfl rfl rfl (Ze Yu rfl) ?_
 refine Za rfl rfl rfl (Ze Yx rfl) ?_
 refine Za rfl rfl rfl (Ze Z5 rfl) ?_
 refine Za rfl rfl rfl (Zh Zx rfl (RW.here _) hS hs6 trivial Zeg) ?_
 refine Za rfl rfl rfl (Xa rfl rfl) ?_
 refine Za rfl rfl rfl (yv_neqB (by kernel_rfl) rfl rfl) ?_
 refine Zg ?_
 refine Zc hK45 ?_
 refine Z0 rfl (fun hb => ?_) (fun hb => ?_)
 ·replace H := Zq H hb
  refine Zd (fun K hK46 => ?_)
  refine Zf ?_
  refine Zb 1 rfl ?_
  refine Zg ?_
  refine Zc hK46 ?_
  refine Zk ?_
  refine Zi ?_
  refine Zl rfl (RV.tmp rfl RV.nil) rfl ?_
  obtain rfl := Option.some.inj H
  replace hS := hS.cut 0
  exact ⟨rfl, hS⟩
 replace H := Zp H hb
 refine Zu ?_
 refine Zc hK44 ?_
 refine Zd (fun K hK47 => ?_)
 refine Zd (fun K hK48 => ?_)
 refine Zf ?_
 refine Zb 1 rfl ?_
 refine Za rfl rfl rfl (Yt rfl) ?_
 refine Zg ?_
 refine Zc hK48 ?_
 refine Z0 rfl (fun hb => ?_) (fun hb => ?_)
 ·replace H := Zq H hb
  refine Zd (fun K hK49 => ?_)
  refine Zf ?_
  refine Za rfl rfl rfl (Zj Yp rfl (RW.here _) hS hs0 trivial Yb) ?_
  refine Za rfl rfl rfl (Zj Yp rfl (RW.here _) hS hs6 trivial Yb) ?_
  obtain ⟨r50, hm51, H⟩ := bind_some H
  refine Zr rfl rfl rfl rfl (by kernel_rfl) rfl (Za6 r20.1 x0 A22 c23 A26 c27 A30 c31 A34 c35 A38 c39 A0_ c0_ A1_ c1_ A2_ c2_ A3_ c3_ A4_ c4_ _ (SlI.of_rd k24 (hS.rd Xt) (hS.rd_blk Xt)) (SlI.of_rd k28 (hS.row_rd Vh) (hS.row_blk Vh)) (SlI.of_rd k32 (hS.row_rd hs3) (hS.row_blk hs3)) (SlI.of_rd k36 (hS.row_rd hs4) (hS.row_blk hs4)) (SlI.of_rd k40 (hS.row_rd hs5) (hS.row_blk hs5)) (SlI.of_rd s0_.k (hS.rd0 s0_.rd) (hS.blk0 s0_.blk)) (SlI.of_rd s1_.k (hS.rd0 s1_.rd) (hS.blk0 s1_.blk)) (SlI.of_rd s2_.k (hS.rd0 s2_.rd) (hS.blk0 s2_.blk)) (SlI.of_rd s3_.k (hS.rd0 s3_.rd) (hS.blk0 s3_.blk)) (SlI.of_rd s4_.k (hS.rd0 s4_.rd) (hS.blk0 s4_.blk)) hm51) ?_
  rintro e w ⟨rfl, hN⟩; refine ⟨_, rfl, ?_⟩; have hB := hN.pure; have hS := hS.join hN; clear hN
  refine Zb 1 rfl ?_
  refine Zt 48 rfl (fun hb => ?_) (fun hb => ?_)
  rotate_left
  ·replace H := Zp H hb
   refine Zb 3 rfl ?_
   refine Zg ?_
   refine Zc hK49 ?_
   refine Zk ?_
   refine Zi ?_
   refine Zl rfl (RV.tmp rfl RV.nil) rfl ?_
   obtain rfl := Option.some.inj H
   replace hS := hS.cut 0
   exact ⟨rfl, hS⟩
  replace H := Zq H hb
  obtain ⟨r52, hm53, H⟩ := bind_some H
  refine Zr rfl rfl rfl rfl (by kernel_rfl) rfl (Xm _ hm53) ?_
  rintro e w ⟨rfl, hN⟩; refine ⟨_, rfl, ?_⟩; have hB := hN.pure; have hS := hS.join hN; clear hN
  refine Zb 2 rfl ?_
  refine Zg ?_
  refine Zc hK49 ?_
  refine Zk ?_
  refine Zi ?_
  refine Zl rfl (RV.tmp rfl RV.nil) rfl ?_
  obtain rfl := Option.some.inj H
  replace hS := hS.cut 0
  exact ⟨rfl, hS⟩
 replace H := Zp H hb
 refine Zu ?_
 refine Zc hK47 ?_
 refine Zd (fun K hK54 => ?_)
 refine Zd (fun K hK55 => ?_)
 refine Yo 59 [] (fun _ _ => True) ⟨by kernel_rfl, by kernel_rfl⟩ hS (fun w hS hB => ?_)
 refine Zm [true] (by decide +kernel) (by repeat (first | exact PF.body | exact PF.round | apply PF.then | apply PF.inBlock | apply PF.jump)) ?_
 refine LtK.put rfl rfl rfl (Zj Yp rfl (RW.below _) hS hs0 trivial Yb) ?_
 refine LtK.nil ?_
 refine Z7 [false, true] 1 ⟨by decide, by kernel_rfl, by kernel_rfl⟩ rfl rfl ?_
 try dsimp only [Z2]
 obtain ⟨r56, hm57, H⟩ := bind_some H
 refine Zr rfl rfl rfl rfl (by kernel_rfl) rfl (Zd9 r20.1 A22 c23 A26 c27 A30 c31 A34 c35 A38 c39 _ (SlI.of_rd k24 (hS.rd Xt) (hS.rd_blk Xt)) (SlI.of_rd k28 (hS.row_rd Vh) (hS.row_blk Vh)) (SlI.of_rd k32 (hS.row_rd hs3) (hS.row_blk hs3)) (SlI.of_rd k36 (hS.row_rd hs4) (hS.row_blk hs4)) (SlI.of_rd k40 (hS.row_rd hs5) (hS.row_blk hs5)) hm57) ?_
 rintro e w ⟨rfl, hN⟩; refine ⟨_, rfl, ?_⟩; have hB := hN.pure; have hS := hS.join hN; clear hN
 refine Zg ?_
 refine Yf hB ?_
 refine Zm [false, false, true, true] (by decide +kernel) (by repeat (first | exact PF.body | exact PF.round | apply PF.then | apply PF.inBlock | apply PF.jump)) ?_
 refine LtK.put rfl rfl rfl (Yt rfl) ?_
 refine LtK.put rfl rfl rfl (Zn rfl) ?_
 refine LtK.nil ?_
 refine Y8 54 rfl (fun hb => ?_) (fun hb => ?_)
 ·replace H := Zq H hb
  refine Zm [false, false, false, false, true, true, true, true, true, true, true, true, true, true, true, true, true, true, true, true, true, true, true, true, true, true, true, true, true, true, true, true, true, true, true, true, true, true, true, true, true, true, true, true, true, true, false, true, true] (by decide +kernel) (by repeat (first | exact PF.body | exact PF.round | apply PF.then | apply PF.inBlock | apply PF.jump)) ?_
  refine LtK.skip rfl rfl rfl ?_
  refine LtK.skip rfl rfl rfl ?_
  refine LtK.skip rfl rfl rfl ?_
  refine LtK.skip rfl rfl rfl ?_
  refine LtK.skip rfl rfl rfl ?_
  refine LtK.put rfl rfl rfl (Zw rfl rfl rfl) ?_
  refine LtK.put rfl rfl rfl (Zn rfl) ?_
  refine LtK.skip rfl rfl rfl ?_
  refine LtK.skip rfl rfl rfl ?_
  refine LtK.skip rfl rfl rfl ?_
  refine LtK.skip rfl rfl rfl ?_
  refine LtK.skip rfl rfl rfl ?_
  refine LtK.put rfl rfl rfl (Zw rfl rfl rfl) ?_
  refine LtK.put rfl rfl rfl (Zn rfl) ?_
  refine LtK.skip rfl rfl rfl ?_
  refine LtK.skip rfl rfl rfl ?_
  refine LtK.skip rfl rfl rfl ?_
  refine LtK.skip rfl rfl rfl ?_
  refine LtK.skip rfl rfl rfl ?_
  refine LtK.skip rfl rfl rfl ?_
  refine LtK.put rfl rfl rfl (Zw rfl rfl rfl) ?_
  refine LtK.put rfl rfl rfl (Zn rfl) ?_
  refine LtK.skip rfl rfl rfl ?_
  refine LtK.skip rfl rfl rfl ?_
  refine LtK.skip rfl rfl rfl ?_
  refine LtK.skip rfl rfl rfl ?_
  refine LtK.skip rfl rfl rfl ?_
  refine LtK.skip rfl rfl rfl ?_
  refine LtK.skip rfl rfl rfl ?_
  refine LtK.put rfl rfl rfl (Zw rfl rfl rfl) ?_
  refine LtK.put rfl rfl rfl (Zn rfl) ?_
  refine LtK.skip rfl rfl rfl ?_
  refine LtK.skip rfl rfl rfl ?_
  refine LtK.skip rfl rfl rfl ?_
  refine LtK.skip rfl rfl rfl ?_
  refine LtK.skip rfl rfl rfl ?_
  refine LtK.skip rfl rfl rfl ?_
  refine LtK.skip rfl rfl rfl ?_
  refine LtK.put rfl rfl rfl (Zw rfl rfl rfl) ?_
  refine LtK.put rfl rfl rfl (Zn rfl) ?_
  refine LtK.skip rfl rfl rfl ?_
  refine LtK.skip rfl rfl rfl ?_
  refine LtK.skip rfl rfl rfl ?_
  refine LtK.skip rfl rfl rfl ?_
  refine LtK.nil ?_
  refine Z7 [false, false, false, false, false, false, false, false, false, false, false, false, false, false, false, false, false, false, false, false, false, false, false, false, false, false, false, false, false, false, false, false, false, false, false, false, false, false, false, false, false, false, false, false, false, false, true] 46 ⟨by decide, by kernel_rfl, by kernel_rfl⟩ rfl rfl ?_
  try dsimp only [Z2]
  refine Yz rfl rfl rfl ?_
  refine Zg ?_
  refine Yf (Below.refl _ _) ?_
  refine Z7 [false, false, false, false, false, false, false, false, false, false, false, false, false, false, false, false, false, false, false, false, false, false, false, false, false, false, false, false, false, false, false, false, false, false, false, false, false, false, false, false, false, false, false, false, false, false, false, false, false, true] 49 ⟨by decide, by kernel_rfl, by kernel_rfl⟩ rfl rfl ?_
  try dsimp only [Z2]
  refine Yz rfl rfl rfl ?_
  refine Zg ?_
  refine Yf (Below.refl _ _) ?_
  refine Zm [false, false, false, false, false, false, false, false, false, false, false, false, false, false, false, false, false, false, false, false, false, false, false, false, false, false, false, false, false, false, false, false, false, false, false, false, false, false, false, false, false, false, false, false, false, false, false, false, false, false, true, true, true, true, true, true, true, true, true] (by decide +kernel) (by repeat (first | exact PF.body | exact PF.round | apply PF.then | apply PF.inBlock | apply PF.jump)) ?_
  refine LtK.skip rfl rfl rfl ?_
  refine LtK.put rfl rfl rfl (Zw rfl rfl rfl) ?_
  refine LtK.put rfl rfl rfl (Zn rfl) ?_
  refine LtK.skip rfl rfl rfl ?_
  refine LtK.skip rfl rfl rfl ?_
  refine LtK.skip rfl rfl rfl ?_
  refine LtK.skip rfl rfl rfl ?_
  refine LtK.skip rfl rfl rfl ?_
  refine LtK.put rfl rfl rfl (Zw rfl rfl rfl) ?_
  refine LtK.nil ?_
  refine Z8 (by kernel_rfl) ?_
  refine Zc hK55 ?_
  refine Zs rfl rfl ?_
  refine Zd (fun K hK58 => ?_)
  refine Zf ?_
  refine Zb 1 rfl ?_
  refine Zg ?_
  refine Zc hK58 ?_
  refine Zk ?_
  refine Zi ?_
  refine Zl rfl (RV.tmp rfl RV.nil) rfl ?_
  obtain rfl := Option.some.inj H
  replace hS := hS.cut 0
  exact ⟨rfl, hS⟩
 replace H := Zp H hb
 refine Zm [false, false, false, false, true, true, true, true, true, true, true] (by decide +kernel) (by repeat (first | exact PF.body | exact PF.round | apply PF.then | apply PF.inBlock | apply PF.jump)) ?_
 refine LtK.put rfl rfl rfl (Ze Zah rfl) ?_
 refine LtK.put rfl rfl rfl (Zh Zx rfl (RW.below _) hS hs0 trivial Zbs) ?_
 refine LtK.put rfl rfl rfl (Ze Zah rfl) ?_
 refine LtK.put rfl rfl rfl (Zh Zx rfl (RW.below _) hS hs6 trivial Zbs) ?_
 refine LtK.put rfl rfl rfl (Xk rfl rfl) ?_
 refine LtK.put rfl rfl rfl (Zz rfl rfl rfl) ?_
 refine LtK.put rfl rfl rfl (Zn rfl) ?_
 refine LtK.nil ?_
 refine Y8 61 rfl (fun hb => ?_) (fun hb => ?_)
 ·replace H := Zq H hb
  refine Zm [false, false, false, false, false, false, false, false, false, false, false, true, true, true, true, true, true, true, true, true, true, true, true, true, true, true, true, true, true, true, true, true, true, true, true, true, true, true, true, true, true, true, true, true, true, true, false, true, true] (by decide +kernel) (by repeat (first | exact PF.body | exact PF.round | apply PF.then | apply PF.inBlock | apply PF.jump)) ?_
  refine LtK.skip rfl rfl rfl ?_
  refine LtK.skip rfl rfl rfl ?_
  refine LtK.skip rfl rfl rfl ?_
  refine LtK.skip rfl rfl rfl ?_
  refine LtK.skip rfl rfl rfl ?_
  refine LtK.put rfl rfl rfl (Zw rfl rfl rfl) ?_
  refine LtK.put rfl rfl rfl (Zn rfl) ?_
  refine LtK.skip rfl rfl rfl ?_
  refine LtK.skip rfl rfl rfl ?_
  refine LtK.skip rfl rfl rfl ?_
  refine LtK.skip rfl rfl rfl ?_
  refine LtK.skip rfl rfl rfl ?_
  refine LtK.skip rfl rfl rfl ?_
  refine LtK.put rfl rfl rfl (Zw rfl rfl rfl) ?_
  refine LtK.put rfl rfl rfl (Zn rfl) ?_
  refine LtK.skip rfl rfl rfl ?_
  refine LtK.skip rfl rfl rfl ?_
  refine LtK.skip rfl rfl rfl ?_
  refine LtK.skip rfl rfl rfl ?_
  refine LtK.skip rfl rfl rfl ?_
  refine LtK.skip rfl rfl rfl ?_
  refine LtK.skip rfl rfl rfl ?_
  refine LtK.put rfl rfl rfl (Zw rfl rfl rfl) ?_
  refine LtK.put rfl rfl rfl (Zn rfl) ?_
  refine LtK.skip rfl rfl rfl ?_
  refine LtK.skip rfl rfl rfl ?_
  refine LtK.skip rfl rfl rfl ?_
  refine LtK.skip rfl rfl rfl ?_
  refine LtK.skip rfl rfl rfl ?_
  refine LtK.skip rfl rfl rfl ?_
  refine LtK.skip rfl rfl rfl ?_
  refine LtK.put rfl rfl rfl (Zw rfl rfl rfl) ?_
  refine LtK.put rfl rfl rfl (Zn rfl) ?_
  refine LtK.skip rfl rfl rfl ?_
  refine LtK.skip rfl rfl rfl ?_
  refine LtK.skip rfl rfl rfl ?_
  refine LtK.skip rfl rfl rfl ?_
  refine LtK.nil ?_
  refine Z7 [false, false, false, false, false, false, false, false, false, false, false, false, false, false, false, false, false, false, false, false, false, false, false, false, false, false, false, false, false, false, false, false, false, false, false, false, false, false, false, false, false, false, false, false, false, false, true] 46 ⟨by decide, by kernel_rfl, by kernel_rfl⟩ rfl rfl ?_
  try dsimp only [Z2]
  refine Yz rfl rfl rfl ?_
  refine Zg ?_
  refine Yf (Below.refl _ _) ?_
  refine Z7 [false, false, false, false, false, false, false, false, false, false, false, false, false, false, false, false, false, false, false, false, false, false, false, false, false, false, false, false, false, false, false, false, false, false, false, false, false, false, false, false, false, false, false, false, false, false, false, false, false, true] 49 ⟨by decide, by kernel_rfl, by kernel_rfl⟩ rfl rfl ?_
  try dsimp only [Z2]
  refine Yz rfl rfl rfl ?_
  refine Zg ?_
  refine Yf (Below.refl _ _) ?_
  refine Zm [false, false, false, false, false, false, false, false, false, false, false, false, false, false, false, false, false, false, false, false, false, false, false, false, false, false, false, false, false, false, false, false, false, false, false, false, false, false, false, false, false, false, false, false, false, false, false, false, false, false, true, true, true, true, true, true, true, true, true] (by decide +kernel) (by repeat (first | exact PF.body | exact PF.round | apply PF.then | apply PF.inBlock | apply PF.jump)) ?_
  refine LtK.skip rfl rfl rfl ?_
  refine LtK.put rfl rfl rfl (Zw rfl rfl rfl) ?_
  refine LtK.put rfl rfl rfl (Zn rfl) ?_
  refine LtK.skip rfl rfl rfl ?_
  refine LtK.skip rfl rfl rfl ?_
  refine LtK.skip rfl rfl rfl ?_
  refine LtK.skip rfl rfl rfl ?_
  refine LtK.skip rfl rfl rfl ?_
  refine LtK.put rfl rfl rfl (Zw rfl rfl rfl) ?_
  refine LtK.nil ?_
  refine Z8 (by kernel_rfl) ?_
  refine Zc hK55 ?_
  refine Zs rfl rfl ?_
  refine Zd (fun K hK59 => ?_)
  refine Zf ?_
  refine Zb 1 rfl ?_
  refine Zg ?_
  refine Zc hK59 ?_
  refine Zk ?_
  refine Zi ?_
  refine Zl rfl (RV.tmp rfl RV.nil) rfl ?_
  obtain rfl := Option.some.inj H
  replace hS := hS.cut 0
  exact ⟨rfl, hS⟩
 replace H := Zp H hb
 refine Zm [false, false, false, false, false, false, false, false, false, false, false, true, true, true, true, true, true, true] (by decide +kernel) (by repeat (first | exact PF.body | exact PF.round | apply PF.then | apply PF.inBlock | apply PF.jump)) ?_
 refine LtK.put rfl rfl rfl (Ze Zdt rfl) ?_
 refine LtK.put rfl rfl rfl (Zj Yn rfl (RW.below _) hS hs0 trivial sg13_5) ?_
 refine LtK.put rfl rfl rfl (Ze Zdt rfl) ?_
 refine LtK.put rfl rfl rfl (Zj Yn rfl (RW.below _) hS hs6 trivial sg13_5) ?_
 refine LtK.put rfl rfl rfl (yv_neqS (by kernel_rfl) rfl rfl (Jg _ _ _ _ _ _ _ _ _ _)) ?_
 refine LtK.put rfl rfl rfl (Zz rfl rfl rfl) ?_
 refine LtK.put rfl rfl rfl (Zn rfl) ?_
 refine LtK.nil ?_
 refine Y8 68 rfl (fun hb => ?_) (fun hb => ?_)
 ·replace H := Zq H hb
  refine Zm [false, false, false, false, false, false, false, false, false, false, false, false, false, false, false, false, false, false, true, true, true, true, true, true, true, true, true, true, true, true, true, true, true, true, true, true, true, true, true, true, true, true, true, true, true, true, false, true, true] (by decide +kernel) (by repeat (first | exact PF.body | exact PF.round | apply PF.then | apply PF.inBlock | apply PF.jump)) ?_
  refine LtK.skip rfl rfl rfl ?_
  refine LtK.skip rfl rfl rfl ?_
  refine LtK.skip rfl rfl rfl ?_
  refine LtK.skip rfl rfl rfl ?_
  refine LtK.skip rfl rfl rfl ?_
  refine LtK.skip rfl rfl rfl ?_
  refine LtK.put rfl rfl rfl (Zw rfl rfl rfl) ?_
  refine LtK.put rfl rfl rfl (Zn rfl) ?_
  refine LtK.skip rfl rfl rfl ?_
  refine LtK.skip rfl rfl rfl ?_
  refine LtK.skip rfl rfl rfl ?_
  refine LtK.skip rfl rfl rfl ?_
  refine LtK.skip rfl rfl rfl ?_
  refine LtK.skip rfl rfl rfl ?_
  refine LtK.skip rfl rfl rfl ?_
  refine LtK.put rfl rfl rfl (Zw rfl rfl rfl) ?_
  refine LtK.put rfl rfl rfl (Zn rfl) ?_
  refine LtK.skip rfl rfl rfl ?_
  refine LtK.skip rfl rfl rfl ?_
  refine LtK.skip rfl rfl rfl ?_
  refine LtK.skip rfl rfl rfl ?_
  refine LtK.skip rfl rfl rfl ?_
  refine LtK.skip rfl rfl rfl ?_
  refine LtK.skip rfl rfl rfl ?_
  refine LtK.put rfl rfl rfl (Zw rfl rfl rfl) ?_
  refine LtK.put rfl rfl rfl (Zn rfl) ?_
  refine LtK.skip rfl rfl rfl ?_
  refine LtK.skip rfl rfl rfl ?_
  refine LtK.skip rfl rfl rfl ?_
  refine LtK.skip rfl rfl rfl ?_
  refine LtK.nil ?_
  refine Z7 [false, false, false, false, false, false, false, false, false, false, false, false, false, false, false, false, false, false, false, false, false, false, false, false, false, false, false, false, false, false, false, false, false, false, false, false, false, false, false, false, false, false, false, false, false, false, true] 46 ⟨by decide, by kernel_rfl, by kernel_rfl⟩ rfl rfl ?_
  try dsimp only [Z2]
  refine Yz rfl rfl rfl ?_
  refine Zg ?_
  refine Yf (Below.refl _ _) ?_
  refine Z7 [false, false, false, false, false, false, false, false, false, false, false, false, false, false, false, false, false, false, false, false, false, false, false, false, false, false, false, false, false, false, false, false, false, false, false, false, false, false, false, false, false, false, false, false, false, false, false, false, false, true] 49 ⟨by decide, by kernel_rfl, by kernel_rfl⟩ rfl rfl ?_
  try dsimp only [Z2]
  refine Yz rfl rfl rfl ?_
  refine Zg ?_
  refine Yf (Below.refl _ _) ?_
  refine Zm [false, false, false, false, false, false, false, false, false, false, false, false, false, false, false, false, false, false, false, false, false, false, false, false, false, false, false, false, false, false, false, false, false, false, false, false, false, false, false, false, false, false, false, false, false, false, false, false, false, false, true, true, true, true, true, true, true, true, true] (by decide +kernel) (by repeat (first | exact PF.body | exact PF.round | apply PF.then | apply PF.inBlock | apply PF.jump)) ?_
  refine LtK.skip rfl rfl rfl ?_
  refine LtK.put rfl rfl rfl (Zw rfl rfl rfl) ?_
  refine LtK.put rfl rfl rfl (Zn rfl) ?_
  refine LtK.skip rfl rfl rfl ?_
  refine LtK.skip rfl rfl rfl ?_
  refine LtK.skip rfl rfl rfl ?_
  refine LtK.skip rfl rfl rfl ?_
  refine LtK.skip rfl rfl rfl ?_
  refine LtK.put rfl rfl rfl (Zw rfl rfl rfl) ?_
  refine LtK.nil ?_
  refine Z8 (by kernel_rfl) ?_
  refine Zc hK55 ?_
  refine Zs rfl rfl ?_
  refine Zd (fun K hK60 => ?_)
  refine Zf ?_
  refine Zb 1 rfl ?_
  refine Zg ?_
  refine Zc hK60 ?_
  refine Zk ?_
  refine Zi ?_
  refine Zl rfl (RV.tmp rfl RV.nil) rfl ?_
  obtain rfl := Option.some.inj H
  replace hS := hS.cut 0
  exact ⟨rfl, hS⟩
 replace H := Zp H hb
 refine Zm [false, false, false, false, false, false, false, false, false, false, false, false, false, false, false, false, false, false, true, true, true, true, true, true, true, true] (by decide +kernel) (by repeat (first | exact PF.body | exact PF.round | apply PF.then | apply PF.inBlock | apply PF.jump)) ?_
 refine LtK.put rfl rfl rfl (Ze Yu rfl) ?_
 refine LtK.put rfl rfl rfl (Ze Yx rfl) ?_
 refine LtK.put rfl rfl rfl (Zj Yn rfl (RW.below _) hS hs0 trivial sg4_5) ?_
 refine LtK.put rfl rfl rfl (Ze Zdt rfl) ?_
 refine LtK.put rfl rfl rfl (Zj Yn rfl (RW.below _) hS hs6 trivial sg13_5) ?_
 refine LtK.put rfl rfl rfl (yv_neqS (by kernel_rfl) rfl rfl (Jg _ _ _ _ _ _ _ _ _ _)) ?_
 refine LtK.put rfl rfl rfl (Zz rfl rfl rfl) ?_
 refine LtK.put rfl rfl rfl (Zn rfl) ?_
 refine LtK.nil ?_
 refine Y8 76 rfl (fun hb => ?_) (fun hb => ?_)
 ·replace H := Zq H hb
  refine Zm [false, false, false, false, false, false, false, false, false, false, false, false, false, false, false, false, false, false, false, false, false, false, false, false, false, false, true, true, true, true, true, true, true, true, true, true, true, true, true, true, true, true, true, true, true, true, false, true, true] (by decide +kernel) (by repeat (first | exact PF.body | exact PF.round | apply PF.then | apply PF.inBlock | apply PF.jump)) ?_
  refine LtK.skip rfl rfl rfl ?_
  refine LtK.skip rfl rfl rfl ?_
  refine LtK.skip rfl rfl rfl ?_
  refine LtK.skip rfl rfl rfl ?_
  refine LtK.skip rfl rfl rfl ?_
  refine LtK.skip rfl rfl rfl ?_
  refine LtK.skip rfl rfl rfl ?_
  refine LtK.put rfl rfl rfl (Zw rfl rfl rfl) ?_
  refine LtK.put rfl rfl rfl (Zn rfl) ?_
  refine LtK.skip rfl rfl rfl ?_
  refine LtK.skip rfl rfl rfl ?_
  refine LtK.skip rfl rfl rfl ?_
  refine LtK.skip rfl rfl rfl ?_
  refine LtK.skip rfl rfl rfl ?_
  refine LtK.skip rfl rfl rfl ?_
  refine LtK.skip rfl rfl rfl ?_
  refine LtK.put rfl rfl rfl (Zw rfl rfl rfl) ?_
  refine LtK.put rfl rfl rfl (Zn rfl) ?_
  refine LtK.skip rfl rfl rfl ?_
  refine LtK.skip rfl rfl rfl ?_
  refine LtK.skip rfl rfl rfl ?_
  refine LtK.skip rfl rfl rfl ?_
  refine LtK.nil ?_
  refine Z7 [false, false, false, false, false, false, false, false, false, false, false, false, false, false, false, false, false, false, false, false, false, false, false, false, false, false, false, false, false, false, false, false, false, false, false, false, false, false, false, false, false, false, false, false, false, false, true] 46 ⟨by decide, by kernel_rfl, by kernel_rfl⟩ rfl rfl ?_
  try dsimp only [Z2]
  refine Yz rfl rfl rfl ?_
  refine Zg ?_
  refine Yf (Below.refl _ _) ?_
  refine Z7 [false, false, false, false, false, false, false, false, false, false, false, false, false, false, false, false, false, false, false, false, false, false, false, false, false, false, false, false, false, false, false, false, false, false, false, false, false, false, false, false, false, false, false, false, false, false, false, false, false, true] 49 ⟨by decide, by kernel_rfl, by kernel_rfl⟩ rfl rfl ?_
  try dsimp only [Z2]
  refine Yz rfl rfl rfl ?_
  refine Zg ?_
  refine Yf (Below.refl _ _) ?_
  refine Zm [false, false, false, false, false, false, false, false, false, false, false, false, false, false, false, false, false, false, false, false, false, false, false, false, false, false, false, false, false, false, false, false, false, false, false, false, false, false, false, false, false, false, false, false, false, false, false, false, false, false, true, true, true, true, true, true, true, true, true] (by decide +kernel) (by repeat (first | exact PF.body | exact PF.round | apply PF.then | apply PF.inBlock | apply PF.jump)) ?_
  refine LtK.skip rfl rfl rfl ?_
  refine LtK.put rfl rfl rfl (Zw rfl rfl rfl) ?_
  refine LtK.put rfl rfl rfl (Zn rfl) ?_
  refine LtK.skip rfl rfl rfl ?_
  refine LtK.skip rfl rfl rfl ?_
  refine LtK.skip rfl rfl rfl ?_
  refine LtK.skip rfl rfl rfl ?_
  refine LtK.skip rfl rfl rfl ?_
  refine LtK.put rfl rfl rfl (Zw rfl rfl rfl) ?_
  refine LtK.nil ?_
  refine Z8 (by kernel_rfl) ?_
  refine Zc hK55 ?_
  refine Zs rfl rfl ?_
  refine Zd (fun K hK61 => ?_)
  refine Zf ?_
  refine Zb 1 rfl ?_
  refine Zg ?_
  refine Zc hK61 ?_
  refine Zk ?_
  refine Zi ?_
  refine Zl rfl (RV.tmp rfl RV.nil) rfl ?_
  obtain rfl := Option.some.inj H
  replace hS := hS.cut 0
  exact ⟨rfl, hS⟩
 replace H := Zp H hb
 refine Zm [false, false, false, false, false, false, false, false, false, false, false, false, false, false, false, false, false, false, false, false, false, false, false, false, false, false, true, true, true, true, true, true, true, true, true] (by decide +kernel) (by repeat (first | exact PF.body | exact PF.round | apply PF.then | apply PF.inBlock | apply PF.jump)) ?_
 refine LtK.put rfl rfl rfl (Ze Yu rfl) ?_
 refine LtK.put rfl rfl rfl (Ze Xs rfl) ?_
 refine LtK.put rfl rfl rfl (Zh Zx rfl (RW.below _) hS hs0 trivial V0) ?_
 refine LtK.put rfl rfl rfl (Ze Yu rfl) ?_
 refine LtK.put rfl rfl rfl (Ze Xs rfl) ?_
 refine LtK.put rfl rfl rfl (Zh Zx rfl (RW.below _) hS hs6 trivial V0) ?_
 refine LtK.put rfl rfl rfl (Xk rfl rfl) ?_
 refine LtK.put rfl rfl rfl (Zz rfl rfl rfl) ?_
 refine LtK.put rfl rfl rfl (Zn rfl) ?_
 refine LtK.nil ?_
 refine Y8 85 rfl (fun hb => ?_) (fun hb => ?_)
 ·replace H := Zq H hb
  refine Zm [false, false, false, false, false, false, false, false, false, false, false, false, false, false, false, false, false, false, false, false, false, false, false, false, false, false, false, false, false, false, false, false, false, false, false, true, true, true, true, true, true, true, true, true, true, true, false, true, true] (by decide +kernel) (by repeat (first | exact PF.body | exact PF.round | apply PF.then | apply PF.inBlock | apply PF.jump)) ?_
  refine LtK.skip rfl rfl rfl ?_
  refine LtK.skip rfl rfl rfl ?_
  refine LtK.skip rfl rfl rfl ?_
  refine LtK.skip rfl rfl rfl ?_
  refine LtK.skip rfl rfl rfl ?_
  refine LtK.skip rfl rfl rfl ?_
  refine LtK.skip rfl rfl rfl ?_
  refine LtK.put rfl rfl rfl (Zw rfl rfl rfl) ?_
  refine LtK.put rfl rfl rfl (Zn rfl) ?_
  refine LtK.skip rfl rfl rfl ?_
  refine LtK.skip rfl rfl rfl ?_
  refine LtK.skip rfl rfl rfl ?_
  refine LtK.skip rfl rfl rfl ?_
  refine LtK.nil ?_
  refine Z7 [false, false, false, false, false, false, false, false, false, false, false, false, false, false, false, false, false, false, false, false, false, false, false, false, false, false, false, false, false, false, false, false, false, false, false, false, false, false, false, false, false, false, false, false, false, false, true] 46 ⟨by decide, by kernel_rfl, by kernel_rfl⟩ rfl rfl ?_
  try dsimp only [Z2]
  refine Yz rfl rfl rfl ?_
  refine Zg ?_
  refine Yf (Below.refl _ _) ?_
  refine Z7 [false, false, false, false, false, false, false, false, false, false, false, false, false, false, false, false, false, false, false, false, false, false, false, false, false, false, false, false, false, false, false, false, false, false, false, false, false, false, false, false, false, false, false, false, false, false, false, false, false, true] 49 ⟨by decide, by kernel_rfl, by kernel_rfl⟩ rfl rfl ?_
  try dsimp only [Z2]
  refine Yz rfl rfl rfl ?_
  refine Zg ?_
  refine Yf (Below.refl _ _) ?_
  refine Zm [false, false, false, false, false, false, false, false, false, false, false, false, false, false, false, false, false, false, false, false, false, false, false, false, false, false, false, false, false, false, false, false, false, false, false, false, false, false, false, false, false, false, false, false, false, false, false, false, false, false, true, true, true, true, true, true, true, true, true] (by decide +kernel) (by repeat (first | exact PF.body | exact PF.round | apply PF.then | apply PF.inBlock | apply PF.jump)) ?_
  refine LtK.skip rfl rfl rfl ?_
  refine LtK.put rfl rfl rfl (Zw rfl rfl rfl) ?_
  refine LtK.put rfl rfl rfl (Zn rfl) ?_
  refine LtK.skip rfl rfl rfl ?_
  refine LtK.skip rfl rfl rfl ?_
  refine LtK.skip rfl rfl rfl ?_
  refine LtK.skip rfl rfl rfl ?_
  refine LtK.skip rfl rfl rfl ?_
  refine LtK.put rfl rfl rfl (Zw rfl rfl rfl) ?_
  refine LtK.nil ?_
  refine Z8 (by kernel_rfl) ?_
  refine Zc hK55 ?_
  refine Zs rfl rfl ?_
  refine Zd (fun K hK62 => ?_)
  refine Zf ?_
  refine Zb 1 rfl ?_
  refine Zg ?_
  refine Zc hK62 ?_
  refine Zk ?_
  refine Zi ?_
  refine Zl rfl (RV.tmp rfl RV.nil) rfl ?_
  obtain rfl := Option.some.inj H
  replace hS := hS.cut 0
  exact ⟨rfl, hS⟩
 replace H := Zp H hb
 refine Zm [false, false, false, false, false, false, false, false, false, false, false, false, false, false, false, false, false, false, false, false, false, false, false, false, false, false, false, false, false, false, false, false, false, false, false, true, true, true, true, true, true, true, true, true] (by decide +kernel) (by repeat (first | exact PF.body | exact PF.round | apply PF.then | apply PF.inBlock | apply PF.jump)) ?_
 refine LtK.put rfl rfl rfl (Ze Yu rfl) ?_
 refine LtK.put rfl rfl rfl (Ze Jy rfl) ?_
 refine LtK.put rfl rfl rfl (Zh Zx rfl (RW.below _) hS hs0 trivial sg11_1) ?_
 refine LtK.put rfl rfl rfl (Ze Yu rfl) ?_
 refine LtK.put rfl rfl rfl (Ze Jy rfl) ?_
 refine LtK.put rfl rfl rfl (Zh Zx rfl (RW.below _) hS hs6 trivial sg11_1) ?_
 refine LtK.put rfl rfl rfl (Xk rfl rfl) ?_
 refine LtK.put rfl rfl rfl (Zz rfl rfl rfl) ?_
 refine LtK.put rfl rfl rfl (Zn rfl) ?_
 refine LtK.nil ?_
 refine Y8 94 rfl (fun hb => ?_) (fun hb => ?_)
 ·replace H := Zq H hb
  refine Zm [false, false, false, false, false, false, false, false, false, false, false, false, false, false, false, false, false, false, false, false, false, false, false, false, false, false, false, false, false, false, false, false, false, false, false, false, false, false, false, false, false, false, false, false, true, true, false, true, true] (by decide +kernel) (by repeat (first | exact PF.body | exact PF.round | apply PF.then | apply PF.inBlock | apply PF.jump)) ?_
  refine LtK.skip rfl rfl rfl ?_
  refine LtK.skip rfl rfl rfl ?_
  refine LtK.skip rfl rfl rfl ?_
  refine LtK.skip rfl rfl rfl ?_
  refine LtK.nil ?_
  refine Z7 [false, false, false, false, false, false, false, false, false, false, false, false, false, false, false, false, false, false, false, false, false, false, false, false, false, false, false, false, false, false, false, false, false, false, false, false, false, false, false, false, false, false, false, false, false, false, true] 46 ⟨by decide, by kernel_rfl, by kernel_rfl⟩ rfl rfl ?_
  try dsimp only [Z2]
  refine Yz rfl rfl rfl ?_
  refine Zg ?_
  refine Yf (Below.refl _ _) ?_
  refine Z7 [false, false, false, false, false, false, false, false, false, false, false, false, false, false, false, false, false, false, false, false, false, false, false, false, false, false, false, false, false, false, false, false, false, false, false, false, false, false, false, false, false, false, false, false, false, false, false, false, false, true] 49 ⟨by decide, by kernel_rfl, by kernel_rfl⟩ rfl rfl ?_
  try dsimp only [Z2]
  refine Yz rfl rfl rfl ?_
  refine Zg ?_
  refine Yf (Below.refl _ _) ?_
  refine Zm [false, false, false, false, false, false, false, false, false, false, false, false, false, false, false, false, false, false, false, false, false, false, false, false, false, false, false, false, false, false, false, false, false, false, false, false, false, false, false, false, false, false, false, false, false, false, false, false, false, false, true, true, true, true, true, true, true, true, true] (by decide +kernel) (by repeat (first | exact PF.body | exact PF.round | apply PF.then | apply PF.inBlock | apply PF.jump)) ?_
  refine LtK.skip rfl rfl rfl ?_
  refine LtK.put rfl rfl rfl (Zw rfl rfl rfl) ?_
  refine LtK.put rfl rfl rfl (Zn rfl) ?_
  refine LtK.skip rfl rfl rfl ?_
  refine LtK.skip rfl rfl rfl ?_
  refine LtK.skip rfl rfl rfl ?_
  refine LtK.skip rfl rfl rfl ?_
  refine LtK.skip rfl rfl rfl ?_
  refine LtK.put rfl rfl rfl (Zw rfl rfl rfl) ?_
  refine LtK.nil ?_
  refine Z8 (by kernel_rfl) ?_
  refine Zc hK55 ?_
  refine Zs rfl rfl ?_
  refine Zd (fun K hK63 => ?_)
  refine Zf ?_
  refine Zb 1 rfl ?_
  refine Zg ?_
  refine Zc hK63 ?_
  refine Zk ?_
  refine Zi ?_
  refine Zl rfl (RV.tmp rfl RV.nil) rfl ?_
  obtain rfl := Option.some.inj H
  replace hS := hS.cut 0
  exact ⟨rfl, hS⟩
 replace H := Zp H hb
 refine Zm [false, false, false, false, false, false, false, false, false, false, false, false, false, false, false, false, false, false, false, false, false, false, false, false, false, false, false, false, false, false, false, false, false, false, false, false, false, false, false, false, false, false, false, false, true, true, false, true, true] (by decide +kernel) (by repeat (first | exact PF.body | exact PF.round | apply PF.then | apply PF.inBlock | apply PF.jump)) ?_
 refine LtK.put rfl rfl rfl (Ze Yu rfl) ?_
 refine LtK.put rfl rfl rfl (Zj Xg rfl (RW.below _) hS hs0 trivial Zbl) ?_
 refine LtK.put rfl rfl rfl (Ze Yu rfl) ?_
 refine LtK.put rfl rfl rfl (Zj Xg rfl (RW.below _) hS hs6 trivial Zbl) ?_
 refine LtK.nil ?_
 refine Z7 [false, false, false, false, false, false, false, false, false, false, false, false, false, false, false, false, false, false, false, false, false, false, false, false, false, false, false, false, false, false, false, false, false, false, false, false, false, false, false, false, false, false, false, false, false, false, true] 46 ⟨by decide, by kernel_rfl, by kernel_rfl⟩ rfl rfl ?_
 try dsimp only [Z2]
 obtain ⟨r64, hm65, H⟩ := bind_some H
 refine Zr rfl rfl rfl rfl (by kernel_rfl) rfl (Za7 r20.1.tuple A22 c23 _ (SlI.of_rd k24 (hS.rd Xt) (hS.rd_blk Xt)) hm65) ?_
 rintro e w ⟨rfl, hN⟩; refine ⟨_, rfl, ?_⟩; have hB := hN.pure; have hS := hS.join hN; clear hN
 refine Zg ?_
 refine Yf hB ?_
 refine Z7 [false, false, false, false, false, false, false, false, false, false, false, false, false, false, false, false, false, false, false, false, false, false, false, false, false, false, false, false, false, false, false, false, false, false, false, false, false, false, false, false, false, false, false, false, false, false, false, false, false, true] 49 ⟨by decide, by kernel_rfl, by kernel_rfl⟩ rfl rfl ?_
 try dsimp only [Z2]
 obtain ⟨r66, hm67, H⟩ := bind_some H
 refine Zr rfl rfl rfl rfl (by kernel_rfl) rfl (Za7 x0.tuple A0_ c0_ _ (SlI.of_rd s0_.k (hS.rd0 s0_.rd) (hS.blk0 s0_.blk)) hm67) ?_
 rintro e w ⟨rfl, hN⟩; refine ⟨_, rfl, ?_⟩; have hB := hN.pure; have hS := hS.join hN; clear hN
 refine Zg ?_
 refine Yf hB ?_
 refine Zm [false, false, false, false, false, false, false, false, false, false, false, false, false, false, false, false, false, false, false, false, false, false, false, false, false, false, false, false, false, false, false, false, false, false, false, false, false, false, false, false, false, false, false, false, false, false, false, false, false, false, true, true, true] (by decide +kernel) (by repeat (first | exact PF.body | exact PF.round | apply PF.then | apply PF.inBlock | apply PF.jump)) ?_
 refine LtK.put rfl rfl rfl (Xk rfl rfl) ?_
 refine LtK.put rfl rfl rfl (Zz rfl rfl rfl) ?_
 refine LtK.put rfl rfl rfl (Zn rfl) ?_
 refine LtK.nil ?_
 refine Y8 103 rfl (fun hb => ?_) (fun hb => ?_)
 ·replace H := Zq H hb
  refine Zm [false, false, false, false, false, false, false, false, false, false, false, false, false, false, false, false, false, false, false, false, false, false, false, false, false, false, false, false, false, false, false, false, false, false, false, false, false, false, false, false, false, false, false, false, false, false, false, false, false, false, false, false, false, true, true, true, true, true, true] (by decide +kernel) (by repeat (first | exact PF.body | exact PF.round | apply PF.then | apply PF.inBlock | apply PF.jump)) ?_
  refine LtK.skip rfl rfl rfl ?_
  refine LtK.skip rfl rfl rfl ?_
  refine LtK.skip rfl rfl rfl ?_
  refine LtK.skip rfl rfl rfl ?_
  refine LtK.skip rfl rfl rfl ?_
  refine LtK.put rfl rfl rfl (Zw rfl rfl rfl) ?_
  refine LtK.nil ?_
  refine Z8 (by kernel_rfl) ?_
  refine Zc hK55 ?_
  refine Zs rfl rfl ?_
  refine Zd (fun K hK68 => ?_)
  refine Zf ?_
  refine Zb 1 rfl ?_
  refine Zg ?_
  refine Zc hK68 ?_
  refine Zk ?_
  refine Zi ?_
  refine Zl rfl (RV.tmp rfl RV.nil) rfl ?_
  obtain rfl := Option.some.inj H
  replace hS := hS.cut 0
  exact ⟨rfl, hS⟩
 replace H := Zp H hb
 refine Zm [false, false, false, false, false, false, false, false, false, false, false, false, false, false, false, false, false, false, false, false, false, false, false, false, false, false, false, false, false, false, false, false, false, false, false, false, false, false, false, false, false, false, false, false, false, false, false, false, false, false, false, false, false, true, true, true, true, true, true] (by decide +kernel) (by repeat (first | exact PF.body | exact PF.round | apply PF.then | apply PF.inBlock | apply PF.jump)) ?_
 refine LtK.put rfl rfl rfl (Ze J6 rfl) ?_
 refine LtK.put rfl rfl rfl (Zh Zai rfl (RW.below _) hS hs0 trivial J9) ?_
 refine LtK.put rfl rfl rfl (Ze J6 rfl) ?_
 refine LtK.put rfl rfl rfl (Zh Zai rfl (RW.below _) hS hs6 trivial J9) ?_
 refine LtK.put rfl rfl rfl (Xk rfl rfl) ?_
 refine LtK.put rfl rfl rfl (Zz rfl rfl rfl) ?_
 refine LtK.nil ?_
 refine Z8 (by kernel_rfl) ?_
 refine Zc hK55 ?_
 refine Z0 rfl (fun hb => ?_) (fun hb => ?_)
 ·replace H := Zq H hb
  refine Zd (fun K hK69 => ?_)
  refine Zf ?_
  refine Zb 1 rfl ?_
  refine Zg ?_
  refine Zc hK69 ?_
  refine Zk ?_
  refine Zi ?_
  refine Zl rfl (RV.tmp rfl RV.nil) rfl ?_
  obtain rfl := Option.some.inj H
  replace hS := hS.cut 0
  exact ⟨rfl, hS⟩
 replace H := Zp H hb
 refine Zu ?_
 refine Zc hK54 ?_
 refine Zd (fun K hK70 => ?_)
 refine Zd (fun K hK71 => ?_)
 refine Zf ?_
 refine Za rfl rfl rfl (Ze Zah rfl) ?_
 refine Za rfl rfl rfl (Zh Zx rfl (RW.here _) hS hs6 trivial Zbs) ?_
 refine Za rfl rfl rfl (X1 rfl rfl) ?_
 refine Zb 1 rfl ?_
 refine Zg ?_
 refine Zc hK71 ?_
 refine Yj ?_
 refine Jq (X := Nat × Bool × Int) (fun x => (1, .pointer (some ⟨b2, 0, none⟩)) :: (2, .bool x.2.1) :: (3, .pointer (some ⟨b42, 0, none⟩)) :: (5, .int .i64 x.2.2) :: []) (fun x w => St0 All w0 w (.box b42 [.int .i64 r20.1.id, .int .i64 r20.1.n, .int .u8 r20.1.role, .int .i64 r20.1.binary, .int .i64 r20.1.tuple.snap.index, .int .i64 r20.1.tuple.snap.term, .int .i64 r20.1.tuple.snap.sum, .int .i64 r20.1.tuple.snap.level, .bool r20.1.tuple.snap.final, .slice A22 r20.1.tuple.log.length c23, .int .i64 r20.1.tuple.term, .int .i64 r20.1.tuple.vote, .int .i64 r20.1.commit, .int .i64 r20.1.applied.index, .int .i64 r20.1.applied.term, .int .i64 r20.1.applied.sum, .int .i64 r20.1.applied.level, .bool r20.1.applied.final, .slice A26 r20.1.votes.length c27, .slice A30 r20.1.next.length c31, .slice A34 r20.1.mtch.length c35, .slice A38 r20.1.caps.length c39] 30 :: .rd A22 (Ym Jv r20.1.tuple.log) :: .row (.slice A26 r20.1.votes.length c27) 4 1 r20.1.votes.length (Ym enO r20.1.votes) :: .row (.slice A30 r20.1.next.length c31) 3 1 r20.1.next.length (Ym Vu r20.1.next) :: .row (.slice A34 r20.1.mtch.length c35) 3 1 r20.1.mtch.length (Ym Vu r20.1.mtch) :: .row (.slice A38 r20.1.caps.length c39) 3 1 r20.1.caps.length (Ym Vu r20.1.caps) :: .box b2 [.int .i64 x0.id, .int .i64 x0.n, .int .u8 x0.role, .int .i64 x0.binary, .int .i64 x0.tuple.snap.index, .int .i64 x0.tuple.snap.term, .int .i64 x0.tuple.snap.sum, .int .i64 x0.tuple.snap.level, .bool x0.tuple.snap.final, .slice A0_ x0.tuple.log.length c0_, .int .i64 x0.tuple.term, .int .i64 x0.tuple.vote, .int .i64 x0.commit, .int .i64 x0.applied.index, .int .i64 x0.applied.term, .int .i64 x0.applied.sum, .int .i64 x0.applied.level, .bool x0.applied.final, .slice A1_ x0.votes.length c1_, .slice A2_ x0.next.length c2_, .slice A3_ x0.mtch.length c3_, .slice A4_ x0.caps.length c4_] 30 :: []) ∧ Xu x0 r20 x.1 x.2.1 x.2.2 = some r) (fun x => x.1) (X6, false, (IntKind.wrap .i64 (x0.commit + 1))) (by repeat (first | exact Sub.nil | refine Sub.cons rfl ?_)) ⟨hS, H⟩ ?_
 rintro ⟨n, v72, v73⟩ w ⟨hS, H⟩
 dsimp only at hS H ⊢
 obtain _ | n := n
 ·have H0 : none = some r := H
  cases H0
 rw [Xu] at H
 refine Zd (fun K hK74 => ?_)
 refine Zd (fun K hK75 => ?_)
 refine Zf ?_
 refine Zb 1 rfl ?_
 refine Za rfl rfl rfl (Ze Yu rfl) ?_
 refine Za rfl rfl rfl (Zj Xg rfl (RW.here _) hS hs6 trivial Zbl) ?_
 obtain ⟨r76, hm77, H⟩ := bind_some H
 refine Zr rfl rfl rfl rfl (by kernel_rfl) rfl (Za7 x0.tuple A0_ c0_ _ (SlI.of_rd s0_.k (hS.rd0 s0_.rd) (hS.blk0 s0_.blk)) hm77) ?_
 rintro e w ⟨rfl, hN⟩; refine ⟨_, rfl, ?_⟩; have hB := hN.pure; have hS := hS.join hN; clear hN
 refine Za rfl rfl rfl (Za1 rfl rfl) ?_
 refine Zg ?_
 refine Zc hK75 ?_
 refine Z0 rfl (fun hb => ?_) (fun hb => ?_)
 ·replace H := Zq H hb
  refine Zu ?_
  refine Zc hK74 ?_
  refine Zd (fun K hK78 => ?_)
  refine Yj ?_
  refine Zd (fun K hK79 => ?_)
  refine Zf ?_
  refine Za rfl rfl rfl (Ze Yu rfl) ?_
  refine Za rfl rfl rfl (Zj Xg rfl (RW.here _) hS hs6 trivial Zbl) ?_
  refine Zb 1 rfl ?_
  obtain ⟨r80, hm81, H⟩ := bind_some H
  refine Zr rfl rfl rfl rfl (by kernel_rfl) rfl (c_ref12_At x0.tuple v73 A0_ c0_ _ (SlI.of_rd s0_.k (hS.rd0 s0_.rd) (hS.blk0 s0_.blk)) hm81) ?_
  rintro e w ⟨rfl, hN⟩; refine ⟨_, rfl, ?_⟩; have hB := hN.pure; have hS := hS.join hN; clear hN
  refine Zb 1 rfl ?_
  refine Za rfl rfl rfl (Ya rfl rfl) ?_
  refine Za rfl rfl rfl (Ya rfl rfl) ?_
  refine Z6 rfl rfl Zb6 hS (fun b82 w hS hB => ?_)
  refine Zo rfl rfl rfl CellsOf.agg hS ps0 st0_3 (by kernel_rfl) rfl (fun w hS hB => ?_)
  refine Zb 1 rfl ?_
  refine Zg ?_
  refine Zc hK79 ?_
  refine Zd (fun K hK84 => ?_)
  refine Zf ?_
  refine Za rfl rfl rfl (Ze Yu rfl) ?_
  refine Za rfl rfl rfl (Zj Xg rfl (RW.here _) hS Xt trivial Zbl) ?_
  refine Zb 1 rfl ?_
  obtain ⟨r85, hm86, H⟩ := bind_some H
  refine Zr rfl rfl rfl rfl (by kernel_rfl) rfl (c_ref12_At r20.1.tuple v73 A22 c23 _ (SlI.of_rd k24 (hS.rd Vh) (hS.rd_blk Vh)) hm86) ?_
  rintro e w ⟨rfl, hN⟩; refine ⟨_, rfl, ?_⟩; have hB := hN.pure; have hS := hS.join hN; clear hN
  refine Zb 1 rfl ?_
  refine Za rfl rfl rfl (Ya rfl rfl) ?_
  refine Za rfl rfl rfl (Ya rfl rfl) ?_
  refine Z6 rfl rfl Zb6 hS (fun b87 w hS hB => ?_)
  refine Zo rfl rfl rfl CellsOf.agg hS ps0 st0_3 (by kernel_rfl) rfl (fun w hS hB => ?_)
  refine Zb 1 rfl ?_
  refine Zg ?_
  refine Zc hK84 ?_
  refine Zd (fun K hK89 => ?_)
  refine Zf ?_
  refine Za rfl rfl rfl (Zj V3 rfl (RW.here _) hS Xt trivial Zcl) ?_
  refine Za rfl rfl rfl (Zj V3 rfl (RW.here _) hS hs0 trivial Zcl) ?_
  refine Za rfl rfl rfl (yv_neqS (by kernel_rfl) rfl rfl (eqT_46 _ _ _ _ _ _)) ?_
  refine Zg ?_
  refine Zc hK89 ?_
  refine Z0 rfl (fun hb => ?_) (fun hb => ?_)
  rotate_left
  ·replace H := Zp H hb
   refine Zu ?_
   refine Z1 ?_
   refine Zc hK78 ?_
   refine Zf ?_
   refine Zb 1 rfl ?_
   refine Za rfl rfl rfl (X1 rfl rfl) ?_
   refine Zb 1 rfl ?_
   refine Zg ?_
   exact Vp (n, v72, (IntKind.wrap .i64 (v73 + 1))) (by repeat (first | exact Sub.nil | refine Sub.cons rfl ?_)) ⟨(hS.sub (List.Sublist.cons _ (List.Sublist.cons _ (List.Sublist.cons_cons _ (List.Sublist.cons_cons _ (List.Sublist.cons_cons _ (List.Sublist.cons_cons _ (List.Sublist.cons_cons _ (List.Sublist.cons_cons _ (List.Sublist.cons_cons _ List.Sublist.slnil)))))))))), H⟩ (Nat.lt_succ_self _)
  replace H := Zq H hb
  refine Zd (fun K hK90 => ?_)
  refine Zf ?_
  refine Zb 1 rfl ?_
  refine Zg ?_
  refine Zc hK90 ?_
  refine Zk ?_
  refine Zv ?_
  refine Zi ?_
  refine Zi ?_
  refine Zv ?_
  refine Zi ?_
  refine Zl rfl (RV.tmp rfl RV.nil) rfl ?_
  obtain rfl := Option.some.inj H
  replace hS := hS.cut 0
  exact ⟨rfl, hS⟩
 replace H := Zp H hb
 refine Vo ?_
 refine Ye ?_
 refine Ye ?_
 refine Xf ?_
 refine Zc hK70 ?_
 refine Zd (fun K hK91 => ?_)
 refine Zf ?_
 refine Za rfl rfl rfl (Zj Yp rfl (RW.here _) hS hs0 trivial Yb) ?_
 obtain ⟨r92, hm93, H⟩ := bind_some H
 refine Zr rfl rfl rfl rfl (by kernel_rfl) rfl (Zds r20.1 A22 c23 A26 c27 A30 c31 A34 c35 A38 c39 _ (SlI.of_rd k24 (hS.rd Xt) (hS.rd_blk Xt)) (SlI.of_rd k28 (hS.row_rd Vh) (hS.row_blk Vh)) (SlI.of_rd k32 (hS.row_rd hs3) (hS.row_blk hs3)) (SlI.of_rd k36 (hS.row_rd hs4) (hS.row_blk hs4)) (SlI.of_rd k40 (hS.row_rd hs5) (hS.row_blk hs5)) hm93) ?_
 rintro e w ⟨A94, c95, A98, c99, A102, c103, A106, c107, A110, c111, rfl, k96, k100, k104, k108, k112, hN⟩; refine ⟨_, rfl, ?_⟩; have hB := hN.pure; have hS := hS.join hN; clear hN
 refine Zb 1 rfl ?_
 refine Za rfl rfl rfl (Ya rfl rfl) ?_
 refine Za rfl rfl rfl (Ya rfl rfl) ?_
 refine Z6 rfl rfl Zc0 hS (fun b114 w hS hB => ?_)
 refine Zo rfl rfl rfl CellsOf.agg hS ps0 Xq (by kernel_rfl) rfl (fun w hS hB => ?_)
 refine Zb 1 rfl ?_
 refine Zg ?_
 refine Zc hK91 ?_
 refine Zd (fun K hK116 => ?_)
 refine Zf ?_
 refine Za rfl rfl rfl (Ze Yu rfl) ?_
 refine Za rfl rfl rfl (Zj Xg rfl (RW.here _) hS hs6 trivial Zbl) ?_
 refine Za rfl rfl rfl (Ze Zah rfl) ?_
 refine Za rfl rfl rfl (Zh Zx rfl (RW.here _) hS hs12 trivial Zbs) ?_
 obtain ⟨r117, hm118, H⟩ := bind_some H
 refine Zr rfl rfl rfl rfl (by kernel_rfl) rfl (c_ref12_At r20.1.tuple x0.commit A22 c23 _ (SlI.of_rd k24 (hS.rd hs7) (hS.rd_blk hs7)) hm118) ?_
 rintro e w ⟨rfl, hN⟩; refine ⟨_, rfl, ?_⟩; have hB := hN.pure; have hS := hS.join hN; clear hN
 refine Zb 1 rfl ?_
 refine Za rfl rfl rfl (Ya rfl rfl) ?_
 refine Za rfl rfl rfl (Ya rfl rfl) ?_
 refine Z6 rfl rfl Zb6 hS (fun b119 w hS hB => ?_)
 refine Zo rfl rfl rfl CellsOf.agg hS ps0 st0_3 (by kernel_rfl) rfl (fun w hS hB => ?_)
 refine Zb 1 rfl ?_
 refine Zg ?_
 refine Zc hK116 ?_
 refine Zd (fun K hK121 => ?_)
 refine Zf ?_
 refine Zb 1 rfl ?_
 refine Za rfl rfl rfl (Yt rfl) ?_
 refine Zb 1 rfl ?_
 refine Zt 152 rfl (fun hb => ?_) (fun hb => ?_)
 rotate_left
 ·replace H := Zp H hb
  refine Zb 7 rfl ?_
  refine Zg ?_
  refine Zc hK121 ?_
  refine Zk ?_
  refine Zl rfl (RV.tmp rfl RV.nil) rfl ?_
  obtain rfl := Option.some.inj H
  replace hS := hS.cut 0
  exact ⟨rfl, hS⟩
 replace H := Zq H hb
 refine Zb 1 rfl ?_
 refine Za rfl rfl rfl (Yt rfl) ?_
 refine Zb 2 rfl ?_
 refine Zt 156 rfl (fun hb => ?_) (fun hb => ?_)
 rotate_left
 ·replace H := Zp H hb
  refine Zb 3 rfl ?_
  refine Zg ?_
  refine Zc hK121 ?_
  refine Zk ?_
  refine Zl rfl (RV.tmp rfl RV.nil) rfl ?_
  obtain rfl := Option.some.inj H
  replace hS := hS.cut 0
  exact ⟨rfl, hS⟩
 replace H := Zq H hb
 obtain ⟨r122, hm123, H⟩ := bind_some H
 refine Zr rfl rfl rfl rfl (by kernel_rfl) rfl (Xm _ hm123) ?_
 rintro e w ⟨rfl, hN⟩; refine ⟨_, rfl, ?_⟩; have hB := hN.pure; have hS := hS.join hN; clear hN
 refine Zb 2 rfl ?_
 refine Zg ?_
 refine Zc hK121 ?_
 refine Zk ?_
 refine Zl rfl (RV.tmp rfl RV.nil) rfl ?_
 obtain rfl := Option.some.inj H
 replace hS := hS.cut 0
 exact ⟨rfl, hS⟩
end Go.Proofs.Ytenagnncpaabdaa
