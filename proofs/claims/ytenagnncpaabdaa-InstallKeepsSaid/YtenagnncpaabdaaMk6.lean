/- Texts of one claim put together. -/
import Derived.Test.YtenagnncpaabdaaMk4
import Derived.Test.YtenagnncpaabdaaMk5
import Derived.Test.YtenagnncpaabdaaMk2
namespace Go.Proofs.Ytenagnncpaabdaa
open Go Go.RowKit
set_option maxRecDepth 100000
set_option maxHeartbeats 4000000
theorem c_law25_InstallKeeps (x0 : Co) (x1 : Ms) (A0_ : Option Addr) (c0_ : Nat) (A1_ : Option Addr) (c1_ : Nat) (A2_ : Option Addr) (c2_ : Nat) (A3_ : Option Addr) (c3_ : Nat) (A4_ : Option Addr) (c4_ : Nat) (A5_ : Option Addr) (c5_ : Nat) (w0 : World) (s0_ : SlI w0 Ja A0_ c0_ x0.tuple.log) (s1_ : SlI w0 enO A1_ c1_ x0.votes) (s2_ : SlI w0 Vp A2_ c2_ x0.next) (s3_ : SlI w0 Vp A3_ c3_ x0.mtch) (s4_ : SlI w0 Vp A4_ c4_ x0.caps) (s5_ : SlI w0 Ja A5_ c5_ x1.entries) {r : Bool} (H : Zag x0 x1 = some r) : Calls Try.prog 3 #[.agg #[.int .i64 x0.id, .int .i64 x0.n, .int .u8 x0.role, .int .i64 x0.binary, .int .i64 x0.tuple.snap.index, .int .i64 x0.tuple.snap.term, .int .i64 x0.tuple.snap.sum, .int .i64 x0.tuple.snap.level, .bool x0.tuple.snap.final, .slice A0_ x0.tuple.log.length c0_, .int .i64 x0.tuple.term, .int .i64 x0.tuple.vote, .int .i64 x0.commit, .int .i64 x0.applied.index, .int .i64 x0.applied.term, .int .i64 x0.applied.sum, .int .i64 x0.applied.level, .bool x0.applied.final, .slice A1_ x0.votes.length c1_, .slice A2_ x0.next.length c2_, .slice A3_ x0.mtch.length c3_, .slice A4_ x0.caps.length c4_], .agg #[.int .u8 x1.kind, .int .i64 x1.frm, .int .i64 x1.dst, .int .i64 x1.term, .int .i64 x1.cap, .int .i64 x1.last, .int .i64 x1.lastTerm, .int .i64 x1.commit, .bool x1.okk, .slice A5_ x1.entries.length c5_, .int .i64 x1.snap.index, .int .i64 x1.snap.term, .int .i64 x1.snap.sum, .int .i64 x1.snap.level, .bool x1.snap.final]] w0 fun e w' => e = .returned (.bool r) ∧ St0 All w0 w' [] := by
 unfold Zag at H
 refine Yz Try.func3 rfl Try.ntmps3 rfl ?_
 have hS := St0.start All w0
 refine Ze (fun K hK1 => ?_)
 refine Zf ?_
 refine Yc rfl rfl rfl CellsOf.agg hS (fun b2 w hS hB => ?_)
 refine Yc rfl rfl rfl CellsOf.agg hS (fun b4 w hS hB => ?_)
 refine Zb 1 rfl ?_
 refine Zg ?_
 refine Zc hK1 ?_
 refine Ze (fun K hK6 => ?_)
 refine Ze (fun K hK7 => ?_)
 refine Zf ?_
 refine Za rfl rfl rfl (Zi Y3 rfl (RW.here _) hS Xu trivial Yl) ?_
 refine Za rfl rfl rfl (Zi Vd rfl (RW.here _) hS hs0 trivial Xn) ?_
 obtain ⟨r8, hm9, H⟩ := bind_some H
 refine Zp rfl rfl rfl rfl (by kernel_rfl) rfl (c_law25_great x0 x1 A0_ c0_ A1_ c1_ A2_ c2_ A3_ c3_ A4_ c4_ A5_ c5_ _ (SlI.of_rd s0_.k (hS.rd0 s0_.rd) (hS.blk0 s0_.blk)) (SlI.of_rd s1_.k (hS.rd0 s1_.rd) (hS.blk0 s1_.blk)) (SlI.of_rd s2_.k (hS.rd0 s2_.rd) (hS.blk0 s2_.blk)) (SlI.of_rd s3_.k (hS.rd0 s3_.rd) (hS.blk0 s3_.blk)) (SlI.of_rd s4_.k (hS.rd0 s4_.rd) (hS.blk0 s4_.blk)) (SlI.of_rd s5_.k (hS.rd0 s5_.rd) (hS.blk0 s5_.blk)) hm9) ?_
 rintro e w ⟨rfl, hN⟩; refine ⟨_, rfl, ?_⟩; have hB := hN.pure; have hS := hS.join hN; clear hN
 refine Zb 1 rfl ?_
 refine Zs 19 rfl (fun hb => ?_) (fun hb => ?_)
 ·replace H := Zo H hb
  refine Zb 4 rfl ?_
  refine Zg ?_
  refine Zc hK7 ?_
  refine Zr rfl rfl ?_
  refine Ze (fun K hK10 => ?_)
  refine Zf ?_
  obtain ⟨r11, hm12, H⟩ := bind_some H
  refine Zp rfl rfl rfl rfl (by kernel_rfl) rfl (Xk _ hm12) ?_
  rintro e w ⟨rfl, hN⟩; refine ⟨_, rfl, ?_⟩; have hB := hN.pure; have hS := hS.join hN; clear hN
  refine Zb 1 rfl ?_
  refine Zg ?_
  refine Zc hK10 ?_
  refine Zk ?_
  refine Zj ?_
  refine Zl rfl (RV.tmp rfl RV.nil) rfl ?_
  obtain rfl := Option.some.inj H
  replace hS := hS.cut 0
  exact ⟨rfl, hS⟩
 replace H := Zn H hb
 refine Za rfl rfl rfl (Zi Y3 rfl (RW.here _) hS Xu trivial Yl) ?_
 obtain ⟨r13, hm14, H⟩ := bind_some H
 refine Zp rfl rfl rfl rfl (by kernel_rfl) rfl (c_ref20_Right x0 A0_ c0_ A1_ c1_ A2_ c2_ A3_ c3_ A4_ c4_ _ (SlI.of_rd s0_.k (hS.rd0 s0_.rd) (hS.blk0 s0_.blk)) (SlI.of_rd s1_.k (hS.rd0 s1_.rd) (hS.blk0 s1_.blk)) (SlI.of_rd s2_.k (hS.rd0 s2_.rd) (hS.blk0 s2_.blk)) (SlI.of_rd s3_.k (hS.rd0 s3_.rd) (hS.blk0 s3_.blk)) (SlI.of_rd s4_.k (hS.rd0 s4_.rd) (hS.blk0 s4_.blk)) hm14) ?_
 rintro e w ⟨rfl, hN⟩; refine ⟨_, rfl, ?_⟩; have hB := hN.pure; have hS := hS.join hN; clear hN
 refine Za rfl rfl rfl (Yq rfl) ?_
 refine Zb 1 rfl ?_
 refine Zg ?_
 refine Zc hK7 ?_
 refine Zz rfl (fun hb => ?_) (fun hb => ?_)
 ·replace H := Zo H hb
  refine Ze (fun K hK15 => ?_)
  refine Zf ?_
  obtain ⟨r16, hm17, H⟩ := bind_some H
  refine Zp rfl rfl rfl rfl (by kernel_rfl) rfl (Xk _ hm17) ?_
  rintro e w ⟨rfl, hN⟩; refine ⟨_, rfl, ?_⟩; have hB := hN.pure; have hS := hS.join hN; clear hN
  refine Zb 1 rfl ?_
  refine Zg ?_
  refine Zc hK15 ?_
  refine Zk ?_
  refine Zj ?_
  refine Zl rfl (RV.tmp rfl RV.nil) rfl ?_
  obtain rfl := Option.some.inj H
  replace hS := hS.cut 0
  exact ⟨rfl, hS⟩
 replace H := Zn H hb
 refine Zu ?_
 refine Zc hK6 ?_
 refine Ze (fun K hK18 => ?_)
 refine Zf ?_
 refine Za rfl rfl rfl (Zi Y3 rfl (RW.here _) hS Xu trivial Yl) ?_
 refine Za rfl rfl rfl (Zi Vd rfl (RW.here _) hS hs0 trivial Xn) ?_
 obtain ⟨r19, hm20, H⟩ := bind_some H
 refine Zp rfl rfl rfl rfl (by kernel_rfl) rfl (Zaw x0 x1 A0_ c0_ A1_ c1_ A2_ c2_ A3_ c3_ A4_ c4_ A5_ c5_ _ (SlI.of_rd s0_.k (hS.rd0 s0_.rd) (hS.blk0 s0_.blk)) (SlI.of_rd s1_.k (hS.rd0 s1_.rd) (hS.blk0 s1_.blk)) (SlI.of_rd s2_.k (hS.rd0 s2_.rd) (hS.blk0 s2_.blk)) (SlI.of_rd s3_.k (hS.rd0 s3_.rd) (hS.blk0 s3_.blk)) (SlI.of_rd s4_.k (hS.rd0 s4_.rd) (hS.blk0 s4_.blk)) (SlI.of_rd s5_.k (hS.rd0 s5_.rd) (hS.blk0 s5_.blk)) hm20) ?_
 rintro e w ⟨A21, c22, A25, c26, A29, c30, A33, c34, A37, c38, A41, c42, q45, rfl, k23, k27, k31, k35, k39, k43, hq46, okq47, hN⟩; refine ⟨_, rfl, ?_⟩; have hB := hN.pure; have hS := hS.join hN; clear hN
 refine Zb 1 rfl ?_
 refine Za rfl rfl rfl (Z4 rfl rfl) ?_
 refine Za rfl rfl rfl (Z4 rfl rfl) ?_
 refine Z9 rfl rfl Zdd hS (fun b49 w hS hB => ?_)
 refine Zq rfl rfl rfl CellsOf.agg hS ps0 Xt (by kernel_rfl) rfl (fun w hS hB => ?_)
 refine Zb 1 rfl ?_
 refine Zg ?_
 refine Zc hK18 ?_
 refine Ze (fun K hK51 => ?_)
 refine Ze (fun K hK52 => ?_)
 refine Zf ?_
 refine Za rfl rfl rfl (Zi Y3 rfl (RW.here _) hS hs0 trivial Yl) ?_
 obtain ⟨r53, hm54, H⟩ := bind_some H
 refine Zp rfl rfl rfl rfl (by kernel_rfl) rfl (c_ref20_Right r19.1 A21 c22 A25 c26 A29 c30 A33 c34 A37 c38 _ (SlI.of_rd k23 (hS.rd Xu) (hS.rd_blk Xu)) (SlI.of_rd k27 (hS.row_rd Vu) (hS.row_blk Vu)) (SlI.of_rd k31 (hS.row_rd hs3) (hS.row_blk hs3)) (SlI.of_rd k35 (hS.row_rd hs4) (hS.row_blk hs4)) (SlI.of_rd k39 (hS.row_rd hs5) (hS.row_blk hs5)) hm54) ?_
 rintro e w ⟨rfl, hN⟩; refine ⟨_, rfl, ?_⟩; have hB := hN.pure; have hS := hS.join hN; clear hN
 refine Za rfl rfl rfl (Yq rfl) ?_
 refine Zb 1 rfl ?_
 refine Zs 34 rfl (fun hb => ?_) (fun hb => ?_)
 ·replace H := Zo H hb
  refine Zb 20 rfl ?_
  refine Zg ?_
  refine Zc hK52 ?_
  refine Zr rfl rfl ?_
  refine Ze (fun K hK55 => ?_)
  refine Zf ?_
  refine Zb 1 rfl ?_
  refine Zg ?_
  refine Zc hK55 ?_
  refine Zk ?_
  refine Zj ?_
  refine Zl rfl (RV.tmp rfl RV.nil) rfl ?_
  obtain rfl := Option.some.inj H
  replace hS := hS.cut 0
  exact ⟨rfl, hS⟩
 replace H := Zn H hb
 refine Za rfl rfl rfl (Zd Vh rfl) ?_
 refine Za rfl rfl rfl (Zh Zx rfl (RW.here _) hS hs0 trivial V7) ?_
 refine Za rfl rfl rfl (Zd Vh rfl) ?_
 refine Za rfl rfl rfl (Zh Zx rfl (RW.here _) hS hs9 trivial V7) ?_
 refine Za rfl rfl rfl (Xr rfl rfl) ?_
 refine Zb 2 rfl ?_
 refine Zs 41 rfl (fun hb => ?_) (fun hb => ?_)
 ·replace H := Zo H hb
  refine Zb 13 rfl ?_
  refine Zg ?_
  refine Zc hK52 ?_
  refine Zr rfl rfl ?_
  refine Ze (fun K hK56 => ?_)
  refine Zf ?_
  refine Zb 1 rfl ?_
  refine Zg ?_
  refine Zc hK56 ?_
  refine Zk ?_
  refine Zj ?_
  refine Zl rfl (RV.tmp rfl RV.nil) rfl ?_
  obtain rfl := Option.some.inj H
  replace hS := hS.cut 0
  exact ⟨rfl, hS⟩
 replace H := Zn H hb
 refine Za rfl rfl rfl (Zd Yb rfl) ?_
 refine Za rfl rfl rfl (Zd Vg rfl) ?_
 refine Za rfl rfl rfl (Zh Zx rfl (RW.here _) hS hs0 trivial Vb) ?_
 refine Za rfl rfl rfl (Zd Yb rfl) ?_
 refine Za rfl rfl rfl (Zd Vg rfl) ?_
 refine Za rfl rfl rfl (Zh Zx rfl (RW.here _) hS hs9 trivial Vb) ?_
 refine Za rfl rfl rfl (Xr rfl rfl) ?_
 refine Zb 2 rfl ?_
 refine Zs 50 rfl (fun hb => ?_) (fun hb => ?_)
 ·replace H := Zo H hb
  refine Zb 4 rfl ?_
  refine Zg ?_
  refine Zc hK52 ?_
  refine Zr rfl rfl ?_
  refine Ze (fun K hK57 => ?_)
  refine Zf ?_
  refine Zb 1 rfl ?_
  refine Zg ?_
  refine Zc hK57 ?_
  refine Zk ?_
  refine Zj ?_
  refine Zl rfl (RV.tmp rfl RV.nil) rfl ?_
  obtain rfl := Option.some.inj H
  replace hS := hS.cut 0
  exact ⟨rfl, hS⟩
 replace H := Zn H hb
 refine Zb 1 rfl ?_
 refine Za rfl rfl rfl (Y7 Zar rfl) ?_
 refine Za rfl rfl rfl (Xe rfl rfl) ?_
 refine Zb 1 rfl ?_
 refine Zg ?_
 refine Zc hK52 ?_
 refine Zz rfl (fun hb => ?_) (fun hb => ?_)
 ·replace H := Zo H hb
  refine Ze (fun K hK58 => ?_)
  refine Zf ?_
  refine Zb 1 rfl ?_
  refine Zg ?_
  refine Zc hK58 ?_
  refine Zk ?_
  refine Zj ?_
  refine Zl rfl (RV.tmp rfl RV.nil) rfl ?_
  obtain rfl := Option.some.inj H
  replace hS := hS.cut 0
  exact ⟨rfl, hS⟩
 replace H := Zn H hb
 refine Zu ?_
 refine Zc hK51 ?_
 refine Ze (fun K hK59 => ?_)
 refine Ze (fun K hK60 => ?_)
 refine Zf ?_
 refine Zb 1 rfl ?_
 refine Za rfl rfl rfl (Y7 Zar rfl) ?_
 refine Za rfl rfl rfl (Y2 rfl rfl) ?_
 refine Zg ?_
 refine Zc hK60 ?_
 refine Zz rfl (fun hb => ?_) (fun hb => ?_)
 ·replace H := Zo H hb
  refine Ze (fun K hK61 => ?_)
  refine Yo 27 [] (fun _ _ => True) ⟨by kernel_rfl, by kernel_rfl⟩ hS (fun w hS hB => ?_)
  refine Zm [true, true, true, true, true, true] (by decide +kernel) (by repeat (first | exact PF.body | exact PF.round | apply PF.then | apply PF.inBlock | apply PF.jump)) ?_
  refine LtK.put rfl rfl rfl (Zd Vh rfl) ?_
  refine LtK.put rfl rfl rfl (Zh Zx rfl (RW.below _) hS hs0 trivial V7) ?_
  refine LtK.put rfl rfl rfl (Zd Vh rfl) ?_
  refine LtK.put rfl rfl rfl (Zh Zx rfl (RW.below _) hS hs9 trivial V7) ?_
  refine LtK.put rfl rfl rfl (Y2 rfl rfl) ?_
  refine LtK.put rfl rfl rfl (Zt rfl) ?_
  refine LtK.nil ?_
  refine Xa 63 rfl (fun hb => ?_) (fun hb => ?_)
  rotate_left
  ·replace H := Zn H hb
   refine Zm [false, false, false, false, false, false, true, true, false, true, true] (by decide +kernel) (by repeat (first | exact PF.body | exact PF.round | apply PF.then | apply PF.inBlock | apply PF.jump)) ?_
   refine LtK.skip rfl rfl rfl ?_
   refine LtK.skip rfl rfl rfl ?_
   refine LtK.skip rfl rfl rfl ?_
   refine LtK.skip rfl rfl rfl ?_
   refine LtK.nil ?_
   refine Zw [false, false, false, false, false, false, false, false, true] 8 ⟨by decide, by kernel_rfl, by kernel_rfl⟩ rfl rfl ?_
   try dsimp only [Zy]
   refine Yp rfl rfl rfl ?_
   refine Zg ?_
   refine Z3 (Below.refl _ _) ?_
   refine Zw [false, false, false, false, false, false, false, false, false, false, false, true] 11 ⟨by decide, by kernel_rfl, by kernel_rfl⟩ rfl rfl ?_
   try dsimp only [Zy]
   refine Yp rfl rfl rfl ?_
   refine Zg ?_
   refine Z3 (Below.refl _ _) ?_
   refine Zm [false, false, false, false, false, false, false, false, false, false, false, false, true, true, true, true, true, true, true, true, true, true, true, true] (by decide +kernel) (by repeat (first | exact PF.body | exact PF.round | apply PF.then | apply PF.inBlock | apply PF.jump)) ?_
   refine LtK.skip rfl rfl rfl ?_
   refine LtK.put rfl rfl rfl (Z5 rfl rfl rfl) ?_
   refine LtK.put rfl rfl rfl (Zt rfl) ?_
   refine LtK.skip rfl rfl rfl ?_
   refine LtK.skip rfl rfl rfl ?_
   refine LtK.skip rfl rfl rfl ?_
   refine LtK.skip rfl rfl rfl ?_
   refine LtK.skip rfl rfl rfl ?_
   refine LtK.skip rfl rfl rfl ?_
   refine LtK.skip rfl rfl rfl ?_
   refine LtK.put rfl rfl rfl (Z5 rfl rfl rfl) ?_
   refine LtK.put rfl rfl rfl (Zt rfl) ?_
   refine LtK.nil ?_
   refine Zw [false, false, false, false, false, false, false, false, false, false, false, false, false, false, false, false, false, false, false, false, false, false, false, false, true] 24 ⟨by decide, by kernel_rfl, by kernel_rfl⟩ rfl rfl ?_
   try dsimp only [Zy]
   refine Yp rfl rfl rfl ?_
   refine Zg ?_
   refine Z3 (Below.refl _ _) ?_
   refine Zm [false, false, false, false, false, false, false, false, false, false, false, false, false, false, false, false, false, false, false, false, false, false, false, false, false, true, true] (by decide +kernel) (by repeat (first | exact PF.body | exact PF.round | apply PF.then | apply PF.inBlock | apply PF.jump)) ?_
   refine LtK.put rfl rfl rfl (Z5 rfl rfl rfl) ?_
   refine LtK.put rfl rfl rfl (Z0 rfl) ?_
   refine LtK.nil ?_
   refine Ya (by kernel_rfl) ?_
   refine Zc hK61 ?_
   refine Zk ?_
   refine Zj ?_
   refine Zl rfl (RV.tmp rfl RV.nil) rfl ?_
   obtain rfl := Option.some.inj H
   replace hS := hS.cut 0
   exact ⟨rfl, hS⟩
  replace H := Zo H hb
  refine Zm [false, false, false, false, false, false, true, true, false, true, true] (by decide +kernel) (by repeat (first | exact PF.body | exact PF.round | apply PF.then | apply PF.inBlock | apply PF.jump)) ?_
  refine LtK.put rfl rfl rfl (Zd Yb rfl) ?_
  refine LtK.put rfl rfl rfl (Zi Y0 rfl (RW.below _) hS hs0 trivial Va) ?_
  refine LtK.put rfl rfl rfl (Zd Yb rfl) ?_
  refine LtK.put rfl rfl rfl (Zi Y0 rfl (RW.below _) hS hs9 trivial Va) ?_
  refine LtK.nil ?_
  refine Zw [false, false, false, false, false, false, false, false, true] 8 ⟨by decide, by kernel_rfl, by kernel_rfl⟩ rfl rfl ?_
  try dsimp only [Zy]
  obtain ⟨r62, hm63, H⟩ := bind_some H
  refine Zp rfl rfl rfl rfl (by kernel_rfl) rfl (Y4 r19.1.tuple A21 c22 _ (SlI.of_rd k23 (hS.rd Xu) (hS.rd_blk Xu)) hm63) ?_
  rintro e w ⟨rfl, hN⟩; refine ⟨_, rfl, ?_⟩; have hB := hN.pure; have hS := hS.join hN; clear hN
  refine Zg ?_
  refine Z3 hB ?_
  refine Zw [false, false, false, false, false, false, false, false, false, false, false, true] 11 ⟨by decide, by kernel_rfl, by kernel_rfl⟩ rfl rfl ?_
  try dsimp only [Zy]
  obtain ⟨r64, hm65, H⟩ := bind_some H
  refine Zp rfl rfl rfl rfl (by kernel_rfl) rfl (Y4 x0.tuple A0_ c0_ _ (SlI.of_rd s0_.k (hS.rd0 s0_.rd) (hS.blk0 s0_.blk)) hm65) ?_
  rintro e w ⟨rfl, hN⟩; refine ⟨_, rfl, ?_⟩; have hB := hN.pure; have hS := hS.join hN; clear hN
  refine Zg ?_
  refine Z3 hB ?_
  refine Zm [false, false, false, false, false, false, false, false, false, false, false, false, true, true, true] (by decide +kernel) (by repeat (first | exact PF.body | exact PF.round | apply PF.then | apply PF.inBlock | apply PF.jump)) ?_
  refine LtK.put rfl rfl rfl (Y2 rfl rfl) ?_
  refine LtK.put rfl rfl rfl (Z1 rfl rfl rfl) ?_
  refine LtK.put rfl rfl rfl (Zt rfl) ?_
  refine LtK.nil ?_
  refine Xa 72 rfl (fun hb => ?_) (fun hb => ?_)
  rotate_left
  ·replace H := Zn H hb
   refine Zm [false, false, false, false, false, false, false, false, false, false, false, false, false, false, false, true, true, true, true, true, true, true, true, true] (by decide +kernel) (by repeat (first | exact PF.body | exact PF.round | apply PF.then | apply PF.inBlock | apply PF.jump)) ?_
   refine LtK.skip rfl rfl rfl ?_
   refine LtK.skip rfl rfl rfl ?_
   refine LtK.skip rfl rfl rfl ?_
   refine LtK.skip rfl rfl rfl ?_
   refine LtK.skip rfl rfl rfl ?_
   refine LtK.skip rfl rfl rfl ?_
   refine LtK.skip rfl rfl rfl ?_
   refine LtK.put rfl rfl rfl (Z5 rfl rfl rfl) ?_
   refine LtK.put rfl rfl rfl (Zt rfl) ?_
   refine LtK.nil ?_
   refine Zw [false, false, false, false, false, false, false, false, false, false, false, false, false, false, false, false, false, false, false, false, false, false, false, false, true] 24 ⟨by decide, by kernel_rfl, by kernel_rfl⟩ rfl rfl ?_
   try dsimp only [Zy]
   refine Yp rfl rfl rfl ?_
   refine Zg ?_
   refine Z3 (Below.refl _ _) ?_
   refine Zm [false, false, false, false, false, false, false, false, false, false, false, false, false, false, false, false, false, false, false, false, false, false, false, false, false, true, true] (by decide +kernel) (by repeat (first | exact PF.body | exact PF.round | apply PF.then | apply PF.inBlock | apply PF.jump)) ?_
   refine LtK.put rfl rfl rfl (Z5 rfl rfl rfl) ?_
   refine LtK.put rfl rfl rfl (Z0 rfl) ?_
   refine LtK.nil ?_
   refine Ya (by kernel_rfl) ?_
   refine Zc hK61 ?_
   refine Zk ?_
   refine Zj ?_
   refine Zl rfl (RV.tmp rfl RV.nil) rfl ?_
   obtain rfl := Option.some.inj H
   replace hS := hS.cut 0
   exact ⟨rfl, hS⟩
  replace H := Zo H hb
  refine Zm [false, false, false, false, false, false, false, false, false, false, false, false, false, false, false, true, true, true, true, true, true, true, true, true] (by decide +kernel) (by repeat (first | exact PF.body | exact PF.round | apply PF.then | apply PF.inBlock | apply PF.jump)) ?_
  refine LtK.put rfl rfl rfl (Zd Yb rfl) ?_
  refine LtK.put rfl rfl rfl (Zd Yt rfl) ?_
  refine LtK.put rfl rfl rfl (Zi Yf rfl (RW.below _) hS hs0 trivial Zej) ?_
  refine LtK.put rfl rfl rfl (Zd Yb rfl) ?_
  refine LtK.put rfl rfl rfl (Zd Yt rfl) ?_
  refine LtK.put rfl rfl rfl (Zi Yf rfl (RW.below _) hS hs9 trivial Zej) ?_
  refine LtK.put rfl rfl rfl (X9 (by kernel_rfl) rfl rfl (X6 _ _ _ _ _ _ _ _ _ _)) ?_
  refine LtK.put rfl rfl rfl (Z1 rfl rfl rfl) ?_
  refine LtK.put rfl rfl rfl (Zt rfl) ?_
  refine LtK.nil ?_
  refine Xa 81 rfl (fun hb => ?_) (fun hb => ?_)
  rotate_left
  ·replace H := Zn H hb
   refine Zw [false, false, false, false, false, false, false, false, false, false, false, false, false, false, false, false, false, false, false, false, false, false, false, false, true] 24 ⟨by decide, by kernel_rfl, by kernel_rfl⟩ rfl rfl ?_
   try dsimp only [Zy]
   refine Yp rfl rfl rfl ?_
   refine Zg ?_
   refine Z3 (Below.refl _ _) ?_
   refine Zm [false, false, false, false, false, false, false, false, false, false, false, false, false, false, false, false, false, false, false, false, false, false, false, false, false, true, true] (by decide +kernel) (by repeat (first | exact PF.body | exact PF.round | apply PF.then | apply PF.inBlock | apply PF.jump)) ?_
   refine LtK.put rfl rfl rfl (Z5 rfl rfl rfl) ?_
   refine LtK.put rfl rfl rfl (Z0 rfl) ?_
   refine LtK.nil ?_
   refine Ya (by kernel_rfl) ?_
   refine Zc hK61 ?_
   refine Zk ?_
   refine Zj ?_
   refine Zl rfl (RV.tmp rfl RV.nil) rfl ?_
   obtain rfl := Option.some.inj H
   replace hS := hS.cut 0
   exact ⟨rfl, hS⟩
  replace H := Zo H hb
  refine Zw [false, false, false, false, false, false, false, false, false, false, false, false, false, false, false, false, false, false, false, false, false, false, false, false, true] 24 ⟨by decide, by kernel_rfl, by kernel_rfl⟩ rfl rfl ?_
  try dsimp only [Zy]
  obtain ⟨r66, hm67, H⟩ := bind_some H
  refine Zp rfl rfl rfl rfl (by kernel_rfl) rfl (Xk _ hm67) ?_
  rintro e w ⟨rfl, hN⟩; refine ⟨_, rfl, ?_⟩; have hB := hN.pure; have hS := hS.join hN; clear hN
  refine Zg ?_
  refine Z3 hB ?_
  refine Zm [false, false, false, false, false, false, false, false, false, false, false, false, false, false, false, false, false, false, false, false, false, false, false, false, false, true, true] (by decide +kernel) (by repeat (first | exact PF.body | exact PF.round | apply PF.then | apply PF.inBlock | apply PF.jump)) ?_
  refine LtK.put rfl rfl rfl (Z1 rfl rfl rfl) ?_
  refine LtK.put rfl rfl rfl (Z0 rfl) ?_
  refine LtK.nil ?_
  refine Ya (by kernel_rfl) ?_
  refine Zc hK61 ?_
  refine Zk ?_
  refine Zj ?_
  refine Zl rfl (RV.tmp rfl RV.nil) rfl ?_
  obtain rfl := Option.some.inj H
  replace hS := hS.cut 0
  exact ⟨rfl, hS⟩
 replace H := Zn H hb
 refine Zu ?_
 refine Zc hK59 ?_
 refine Ze (fun K hK68 => ?_)
 refine Ze (fun K hK69 => ?_)
 refine Yo 48 [] (fun _ _ => True) ⟨by kernel_rfl, by kernel_rfl⟩ hS (fun w hS hB => ?_)
 refine Zm [true, true, true, true, true] (by decide +kernel) (by repeat (first | exact PF.body | exact PF.round | apply PF.then | apply PF.inBlock | apply PF.jump)) ?_
 refine LtK.put rfl rfl rfl (Zt rfl) ?_
 obtain ⟨e70, hi72, H⟩ := bind_some H
 obtain ⟨j71, A73, c74, hi72a, hi72b, hi72c⟩ := idxQ (q := q45) hq46 hi72
 refine LtK.put rfl rfl rfl (Xj Zar rfl rfl hi72a hi72c (Rd.el (hS.rd hs6) Xx hi72b)) ?_
 refine LtK.put rfl rfl rfl (Zdk Vd rfl (RW.below _) (Rd.el (hS.rd hs6) Xx hi72b) Xn) ?_
 refine LtK.put rfl rfl rfl (Zd V9 rfl) ?_
 refine LtK.put rfl rfl rfl (Zh Zx rfl (RW.below _) hS hs9 trivial Vr) ?_
 refine LtK.nil ?_
 refine Zw [false, false, false, false, false, true] 5 ⟨by decide, by kernel_rfl, by kernel_rfl⟩ rfl rfl ?_
 try dsimp only [Zy]
 obtain ⟨r75, hm76, H⟩ := bind_some H
 refine Zp rfl rfl rfl rfl (by kernel_rfl) rfl (c_ref20_Fine e70 x0.n A73 c74 _ (SlI.of_rd (okq47 _ (List.mem_of_getElem? hi72b)) (hS.rds_rd hs7 hi72b) (hS.rds_blk hs7 hi72b)) hm76) ?_
 rintro e w ⟨rfl, hN⟩; refine ⟨_, rfl, ?_⟩; have hB := hN.pure; have hS := hS.join hN; clear hN
 refine Zg ?_
 refine Z3 hB ?_
 refine Zm [false, false, false, false, false, false, true, true] (by decide +kernel) (by repeat (first | exact PF.body | exact PF.round | apply PF.then | apply PF.inBlock | apply PF.jump)) ?_
 refine LtK.put rfl rfl rfl (Yq rfl) ?_
 refine LtK.put rfl rfl rfl (Zt rfl) ?_
 refine LtK.nil ?_
 refine Xa 91 rfl (fun hb => ?_) (fun hb => ?_)
 ·replace H := Zo H hb
  refine Zm [false, false, false, false, false, false, false, false, true, true, true, true, true, true, true, true, true, true, true, true, true, true, true, true, true, true, true, true, true, true, true, true, true, true, true, true, true, true, true, true, true, true, true, true] (by decide +kernel) (by repeat (first | exact PF.body | exact PF.round | apply PF.then | apply PF.inBlock | apply PF.jump)) ?_
  refine LtK.skip rfl rfl rfl ?_
  refine LtK.skip rfl rfl rfl ?_
  refine LtK.skip rfl rfl rfl ?_
  refine LtK.skip rfl rfl rfl ?_
  refine LtK.skip rfl rfl rfl ?_
  refine LtK.skip rfl rfl rfl ?_
  refine LtK.skip rfl rfl rfl ?_
  refine LtK.put rfl rfl rfl (Z1 rfl rfl rfl) ?_
  refine LtK.put rfl rfl rfl (Zt rfl) ?_
  refine LtK.skip rfl rfl rfl ?_
  refine LtK.skip rfl rfl rfl ?_
  refine LtK.skip rfl rfl rfl ?_
  refine LtK.skip rfl rfl rfl ?_
  refine LtK.skip rfl rfl rfl ?_
  refine LtK.skip rfl rfl rfl ?_
  refine LtK.skip rfl rfl rfl ?_
  refine LtK.skip rfl rfl rfl ?_
  refine LtK.skip rfl rfl rfl ?_
  refine LtK.skip rfl rfl rfl ?_
  refine LtK.skip rfl rfl rfl ?_
  refine LtK.skip rfl rfl rfl ?_
  refine LtK.skip rfl rfl rfl ?_
  refine LtK.put rfl rfl rfl (Z1 rfl rfl rfl) ?_
  refine LtK.put rfl rfl rfl (Zt rfl) ?_
  refine LtK.skip rfl rfl rfl ?_
  refine LtK.skip rfl rfl rfl ?_
  refine LtK.skip rfl rfl rfl ?_
  refine LtK.skip rfl rfl rfl ?_
  refine LtK.skip rfl rfl rfl ?_
  refine LtK.skip rfl rfl rfl ?_
  refine LtK.skip rfl rfl rfl ?_
  refine LtK.skip rfl rfl rfl ?_
  refine LtK.skip rfl rfl rfl ?_
  refine LtK.skip rfl rfl rfl ?_
  refine LtK.skip rfl rfl rfl ?_
  refine LtK.skip rfl rfl rfl ?_
  refine LtK.nil ?_
  refine Zw [false, false, false, false, false, false, false, false, false, false, false, false, false, false, false, false, false, false, false, false, false, false, false, false, false, false, false, false, false, false, false, false, false, false, false, false, false, false, false, false, false, false, false, false, true] 44 ⟨by decide, by kernel_rfl, by kernel_rfl⟩ rfl rfl ?_
  try dsimp only [Zy]
  refine Yp rfl rfl rfl ?_
  refine Zg ?_
  refine Z3 (Below.refl _ _) ?_
  refine Zm [false, false, false, false, false, false, false, false, false, false, false, false, false, false, false, false, false, false, false, false, false, false, false, false, false, false, false, false, false, false, false, false, false, false, false, false, false, false, false, false, false, false, false, false, false, true, true, true] (by decide +kernel) (by repeat (first | exact PF.body | exact PF.round | apply PF.then | apply PF.inBlock | apply PF.jump)) ?_
  refine LtK.skip rfl rfl rfl ?_
  refine LtK.skip rfl rfl rfl ?_
  refine LtK.put rfl rfl rfl (Z1 rfl rfl rfl) ?_
  refine LtK.nil ?_
  refine Ya (by kernel_rfl) ?_
  refine Zc hK69 ?_
  refine Zr rfl rfl ?_
  refine Ze (fun K hK77 => ?_)
  refine Zf ?_
  refine Zb 1 rfl ?_
  refine Zg ?_
  refine Zc hK77 ?_
  refine Zk ?_
  refine Zj ?_
  refine Zl rfl (RV.tmp rfl RV.nil) rfl ?_
  obtain rfl := Option.some.inj H
  replace hS := hS.cut 0
  exact ⟨rfl, hS⟩
 replace H := Zn H hb
 refine Zm [false, false, false, false, false, false, false, false, true, true, true, true, true, true, true, true, true] (by decide +kernel) (by repeat (first | exact PF.body | exact PF.round | apply PF.then | apply PF.inBlock | apply PF.jump)) ?_
 refine LtK.put rfl rfl rfl (Zt rfl) ?_
 obtain ⟨e78, hi80, H⟩ := bind_some H
 obtain ⟨j79, A81, c82, hi80a, hi80b, hi80c⟩ := idxQ (q := q45) hq46 hi80
 refine LtK.put rfl rfl rfl (Xj Zar rfl rfl hi80a hi80c (Rd.el (hS.rd hs6) Xx hi80b)) ?_
 refine LtK.put rfl rfl rfl (Xv Zd6 rfl (Rd.el (hS.rd hs6) Xx hi80b)) ?_
 refine LtK.put rfl rfl rfl (Zfd Zx rfl (RW.below _) (Rd.el (hS.rd hs6) Xx hi80b) rfl) ?_
 refine LtK.put rfl rfl rfl (Zd Zd7 rfl) ?_
 refine LtK.put rfl rfl rfl (Zh Zx rfl (RW.below _) hS hs8 trivial Vr) ?_
 refine LtK.put rfl rfl rfl (Xo rfl rfl) ?_
 refine LtK.put rfl rfl rfl (Z5 rfl rfl rfl) ?_
 refine LtK.put rfl rfl rfl (Zt rfl) ?_
 refine LtK.nil ?_
 refine Xa 100 rfl (fun hb => ?_) (fun hb => ?_)
 ·replace H := Zo H hb
  refine Zm [false, false, false, false, false, false, false, false, false, false, false, false, false, false, false, false, false, true, true, true, true, true, true, true, true, true, true, true, true, true, true, true, true, true, true, true, true, true, true, true, true, true, true, true] (by decide +kernel) (by repeat (first | exact PF.body | exact PF.round | apply PF.then | apply PF.inBlock | apply PF.jump)) ?_
  refine LtK.skip rfl rfl rfl ?_
  refine LtK.skip rfl rfl rfl ?_
  refine LtK.skip rfl rfl rfl ?_
  refine LtK.skip rfl rfl rfl ?_
  refine LtK.skip rfl rfl rfl ?_
  refine LtK.skip rfl rfl rfl ?_
  refine LtK.skip rfl rfl rfl ?_
  refine LtK.skip rfl rfl rfl ?_
  refine LtK.skip rfl rfl rfl ?_
  refine LtK.skip rfl rfl rfl ?_
  refine LtK.skip rfl rfl rfl ?_
  refine LtK.skip rfl rfl rfl ?_
  refine LtK.skip rfl rfl rfl ?_
  refine LtK.put rfl rfl rfl (Z1 rfl rfl rfl) ?_
  refine LtK.put rfl rfl rfl (Zt rfl) ?_
  refine LtK.skip rfl rfl rfl ?_
  refine LtK.skip rfl rfl rfl ?_
  refine LtK.skip rfl rfl rfl ?_
  refine LtK.skip rfl rfl rfl ?_
  refine LtK.skip rfl rfl rfl ?_
  refine LtK.skip rfl rfl rfl ?_
  refine LtK.skip rfl rfl rfl ?_
  refine LtK.skip rfl rfl rfl ?_
  refine LtK.skip rfl rfl rfl ?_
  refine LtK.skip rfl rfl rfl ?_
  refine LtK.skip rfl rfl rfl ?_
  refine LtK.skip rfl rfl rfl ?_
  refine LtK.nil ?_
  refine Zw [false, false, false, false, false, false, false, false, false, false, false, false, false, false, false, false, false, false, false, false, false, false, false, false, false, false, false, false, false, false, false, false, false, false, false, false, false, false, false, false, false, false, false, false, true] 44 ⟨by decide, by kernel_rfl, by kernel_rfl⟩ rfl rfl ?_
  try dsimp only [Zy]
  refine Yp rfl rfl rfl ?_
  refine Zg ?_
  refine Z3 (Below.refl _ _) ?_
  refine Zm [false, false, false, false, false, false, false, false, false, false, false, false, false, false, false, false, false, false, false, false, false, false, false, false, false, false, false, false, false, false, false, false, false, false, false, false, false, false, false, false, false, false, false, false, false, true, true, true] (by decide +kernel) (by repeat (first | exact PF.body | exact PF.round | apply PF.then | apply PF.inBlock | apply PF.jump)) ?_
  refine LtK.skip rfl rfl rfl ?_
  refine LtK.skip rfl rfl rfl ?_
  refine LtK.put rfl rfl rfl (Z1 rfl rfl rfl) ?_
  refine LtK.nil ?_
  refine Ya (by kernel_rfl) ?_
  refine Zc hK69 ?_
  refine Zr rfl rfl ?_
  refine Ze (fun K hK83 => ?_)
  refine Zf ?_
  refine Zb 1 rfl ?_
  refine Zg ?_
  refine Zc hK83 ?_
  refine Zk ?_
  refine Zj ?_
  refine Zl rfl (RV.tmp rfl RV.nil) rfl ?_
  obtain rfl := Option.some.inj H
  replace hS := hS.cut 0
  exact ⟨rfl, hS⟩
 replace H := Zn H hb
 refine Zm [false, false, false, false, false, false, false, false, false, false, false, false, false, false, false, false, false, true, true, true, true, true] (by decide +kernel) (by repeat (first | exact PF.body | exact PF.round | apply PF.then | apply PF.inBlock | apply PF.jump)) ?_
 refine LtK.put rfl rfl rfl (Zt rfl) ?_
 obtain ⟨e84, hi86, H⟩ := bind_some H
 obtain ⟨j85, A87, c88, hi86a, hi86b, hi86c⟩ := idxQ (q := q45) hq46 hi86
 refine LtK.put rfl rfl rfl (Xj Zar rfl rfl hi86a hi86c (Rd.el (hS.rd hs6) Xx hi86b)) ?_
 refine LtK.put rfl rfl rfl (Xv Zbn rfl (Rd.el (hS.rd hs6) Xx hi86b)) ?_
 refine LtK.put rfl rfl rfl (Zfd Zfy rfl (RW.below _) (Rd.el (hS.rd hs6) Xx hi86b) rfl) ?_
 refine LtK.put rfl rfl rfl (Zt rfl) ?_
 refine LtK.nil ?_
 refine Xa 105 rfl (fun hb => ?_) (fun hb => ?_)
 rotate_left
 ·replace H := Zn H hb
  refine Zm [false, false, false, false, false, false, false, false, false, false, false, false, false, false, false, false, false, false, false, false, false, false, true, true, true, true, true, true, true, true, true, true, true, true, true, true, true, true] (by decide +kernel) (by repeat (first | exact PF.body | exact PF.round | apply PF.then | apply PF.inBlock | apply PF.jump)) ?_
  refine LtK.skip rfl rfl rfl ?_
  refine LtK.skip rfl rfl rfl ?_
  refine LtK.skip rfl rfl rfl ?_
  refine LtK.skip rfl rfl rfl ?_
  refine LtK.skip rfl rfl rfl ?_
  refine LtK.skip rfl rfl rfl ?_
  refine LtK.skip rfl rfl rfl ?_
  refine LtK.put rfl rfl rfl (Z5 rfl rfl rfl) ?_
  refine LtK.put rfl rfl rfl (Z5 rfl rfl rfl) ?_
  refine LtK.put rfl rfl rfl (Zt rfl) ?_
  refine LtK.put rfl rfl rfl (Zt rfl) ?_
  obtain ⟨e312, hi314, H⟩ := bind_some H
  obtain ⟨j313, A315, c316, hi314a, hi314b, hi314c⟩ := idxQ (q := q45) hq46 hi314
  refine LtK.put rfl rfl rfl (Xj Zar rfl rfl hi314a hi314c (Rd.el (hS.rd hs6) Xx hi314b)) ?_
  refine LtK.put rfl rfl rfl (Xv Zbn rfl (Rd.el (hS.rd hs6) Xx hi314b)) ?_
  refine LtK.put rfl rfl rfl (Zfd Zfy rfl (RW.below _) (Rd.el (hS.rd hs6) Xx hi314b) rfl) ?_
  refine LtK.put rfl rfl rfl (Yq rfl) ?_
  refine LtK.put rfl rfl rfl (Zt rfl) ?_
  refine LtK.nil ?_
  refine Xa 121 rfl (fun hb => ?_) (fun hb => ?_)
  rotate_left
  ·replace H := Zn H hb
   refine Zm [false, false, false, false, false, false, false, false, false, false, false, false, false, false, false, false, false, false, false, false, false, false, false, false, false, false, false, false, false, false, false, false, false, false, false, false, false, false, true, true, true, true, true, true] (by decide +kernel) (by repeat (first | exact PF.body | exact PF.round | apply PF.then | apply PF.inBlock | apply PF.jump)) ?_
   refine LtK.skip rfl rfl rfl ?_
   refine LtK.skip rfl rfl rfl ?_
   refine LtK.skip rfl rfl rfl ?_
   refine LtK.skip rfl rfl rfl ?_
   refine LtK.skip rfl rfl rfl ?_
   refine LtK.skip rfl rfl rfl ?_
   refine LtK.nil ?_
   refine Zw [false, false, false, false, false, false, false, false, false, false, false, false, false, false, false, false, false, false, false, false, false, false, false, false, false, false, false, false, false, false, false, false, false, false, false, false, false, false, false, false, false, false, false, false, true] 44 ⟨by decide, by kernel_rfl, by kernel_rfl⟩ rfl rfl ?_
   try dsimp only [Zy]
   refine Yp rfl rfl rfl ?_
   refine Zg ?_
   refine Z3 (Below.refl _ _) ?_
   refine Zm [false, false, false, false, false, false, false, false, false, false, false, false, false, false, false, false, false, false, false, false, false, false, false, false, false, false, false, false, false, false, false, false, false, false, false, false, false, false, false, false, false, false, false, false, false, true, true, true] (by decide +kernel) (by repeat (first | exact PF.body | exact PF.round | apply PF.then | apply PF.inBlock | apply PF.jump)) ?_
   refine LtK.skip rfl rfl rfl ?_
   refine LtK.put rfl rfl rfl (Z5 rfl rfl rfl) ?_
   refine LtK.put rfl rfl rfl (Z5 rfl rfl rfl) ?_
   refine LtK.nil ?_
   refine Ya (by kernel_rfl) ?_
   refine Zc hK69 ?_
   refine Yu rfl rfl ?_
   refine Zu ?_
   refine Zc hK68 ?_
   refine Ze (fun K hK427 => ?_)
   refine Zf ?_
   refine Za rfl rfl rfl (Zi Y3 rfl (RW.here _) hS hs0 trivial Yl) ?_
   refine Za rfl rfl rfl (Zi Vd rfl (RW.here _) hS hs8 trivial Xn) ?_
   obtain ⟨r428, hm429, H⟩ := bind_some H
   refine Zp rfl rfl rfl rfl (by kernel_rfl) rfl (Zaw r19.1 x1 A21 c22 A25 c26 A29 c30 A33 c34 A37 c38 A5_ c5_ _ (SlI.of_rd k23 (hS.rd Xu) (hS.rd_blk Xu)) (SlI.of_rd k27 (hS.row_rd Vu) (hS.row_blk Vu)) (SlI.of_rd k31 (hS.row_rd hs3) (hS.row_blk hs3)) (SlI.of_rd k35 (hS.row_rd hs4) (hS.row_blk hs4)) (SlI.of_rd k39 (hS.row_rd hs5) (hS.row_blk hs5)) (SlI.of_rd s5_.k (hS.rd0 s5_.rd) (hS.blk0 s5_.blk)) hm429) ?_
   rintro e w ⟨A430, c431, A434, c435, A438, c439, A442, c443, A446, c447, A450, c451, q454, rfl, k432, k436, k440, k444, k448, k452, hq455, okq456, hN⟩; refine ⟨_, rfl, ?_⟩; have hB := hN.pure; have hS := hS.join hN; clear hN
   refine Zb 1 rfl ?_
   refine Za rfl rfl rfl (Z4 rfl rfl) ?_
   refine Za rfl rfl rfl (Z4 rfl rfl) ?_
   refine Z9 rfl rfl Zdd hS (fun b458 w hS hB => ?_)
   refine Zq rfl rfl rfl CellsOf.agg hS ps0 Xt (by kernel_rfl) rfl (fun w hS hB => ?_)
   refine Zb 1 rfl ?_
   refine Zg ?_
   refine Zc hK427 ?_
   refine Ze (fun K hK460 => ?_)
   refine Ze (fun K hK461 => ?_)
   refine Zf ?_
   refine Za rfl rfl rfl (Zi Y3 rfl (RW.here _) hS hs0 trivial Yl) ?_
   refine Za rfl rfl rfl (Zi Y3 rfl (RW.here _) hS hs8 trivial Yl) ?_
   obtain ⟨r462, hm463, H⟩ := bind_some H
   refine Zp rfl rfl rfl rfl (by kernel_rfl) rfl (Zep r428.1 r19.1 A430 c431 A434 c435 A438 c439 A442 c443 A446 c447 A21 c22 A25 c26 A29 c30 A33 c34 A37 c38 _ (SlI.of_rd k432 (hS.rd Xu) (hS.rd_blk Xu)) (SlI.of_rd k436 (hS.row_rd Vu) (hS.row_blk Vu)) (SlI.of_rd k440 (hS.row_rd hs3) (hS.row_blk hs3)) (SlI.of_rd k444 (hS.row_rd hs4) (hS.row_blk hs4)) (SlI.of_rd k448 (hS.row_rd hs5) (hS.row_blk hs5)) (SlI.of_rd k23 (hS.rd hs9) (hS.rd_blk hs9)) (SlI.of_rd k27 (hS.row_rd Zfv) (hS.row_blk Zfv)) (SlI.of_rd k31 (hS.row_rd hs11) (hS.row_blk hs11)) (SlI.of_rd k35 (hS.row_rd hs12) (hS.row_blk hs12)) (SlI.of_rd k39 (hS.row_rd hs13) (hS.row_blk hs13)) hm463) ?_
   rintro e w ⟨rfl, hN⟩; refine ⟨_, rfl, ?_⟩; have hB := hN.pure; have hS := hS.join hN; clear hN
   refine Za rfl rfl rfl (Yq rfl) ?_
   refine Zb 1 rfl ?_
   refine Zs 142 rfl (fun hb => ?_) (fun hb => ?_)
   ·replace H := Zo H hb
    refine Zb 5 rfl ?_
    refine Zg ?_
    refine Zc hK461 ?_
    refine Zr rfl rfl ?_
    refine Ze (fun K hK464 => ?_)
    refine Zf ?_
    refine Zb 1 rfl ?_
    refine Zg ?_
    refine Zc hK464 ?_
    refine Zk ?_
    refine Zj ?_
    refine Zl rfl (RV.tmp rfl RV.nil) rfl ?_
    obtain rfl := Option.some.inj H
    replace hS := hS.cut 0
    exact ⟨rfl, hS⟩
   replace H := Zn H hb
   refine Zb 2 rfl ?_
   obtain ⟨r465, hm466, H⟩ := bind_some H
   refine Zp rfl rfl rfl rfl (by kernel_rfl) rfl (Zfh r428.2 r19.2 A450 c451 q454 A41 c42 q45 _ (SlI.of_rd (k_q hq455 k452) (hS.rd hs6) (hS.rd_blk hs6)) hq455 (hS.rds_sl hs7 okq456) (SlI.of_rd (k_q hq46 k43) (hS.rd Zdy) (hS.rd_blk Zdy)) hq46 (hS.rds_sl hs15 okq47) hm466) ?_
   rintro e w ⟨rfl, hN⟩; refine ⟨_, rfl, ?_⟩; have hB := hN.pure; have hS := hS.join hN; clear hN
   refine Za rfl rfl rfl (Yq rfl) ?_
   refine Zb 1 rfl ?_
   refine Zg ?_
   refine Zc hK461 ?_
   refine Zz rfl (fun hb => ?_) (fun hb => ?_)
   ·replace H := Zo H hb
    refine Ze (fun K hK467 => ?_)
    refine Zf ?_
    refine Zb 1 rfl ?_
    refine Zg ?_
    refine Zc hK467 ?_
    refine Zk ?_
    refine Zj ?_
    refine Zl rfl (RV.tmp rfl RV.nil) rfl ?_
    obtain rfl := Option.some.inj H
    replace hS := hS.cut 0
    exact ⟨rfl, hS⟩
   replace H := Zn H hb
   refine Zu ?_
   refine Zc hK460 ?_
   refine Ze (fun K hK468 => ?_)
   refine Ze (fun K hK469 => ?_)
   refine Zf ?_
   refine Za rfl rfl rfl (Zd Yb rfl) ?_
   refine Za rfl rfl rfl (Zd Yt rfl) ?_
   refine Za rfl rfl rfl (Zi Yf rfl (RW.here _) hS hs8 trivial Zej) ?_
   refine Za rfl rfl rfl (Zd Yb rfl) ?_
   refine Za rfl rfl rfl (Zd Yt rfl) ?_
   refine Za rfl rfl rfl (Zi Yf rfl (RW.here _) hS Zbd trivial Zej) ?_
   refine Za rfl rfl rfl (X9 (by kernel_rfl) rfl rfl (X6 _ _ _ _ _ _ _ _ _ _)) ?_
   refine Zg ?_
   refine Zc hK469 ?_
   refine Zz rfl (fun hb => ?_) (fun hb => ?_)
   ·replace H := Zo H hb
    refine Ze (fun K hK470 => ?_)
    refine Yo 25 [] (fun _ _ => True) ⟨by kernel_rfl, by kernel_rfl⟩ hS (fun w hS hB => ?_)
    refine Zm [true, true, true, true, true, true] (by decide +kernel) (by repeat (first | exact PF.body | exact PF.round | apply PF.then | apply PF.inBlock | apply PF.jump)) ?_
    refine LtK.put rfl rfl rfl (Zd Vh rfl) ?_
    refine LtK.put rfl rfl rfl (Zh Zx rfl (RW.below _) hS hs8 trivial V7) ?_
    refine LtK.put rfl rfl rfl (Zd Vh rfl) ?_
    refine LtK.put rfl rfl rfl (Zh Zx rfl (RW.below _) hS Zbd trivial V7) ?_
    refine LtK.put rfl rfl rfl (Y2 rfl rfl) ?_
    refine LtK.put rfl rfl rfl (Zt rfl) ?_
    refine LtK.nil ?_
    refine Xa 160 rfl (fun hb => ?_) (fun hb => ?_)
    rotate_left
    ·replace H := Zn H hb
     refine Zm [false, false, false, false, false, false, true, true, true, true, true, true, true, true, true, false, true, true] (by decide +kernel) (by repeat (first | exact PF.body | exact PF.round | apply PF.then | apply PF.inBlock | apply PF.jump)) ?_
     refine LtK.skip rfl rfl rfl ?_
     refine LtK.skip rfl rfl rfl ?_
     refine LtK.skip rfl rfl rfl ?_
     refine LtK.skip rfl rfl rfl ?_
     refine LtK.skip rfl rfl rfl ?_
     refine LtK.put rfl rfl rfl (Z5 rfl rfl rfl) ?_
     refine LtK.put rfl rfl rfl (Zt rfl) ?_
     refine LtK.skip rfl rfl rfl ?_
     refine LtK.skip rfl rfl rfl ?_
     refine LtK.skip rfl rfl rfl ?_
     refine LtK.skip rfl rfl rfl ?_
     refine LtK.nil ?_
     refine Zw [false, false, false, false, false, false, false, false, false, false, false, false, false, false, false, true] 15 ⟨by decide, by kernel_rfl, by kernel_rfl⟩ rfl rfl ?_
     try dsimp only [Zy]
     refine Yp rfl rfl rfl ?_
     refine Zg ?_
     refine Z3 (Below.refl _ _) ?_
     refine Zw [false, false, false, false, false, false, false, false, false, false, false, false, false, false, false, false, false, false, true] 18 ⟨by decide, by kernel_rfl, by kernel_rfl⟩ rfl rfl ?_
     try dsimp only [Zy]
     refine Yp rfl rfl rfl ?_
     refine Zg ?_
     refine Z3 (Below.refl _ _) ?_
     refine Zm [false, false, false, false, false, false, false, false, false, false, false, false, false, false, false, false, false, false, false, true, true, true] (by decide +kernel) (by repeat (first | exact PF.body | exact PF.round | apply PF.then | apply PF.inBlock | apply PF.jump)) ?_
     refine LtK.skip rfl rfl rfl ?_
     refine LtK.put rfl rfl rfl (Z5 rfl rfl rfl) ?_
     refine LtK.put rfl rfl rfl (Zt rfl) ?_
     refine LtK.nil ?_
     refine Zw [false, false, false, false, false, false, false, false, false, false, false, false, false, false, false, false, false, false, false, false, false, false, true] 22 ⟨by decide, by kernel_rfl, by kernel_rfl⟩ rfl rfl ?_
     try dsimp only [Zy]
     refine Yp rfl rfl rfl ?_
     refine Zg ?_
     refine Z3 (Below.refl _ _) ?_
     refine Zm [false, false, false, false, false, false, false, false, false, false, false, false, false, false, false, false, false, false, false, false, false, false, false, true, true] (by decide +kernel) (by repeat (first | exact PF.body | exact PF.round | apply PF.then | apply PF.inBlock | apply PF.jump)) ?_
     refine LtK.put rfl rfl rfl (Z5 rfl rfl rfl) ?_
     refine LtK.put rfl rfl rfl (Z0 rfl) ?_
     refine LtK.nil ?_
     refine Ya (by kernel_rfl) ?_
     refine Zc hK470 ?_
     refine Zk ?_
     refine Zj ?_
     refine Zl rfl (RV.tmp rfl RV.nil) rfl ?_
     obtain rfl := Option.some.inj H
     replace hS := hS.cut 0
     exact ⟨rfl, hS⟩
    replace H := Zo H hb
    refine Zm [false, false, false, false, false, false, true, true, true, true, true, true, true] (by decide +kernel) (by repeat (first | exact PF.body | exact PF.round | apply PF.then | apply PF.inBlock | apply PF.jump)) ?_
    refine LtK.put rfl rfl rfl (Zd Jm rfl) ?_
    refine LtK.put rfl rfl rfl (Zi Yf rfl (RW.below _) hS hs8 trivial Zbl) ?_
    refine LtK.put rfl rfl rfl (Zd Jm rfl) ?_
    refine LtK.put rfl rfl rfl (Zi Yf rfl (RW.below _) hS Zbd trivial Zbl) ?_
    refine LtK.put rfl rfl rfl (X9 (by kernel_rfl) rfl rfl (X6 _ _ _ _ _ _ _ _ _ _)) ?_
    refine LtK.put rfl rfl rfl (Z1 rfl rfl rfl) ?_
    refine LtK.put rfl rfl rfl (Zt rfl) ?_
    refine LtK.nil ?_
    refine Xa 167 rfl (fun hb => ?_) (fun hb => ?_)
    rotate_left
    ·replace H := Zn H hb
     refine Zm [false, false, false, false, false, false, false, false, false, false, false, false, false, true, true, false, true, true] (by decide +kernel) (by repeat (first | exact PF.body | exact PF.round | apply PF.then | apply PF.inBlock | apply PF.jump)) ?_
     refine LtK.skip rfl rfl rfl ?_
     refine LtK.skip rfl rfl rfl ?_
     refine LtK.skip rfl rfl rfl ?_
     refine LtK.skip rfl rfl rfl ?_
     refine LtK.nil ?_
     refine Zw [false, false, false, false, false, false, false, false, false, false, false, false, false, false, false, true] 15 ⟨by decide, by kernel_rfl, by kernel_rfl⟩ rfl rfl ?_
     try dsimp only [Zy]
     refine Yp rfl rfl rfl ?_
     refine Zg ?_
     refine Z3 (Below.refl _ _) ?_
     refine Zw [false, false, false, false, false, false, false, false, false, false, false, false, false, false, false, false, false, false, true] 18 ⟨by decide, by kernel_rfl, by kernel_rfl⟩ rfl rfl ?_
     try dsimp only [Zy]
     refine Yp rfl rfl rfl ?_
     refine Zg ?_
     refine Z3 (Below.refl _ _) ?_
     refine Zm [false, false, false, false, false, false, false, false, false, false, false, false, false, false, false, false, false, false, false, true, true, true] (by decide +kernel) (by repeat (first | exact PF.body | exact PF.round | apply PF.then | apply PF.inBlock | apply PF.jump)) ?_
     refine LtK.skip rfl rfl rfl ?_
     refine LtK.put rfl rfl rfl (Z5 rfl rfl rfl) ?_
     refine LtK.put rfl rfl rfl (Zt rfl) ?_
     refine LtK.nil ?_
     refine Zw [false, false, false, false, false, false, false, false, false, false, false, false, false, false, false, false, false, false, false, false, false, false, true] 22 ⟨by decide, by kernel_rfl, by kernel_rfl⟩ rfl rfl ?_
     try dsimp only [Zy]
     refine Yp rfl rfl rfl ?_
     refine Zg ?_
     refine Z3 (Below.refl _ _) ?_
     refine Zm [false, false, false, false, false, false, false, false, false, false, false, false, false, false, false, false, false, false, false, false, false, false, false, true, true] (by decide +kernel) (by repeat (first | exact PF.body | exact PF.round | apply PF.then | apply PF.inBlock | apply PF.jump)) ?_
     refine LtK.put rfl rfl rfl (Z5 rfl rfl rfl) ?_
     refine LtK.put rfl rfl rfl (Z0 rfl) ?_
     refine LtK.nil ?_
     refine Ya (by kernel_rfl) ?_
     refine Zc hK470 ?_
     refine Zk ?_
     refine Zj ?_
     refine Zl rfl (RV.tmp rfl RV.nil) rfl ?_
     obtain rfl := Option.some.inj H
     replace hS := hS.cut 0
     exact ⟨rfl, hS⟩
    replace H := Zo H hb
    refine Zm [false, false, false, false, false, false, false, false, false, false, false, false, false, true, true, false, true, true] (by decide +kernel) (by repeat (first | exact PF.body | exact PF.round | apply PF.then | apply PF.inBlock | apply PF.jump)) ?_
    refine LtK.put rfl rfl rfl (Zd Yb rfl) ?_
    refine LtK.put rfl rfl rfl (Zi Y0 rfl (RW.below _) hS hs8 trivial Va) ?_
    refine LtK.put rfl rfl rfl (Zd Yb rfl) ?_
    refine LtK.put rfl rfl rfl (Zi Y0 rfl (RW.below _) hS Zbd trivial Va) ?_
    refine LtK.nil ?_
    refine Zw [false, false, false, false, false, false, false, false, false, false, false, false, false, false, false, true] 15 ⟨by decide, by kernel_rfl, by kernel_rfl⟩ rfl rfl ?_
    try dsimp only [Zy]
    obtain ⟨r471, hm472, H⟩ := bind_some H
    refine Zp rfl rfl rfl rfl (by kernel_rfl) rfl (Y4 r19.1.tuple A21 c22 _ (SlI.of_rd k23 (hS.rd hs9) (hS.rd_blk hs9)) hm472) ?_
    rintro e w ⟨rfl, hN⟩; refine ⟨_, rfl, ?_⟩; have hB := hN.pure; have hS := hS.join hN; clear hN
    refine Zg ?_
    refine Z3 hB ?_
    refine Zw [false, false, false, false, false, false, false, false, false, false, false, false, false, false, false, false, false, false, true] 18 ⟨by decide, by kernel_rfl, by kernel_rfl⟩ rfl rfl ?_
    try dsimp only [Zy]
    obtain ⟨r473, hm474, H⟩ := bind_some H
    refine Zp rfl rfl rfl rfl (by kernel_rfl) rfl (Y4 x0.tuple A0_ c0_ _ (SlI.of_rd s0_.k (hS.rd0 s0_.rd) (hS.blk0 s0_.blk)) hm474) ?_
    rintro e w ⟨rfl, hN⟩; refine ⟨_, rfl, ?_⟩; have hB := hN.pure; have hS := hS.join hN; clear hN
    refine Zg ?_
    refine Z3 hB ?_
    refine Zm [false, false, false, false, false, false, false, false, false, false, false, false, false, false, false, false, false, false, false, true, true, true] (by decide +kernel) (by repeat (first | exact PF.body | exact PF.round | apply PF.then | apply PF.inBlock | apply PF.jump)) ?_
    refine LtK.put rfl rfl rfl (Y2 rfl rfl) ?_
    refine LtK.put rfl rfl rfl (Z1 rfl rfl rfl) ?_
    refine LtK.put rfl rfl rfl (Zt rfl) ?_
    refine LtK.nil ?_
    refine Xa 176 rfl (fun hb => ?_) (fun hb => ?_)
    rotate_left
    ·replace H := Zn H hb
     refine Zw [false, false, false, false, false, false, false, false, false, false, false, false, false, false, false, false, false, false, false, false, false, false, true] 22 ⟨by decide, by kernel_rfl, by kernel_rfl⟩ rfl rfl ?_
     try dsimp only [Zy]
     refine Yp rfl rfl rfl ?_
     refine Zg ?_
     refine Z3 (Below.refl _ _) ?_
     refine Zm [false, false, false, false, false, false, false, false, false, false, false, false, false, false, false, false, false, false, false, false, false, false, false, true, true] (by decide +kernel) (by repeat (first | exact PF.body | exact PF.round | apply PF.then | apply PF.inBlock | apply PF.jump)) ?_
     refine LtK.put rfl rfl rfl (Z5 rfl rfl rfl) ?_
     refine LtK.put rfl rfl rfl (Z0 rfl) ?_
     refine LtK.nil ?_
     refine Ya (by kernel_rfl) ?_
     refine Zc hK470 ?_
     refine Zk ?_
     refine Zj ?_
     refine Zl rfl (RV.tmp rfl RV.nil) rfl ?_
     obtain rfl := Option.some.inj H
     replace hS := hS.cut 0
     exact ⟨rfl, hS⟩
    replace H := Zo H hb
    refine Zw [false, false, false, false, false, false, false, false, false, false, false, false, false, false, false, false, false, false, false, false, false, false, true] 22 ⟨by decide, by kernel_rfl, by kernel_rfl⟩ rfl rfl ?_
    try dsimp only [Zy]
    obtain ⟨r475, hm476, H⟩ := bind_some H
    refine Zp rfl rfl rfl rfl (by kernel_rfl) rfl (Xk _ hm476) ?_
    rintro e w ⟨rfl, hN⟩; refine ⟨_, rfl, ?_⟩; have hB := hN.pure; have hS := hS.join hN; clear hN
    refine Zg ?_
    refine Z3 hB ?_
    refine Zm [false, false, false, false, false, false, false, false, false, false, false, false, false, false, false, false, false, false, false, false, false, false, false, true, true] (by decide +kernel) (by repeat (first | exact PF.body | exact PF.round | apply PF.then | apply PF.inBlock | apply PF.jump)) ?_
    refine LtK.put rfl rfl rfl (Z1 rfl rfl rfl) ?_
    refine LtK.put rfl rfl rfl (Z0 rfl) ?_
    refine LtK.nil ?_
    refine Ya (by kernel_rfl) ?_
    refine Zc hK470 ?_
    refine Zk ?_
    refine Zj ?_
    refine Zl rfl (RV.tmp rfl RV.nil) rfl ?_
    obtain rfl := Option.some.inj H
    replace hS := hS.cut 0
    exact ⟨rfl, hS⟩
   replace H := Zn H hb
   refine Zu ?_
   refine Zc hK468 ?_
   refine Ze (fun K hK477 => ?_)
   refine Ze (fun K hK478 => ?_)
   refine Zf ?_
   refine Za rfl rfl rfl (Zd Yb rfl) ?_
   refine Za rfl rfl rfl (Zd Yt rfl) ?_
   refine Za rfl rfl rfl (Zi Yf rfl (RW.here _) hS hs8 trivial Zej) ?_
   refine Za rfl rfl rfl (Zd Yh rfl) ?_
   refine Za rfl rfl rfl (Zi Yf rfl (RW.here _) hS Zcd trivial Vj) ?_
   refine Za rfl rfl rfl (Za1 (by kernel_rfl) rfl rfl (X6 _ _ _ _ _ _ _ _ _ _)) ?_
   refine Zb 1 rfl ?_
   refine Zs 185 rfl (fun hb => ?_) (fun hb => ?_)
   ·replace H := Zo H hb
    refine Zb 29 rfl ?_
    refine Zg ?_
    refine Zc hK478 ?_
    refine Zr rfl rfl ?_
    refine Ze (fun K hK479 => ?_)
    refine Zf ?_
    refine Zb 1 rfl ?_
    refine Zg ?_
    refine Zc hK479 ?_
    refine Zk ?_
    refine Zj ?_
    refine Zl rfl (RV.tmp rfl RV.nil) rfl ?_
    obtain rfl := Option.some.inj H
    replace hS := hS.cut 0
    exact ⟨rfl, hS⟩
   replace H := Zn H hb
   refine Za rfl rfl rfl (Zd Jm rfl) ?_
   refine Za rfl rfl rfl (Zi Yf rfl (RW.here _) hS hs8 trivial Zbl) ?_
   refine Za rfl rfl rfl (Zd Yh rfl) ?_
   refine Za rfl rfl rfl (Zi Yf rfl (RW.here _) hS Zcd trivial Vj) ?_
   refine Za rfl rfl rfl (Za1 (by kernel_rfl) rfl rfl (X6 _ _ _ _ _ _ _ _ _ _)) ?_
   refine Zb 2 rfl ?_
   refine Zs 192 rfl (fun hb => ?_) (fun hb => ?_)
   ·replace H := Zo H hb
    refine Zb 22 rfl ?_
    refine Zg ?_
    refine Zc hK478 ?_
    refine Zr rfl rfl ?_
    refine Ze (fun K hK480 => ?_)
    refine Zf ?_
    refine Zb 1 rfl ?_
    refine Zg ?_
    refine Zc hK480 ?_
    refine Zk ?_
    refine Zj ?_
    refine Zl rfl (RV.tmp rfl RV.nil) rfl ?_
    obtain rfl := Option.some.inj H
    replace hS := hS.cut 0
    exact ⟨rfl, hS⟩
   replace H := Zn H hb
   refine Za rfl rfl rfl (Zd Vh rfl) ?_
   refine Za rfl rfl rfl (Zh Zx rfl (RW.here _) hS hs8 trivial V7) ?_
   refine Za rfl rfl rfl (Zd Yh rfl) ?_
   refine Za rfl rfl rfl (Zd Z6 rfl) ?_
   refine Za rfl rfl rfl (Zh Zx rfl (RW.here _) hS Zcd trivial Vb) ?_
   refine Za rfl rfl rfl (Xo rfl rfl) ?_
   refine Zb 2 rfl ?_
   refine Zs 200 rfl (fun hb => ?_) (fun hb => ?_)
   ·replace H := Zo H hb
    refine Zb 14 rfl ?_
    refine Zg ?_
    refine Zc hK478 ?_
    refine Zr rfl rfl ?_
    refine Ze (fun K hK481 => ?_)
    refine Zf ?_
    refine Zb 1 rfl ?_
    refine Zg ?_
    refine Zc hK481 ?_
    refine Zk ?_
    refine Zj ?_
    refine Zl rfl (RV.tmp rfl RV.nil) rfl ?_
    obtain rfl := Option.some.inj H
    replace hS := hS.cut 0
    exact ⟨rfl, hS⟩
   replace H := Zn H hb
   refine Za rfl rfl rfl (Zd Yh rfl) ?_
   refine Za rfl rfl rfl (Zd Z6 rfl) ?_
   refine Za rfl rfl rfl (Zh Zx rfl (RW.here _) hS Zcd trivial Vb) ?_
   refine Za rfl rfl rfl (Zd Vh rfl) ?_
   refine Za rfl rfl rfl (Zh Zx rfl (RW.here _) hS Zbd trivial V7) ?_
   refine Za rfl rfl rfl (Jw rfl rfl) ?_
   refine Zb 2 rfl ?_
   refine Zs 208 rfl (fun hb => ?_) (fun hb => ?_)
   ·replace H := Zo H hb
    refine Zb 6 rfl ?_
    refine Zg ?_
    refine Zc hK478 ?_
    refine Zr rfl rfl ?_
    refine Ze (fun K hK482 => ?_)
    refine Zf ?_
    refine Zb 1 rfl ?_
    refine Zg ?_
    refine Zc hK482 ?_
    refine Zk ?_
    refine Zj ?_
    refine Zl rfl (RV.tmp rfl RV.nil) rfl ?_
    obtain rfl := Option.some.inj H
    replace hS := hS.cut 0
    exact ⟨rfl, hS⟩
   replace H := Zn H hb
   refine Zb 1 rfl ?_
   obtain ⟨e483, hi485, H⟩ := bind_some H
   obtain ⟨j484, A486, c487, hi485a, hi485b, hi485c⟩ := idxQ (q := q45) hq46 hi485
   refine Za rfl rfl rfl (Xj Zar rfl rfl hi485a hi485c (Rd.el (hS.rd Zdy) Xx hi485b)) ?_
   refine Za rfl rfl rfl (Xv Zbn rfl (Rd.el (hS.rd Zdy) Xx hi485b)) ?_
   refine Za rfl rfl rfl (Zfd Zfy rfl (RW.here _) (Rd.el (hS.rd Zdy) Xx hi485b) rfl) ?_
   refine Za rfl rfl rfl (Yq rfl) ?_
   refine Zb 1 rfl ?_
   refine Zg ?_
   refine Zc hK478 ?_
   refine Zz rfl (fun hb => ?_) (fun hb => ?_)
   ·replace H := Zo H hb
    refine Ze (fun K hK488 => ?_)
    refine Zf ?_
    refine Zb 1 rfl ?_
    refine Zg ?_
    refine Zc hK488 ?_
    refine Zk ?_
    refine Zj ?_
    refine Zl rfl (RV.tmp rfl RV.nil) rfl ?_
    obtain rfl := Option.some.inj H
    replace hS := hS.cut 0
    exact ⟨rfl, hS⟩
   replace H := Zn H hb
   refine Zu ?_
   refine Zc hK477 ?_
   refine Ze (fun K hK489 => ?_)
   refine Zf ?_
   refine Za rfl rfl rfl (Zd Yb rfl) ?_
   refine Za rfl rfl rfl (Zi Y0 rfl (RW.here _) hS Zbd trivial Va) ?_
   refine Za rfl rfl rfl (Zd Yh rfl) ?_
   refine Za rfl rfl rfl (Zd Z6 rfl) ?_
   refine Za rfl rfl rfl (Zh Zx rfl (RW.here _) hS Zcd trivial Vb) ?_
   obtain ⟨r490, hm491, H⟩ := bind_some H
   refine Zp rfl rfl rfl rfl (by kernel_rfl) rfl (Zdl x0.tuple x1.snap.index A0_ c0_ _ (SlI.of_rd s0_.k (hS.rd0 s0_.rd) (hS.blk0 s0_.blk)) hm491) ?_
   rintro e w ⟨rfl, hN⟩; refine ⟨_, rfl, ?_⟩; have hB := hN.pure; have hS := hS.join hN; clear hN
   refine Zb 1 rfl ?_
   refine Za rfl rfl rfl (Z4 rfl rfl) ?_
   refine Za rfl rfl rfl (Z4 rfl rfl) ?_
   refine Zb 2 rfl ?_
   refine Zg ?_
   refine Zc hK489 ?_
   refine Ze (fun K hK492 => ?_)
   refine Ze (fun K hK493 => ?_)
   refine Zf ?_
   refine Zb 1 rfl ?_
   refine Za rfl rfl rfl (Yq rfl) ?_
   refine Zb 1 rfl ?_
   refine Zs 226 rfl (fun hb => ?_) (fun hb => ?_)
   ·replace H := Zo H hb
    refine Zb 6 rfl ?_
    refine Zg ?_
    refine Zc hK493 ?_
    refine Zr rfl rfl ?_
    refine Ze (fun K hK494 => ?_)
    refine Zf ?_
    refine Za rfl rfl rfl (Zd Yb rfl) ?_
    refine Za rfl rfl rfl (Zd Xq rfl) ?_
    refine Za rfl rfl rfl (Zh Vl rfl (RW.here _) hS hs8 trivial Zb3) ?_
    refine Za rfl rfl rfl (Y7 Xy rfl) ?_
    refine Za rfl rfl rfl (Y2 rfl rfl) ?_
    refine Zb 1 rfl ?_
    refine Zs 238 rfl (fun hb => ?_) (fun hb => ?_)
    rotate_left
    ·replace H := Zn H hb
     refine Zb 3 rfl ?_
     refine Zg ?_
     refine Zc hK494 ?_
     refine Zk ?_
     refine Zj ?_
     refine Zl rfl (RV.tmp rfl RV.nil) rfl ?_
     obtain rfl := Option.some.inj H
     replace hS := hS.cut 0
     exact ⟨rfl, hS⟩
    replace H := Zo H hb
    obtain ⟨r495, hm496, H⟩ := bind_some H
    refine Zp rfl rfl rfl rfl (by kernel_rfl) rfl (Xk _ hm496) ?_
    rintro e w ⟨rfl, hN⟩; refine ⟨_, rfl, ?_⟩; have hB := hN.pure; have hS := hS.join hN; clear hN
    refine Zb 2 rfl ?_
    refine Zg ?_
    refine Zc hK494 ?_
    refine Zk ?_
    refine Zj ?_
    refine Zl rfl (RV.tmp rfl RV.nil) rfl ?_
    obtain rfl := Option.some.inj H
    replace hS := hS.cut 0
    exact ⟨rfl, hS⟩
   replace H := Zn H hb
   refine Zb 1 rfl ?_
   refine Za rfl rfl rfl (Zd Yh rfl) ?_
   refine Za rfl rfl rfl (Zd Vn rfl) ?_
   refine Za rfl rfl rfl (Zh Zx rfl (RW.here _) hS Zcd trivial sg11_1) ?_
   refine Za rfl rfl rfl (Xo rfl rfl) ?_
   refine Zb 1 rfl ?_
   refine Zg ?_
   refine Zc hK493 ?_
   refine Zz rfl (fun hb => ?_) (fun hb => ?_)
   ·replace H := Zo H hb
    refine Ze (fun K hK497 => ?_)
    refine Zf ?_
    refine Za rfl rfl rfl (Zd Yb rfl) ?_
    refine Za rfl rfl rfl (Zd Xq rfl) ?_
    refine Za rfl rfl rfl (Zh Vl rfl (RW.here _) hS hs8 trivial Zb3) ?_
    refine Za rfl rfl rfl (Y7 Xy rfl) ?_
    refine Za rfl rfl rfl (Y2 rfl rfl) ?_
    refine Zb 1 rfl ?_
    refine Zs 238 rfl (fun hb => ?_) (fun hb => ?_)
    rotate_left
    ·replace H := Zn H hb
     refine Zb 3 rfl ?_
     refine Zg ?_
     refine Zc hK497 ?_
     refine Zk ?_
     refine Zj ?_
     refine Zl rfl (RV.tmp rfl RV.nil) rfl ?_
     obtain rfl := Option.some.inj H
     replace hS := hS.cut 0
     exact ⟨rfl, hS⟩
    replace H := Zo H hb
    obtain ⟨r498, hm499, H⟩ := bind_some H
    refine Zp rfl rfl rfl rfl (by kernel_rfl) rfl (Xk _ hm499) ?_
    rintro e w ⟨rfl, hN⟩; refine ⟨_, rfl, ?_⟩; have hB := hN.pure; have hS := hS.join hN; clear hN
    refine Zb 2 rfl ?_
    refine Zg ?_
    refine Zc hK497 ?_
    refine Zk ?_
    refine Zj ?_
    refine Zl rfl (RV.tmp rfl RV.nil) rfl ?_
    obtain rfl := Option.some.inj H
    replace hS := hS.cut 0
    exact ⟨rfl, hS⟩
   replace H := Zn H hb
   refine Zu ?_
   refine Zc hK492 ?_
   refine Ze (fun K hK500 => ?_)
   refine Ze (fun K hK501 => ?_)
   refine Zf ?_
   refine Za rfl rfl rfl (Zd Yh rfl) ?_
   refine Za rfl rfl rfl (Zd Z6 rfl) ?_
   refine Za rfl rfl rfl (Zh Zx rfl (RW.here _) hS Zcd trivial Vb) ?_
   refine Za rfl rfl rfl (Vi rfl rfl) ?_
   refine Zb 1 rfl ?_
   refine Zg ?_
   refine Zc hK501 ?_
   refine Yj ?_
   refine V3 (X := Nat × Bool × Int) (fun x => (2, .pointer (some ⟨b2, 0, none⟩)) :: (4, .bool x.2.1) :: (5, .pointer (some ⟨b49, 0, none⟩)) :: (11, .int .i64 x.2.2) :: []) (fun x w => St0 All w0 w (.box b458 [.int .i64 r428.1.id, .int .i64 r428.1.n, .int .u8 r428.1.role, .int .i64 r428.1.binary, .int .i64 r428.1.tuple.snap.index, .int .i64 r428.1.tuple.snap.term, .int .i64 r428.1.tuple.snap.sum, .int .i64 r428.1.tuple.snap.level, .bool r428.1.tuple.snap.final, .slice A430 r428.1.tuple.log.length c431, .int .i64 r428.1.tuple.term, .int .i64 r428.1.tuple.vote, .int .i64 r428.1.commit, .int .i64 r428.1.applied.index, .int .i64 r428.1.applied.term, .int .i64 r428.1.applied.sum, .int .i64 r428.1.applied.level, .bool r428.1.applied.final, .slice A434 r428.1.votes.length c435, .slice A438 r428.1.next.length c439, .slice A442 r428.1.mtch.length c443, .slice A446 r428.1.caps.length c447] 30 :: .rd A430 (Ye Ja r428.1.tuple.log) :: .row (.slice A434 r428.1.votes.length c435) 4 1 r428.1.votes.length (Ye enO r428.1.votes) :: .row (.slice A438 r428.1.next.length c439) 3 1 r428.1.next.length (Ye Vp r428.1.next) :: .row (.slice A442 r428.1.mtch.length c443) 3 1 r428.1.mtch.length (Ye Vp r428.1.mtch) :: .row (.slice A446 r428.1.caps.length c447) 3 1 r428.1.caps.length (Ye Vp r428.1.caps) :: .rd A450 (Ye enQ q454) :: .rds (q454.map subQ) :: .box b49 [.int .i64 r19.1.id, .int .i64 r19.1.n, .int .u8 r19.1.role, .int .i64 r19.1.binary, .int .i64 r19.1.tuple.snap.index, .int .i64 r19.1.tuple.snap.term, .int .i64 r19.1.tuple.snap.sum, .int .i64 r19.1.tuple.snap.level, .bool r19.1.tuple.snap.final, .slice A21 r19.1.tuple.log.length c22, .int .i64 r19.1.tuple.term, .int .i64 r19.1.tuple.vote, .int .i64 r19.1.commit, .int .i64 r19.1.applied.index, .int .i64 r19.1.applied.term, .int .i64 r19.1.applied.sum, .int .i64 r19.1.applied.level, .bool r19.1.applied.final, .slice A25 r19.1.votes.length c26, .slice A29 r19.1.next.length c30, .slice A33 r19.1.mtch.length c34, .slice A37 r19.1.caps.length c38] 30 :: .rd A21 (Ye Ja r19.1.tuple.log) :: .row (.slice A25 r19.1.votes.length c26) 4 1 r19.1.votes.length (Ye enO r19.1.votes) :: .row (.slice A29 r19.1.next.length c30) 3 1 r19.1.next.length (Ye Vp r19.1.next) :: .row (.slice A33 r19.1.mtch.length c34) 3 1 r19.1.mtch.length (Ye Vp r19.1.mtch) :: .row (.slice A37 r19.1.caps.length c38) 3 1 r19.1.caps.length (Ye Vp r19.1.caps) :: .rd A41 (Ye enQ q45) :: .rds (q45.map subQ) :: .box b4 [.int .u8 x1.kind, .int .i64 x1.frm, .int .i64 x1.dst, .int .i64 x1.term, .int .i64 x1.cap, .int .i64 x1.last, .int .i64 x1.lastTerm, .int .i64 x1.commit, .bool x1.okk, .slice A5_ x1.entries.length c5_, .int .i64 x1.snap.index, .int .i64 x1.snap.term, .int .i64 x1.snap.sum, .int .i64 x1.snap.level, .bool x1.snap.final] 32 :: .box b2 [.int .i64 x0.id, .int .i64 x0.n, .int .u8 x0.role, .int .i64 x0.binary, .int .i64 x0.tuple.snap.index, .int .i64 x0.tuple.snap.term, .int .i64 x0.tuple.snap.sum, .int .i64 x0.tuple.snap.level, .bool x0.tuple.snap.final, .slice A0_ x0.tuple.log.length c0_, .int .i64 x0.tuple.term, .int .i64 x0.tuple.vote, .int .i64 x0.commit, .int .i64 x0.applied.index, .int .i64 x0.applied.term, .int .i64 x0.applied.sum, .int .i64 x0.applied.level, .bool x0.applied.final, .slice A1_ x0.votes.length c1_, .slice A2_ x0.next.length c2_, .slice A3_ x0.mtch.length c3_, .slice A4_ x0.caps.length c4_] 30 :: []) ∧ Jo x0 r19 x.1 x.2.1 x.2.2 = some r) (fun x => x.1) (Xz, false, (IntKind.wrap .i64 (x1.snap.index + 1))) (by repeat (first | exact Sub.nil | refine Sub.cons rfl ?_)) ⟨hS, H⟩ ?_
   rintro ⟨n, v502, v503⟩ w ⟨hS, H⟩
   dsimp only at hS H ⊢
   obtain _ | n := n
   ·have H0 : none = some r := H
    cases H0
   rw [Jo] at H
   refine Ze (fun K hK504 => ?_)
   refine Ze (fun K hK505 => ?_)
   refine Zf ?_
   refine Zb 1 rfl ?_
   refine Za rfl rfl rfl (Zd Yb rfl) ?_
   refine Za rfl rfl rfl (Zi Y0 rfl (RW.here _) hS Zbd trivial Va) ?_
   obtain ⟨r506, hm507, H⟩ := bind_some H
   refine Zp rfl rfl rfl rfl (by kernel_rfl) rfl (Y4 x0.tuple A0_ c0_ _ (SlI.of_rd s0_.k (hS.rd0 s0_.rd) (hS.blk0 s0_.blk)) hm507) ?_
   rintro e w ⟨rfl, hN⟩; refine ⟨_, rfl, ?_⟩; have hB := hN.pure; have hS := hS.join hN; clear hN
   refine Za rfl rfl rfl (Jw rfl rfl) ?_
   refine Zg ?_
   refine Zc hK505 ?_
   refine Zz rfl (fun hb => ?_) (fun hb => ?_)
   rotate_left
   ·replace H := Zn H hb
    refine Vk ?_
    refine Yd ?_
    refine Yd ?_
    refine Xd ?_
    refine Zc hK500 ?_
    refine Ze (fun K hK522 => ?_)
    refine Yo 11 [] (fun _ _ => True) ⟨by kernel_rfl, by kernel_rfl⟩ hS (fun w hS hB => ?_)
    refine Zm [true, true, false, true, true] (by decide +kernel) (by repeat (first | exact PF.body | exact PF.round | apply PF.then | apply PF.inBlock | apply PF.jump)) ?_
    refine LtK.put rfl rfl rfl (Zd Yb rfl) ?_
    refine LtK.put rfl rfl rfl (Zi Y0 rfl (RW.below _) hS hs8 trivial Va) ?_
    refine LtK.put rfl rfl rfl (Zd Yb rfl) ?_
    refine LtK.put rfl rfl rfl (Zi Y0 rfl (RW.below _) hS Zbd trivial Va) ?_
    refine LtK.nil ?_
    refine Zw [false, false, true] 2 ⟨by decide, by kernel_rfl, by kernel_rfl⟩ rfl rfl ?_
    try dsimp only [Zy]
    obtain ⟨r523, hm524, H⟩ := bind_some H
    refine Zp rfl rfl rfl rfl (by kernel_rfl) rfl (Y4 r19.1.tuple A21 c22 _ (SlI.of_rd k23 (hS.rd hs9) (hS.rd_blk hs9)) hm524) ?_
    rintro e w ⟨rfl, hN⟩; refine ⟨_, rfl, ?_⟩; have hB := hN.pure; have hS := hS.join hN; clear hN
    refine Zg ?_
    refine Z3 hB ?_
    refine Zw [false, false, false, false, false, true] 5 ⟨by decide, by kernel_rfl, by kernel_rfl⟩ rfl rfl ?_
    try dsimp only [Zy]
    obtain ⟨r525, hm526, H⟩ := bind_some H
    refine Zp rfl rfl rfl rfl (by kernel_rfl) rfl (Y4 x0.tuple A0_ c0_ _ (SlI.of_rd s0_.k (hS.rd0 s0_.rd) (hS.blk0 s0_.blk)) hm526) ?_
    rintro e w ⟨rfl, hN⟩; refine ⟨_, rfl, ?_⟩; have hB := hN.pure; have hS := hS.join hN; clear hN
    refine Zg ?_
    refine Z3 hB ?_
    refine Zm [false, false, false, false, false, false, true, true] (by decide +kernel) (by repeat (first | exact PF.body | exact PF.round | apply PF.then | apply PF.inBlock | apply PF.jump)) ?_
    refine LtK.put rfl rfl rfl (Y2 rfl rfl) ?_
    refine LtK.put rfl rfl rfl (Zt rfl) ?_
    refine LtK.nil ?_
    refine Xa 280 rfl (fun hb => ?_) (fun hb => ?_)
    rotate_left
    ·replace H := Zn H hb
     refine Zw [false, false, false, false, false, false, false, false, true] 8 ⟨by decide, by kernel_rfl, by kernel_rfl⟩ rfl rfl ?_
     try dsimp only [Zy]
     refine Yp rfl rfl rfl ?_
     refine Zg ?_
     refine Z3 (Below.refl _ _) ?_
     refine Zm [false, false, false, false, false, false, false, false, false, true, true] (by decide +kernel) (by repeat (first | exact PF.body | exact PF.round | apply PF.then | apply PF.inBlock | apply PF.jump)) ?_
     refine LtK.put rfl rfl rfl (Z5 rfl rfl rfl) ?_
     refine LtK.put rfl rfl rfl (Z0 rfl) ?_
     refine LtK.nil ?_
     refine Ya (by kernel_rfl) ?_
     refine Zc hK522 ?_
     refine Zk ?_
     refine Zl rfl (RV.tmp rfl RV.nil) rfl ?_
     obtain rfl := Option.some.inj H
     replace hS := hS.cut 0
     exact ⟨rfl, hS⟩
    replace H := Zo H hb
    refine Zw [false, false, false, false, false, false, false, false, true] 8 ⟨by decide, by kernel_rfl, by kernel_rfl⟩ rfl rfl ?_
    try dsimp only [Zy]
    obtain ⟨r527, hm528, H⟩ := bind_some H
    refine Zp rfl rfl rfl rfl (by kernel_rfl) rfl (Xk _ hm528) ?_
    rintro e w ⟨rfl, hN⟩; refine ⟨_, rfl, ?_⟩; have hB := hN.pure; have hS := hS.join hN; clear hN
    refine Zg ?_
    refine Z3 hB ?_
    refine Zm [false, false, false, false, false, false, false, false, false, true, true] (by decide +kernel) (by repeat (first | exact PF.body | exact PF.round | apply PF.then | apply PF.inBlock | apply PF.jump)) ?_
    refine LtK.put rfl rfl rfl (Z1 rfl rfl rfl) ?_
    refine LtK.put rfl rfl rfl (Z0 rfl) ?_
    refine LtK.nil ?_
    refine Ya (by kernel_rfl) ?_
    refine Zc hK522 ?_
    refine Zk ?_
    refine Zl rfl (RV.tmp rfl RV.nil) rfl ?_
    obtain rfl := Option.some.inj H
    replace hS := hS.cut 0
    exact ⟨rfl, hS⟩
   replace H := Zo H hb
   refine Zu ?_
   refine Zc hK504 ?_
   refine Ze (fun K hK508 => ?_)
   refine Yj ?_
   refine Ze (fun K hK509 => ?_)
   refine Zf ?_
   refine Za rfl rfl rfl (Zd Yb rfl) ?_
   refine Za rfl rfl rfl (Zi Y0 rfl (RW.here _) hS Zbd trivial Va) ?_
   refine Zb 1 rfl ?_
   obtain ⟨r510, hm511, H⟩ := bind_some H
   refine Zp rfl rfl rfl rfl (by kernel_rfl) rfl (Za8 x0.tuple v503 A0_ c0_ _ (SlI.of_rd s0_.k (hS.rd0 s0_.rd) (hS.blk0 s0_.blk)) hm511) ?_
   rintro e w ⟨rfl, hN⟩; refine ⟨_, rfl, ?_⟩; have hB := hN.pure; have hS := hS.join hN; clear hN
   refine Zb 1 rfl ?_
   refine Za rfl rfl rfl (Z4 rfl rfl) ?_
   refine Za rfl rfl rfl (Z4 rfl rfl) ?_
   refine Z9 rfl rfl Zaq hS (fun b512 w hS hB => ?_)
   refine Zq rfl rfl rfl CellsOf.agg hS ps0 Zds (by kernel_rfl) rfl (fun w hS hB => ?_)
   refine Zb 1 rfl ?_
   refine Zg ?_
   refine Zc hK509 ?_
   refine Ze (fun K hK514 => ?_)
   refine Zf ?_
   refine Za rfl rfl rfl (Zd Yb rfl) ?_
   refine Za rfl rfl rfl (Zi Y0 rfl (RW.here _) hS hs9 trivial Va) ?_
   refine Zb 1 rfl ?_
   obtain ⟨r515, hm516, H⟩ := bind_some H
   refine Zp rfl rfl rfl rfl (by kernel_rfl) rfl (Za8 r19.1.tuple v503 A21 c22 _ (SlI.of_rd k23 (hS.rd Zfv) (hS.rd_blk Zfv)) hm516) ?_
   rintro e w ⟨rfl, hN⟩; refine ⟨_, rfl, ?_⟩; have hB := hN.pure; have hS := hS.join hN; clear hN
   refine Zb 1 rfl ?_
   refine Za rfl rfl rfl (Z4 rfl rfl) ?_
   refine Za rfl rfl rfl (Z4 rfl rfl) ?_
   refine Z9 rfl rfl Zaq hS (fun b517 w hS hB => ?_)
   refine Zq rfl rfl rfl CellsOf.agg hS ps0 Zds (by kernel_rfl) rfl (fun w hS hB => ?_)
   refine Zb 1 rfl ?_
   refine Zg ?_
   refine Zc hK514 ?_
   refine Ze (fun K hK519 => ?_)
   refine Zf ?_
   refine Zb 1 rfl ?_
   refine Za rfl rfl rfl (Yq rfl) ?_
   refine Zb 1 rfl ?_
   refine Zs 268 rfl (fun hb => ?_) (fun hb => ?_)
   ·replace H := Zo H hb
    refine Zb 4 rfl ?_
    refine Zg ?_
    refine Zc hK519 ?_
    refine Zr rfl rfl ?_
    refine Ze (fun K hK520 => ?_)
    refine Zf ?_
    refine Zb 1 rfl ?_
    refine Zg ?_
    refine Zc hK520 ?_
    refine Zk ?_
    refine Zv ?_
    refine Zj ?_
    refine Zj ?_
    refine Zv ?_
    refine Zj ?_
    refine Zl rfl (RV.tmp rfl RV.nil) rfl ?_
    obtain rfl := Option.some.inj H
    replace hS := hS.cut 0
    exact ⟨rfl, hS⟩
   replace H := Zn H hb
   refine Za rfl rfl rfl (Zi Vv rfl (RW.here _) hS Xu trivial Zax) ?_
   refine Za rfl rfl rfl (Zi Vv rfl (RW.here _) hS hs0 trivial Zax) ?_
   refine Za rfl rfl rfl (Za1 (by kernel_rfl) rfl rfl (eqT_46 _ _ _ _ _ _)) ?_
   refine Zb 1 rfl ?_
   refine Zg ?_
   refine Zc hK519 ?_
   refine Zz rfl (fun hb => ?_) (fun hb => ?_)
   rotate_left
   ·replace H := Zn H hb
    refine Zu ?_
    refine Z7 ?_
    refine Zc hK508 ?_
    refine Zf ?_
    refine Zb 1 rfl ?_
    refine Za rfl rfl rfl (Vi rfl rfl) ?_
    refine Zb 1 rfl ?_
    refine Zg ?_
    exact Vz (n, v502, (IntKind.wrap .i64 (v503 + 1))) (by repeat (first | exact Sub.nil | refine Sub.cons rfl ?_)) ⟨(hS.sub (List.Sublist.cons _ (List.Sublist.cons _ (List.Sublist.cons_cons _ (List.Sublist.cons_cons _ (List.Sublist.cons_cons _ (List.Sublist.cons_cons _ (List.Sublist.cons_cons _ (List.Sublist.cons_cons _ (List.Sublist.cons_cons _ (List.Sublist.cons_cons _ (List.Sublist.cons_cons _ (List.Sublist.cons_cons _ (List.Sublist.cons_cons _ (List.Sublist.cons_cons _ (List.Sublist.cons_cons _ (List.Sublist.cons_cons _ (List.Sublist.cons_cons _ (List.Sublist.cons_cons _ (List.Sublist.cons_cons _ (List.Sublist.cons_cons _ List.Sublist.slnil))))))))))))))))))))), H⟩ (Nat.lt_succ_self _)
   replace H := Zo H hb
   refine Ze (fun K hK521 => ?_)
   refine Zf ?_
   refine Zb 1 rfl ?_
   refine Zg ?_
   refine Zc hK521 ?_
   refine Zk ?_
   refine Zv ?_
   refine Zj ?_
   refine Zj ?_
   refine Zv ?_
   refine Zj ?_
   refine Zl rfl (RV.tmp rfl RV.nil) rfl ?_
   obtain rfl := Option.some.inj H
   replace hS := hS.cut 0
   exact ⟨rfl, hS⟩
  replace H := Zo H hb
  refine Zm [false, false, false, false, false, false, false, false, false, false, false, false, false, false, false, false, false, false, false, false, false, false, false, false, false, false, false, false, false, false, false, false, false, false, false, false, false, false, true, true, true, true, true, true] (by decide +kernel) (by repeat (first | exact PF.body | exact PF.round | apply PF.then | apply PF.inBlock | apply PF.jump)) ?_
  refine LtK.put rfl rfl rfl (Zt rfl) ?_
  obtain ⟨e317, hi319, H⟩ := bind_some H
  obtain ⟨j318, A320, c321, hi319a, hi319b, hi319c⟩ := idxQ (q := q45) hq46 hi319
  refine LtK.put rfl rfl rfl (Xj Zar rfl rfl hi319a hi319c (Rd.el (hS.rd hs6) Xx hi319b)) ?_
  refine LtK.put rfl rfl rfl (Xv Zem rfl (Rd.el (hS.rd hs6) Xx hi319b)) ?_
  refine LtK.put rfl rfl rfl (Zfd Zx rfl (RW.below _) (Rd.el (hS.rd hs6) Xx hi319b) rfl) ?_
  refine LtK.put rfl rfl rfl (Zd Yb rfl) ?_
  refine LtK.put rfl rfl rfl (Zi Y0 rfl (RW.below _) hS hs9 trivial Va) ?_
  refine LtK.nil ?_
  refine Zw [false, false, false, false, false, false, false, false, false, false, false, false, false, false, false, false, false, false, false, false, false, false, false, false, false, false, false, false, false, false, false, false, false, false, false, false, false, false, false, false, false, false, false, false, true] 44 ⟨by decide, by kernel_rfl, by kernel_rfl⟩ rfl rfl ?_
  try dsimp only [Zy]
  obtain ⟨r322, hm323, H⟩ := bind_some H
  refine Zp rfl rfl rfl rfl (by kernel_rfl) rfl (Y4 x0.tuple A0_ c0_ _ (SlI.of_rd s0_.k (hS.rd0 s0_.rd) (hS.blk0 s0_.blk)) hm323) ?_
  rintro e w ⟨rfl, hN⟩; refine ⟨_, rfl, ?_⟩; have hB := hN.pure; have hS := hS.join hN; clear hN
  refine Zg ?_
  refine Z3 hB ?_
  refine Zm [false, false, false, false, false, false, false, false, false, false, false, false, false, false, false, false, false, false, false, false, false, false, false, false, false, false, false, false, false, false, false, false, false, false, false, false, false, false, false, false, false, false, false, false, false, true, true, true] (by decide +kernel) (by repeat (first | exact PF.body | exact PF.round | apply PF.then | apply PF.inBlock | apply PF.jump)) ?_
  refine LtK.put rfl rfl rfl (Xo rfl rfl) ?_
  refine LtK.put rfl rfl rfl (Z1 rfl rfl rfl) ?_
  refine LtK.put rfl rfl rfl (Z5 rfl rfl rfl) ?_
  refine LtK.nil ?_
  refine Ya (by kernel_rfl) ?_
  refine Zc hK69 ?_
  refine Zz rfl (fun hb => ?_) (fun hb => ?_)
  ·replace H := Zo H hb
   refine Ze (fun K hK324 => ?_)
   refine Zf ?_
   refine Zb 1 rfl ?_
   refine Zg ?_
   refine Zc hK324 ?_
   refine Zk ?_
   refine Zj ?_
   refine Zl rfl (RV.tmp rfl RV.nil) rfl ?_
   obtain rfl := Option.some.inj H
   replace hS := hS.cut 0
   exact ⟨rfl, hS⟩
  replace H := Zn H hb
  refine Zu ?_
  refine Zc hK68 ?_
  refine Ze (fun K hK325 => ?_)
  refine Zf ?_
  refine Za rfl rfl rfl (Zi Y3 rfl (RW.here _) hS hs0 trivial Yl) ?_
  refine Za rfl rfl rfl (Zi Vd rfl (RW.here _) hS hs8 trivial Xn) ?_
  obtain ⟨r326, hm327, H⟩ := bind_some H
  refine Zp rfl rfl rfl rfl (by kernel_rfl) rfl (Zaw r19.1 x1 A21 c22 A25 c26 A29 c30 A33 c34 A37 c38 A5_ c5_ _ (SlI.of_rd k23 (hS.rd Xu) (hS.rd_blk Xu)) (SlI.of_rd k27 (hS.row_rd Vu) (hS.row_blk Vu)) (SlI.of_rd k31 (hS.row_rd hs3) (hS.row_blk hs3)) (SlI.of_rd k35 (hS.row_rd hs4) (hS.row_blk hs4)) (SlI.of_rd k39 (hS.row_rd hs5) (hS.row_blk hs5)) (SlI.of_rd s5_.k (hS.rd0 s5_.rd) (hS.blk0 s5_.blk)) hm327) ?_
  rintro e w ⟨A328, c329, A332, c333, A336, c337, A340, c341, A344, c345, A348, c349, q352, rfl, k330, k334, k338, k342, k346, k350, hq353, okq354, hN⟩; refine ⟨_, rfl, ?_⟩; have hB := hN.pure; have hS := hS.join hN; clear hN
  refine Zb 1 rfl ?_
  refine Za rfl rfl rfl (Z4 rfl rfl) ?_
  refine Za rfl rfl rfl (Z4 rfl rfl) ?_
  refine Z9 rfl rfl Zdd hS (fun b356 w hS hB => ?_)
  refine Zq rfl rfl rfl CellsOf.agg hS ps0 Xt (by kernel_rfl) rfl (fun w hS hB => ?_)
  refine Zb 1 rfl ?_
  refine Zg ?_
  refine Zc hK325 ?_
  refine Ze (fun K hK358 => ?_)
  refine Ze (fun K hK359 => ?_)
  refine Zf ?_
  refine Za rfl rfl rfl (Zi Y3 rfl (RW.here _) hS hs0 trivial Yl) ?_
  refine Za rfl rfl rfl (Zi Y3 rfl (RW.here _) hS hs8 trivial Yl) ?_
  obtain ⟨r360, hm361, H⟩ := bind_some H
  refine Zp rfl rfl rfl rfl (by kernel_rfl) rfl (Zep r326.1 r19.1 A328 c329 A332 c333 A336 c337 A340 c341 A344 c345 A21 c22 A25 c26 A29 c30 A33 c34 A37 c38 _ (SlI.of_rd k330 (hS.rd Xu) (hS.rd_blk Xu)) (SlI.of_rd k334 (hS.row_rd Vu) (hS.row_blk Vu)) (SlI.of_rd k338 (hS.row_rd hs3) (hS.row_blk hs3)) (SlI.of_rd k342 (hS.row_rd hs4) (hS.row_blk hs4)) (SlI.of_rd k346 (hS.row_rd hs5) (hS.row_blk hs5)) (SlI.of_rd k23 (hS.rd hs9) (hS.rd_blk hs9)) (SlI.of_rd k27 (hS.row_rd Zfv) (hS.row_blk Zfv)) (SlI.of_rd k31 (hS.row_rd hs11) (hS.row_blk hs11)) (SlI.of_rd k35 (hS.row_rd hs12) (hS.row_blk hs12)) (SlI.of_rd k39 (hS.row_rd hs13) (hS.row_blk hs13)) hm361) ?_
  rintro e w ⟨rfl, hN⟩; refine ⟨_, rfl, ?_⟩; have hB := hN.pure; have hS := hS.join hN; clear hN
  refine Za rfl rfl rfl (Yq rfl) ?_
  refine Zb 1 rfl ?_
  refine Zs 142 rfl (fun hb => ?_) (fun hb => ?_)
  ·replace H := Zo H hb
   refine Zb 5 rfl ?_
   refine Zg ?_
   refine Zc hK359 ?_
   refine Zr rfl rfl ?_
   refine Ze (fun K hK362 => ?_)
   refine Zf ?_
   refine Zb 1 rfl ?_
   refine Zg ?_
   refine Zc hK362 ?_
   refine Zk ?_
   refine Zj ?_
   refine Zl rfl (RV.tmp rfl RV.nil) rfl ?_
   obtain rfl := Option.some.inj H
   replace hS := hS.cut 0
   exact ⟨rfl, hS⟩
  replace H := Zn H hb
  refine Zb 2 rfl ?_
  obtain ⟨r363, hm364, H⟩ := bind_some H
  refine Zp rfl rfl rfl rfl (by kernel_rfl) rfl (Zfh r326.2 r19.2 A348 c349 q352 A41 c42 q45 _ (SlI.of_rd (k_q hq353 k350) (hS.rd hs6) (hS.rd_blk hs6)) hq353 (hS.rds_sl hs7 okq354) (SlI.of_rd (k_q hq46 k43) (hS.rd Zdy) (hS.rd_blk Zdy)) hq46 (hS.rds_sl hs15 okq47) hm364) ?_
  rintro e w ⟨rfl, hN⟩; refine ⟨_, rfl, ?_⟩; have hB := hN.pure; have hS := hS.join hN; clear hN
  refine Za rfl rfl rfl (Yq rfl) ?_
  refine Zb 1 rfl ?_
  refine Zg ?_
  refine Zc hK359 ?_
  refine Zz rfl (fun hb => ?_) (fun hb => ?_)
  ·replace H := Zo H hb
   refine Ze (fun K hK365 => ?_)
   refine Zf ?_
   refine Zb 1 rfl ?_
   refine Zg ?_
   refine Zc hK365 ?_
   refine Zk ?_
   refine Zj ?_
   refine Zl rfl (RV.tmp rfl RV.nil) rfl ?_
   obtain rfl := Option.some.inj H
   replace hS := hS.cut 0
   exact ⟨rfl, hS⟩
  replace H := Zn H hb
  refine Zu ?_
  refine Zc hK358 ?_
  refine Ze (fun K hK366 => ?_)
  refine Ze (fun K hK367 => ?_)
  refine Zf ?_
  refine Za rfl rfl rfl (Zd Yb rfl) ?_
  refine Za rfl rfl rfl (Zd Yt rfl) ?_
  refine Za rfl rfl rfl (Zi Yf rfl (RW.here _) hS hs8 trivial Zej) ?_
  refine Za rfl rfl rfl (Zd Yb rfl) ?_
  refine Za rfl rfl rfl (Zd Yt rfl) ?_
  refine Za rfl rfl rfl (Zi Yf rfl (RW.here _) hS Zbd trivial Zej) ?_
  refine Za rfl rfl rfl (X9 (by kernel_rfl) rfl rfl (X6 _ _ _ _ _ _ _ _ _ _)) ?_
  refine Zg ?_
  refine Zc hK367 ?_
  refine Zz rfl (fun hb => ?_) (fun hb => ?_)
  ·replace H := Zo H hb
   refine Ze (fun K hK368 => ?_)
   refine Yo 25 [] (fun _ _ => True) ⟨by kernel_rfl, by kernel_rfl⟩ hS (fun w hS hB => ?_)
   refine Zm [true, true, true, true, true, true] (by decide +kernel) (by repeat (first | exact PF.body | exact PF.round | apply PF.then | apply PF.inBlock | apply PF.jump)) ?_
   refine LtK.put rfl rfl rfl (Zd Vh rfl) ?_
   refine LtK.put rfl rfl rfl (Zh Zx rfl (RW.below _) hS hs8 trivial V7) ?_
   refine LtK.put rfl rfl rfl (Zd Vh rfl) ?_
   refine LtK.put rfl rfl rfl (Zh Zx rfl (RW.below _) hS Zbd trivial V7) ?_
   refine LtK.put rfl rfl rfl (Y2 rfl rfl) ?_
   refine LtK.put rfl rfl rfl (Zt rfl) ?_
   refine LtK.nil ?_
   refine Xa 160 rfl (fun hb => ?_) (fun hb => ?_)
   rotate_left
   ·replace H := Zn H hb
    refine Zm [false, false, false, false, false, false, true, true, true, true, true, true, true, true, true, false, true, true] (by decide +kernel) (by repeat (first | exact PF.body | exact PF.round | apply PF.then | apply PF.inBlock | apply PF.jump)) ?_
    refine LtK.skip rfl rfl rfl ?_
    refine LtK.skip rfl rfl rfl ?_
    refine LtK.skip rfl rfl rfl ?_
    refine LtK.skip rfl rfl rfl ?_
    refine LtK.skip rfl rfl rfl ?_
    refine LtK.put rfl rfl rfl (Z5 rfl rfl rfl) ?_
    refine LtK.put rfl rfl rfl (Zt rfl) ?_
    refine LtK.skip rfl rfl rfl ?_
    refine LtK.skip rfl rfl rfl ?_
    refine LtK.skip rfl rfl rfl ?_
    refine LtK.skip rfl rfl rfl ?_
    refine LtK.nil ?_
    refine Zw [false, false, false, false, false, false, false, false, false, false, false, false, false, false, false, true] 15 ⟨by decide, by kernel_rfl, by kernel_rfl⟩ rfl rfl ?_
    try dsimp only [Zy]
    refine Yp rfl rfl rfl ?_
    refine Zg ?_
    refine Z3 (Below.refl _ _) ?_
    refine Zw [false, false, false, false, false, false, false, false, false, false, false, false, false, false, false, false, false, false, true] 18 ⟨by decide, by kernel_rfl, by kernel_rfl⟩ rfl rfl ?_
    try dsimp only [Zy]
    refine Yp rfl rfl rfl ?_
    refine Zg ?_
    refine Z3 (Below.refl _ _) ?_
    refine Zm [false, false, false, false, false, false, false, false, false, false, false, false, false, false, false, false, false, false, false, true, true, true] (by decide +kernel) (by repeat (first | exact PF.body | exact PF.round | apply PF.then | apply PF.inBlock | apply PF.jump)) ?_
    refine LtK.skip rfl rfl rfl ?_
    refine LtK.put rfl rfl rfl (Z5 rfl rfl rfl) ?_
    refine LtK.put rfl rfl rfl (Zt rfl) ?_
    refine LtK.nil ?_
    refine Zw [false, false, false, false, false, false, false, false, false, false, false, false, false, false, false, false, false, false, false, false, false, false, true] 22 ⟨by decide, by kernel_rfl, by kernel_rfl⟩ rfl rfl ?_
    try dsimp only [Zy]
    refine Yp rfl rfl rfl ?_
    refine Zg ?_
    refine Z3 (Below.refl _ _) ?_
    refine Zm [false, false, false, false, false, false, false, false, false, false, false, false, false, false, false, false, false, false, false, false, false, false, false, true, true] (by decide +kernel) (by repeat (first | exact PF.body | exact PF.round | apply PF.then | apply PF.inBlock | apply PF.jump)) ?_
    refine LtK.put rfl rfl rfl (Z5 rfl rfl rfl) ?_
    refine LtK.put rfl rfl rfl (Z0 rfl) ?_
    refine LtK.nil ?_
    refine Ya (by kernel_rfl) ?_
    refine Zc hK368 ?_
    refine Zk ?_
    refine Zj ?_
    refine Zl rfl (RV.tmp rfl RV.nil) rfl ?_
    obtain rfl := Option.some.inj H
    replace hS := hS.cut 0
    exact ⟨rfl, hS⟩
   replace H := Zo H hb
   refine Zm [false, false, false, false, false, false, true, true, true, true, true, true, true] (by decide +kernel) (by repeat (first | exact PF.body | exact PF.round | apply PF.then | apply PF.inBlock | apply PF.jump)) ?_
   refine LtK.put rfl rfl rfl (Zd Jm rfl) ?_
   refine LtK.put rfl rfl rfl (Zi Yf rfl (RW.below _) hS hs8 trivial Zbl) ?_
   refine LtK.put rfl rfl rfl (Zd Jm rfl) ?_
   refine LtK.put rfl rfl rfl (Zi Yf rfl (RW.below _) hS Zbd trivial Zbl) ?_
   refine LtK.put rfl rfl rfl (X9 (by kernel_rfl) rfl rfl (X6 _ _ _ _ _ _ _ _ _ _)) ?_
   refine LtK.put rfl rfl rfl (Z1 rfl rfl rfl) ?_
   refine LtK.put rfl rfl rfl (Zt rfl) ?_
   refine LtK.nil ?_
   refine Xa 167 rfl (fun hb => ?_) (fun hb => ?_)
   rotate_left
   ·replace H := Zn H hb
    refine Zm [false, false, false, false, false, false, false, false, false, false, false, false, false, true, true, false, true, true] (by decide +kernel) (by repeat (first | exact PF.body | exact PF.round | apply PF.then | apply PF.inBlock | apply PF.jump)) ?_
    refine LtK.skip rfl rfl rfl ?_
    refine LtK.skip rfl rfl rfl ?_
    refine LtK.skip rfl rfl rfl ?_
    refine LtK.skip rfl rfl rfl ?_
    refine LtK.nil ?_
    refine Zw [false, false, false, false, false, false, false, false, false, false, false, false, false, false, false, true] 15 ⟨by decide, by kernel_rfl, by kernel_rfl⟩ rfl rfl ?_
    try dsimp only [Zy]
    refine Yp rfl rfl rfl ?_
    refine Zg ?_
    refine Z3 (Below.refl _ _) ?_
    refine Zw [false, false, false, false, false, false, false, false, false, false, false, false, false, false, false, false, false, false, true] 18 ⟨by decide, by kernel_rfl, by kernel_rfl⟩ rfl rfl ?_
    try dsimp only [Zy]
    refine Yp rfl rfl rfl ?_
    refine Zg ?_
    refine Z3 (Below.refl _ _) ?_
    refine Zm [false, false, false, false, false, false, false, false, false, false, false, false, false, false, false, false, false, false, false, true, true, true] (by decide +kernel) (by repeat (first | exact PF.body | exact PF.round | apply PF.then | apply PF.inBlock | apply PF.jump)) ?_
    refine LtK.skip rfl rfl rfl ?_
    refine LtK.put rfl rfl rfl (Z5 rfl rfl rfl) ?_
    refine LtK.put rfl rfl rfl (Zt rfl) ?_
    refine LtK.nil ?_
    refine Zw [false, false, false, false, false, false, false, false, false, false, false, false, false, false, false, false, false, false, false, false, false, false, true] 22 ⟨by decide, by kernel_rfl, by kernel_rfl⟩ rfl rfl ?_
    try dsimp only [Zy]
    refine Yp rfl rfl rfl ?_
    refine Zg ?_
    refine Z3 (Below.refl _ _) ?_
    refine Zm [false, false, false, false, false, false, false, false, false, false, false, false, false, false, false, false, false, false, false, false, false, false, false, true, true] (by decide +kernel) (by repeat (first | exact PF.body | exact PF.round | apply PF.then | apply PF.inBlock | apply PF.jump)) ?_
    refine LtK.put rfl rfl rfl (Z5 rfl rfl rfl) ?_
    refine LtK.put rfl rfl rfl (Z0 rfl) ?_
    refine LtK.nil ?_
    refine Ya (by kernel_rfl) ?_
    refine Zc hK368 ?_
    refine Zk ?_
    refine Zj ?_
    refine Zl rfl (RV.tmp rfl RV.nil) rfl ?_
    obtain rfl := Option.some.inj H
    replace hS := hS.cut 0
    exact ⟨rfl, hS⟩
   replace H := Zo H hb
   refine Zm [false, false, false, false, false, false, false, false, false, false, false, false, false, true, true, false, true, true] (by decide +kernel) (by repeat (first | exact PF.body | exact PF.round | apply PF.then | apply PF.inBlock | apply PF.jump)) ?_
   refine LtK.put rfl rfl rfl (Zd Yb rfl) ?_
   refine LtK.put rfl rfl rfl (Zi Y0 rfl (RW.below _) hS hs8 trivial Va) ?_
   refine LtK.put rfl rfl rfl (Zd Yb rfl) ?_
   refine LtK.put rfl rfl rfl (Zi Y0 rfl (RW.below _) hS Zbd trivial Va) ?_
   refine LtK.nil ?_
   refine Zw [false, false, false, false, false, false, false, false, false, false, false, false, false, false, false, true] 15 ⟨by decide, by kernel_rfl, by kernel_rfl⟩ rfl rfl ?_
   try dsimp only [Zy]
   obtain ⟨r369, hm370, H⟩ := bind_some H
   refine Zp rfl rfl rfl rfl (by kernel_rfl) rfl (Y4 r19.1.tuple A21 c22 _ (SlI.of_rd k23 (hS.rd hs9) (hS.rd_blk hs9)) hm370) ?_
   rintro e w ⟨rfl, hN⟩; refine ⟨_, rfl, ?_⟩; have hB := hN.pure; have hS := hS.join hN; clear hN
   refine Zg ?_
   refine Z3 hB ?_
   refine Zw [false, false, false, false, false, false, false, false, false, false, false, false, false, false, false, false, false, false, true] 18 ⟨by decide, by kernel_rfl, by kernel_rfl⟩ rfl rfl ?_
   try dsimp only [Zy]
   obtain ⟨r371, hm372, H⟩ := bind_some H
   refine Zp rfl rfl rfl rfl (by kernel_rfl) rfl (Y4 x0.tuple A0_ c0_ _ (SlI.of_rd s0_.k (hS.rd0 s0_.rd) (hS.blk0 s0_.blk)) hm372) ?_
   rintro e w ⟨rfl, hN⟩; refine ⟨_, rfl, ?_⟩; have hB := hN.pure; have hS := hS.join hN; clear hN
   refine Zg ?_
   refine Z3 hB ?_
   refine Zm [false, false, false, false, false, false, false, false, false, false, false, false, false, false, false, false, false, false, false, true, true, true] (by decide +kernel) (by repeat (first | exact PF.body | exact PF.round | apply PF.then | apply PF.inBlock | apply PF.jump)) ?_
   refine LtK.put rfl rfl rfl (Y2 rfl rfl) ?_
   refine LtK.put rfl rfl rfl (Z1 rfl rfl rfl) ?_
   refine LtK.put rfl rfl rfl (Zt rfl) ?_
   refine LtK.nil ?_
   refine Xa 176 rfl (fun hb => ?_) (fun hb => ?_)
   rotate_left
   ·replace H := Zn H hb
    refine Zw [false, false, false, false, false, false, false, false, false, false, false, false, false, false, false, false, false, false, false, false, false, false, true] 22 ⟨by decide, by kernel_rfl, by kernel_rfl⟩ rfl rfl ?_
    try dsimp only [Zy]
    refine Yp rfl rfl rfl ?_
    refine Zg ?_
    refine Z3 (Below.refl _ _) ?_
    refine Zm [false, false, false, false, false, false, false, false, false, false, false, false, false, false, false, false, false, false, false, false, false, false, false, true, true] (by decide +kernel) (by repeat (first | exact PF.body | exact PF.round | apply PF.then | apply PF.inBlock | apply PF.jump)) ?_
    refine LtK.put rfl rfl rfl (Z5 rfl rfl rfl) ?_
    refine LtK.put rfl rfl rfl (Z0 rfl) ?_
    refine LtK.nil ?_
    refine Ya (by kernel_rfl) ?_
    refine Zc hK368 ?_
    refine Zk ?_
    refine Zj ?_
    refine Zl rfl (RV.tmp rfl RV.nil) rfl ?_
    obtain rfl := Option.some.inj H
    replace hS := hS.cut 0
    exact ⟨rfl, hS⟩
   replace H := Zo H hb
   refine Zw [false, false, false, false, false, false, false, false, false, false, false, false, false, false, false, false, false, false, false, false, false, false, true] 22 ⟨by decide, by kernel_rfl, by kernel_rfl⟩ rfl rfl ?_
   try dsimp only [Zy]
   obtain ⟨r373, hm374, H⟩ := bind_some H
   refine Zp rfl rfl rfl rfl (by kernel_rfl) rfl (Xk _ hm374) ?_
   rintro e w ⟨rfl, hN⟩; refine ⟨_, rfl, ?_⟩; have hB := hN.pure; have hS := hS.join hN; clear hN
   refine Zg ?_
   refine Z3 hB ?_
   refine Zm [false, false, false, false, false, false, false, false, false, false, false, false, false, false, false, false, false, false, false, false, false, false, false, true, true] (by decide +kernel) (by repeat (first | exact PF.body | exact PF.round | apply PF.then | apply PF.inBlock | apply PF.jump)) ?_
   refine LtK.put rfl rfl rfl (Z1 rfl rfl rfl) ?_
   refine LtK.put rfl rfl rfl (Z0 rfl) ?_
   refine LtK.nil ?_
   refine Ya (by kernel_rfl) ?_
   refine Zc hK368 ?_
   refine Zk ?_
   refine Zj ?_
   refine Zl rfl (RV.tmp rfl RV.nil) rfl ?_
   obtain rfl := Option.some.inj H
   replace hS := hS.cut 0
   exact ⟨rfl, hS⟩
  replace H := Zn H hb
  refine Zu ?_
  refine Zc hK366 ?_
  refine Ze (fun K hK375 => ?_)
  refine Ze (fun K hK376 => ?_)
  refine Zf ?_
  refine Za rfl rfl rfl (Zd Yb rfl) ?_
  refine Za rfl rfl rfl (Zd Yt rfl) ?_
  refine Za rfl rfl rfl (Zi Yf rfl (RW.here _) hS hs8 trivial Zej) ?_
  refine Za rfl rfl rfl (Zd Yh rfl) ?_
  refine Za rfl rfl rfl (Zi Yf rfl (RW.here _) hS Zcd trivial Vj) ?_
  refine Za rfl rfl rfl (Za1 (by kernel_rfl) rfl rfl (X6 _ _ _ _ _ _ _ _ _ _)) ?_
  refine Zb 1 rfl ?_
  refine Zs 185 rfl (fun hb => ?_) (fun hb => ?_)
  ·replace H := Zo H hb
   refine Zb 29 rfl ?_
   refine Zg ?_
   refine Zc hK376 ?_
   refine Zr rfl rfl ?_
   refine Ze (fun K hK377 => ?_)
   refine Zf ?_
   refine Zb 1 rfl ?_
   refine Zg ?_
   refine Zc hK377 ?_
   refine Zk ?_
   refine Zj ?_
   refine Zl rfl (RV.tmp rfl RV.nil) rfl ?_
   obtain rfl := Option.some.inj H
   replace hS := hS.cut 0
   exact ⟨rfl, hS⟩
  replace H := Zn H hb
  refine Za rfl rfl rfl (Zd Jm rfl) ?_
  refine Za rfl rfl rfl (Zi Yf rfl (RW.here _) hS hs8 trivial Zbl) ?_
  refine Za rfl rfl rfl (Zd Yh rfl) ?_
  refine Za rfl rfl rfl (Zi Yf rfl (RW.here _) hS Zcd trivial Vj) ?_
  refine Za rfl rfl rfl (Za1 (by kernel_rfl) rfl rfl (X6 _ _ _ _ _ _ _ _ _ _)) ?_
  refine Zb 2 rfl ?_
  refine Zs 192 rfl (fun hb => ?_) (fun hb => ?_)
  ·replace H := Zo H hb
   refine Zb 22 rfl ?_
   refine Zg ?_
   refine Zc hK376 ?_
   refine Zr rfl rfl ?_
   refine Ze (fun K hK378 => ?_)
   refine Zf ?_
   refine Zb 1 rfl ?_
   refine Zg ?_
   refine Zc hK378 ?_
   refine Zk ?_
   refine Zj ?_
   refine Zl rfl (RV.tmp rfl RV.nil) rfl ?_
   obtain rfl := Option.some.inj H
   replace hS := hS.cut 0
   exact ⟨rfl, hS⟩
  replace H := Zn H hb
  refine Za rfl rfl rfl (Zd Vh rfl) ?_
  refine Za rfl rfl rfl (Zh Zx rfl (RW.here _) hS hs8 trivial V7) ?_
  refine Za rfl rfl rfl (Zd Yh rfl) ?_
  refine Za rfl rfl rfl (Zd Z6 rfl) ?_
  refine Za rfl rfl rfl (Zh Zx rfl (RW.here _) hS Zcd trivial Vb) ?_
  refine Za rfl rfl rfl (Xo rfl rfl) ?_
  refine Zb 2 rfl ?_
  refine Zs 200 rfl (fun hb => ?_) (fun hb => ?_)
  ·replace H := Zo H hb
   refine Zb 14 rfl ?_
   refine Zg ?_
   refine Zc hK376 ?_
   refine Zr rfl rfl ?_
   refine Ze (fun K hK379 => ?_)
   refine Zf ?_
   refine Zb 1 rfl ?_
   refine Zg ?_
   refine Zc hK379 ?_
   refine Zk ?_
   refine Zj ?_
   refine Zl rfl (RV.tmp rfl RV.nil) rfl ?_
   obtain rfl := Option.some.inj H
   replace hS := hS.cut 0
   exact ⟨rfl, hS⟩
  replace H := Zn H hb
  refine Za rfl rfl rfl (Zd Yh rfl) ?_
  refine Za rfl rfl rfl (Zd Z6 rfl) ?_
  refine Za rfl rfl rfl (Zh Zx rfl (RW.here _) hS Zcd trivial Vb) ?_
  refine Za rfl rfl rfl (Zd Vh rfl) ?_
  refine Za rfl rfl rfl (Zh Zx rfl (RW.here _) hS Zbd trivial V7) ?_
  refine Za rfl rfl rfl (Jw rfl rfl) ?_
  refine Zb 2 rfl ?_
  refine Zs 208 rfl (fun hb => ?_) (fun hb => ?_)
  ·replace H := Zo H hb
   refine Zb 6 rfl ?_
   refine Zg ?_
   refine Zc hK376 ?_
   refine Zr rfl rfl ?_
   refine Ze (fun K hK380 => ?_)
   refine Zf ?_
   refine Zb 1 rfl ?_
   refine Zg ?_
   refine Zc hK380 ?_
   refine Zk ?_
   refine Zj ?_
   refine Zl rfl (RV.tmp rfl RV.nil) rfl ?_
   obtain rfl := Option.some.inj H
   replace hS := hS.cut 0
   exact ⟨rfl, hS⟩
  replace H := Zn H hb
  refine Zb 1 rfl ?_
  obtain ⟨e381, hi383, H⟩ := bind_some H
  obtain ⟨j382, A384, c385, hi383a, hi383b, hi383c⟩ := idxQ (q := q45) hq46 hi383
  refine Za rfl rfl rfl (Xj Zar rfl rfl hi383a hi383c (Rd.el (hS.rd Zdy) Xx hi383b)) ?_
  refine Za rfl rfl rfl (Xv Zbn rfl (Rd.el (hS.rd Zdy) Xx hi383b)) ?_
  refine Za rfl rfl rfl (Zfd Zfy rfl (RW.here _) (Rd.el (hS.rd Zdy) Xx hi383b) rfl) ?_
  refine Za rfl rfl rfl (Yq rfl) ?_
  refine Zb 1 rfl ?_
  refine Zg ?_
  refine Zc hK376 ?_
  refine Zz rfl (fun hb => ?_) (fun hb => ?_)
  ·replace H := Zo H hb
   refine Ze (fun K hK386 => ?_)
   refine Zf ?_
   refine Zb 1 rfl ?_
   refine Zg ?_
   refine Zc hK386 ?_
   refine Zk ?_
   refine Zj ?_
   refine Zl rfl (RV.tmp rfl RV.nil) rfl ?_
   obtain rfl := Option.some.inj H
   replace hS := hS.cut 0
   exact ⟨rfl, hS⟩
  replace H := Zn H hb
  refine Zu ?_
  refine Zc hK375 ?_
  refine Ze (fun K hK387 => ?_)
  refine Zf ?_
  refine Za rfl rfl rfl (Zd Yb rfl) ?_
  refine Za rfl rfl rfl (Zi Y0 rfl (RW.here _) hS Zbd trivial Va) ?_
  refine Za rfl rfl rfl (Zd Yh rfl) ?_
  refine Za rfl rfl rfl (Zd Z6 rfl) ?_
  refine Za rfl rfl rfl (Zh Zx rfl (RW.here _) hS Zcd trivial Vb) ?_
  obtain ⟨r388, hm389, H⟩ := bind_some H
  refine Zp rfl rfl rfl rfl (by kernel_rfl) rfl (Zdl x0.tuple x1.snap.index A0_ c0_ _ (SlI.of_rd s0_.k (hS.rd0 s0_.rd) (hS.blk0 s0_.blk)) hm389) ?_
  rintro e w ⟨rfl, hN⟩; refine ⟨_, rfl, ?_⟩; have hB := hN.pure; have hS := hS.join hN; clear hN
  refine Zb 1 rfl ?_
  refine Za rfl rfl rfl (Z4 rfl rfl) ?_
  refine Za rfl rfl rfl (Z4 rfl rfl) ?_
  refine Zb 2 rfl ?_
  refine Zg ?_
  refine Zc hK387 ?_
  refine Ze (fun K hK390 => ?_)
  refine Ze (fun K hK391 => ?_)
  refine Zf ?_
  refine Zb 1 rfl ?_
  refine Za rfl rfl rfl (Yq rfl) ?_
  refine Zb 1 rfl ?_
  refine Zs 226 rfl (fun hb => ?_) (fun hb => ?_)
  ·replace H := Zo H hb
   refine Zb 6 rfl ?_
   refine Zg ?_
   refine Zc hK391 ?_
   refine Zr rfl rfl ?_
   refine Ze (fun K hK392 => ?_)
   refine Zf ?_
   refine Za rfl rfl rfl (Zd Yb rfl) ?_
   refine Za rfl rfl rfl (Zd Xq rfl) ?_
   refine Za rfl rfl rfl (Zh Vl rfl (RW.here _) hS hs8 trivial Zb3) ?_
   refine Za rfl rfl rfl (Y7 Xy rfl) ?_
   refine Za rfl rfl rfl (Y2 rfl rfl) ?_
   refine Zb 1 rfl ?_
   refine Zs 238 rfl (fun hb => ?_) (fun hb => ?_)
   rotate_left
   ·replace H := Zn H hb
    refine Zb 3 rfl ?_
    refine Zg ?_
    refine Zc hK392 ?_
    refine Zk ?_
    refine Zj ?_
    refine Zl rfl (RV.tmp rfl RV.nil) rfl ?_
    obtain rfl := Option.some.inj H
    replace hS := hS.cut 0
    exact ⟨rfl, hS⟩
   replace H := Zo H hb
   obtain ⟨r393, hm394, H⟩ := bind_some H
   refine Zp rfl rfl rfl rfl (by kernel_rfl) rfl (Xk _ hm394) ?_
   rintro e w ⟨rfl, hN⟩; refine ⟨_, rfl, ?_⟩; have hB := hN.pure; have hS := hS.join hN; clear hN
   refine Zb 2 rfl ?_
   refine Zg ?_
   refine Zc hK392 ?_
   refine Zk ?_
   refine Zj ?_
   refine Zl rfl (RV.tmp rfl RV.nil) rfl ?_
   obtain rfl := Option.some.inj H
   replace hS := hS.cut 0
   exact ⟨rfl, hS⟩
  replace H := Zn H hb
  refine Zb 1 rfl ?_
  refine Za rfl rfl rfl (Zd Yh rfl) ?_
  refine Za rfl rfl rfl (Zd Vn rfl) ?_
  refine Za rfl rfl rfl (Zh Zx rfl (RW.here _) hS Zcd trivial sg11_1) ?_
  refine Za rfl rfl rfl (Xo rfl rfl) ?_
  refine Zb 1 rfl ?_
  refine Zg ?_
  refine Zc hK391 ?_
  refine Zz rfl (fun hb => ?_) (fun hb => ?_)
  ·replace H := Zo H hb
   refine Ze (fun K hK395 => ?_)
   refine Zf ?_
   refine Za rfl rfl rfl (Zd Yb rfl) ?_
   refine Za rfl rfl rfl (Zd Xq rfl) ?_
   refine Za rfl rfl rfl (Zh Vl rfl (RW.here _) hS hs8 trivial Zb3) ?_
   refine Za rfl rfl rfl (Y7 Xy rfl) ?_
   refine Za rfl rfl rfl (Y2 rfl rfl) ?_
   refine Zb 1 rfl ?_
   refine Zs 238 rfl (fun hb => ?_) (fun hb => ?_)
   rotate_left
   ·replace H := Zn H hb
    refine Zb 3 rfl ?_
    refine Zg ?_
    refine Zc hK395 ?_
    refine Zk ?_
    refine Zj ?_
    refine Zl rfl (RV.tmp rfl RV.nil) rfl ?_
    obtain rfl := Option.some.inj H
    replace hS := hS.cut 0
    exact ⟨rfl, hS⟩
   replace H := Zo H hb
   obtain ⟨r396, hm397, H⟩ := bind_some H
   refine Zp rfl rfl rfl rfl (by kernel_rfl) rfl (Xk _ hm397) ?_
   rintro e w ⟨rfl, hN⟩; refine ⟨_, rfl, ?_⟩; have hB := hN.pure; have hS := hS.join hN; clear hN
   refine Zb 2 rfl ?_
   refine Zg ?_
   refine Zc hK395 ?_
   refine Zk ?_
   refine Zj ?_
   refine Zl rfl (RV.tmp rfl RV.nil) rfl ?_
   obtain rfl := Option.some.inj H
   replace hS := hS.cut 0
   exact ⟨rfl, hS⟩
  replace H := Zn H hb
  refine Zu ?_
  refine Zc hK390 ?_
  refine Ze (fun K hK398 => ?_)
  refine Ze (fun K hK399 => ?_)
  refine Zf ?_
  refine Za rfl rfl rfl (Zd Yh rfl) ?_
  refine Za rfl rfl rfl (Zd Z6 rfl) ?_
  refine Za rfl rfl rfl (Zh Zx rfl (RW.here _) hS Zcd trivial Vb) ?_
  refine Za rfl rfl rfl (Vi rfl rfl) ?_
  refine Zb 1 rfl ?_
  refine Zg ?_
  refine Zc hK399 ?_
  refine Yj ?_
  refine V3 (X := Nat × Bool × Int) (fun x => (2, .pointer (some ⟨b2, 0, none⟩)) :: (4, .bool x.2.1) :: (5, .pointer (some ⟨b49, 0, none⟩)) :: (11, .int .i64 x.2.2) :: []) (fun x w => St0 All w0 w (.box b356 [.int .i64 r326.1.id, .int .i64 r326.1.n, .int .u8 r326.1.role, .int .i64 r326.1.binary, .int .i64 r326.1.tuple.snap.index, .int .i64 r326.1.tuple.snap.term, .int .i64 r326.1.tuple.snap.sum, .int .i64 r326.1.tuple.snap.level, .bool r326.1.tuple.snap.final, .slice A328 r326.1.tuple.log.length c329, .int .i64 r326.1.tuple.term, .int .i64 r326.1.tuple.vote, .int .i64 r326.1.commit, .int .i64 r326.1.applied.index, .int .i64 r326.1.applied.term, .int .i64 r326.1.applied.sum, .int .i64 r326.1.applied.level, .bool r326.1.applied.final, .slice A332 r326.1.votes.length c333, .slice A336 r326.1.next.length c337, .slice A340 r326.1.mtch.length c341, .slice A344 r326.1.caps.length c345] 30 :: .rd A328 (Ye Ja r326.1.tuple.log) :: .row (.slice A332 r326.1.votes.length c333) 4 1 r326.1.votes.length (Ye enO r326.1.votes) :: .row (.slice A336 r326.1.next.length c337) 3 1 r326.1.next.length (Ye Vp r326.1.next) :: .row (.slice A340 r326.1.mtch.length c341) 3 1 r326.1.mtch.length (Ye Vp r326.1.mtch) :: .row (.slice A344 r326.1.caps.length c345) 3 1 r326.1.caps.length (Ye Vp r326.1.caps) :: .rd A348 (Ye enQ q352) :: .rds (q352.map subQ) :: .box b49 [.int .i64 r19.1.id, .int .i64 r19.1.n, .int .u8 r19.1.role, .int .i64 r19.1.binary, .int .i64 r19.1.tuple.snap.index, .int .i64 r19.1.tuple.snap.term, .int .i64 r19.1.tuple.snap.sum, .int .i64 r19.1.tuple.snap.level, .bool r19.1.tuple.snap.final, .slice A21 r19.1.tuple.log.length c22, .int .i64 r19.1.tuple.term, .int .i64 r19.1.tuple.vote, .int .i64 r19.1.commit, .int .i64 r19.1.applied.index, .int .i64 r19.1.applied.term, .int .i64 r19.1.applied.sum, .int .i64 r19.1.applied.level, .bool r19.1.applied.final, .slice A25 r19.1.votes.length c26, .slice A29 r19.1.next.length c30, .slice A33 r19.1.mtch.length c34, .slice A37 r19.1.caps.length c38] 30 :: .rd A21 (Ye Ja r19.1.tuple.log) :: .row (.slice A25 r19.1.votes.length c26) 4 1 r19.1.votes.length (Ye enO r19.1.votes) :: .row (.slice A29 r19.1.next.length c30) 3 1 r19.1.next.length (Ye Vp r19.1.next) :: .row (.slice A33 r19.1.mtch.length c34) 3 1 r19.1.mtch.length (Ye Vp r19.1.mtch) :: .row (.slice A37 r19.1.caps.length c38) 3 1 r19.1.caps.length (Ye Vp r19.1.caps) :: .rd A41 (Ye enQ q45) :: .rds (q45.map subQ) :: .box b4 [.int .u8 x1.kind, .int .i64 x1.frm, .int .i64 x1.dst, .int .i64 x1.term, .int .i64 x1.cap, .int .i64 x1.last, .int .i64 x1.lastTerm, .int .i64 x1.commit, .bool x1.okk, .slice A5_ x1.entries.length c5_, .int .i64 x1.snap.index, .int .i64 x1.snap.term, .int .i64 x1.snap.sum, .int .i64 x1.snap.level, .bool x1.snap.final] 32 :: .box b2 [.int .i64 x0.id, .int .i64 x0.n, .int .u8 x0.role, .int .i64 x0.binary, .int .i64 x0.tuple.snap.index, .int .i64 x0.tuple.snap.term, .int .i64 x0.tuple.snap.sum, .int .i64 x0.tuple.snap.level, .bool x0.tuple.snap.final, .slice A0_ x0.tuple.log.length c0_, .int .i64 x0.tuple.term, .int .i64 x0.tuple.vote, .int .i64 x0.commit, .int .i64 x0.applied.index, .int .i64 x0.applied.term, .int .i64 x0.applied.sum, .int .i64 x0.applied.level, .bool x0.applied.final, .slice A1_ x0.votes.length c1_, .slice A2_ x0.next.length c2_, .slice A3_ x0.mtch.length c3_, .slice A4_ x0.caps.length c4_] 30 :: []) ∧ Jq x0 r19 x.1 x.2.1 x.2.2 = some r) (fun x => x.1) (Xz, false, (IntKind.wrap .i64 (x1.snap.index + 1))) (by repeat (first | exact Sub.nil | refine Sub.cons rfl ?_)) ⟨hS, H⟩ ?_
  rintro ⟨n, v400, v401⟩ w ⟨hS, H⟩
  dsimp only at hS H ⊢
  obtain _ | n := n
  ·have H0 : none = some r := H
   cases H0
  rw [Jq] at H
  refine Ze (fun K hK402 => ?_)
  refine Ze (fun K hK403 => ?_)
  refine Zf ?_
  refine Zb 1 rfl ?_
  refine Za rfl rfl rfl (Zd Yb rfl) ?_
  refine Za rfl rfl rfl (Zi Y0 rfl (RW.here _) hS Zbd trivial Va) ?_
  obtain ⟨r404, hm405, H⟩ := bind_some H
  refine Zp rfl rfl rfl rfl (by kernel_rfl) rfl (Y4 x0.tuple A0_ c0_ _ (SlI.of_rd s0_.k (hS.rd0 s0_.rd) (hS.blk0 s0_.blk)) hm405) ?_
  rintro e w ⟨rfl, hN⟩; refine ⟨_, rfl, ?_⟩; have hB := hN.pure; have hS := hS.join hN; clear hN
  refine Za rfl rfl rfl (Jw rfl rfl) ?_
  refine Zg ?_
  refine Zc hK403 ?_
  refine Zz rfl (fun hb => ?_) (fun hb => ?_)
  rotate_left
  ·replace H := Zn H hb
   refine Vk ?_
   refine Yd ?_
   refine Yd ?_
   refine Xd ?_
   refine Zc hK398 ?_
   refine Ze (fun K hK420 => ?_)
   refine Yo 11 [] (fun _ _ => True) ⟨by kernel_rfl, by kernel_rfl⟩ hS (fun w hS hB => ?_)
   refine Zm [true, true, false, true, true] (by decide +kernel) (by repeat (first | exact PF.body | exact PF.round | apply PF.then | apply PF.inBlock | apply PF.jump)) ?_
   refine LtK.put rfl rfl rfl (Zd Yb rfl) ?_
   refine LtK.put rfl rfl rfl (Zi Y0 rfl (RW.below _) hS hs8 trivial Va) ?_
   refine LtK.put rfl rfl rfl (Zd Yb rfl) ?_
   refine LtK.put rfl rfl rfl (Zi Y0 rfl (RW.below _) hS Zbd trivial Va) ?_
   refine LtK.nil ?_
   refine Zw [false, false, true] 2 ⟨by decide, by kernel_rfl, by kernel_rfl⟩ rfl rfl ?_
   try dsimp only [Zy]
   obtain ⟨r421, hm422, H⟩ := bind_some H
   refine Zp rfl rfl rfl rfl (by kernel_rfl) rfl (Y4 r19.1.tuple A21 c22 _ (SlI.of_rd k23 (hS.rd hs9) (hS.rd_blk hs9)) hm422) ?_
   rintro e w ⟨rfl, hN⟩; refine ⟨_, rfl, ?_⟩; have hB := hN.pure; have hS := hS.join hN; clear hN
   refine Zg ?_
   refine Z3 hB ?_
   refine Zw [false, false, false, false, false, true] 5 ⟨by decide, by kernel_rfl, by kernel_rfl⟩ rfl rfl ?_
   try dsimp only [Zy]
   obtain ⟨r423, hm424, H⟩ := bind_some H
   refine Zp rfl rfl rfl rfl (by kernel_rfl) rfl (Y4 x0.tuple A0_ c0_ _ (SlI.of_rd s0_.k (hS.rd0 s0_.rd) (hS.blk0 s0_.blk)) hm424) ?_
   rintro e w ⟨rfl, hN⟩; refine ⟨_, rfl, ?_⟩; have hB := hN.pure; have hS := hS.join hN; clear hN
   refine Zg ?_
   refine Z3 hB ?_
   refine Zm [false, false, false, false, false, false, true, true] (by decide +kernel) (by repeat (first | exact PF.body | exact PF.round | apply PF.then | apply PF.inBlock | apply PF.jump)) ?_
   refine LtK.put rfl rfl rfl (Y2 rfl rfl) ?_
   refine LtK.put rfl rfl rfl (Zt rfl) ?_
   refine LtK.nil ?_
   refine Xa 280 rfl (fun hb => ?_) (fun hb => ?_)
   rotate_left
   ·replace H := Zn H hb
    refine Zw [false, false, false, false, false, false, false, false, true] 8 ⟨by decide, by kernel_rfl, by kernel_rfl⟩ rfl rfl ?_
    try dsimp only [Zy]
    refine Yp rfl rfl rfl ?_
    refine Zg ?_
    refine Z3 (Below.refl _ _) ?_
    refine Zm [false, false, false, false, false, false, false, false, false, true, true] (by decide +kernel) (by repeat (first | exact PF.body | exact PF.round | apply PF.then | apply PF.inBlock | apply PF.jump)) ?_
    refine LtK.put rfl rfl rfl (Z5 rfl rfl rfl) ?_
    refine LtK.put rfl rfl rfl (Z0 rfl) ?_
    refine LtK.nil ?_
    refine Ya (by kernel_rfl) ?_
    refine Zc hK420 ?_
    refine Zk ?_
    refine Zl rfl (RV.tmp rfl RV.nil) rfl ?_
    obtain rfl := Option.some.inj H
    replace hS := hS.cut 0
    exact ⟨rfl, hS⟩
   replace H := Zo H hb
   refine Zw [false, false, false, false, false, false, false, false, true] 8 ⟨by decide, by kernel_rfl, by kernel_rfl⟩ rfl rfl ?_
   try dsimp only [Zy]
   obtain ⟨r425, hm426, H⟩ := bind_some H
   refine Zp rfl rfl rfl rfl (by kernel_rfl) rfl (Xk _ hm426) ?_
   rintro e w ⟨rfl, hN⟩; refine ⟨_, rfl, ?_⟩; have hB := hN.pure; have hS := hS.join hN; clear hN
   refine Zg ?_
   refine Z3 hB ?_
   refine Zm [false, false, false, false, false, false, false, false, false, true, true] (by decide +kernel) (by repeat (first | exact PF.body | exact PF.round | apply PF.then | apply PF.inBlock | apply PF.jump)) ?_
   refine LtK.put rfl rfl rfl (Z1 rfl rfl rfl) ?_
   refine LtK.put rfl rfl rfl (Z0 rfl) ?_
   refine LtK.nil ?_
   refine Ya (by kernel_rfl) ?_
   refine Zc hK420 ?_
   refine Zk ?_
   refine Zl rfl (RV.tmp rfl RV.nil) rfl ?_
   obtain rfl := Option.some.inj H
   replace hS := hS.cut 0
   exact ⟨rfl, hS⟩
  replace H := Zo H hb
  refine Zu ?_
  refine Zc hK402 ?_
  refine Ze (fun K hK406 => ?_)
  refine Yj ?_
  refine Ze (fun K hK407 => ?_)
  refine Zf ?_
  refine Za rfl rfl rfl (Zd Yb rfl) ?_
  refine Za rfl rfl rfl (Zi Y0 rfl (RW.here _) hS Zbd trivial Va) ?_
  refine Zb 1 rfl ?_
  obtain ⟨r408, hm409, H⟩ := bind_some H
  refine Zp rfl rfl rfl rfl (by kernel_rfl) rfl (Za8 x0.tuple v401 A0_ c0_ _ (SlI.of_rd s0_.k (hS.rd0 s0_.rd) (hS.blk0 s0_.blk)) hm409) ?_
  rintro e w ⟨rfl, hN⟩; refine ⟨_, rfl, ?_⟩; have hB := hN.pure; have hS := hS.join hN; clear hN
  refine Zb 1 rfl ?_
  refine Za rfl rfl rfl (Z4 rfl rfl) ?_
  refine Za rfl rfl rfl (Z4 rfl rfl) ?_
  refine Z9 rfl rfl Zaq hS (fun b410 w hS hB => ?_)
  refine Zq rfl rfl rfl CellsOf.agg hS ps0 Zds (by kernel_rfl) rfl (fun w hS hB => ?_)
  refine Zb 1 rfl ?_
  refine Zg ?_
  refine Zc hK407 ?_
  refine Ze (fun K hK412 => ?_)
  refine Zf ?_
  refine Za rfl rfl rfl (Zd Yb rfl) ?_
  refine Za rfl rfl rfl (Zi Y0 rfl (RW.here _) hS hs9 trivial Va) ?_
  refine Zb 1 rfl ?_
  obtain ⟨r413, hm414, H⟩ := bind_some H
  refine Zp rfl rfl rfl rfl (by kernel_rfl) rfl (Za8 r19.1.tuple v401 A21 c22 _ (SlI.of_rd k23 (hS.rd Zfv) (hS.rd_blk Zfv)) hm414) ?_
  rintro e w ⟨rfl, hN⟩; refine ⟨_, rfl, ?_⟩; have hB := hN.pure; have hS := hS.join hN; clear hN
  refine Zb 1 rfl ?_
  refine Za rfl rfl rfl (Z4 rfl rfl) ?_
  refine Za rfl rfl rfl (Z4 rfl rfl) ?_
  refine Z9 rfl rfl Zaq hS (fun b415 w hS hB => ?_)
  refine Zq rfl rfl rfl CellsOf.agg hS ps0 Zds (by kernel_rfl) rfl (fun w hS hB => ?_)
  refine Zb 1 rfl ?_
  refine Zg ?_
  refine Zc hK412 ?_
  refine Ze (fun K hK417 => ?_)
  refine Zf ?_
  refine Zb 1 rfl ?_
  refine Za rfl rfl rfl (Yq rfl) ?_
  refine Zb 1 rfl ?_
  refine Zs 268 rfl (fun hb => ?_) (fun hb => ?_)
  ·replace H := Zo H hb
   refine Zb 4 rfl ?_
   refine Zg ?_
   refine Zc hK417 ?_
   refine Zr rfl rfl ?_
   refine Ze (fun K hK418 => ?_)
   refine Zf ?_
   refine Zb 1 rfl ?_
   refine Zg ?_
   refine Zc hK418 ?_
   refine Zk ?_
   refine Zv ?_
   refine Zj ?_
   refine Zj ?_
   refine Zv ?_
   refine Zj ?_
   refine Zl rfl (RV.tmp rfl RV.nil) rfl ?_
   obtain rfl := Option.some.inj H
   replace hS := hS.cut 0
   exact ⟨rfl, hS⟩
  replace H := Zn H hb
  refine Za rfl rfl rfl (Zi Vv rfl (RW.here _) hS Xu trivial Zax) ?_
  refine Za rfl rfl rfl (Zi Vv rfl (RW.here _) hS hs0 trivial Zax) ?_
  refine Za rfl rfl rfl (Za1 (by kernel_rfl) rfl rfl (eqT_46 _ _ _ _ _ _)) ?_
  refine Zb 1 rfl ?_
  refine Zg ?_
  refine Zc hK417 ?_
  refine Zz rfl (fun hb => ?_) (fun hb => ?_)
  rotate_left
  ·replace H := Zn H hb
   refine Zu ?_
   refine Z7 ?_
   refine Zc hK406 ?_
   refine Zf ?_
   refine Zb 1 rfl ?_
   refine Za rfl rfl rfl (Vi rfl rfl) ?_
   refine Zb 1 rfl ?_
   refine Zg ?_
   exact Vz (n, v400, (IntKind.wrap .i64 (v401 + 1))) (by repeat (first | exact Sub.nil | refine Sub.cons rfl ?_)) ⟨(hS.sub (List.Sublist.cons _ (List.Sublist.cons _ (List.Sublist.cons_cons _ (List.Sublist.cons_cons _ (List.Sublist.cons_cons _ (List.Sublist.cons_cons _ (List.Sublist.cons_cons _ (List.Sublist.cons_cons _ (List.Sublist.cons_cons _ (List.Sublist.cons_cons _ (List.Sublist.cons_cons _ (List.Sublist.cons_cons _ (List.Sublist.cons_cons _ (List.Sublist.cons_cons _ (List.Sublist.cons_cons _ (List.Sublist.cons_cons _ (List.Sublist.cons_cons _ (List.Sublist.cons_cons _ (List.Sublist.cons_cons _ (List.Sublist.cons_cons _ List.Sublist.slnil))))))))))))))))))))), H⟩ (Nat.lt_succ_self _)
  replace H := Zo H hb
  refine Ze (fun K hK419 => ?_)
  refine Zf ?_
  refine Zb 1 rfl ?_
  refine Zg ?_
  refine Zc hK419 ?_
  refine Zk ?_
  refine Zv ?_
  refine Zj ?_
  refine Zj ?_
  refine Zv ?_
  refine Zj ?_
  refine Zl rfl (RV.tmp rfl RV.nil) rfl ?_
  obtain rfl := Option.some.inj H
  replace hS := hS.cut 0
  exact ⟨rfl, hS⟩
 replace H := Zo H hb
 refine Zm [false, false, false, false, false, false, false, false, false, false, false, false, false, false, false, false, false, false, false, false, false, false, true, true, true, true, true, true, true, true, true, true] (by decide +kernel) (by repeat (first | exact PF.body | exact PF.round | apply PF.then | apply PF.inBlock | apply PF.jump)) ?_
 refine LtK.put rfl rfl rfl (Zt rfl) ?_
 obtain ⟨e89, hi91, H⟩ := bind_some H
 obtain ⟨j90, A92, c93, hi91a, hi91b, hi91c⟩ := idxQ (q := q45) hq46 hi91
 refine LtK.put rfl rfl rfl (Xj Zar rfl rfl hi91a hi91c (Rd.el (hS.rd hs6) Xx hi91b)) ?_
 refine LtK.put rfl rfl rfl (Xv Zem rfl (Rd.el (hS.rd hs6) Xx hi91b)) ?_
 refine LtK.put rfl rfl rfl (Zfd Zx rfl (RW.below _) (Rd.el (hS.rd hs6) Xx hi91b) rfl) ?_
 refine LtK.put rfl rfl rfl (Zd Vh rfl) ?_
 refine LtK.put rfl rfl rfl (Zh Zx rfl (RW.below _) hS hs0 trivial V7) ?_
 refine LtK.put rfl rfl rfl (Xo rfl rfl) ?_
 refine LtK.put rfl rfl rfl (Z1 rfl rfl rfl) ?_
 refine LtK.put rfl rfl rfl (Z5 rfl rfl rfl) ?_
 refine LtK.put rfl rfl rfl (Zt rfl) ?_
 refine LtK.nil ?_
 refine Xa 115 rfl (fun hb => ?_) (fun hb => ?_)
 ·replace H := Zo H hb
  refine Zm [false, false, false, false, false, false, false, false, false, false, false, false, false, false, false, false, false, false, false, false, false, false, false, false, false, false, false, false, false, false, false, false, true, true, true, true, true, true, true, true, true, true, true, true] (by decide +kernel) (by repeat (first | exact PF.body | exact PF.round | apply PF.then | apply PF.inBlock | apply PF.jump)) ?_
  refine LtK.skip rfl rfl rfl ?_
  refine LtK.skip rfl rfl rfl ?_
  refine LtK.skip rfl rfl rfl ?_
  refine LtK.skip rfl rfl rfl ?_
  refine LtK.skip rfl rfl rfl ?_
  refine LtK.skip rfl rfl rfl ?_
  refine LtK.skip rfl rfl rfl ?_
  refine LtK.skip rfl rfl rfl ?_
  refine LtK.skip rfl rfl rfl ?_
  refine LtK.skip rfl rfl rfl ?_
  refine LtK.skip rfl rfl rfl ?_
  refine LtK.skip rfl rfl rfl ?_
  refine LtK.nil ?_
  refine Zw [false, false, false, false, false, false, false, false, false, false, false, false, false, false, false, false, false, false, false, false, false, false, false, false, false, false, false, false, false, false, false, false, false, false, false, false, false, false, false, false, false, false, false, false, true] 44 ⟨by decide, by kernel_rfl, by kernel_rfl⟩ rfl rfl ?_
  try dsimp only [Zy]
  refine Yp rfl rfl rfl ?_
  refine Zg ?_
  refine Z3 (Below.refl _ _) ?_
  refine Zm [false, false, false, false, false, false, false, false, false, false, false, false, false, false, false, false, false, false, false, false, false, false, false, false, false, false, false, false, false, false, false, false, false, false, false, false, false, false, false, false, false, false, false, false, false, true, true, true] (by decide +kernel) (by repeat (first | exact PF.body | exact PF.round | apply PF.then | apply PF.inBlock | apply PF.jump)) ?_
  refine LtK.skip rfl rfl rfl ?_
  refine LtK.skip rfl rfl rfl ?_
  refine LtK.put rfl rfl rfl (Z1 rfl rfl rfl) ?_
  refine LtK.nil ?_
  refine Ya (by kernel_rfl) ?_
  refine Zc hK69 ?_
  refine Zr rfl rfl ?_
  refine Ze (fun K hK94 => ?_)
  refine Zf ?_
  refine Zb 1 rfl ?_
  refine Zg ?_
  refine Zc hK94 ?_
  refine Zk ?_
  refine Zj ?_
  refine Zl rfl (RV.tmp rfl RV.nil) rfl ?_
  obtain rfl := Option.some.inj H
  replace hS := hS.cut 0
  exact ⟨rfl, hS⟩
 replace H := Zn H hb
 refine Zm [false, false, false, false, false, false, false, false, false, false, false, false, false, false, false, false, false, false, false, false, false, false, false, false, false, false, false, false, false, false, false, false, true, true, true, true, true, true] (by decide +kernel) (by repeat (first | exact PF.body | exact PF.round | apply PF.then | apply PF.inBlock | apply PF.jump)) ?_
 refine LtK.put rfl rfl rfl (Zt rfl) ?_
 obtain ⟨e95, hi97, H⟩ := bind_some H
 obtain ⟨j96, A98, c99, hi97a, hi97b, hi97c⟩ := idxQ (q := q45) hq46 hi97
 refine LtK.put rfl rfl rfl (Xj Zar rfl rfl hi97a hi97c (Rd.el (hS.rd hs6) Xx hi97b)) ?_
 refine LtK.put rfl rfl rfl (Xv Zbn rfl (Rd.el (hS.rd hs6) Xx hi97b)) ?_
 refine LtK.put rfl rfl rfl (Zfd Zfy rfl (RW.below _) (Rd.el (hS.rd hs6) Xx hi97b) rfl) ?_
 refine LtK.put rfl rfl rfl (Yq rfl) ?_
 refine LtK.put rfl rfl rfl (Zt rfl) ?_
 refine LtK.nil ?_
 refine Xa 121 rfl (fun hb => ?_) (fun hb => ?_)
 rotate_left
 ·replace H := Zn H hb
  refine Zm [false, false, false, false, false, false, false, false, false, false, false, false, false, false, false, false, false, false, false, false, false, false, false, false, false, false, false, false, false, false, false, false, false, false, false, false, false, false, true, true, true, true, true, true] (by decide +kernel) (by repeat (first | exact PF.body | exact PF.round | apply PF.then | apply PF.inBlock | apply PF.jump)) ?_
  refine LtK.skip rfl rfl rfl ?_
  refine LtK.skip rfl rfl rfl ?_
  refine LtK.skip rfl rfl rfl ?_
  refine LtK.skip rfl rfl rfl ?_
  refine LtK.skip rfl rfl rfl ?_
  refine LtK.skip rfl rfl rfl ?_
  refine LtK.nil ?_
  refine Zw [false, false, false, false, false, false, false, false, false, false, false, false, false, false, false, false, false, false, false, false, false, false, false, false, false, false, false, false, false, false, false, false, false, false, false, false, false, false, false, false, false, false, false, false, true] 44 ⟨by decide, by kernel_rfl, by kernel_rfl⟩ rfl rfl ?_
  try dsimp only [Zy]
  refine Yp rfl rfl rfl ?_
  refine Zg ?_
  refine Z3 (Below.refl _ _) ?_
  refine Zm [false, false, false, false, false, false, false, false, false, false, false, false, false, false, false, false, false, false, false, false, false, false, false, false, false, false, false, false, false, false, false, false, false, false, false, false, false, false, false, false, false, false, false, false, false, true, true, true] (by decide +kernel) (by repeat (first | exact PF.body | exact PF.round | apply PF.then | apply PF.inBlock | apply PF.jump)) ?_
  refine LtK.skip rfl rfl rfl ?_
  refine LtK.put rfl rfl rfl (Z5 rfl rfl rfl) ?_
  refine LtK.put rfl rfl rfl (Z5 rfl rfl rfl) ?_
  refine LtK.nil ?_
  refine Ya (by kernel_rfl) ?_
  refine Zc hK69 ?_
  refine Yu rfl rfl ?_
  refine Zu ?_
  refine Zc hK68 ?_
  refine Ze (fun K hK210 => ?_)
  refine Zf ?_
  refine Za rfl rfl rfl (Zi Y3 rfl (RW.here _) hS hs0 trivial Yl) ?_
  refine Za rfl rfl rfl (Zi Vd rfl (RW.here _) hS hs8 trivial Xn) ?_
  obtain ⟨r211, hm212, H⟩ := bind_some H
  refine Zp rfl rfl rfl rfl (by kernel_rfl) rfl (Zaw r19.1 x1 A21 c22 A25 c26 A29 c30 A33 c34 A37 c38 A5_ c5_ _ (SlI.of_rd k23 (hS.rd Xu) (hS.rd_blk Xu)) (SlI.of_rd k27 (hS.row_rd Vu) (hS.row_blk Vu)) (SlI.of_rd k31 (hS.row_rd hs3) (hS.row_blk hs3)) (SlI.of_rd k35 (hS.row_rd hs4) (hS.row_blk hs4)) (SlI.of_rd k39 (hS.row_rd hs5) (hS.row_blk hs5)) (SlI.of_rd s5_.k (hS.rd0 s5_.rd) (hS.blk0 s5_.blk)) hm212) ?_
  rintro e w ⟨A213, c214, A217, c218, A221, c222, A225, c226, A229, c230, A233, c234, q237, rfl, k215, k219, k223, k227, k231, k235, hq238, okq239, hN⟩; refine ⟨_, rfl, ?_⟩; have hB := hN.pure; have hS := hS.join hN; clear hN
  refine Zb 1 rfl ?_
  refine Za rfl rfl rfl (Z4 rfl rfl) ?_
  refine Za rfl rfl rfl (Z4 rfl rfl) ?_
  refine Z9 rfl rfl Zdd hS (fun b241 w hS hB => ?_)
  refine Zq rfl rfl rfl CellsOf.agg hS ps0 Xt (by kernel_rfl) rfl (fun w hS hB => ?_)
  refine Zb 1 rfl ?_
  refine Zg ?_
  refine Zc hK210 ?_
  refine Ze (fun K hK243 => ?_)
  refine Ze (fun K hK244 => ?_)
  refine Zf ?_
  refine Za rfl rfl rfl (Zi Y3 rfl (RW.here _) hS hs0 trivial Yl) ?_
  refine Za rfl rfl rfl (Zi Y3 rfl (RW.here _) hS hs8 trivial Yl) ?_
  obtain ⟨r245, hm246, H⟩ := bind_some H
  refine Zp rfl rfl rfl rfl (by kernel_rfl) rfl (Zep r211.1 r19.1 A213 c214 A217 c218 A221 c222 A225 c226 A229 c230 A21 c22 A25 c26 A29 c30 A33 c34 A37 c38 _ (SlI.of_rd k215 (hS.rd Xu) (hS.rd_blk Xu)) (SlI.of_rd k219 (hS.row_rd Vu) (hS.row_blk Vu)) (SlI.of_rd k223 (hS.row_rd hs3) (hS.row_blk hs3)) (SlI.of_rd k227 (hS.row_rd hs4) (hS.row_blk hs4)) (SlI.of_rd k231 (hS.row_rd hs5) (hS.row_blk hs5)) (SlI.of_rd k23 (hS.rd hs9) (hS.rd_blk hs9)) (SlI.of_rd k27 (hS.row_rd Zfv) (hS.row_blk Zfv)) (SlI.of_rd k31 (hS.row_rd hs11) (hS.row_blk hs11)) (SlI.of_rd k35 (hS.row_rd hs12) (hS.row_blk hs12)) (SlI.of_rd k39 (hS.row_rd hs13) (hS.row_blk hs13)) hm246) ?_
  rintro e w ⟨rfl, hN⟩; refine ⟨_, rfl, ?_⟩; have hB := hN.pure; have hS := hS.join hN; clear hN
  refine Za rfl rfl rfl (Yq rfl) ?_
  refine Zb 1 rfl ?_
  refine Zs 142 rfl (fun hb => ?_) (fun hb => ?_)
  ·replace H := Zo H hb
   refine Zb 5 rfl ?_
   refine Zg ?_
   refine Zc hK244 ?_
   refine Zr rfl rfl ?_
   refine Ze (fun K hK247 => ?_)
   refine Zf ?_
   refine Zb 1 rfl ?_
   refine Zg ?_
   refine Zc hK247 ?_
   refine Zk ?_
   refine Zj ?_
   refine Zl rfl (RV.tmp rfl RV.nil) rfl ?_
   obtain rfl := Option.some.inj H
   replace hS := hS.cut 0
   exact ⟨rfl, hS⟩
  replace H := Zn H hb
  refine Zb 2 rfl ?_
  obtain ⟨r248, hm249, H⟩ := bind_some H
  refine Zp rfl rfl rfl rfl (by kernel_rfl) rfl (Zfh r211.2 r19.2 A233 c234 q237 A41 c42 q45 _ (SlI.of_rd (k_q hq238 k235) (hS.rd hs6) (hS.rd_blk hs6)) hq238 (hS.rds_sl hs7 okq239) (SlI.of_rd (k_q hq46 k43) (hS.rd Zdy) (hS.rd_blk Zdy)) hq46 (hS.rds_sl hs15 okq47) hm249) ?_
  rintro e w ⟨rfl, hN⟩; refine ⟨_, rfl, ?_⟩; have hB := hN.pure; have hS := hS.join hN; clear hN
  refine Za rfl rfl rfl (Yq rfl) ?_
  refine Zb 1 rfl ?_
  refine Zg ?_
  refine Zc hK244 ?_
  refine Zz rfl (fun hb => ?_) (fun hb => ?_)
  ·replace H := Zo H hb
   refine Ze (fun K hK250 => ?_)
   refine Zf ?_
   refine Zb 1 rfl ?_
   refine Zg ?_
   refine Zc hK250 ?_
   refine Zk ?_
   refine Zj ?_
   refine Zl rfl (RV.tmp rfl RV.nil) rfl ?_
   obtain rfl := Option.some.inj H
   replace hS := hS.cut 0
   exact ⟨rfl, hS⟩
  replace H := Zn H hb
  refine Zu ?_
  refine Zc hK243 ?_
  refine Ze (fun K hK251 => ?_)
  refine Ze (fun K hK252 => ?_)
  refine Zf ?_
  refine Za rfl rfl rfl (Zd Yb rfl) ?_
  refine Za rfl rfl rfl (Zd Yt rfl) ?_
  refine Za rfl rfl rfl (Zi Yf rfl (RW.here _) hS hs8 trivial Zej) ?_
  refine Za rfl rfl rfl (Zd Yb rfl) ?_
  refine Za rfl rfl rfl (Zd Yt rfl) ?_
  refine Za rfl rfl rfl (Zi Yf rfl (RW.here _) hS Zbd trivial Zej) ?_
  refine Za rfl rfl rfl (X9 (by kernel_rfl) rfl rfl (X6 _ _ _ _ _ _ _ _ _ _)) ?_
  refine Zg ?_
  refine Zc hK252 ?_
  refine Zz rfl (fun hb => ?_) (fun hb => ?_)
  ·replace H := Zo H hb
   refine Ze (fun K hK253 => ?_)
   refine Yo 25 [] (fun _ _ => True) ⟨by kernel_rfl, by kernel_rfl⟩ hS (fun w hS hB => ?_)
   refine Zm [true, true, true, true, true, true] (by decide +kernel) (by repeat (first | exact PF.body | exact PF.round | apply PF.then | apply PF.inBlock | apply PF.jump)) ?_
   refine LtK.put rfl rfl rfl (Zd Vh rfl) ?_
   refine LtK.put rfl rfl rfl (Zh Zx rfl (RW.below _) hS hs8 trivial V7) ?_
   refine LtK.put rfl rfl rfl (Zd Vh rfl) ?_
   refine LtK.put rfl rfl rfl (Zh Zx rfl (RW.below _) hS Zbd trivial V7) ?_
   refine LtK.put rfl rfl rfl (Y2 rfl rfl) ?_
   refine LtK.put rfl rfl rfl (Zt rfl) ?_
   refine LtK.nil ?_
   refine Xa 160 rfl (fun hb => ?_) (fun hb => ?_)
   rotate_left
   ·replace H := Zn H hb
    refine Zm [false, false, false, false, false, false, true, true, true, true, true, true, true, true, true, false, true, true] (by decide +kernel) (by repeat (first | exact PF.body | exact PF.round | apply PF.then | apply PF.inBlock | apply PF.jump)) ?_
    refine LtK.skip rfl rfl rfl ?_
    refine LtK.skip rfl rfl rfl ?_
    refine LtK.skip rfl rfl rfl ?_
    refine LtK.skip rfl rfl rfl ?_
    refine LtK.skip rfl rfl rfl ?_
    refine LtK.put rfl rfl rfl (Z5 rfl rfl rfl) ?_
    refine LtK.put rfl rfl rfl (Zt rfl) ?_
    refine LtK.skip rfl rfl rfl ?_
    refine LtK.skip rfl rfl rfl ?_
    refine LtK.skip rfl rfl rfl ?_
    refine LtK.skip rfl rfl rfl ?_
    refine LtK.nil ?_
    refine Zw [false, false, false, false, false, false, false, false, false, false, false, false, false, false, false, true] 15 ⟨by decide, by kernel_rfl, by kernel_rfl⟩ rfl rfl ?_
    try dsimp only [Zy]
    refine Yp rfl rfl rfl ?_
    refine Zg ?_
    refine Z3 (Below.refl _ _) ?_
    refine Zw [false, false, false, false, false, false, false, false, false, false, false, false, false, false, false, false, false, false, true] 18 ⟨by decide, by kernel_rfl, by kernel_rfl⟩ rfl rfl ?_
    try dsimp only [Zy]
    refine Yp rfl rfl rfl ?_
    refine Zg ?_
    refine Z3 (Below.refl _ _) ?_
    refine Zm [false, false, false, false, false, false, false, false, false, false, false, false, false, false, false, false, false, false, false, true, true, true] (by decide +kernel) (by repeat (first | exact PF.body | exact PF.round | apply PF.then | apply PF.inBlock | apply PF.jump)) ?_
    refine LtK.skip rfl rfl rfl ?_
    refine LtK.put rfl rfl rfl (Z5 rfl rfl rfl) ?_
    refine LtK.put rfl rfl rfl (Zt rfl) ?_
    refine LtK.nil ?_
    refine Zw [false, false, false, false, false, false, false, false, false, false, false, false, false, false, false, false, false, false, false, false, false, false, true] 22 ⟨by decide, by kernel_rfl, by kernel_rfl⟩ rfl rfl ?_
    try dsimp only [Zy]
    refine Yp rfl rfl rfl ?_
    refine Zg ?_
    refine Z3 (Below.refl _ _) ?_
    refine Zm [false, false, false, false, false, false, false, false, false, false, false, false, false, false, false, false, false, false, false, false, false, false, false, true, true] (by decide +kernel) (by repeat (first | exact PF.body | exact PF.round | apply PF.then | apply PF.inBlock | apply PF.jump)) ?_
    refine LtK.put rfl rfl rfl (Z5 rfl rfl rfl) ?_
    refine LtK.put rfl rfl rfl (Z0 rfl) ?_
    refine LtK.nil ?_
    refine Ya (by kernel_rfl) ?_
    refine Zc hK253 ?_
    refine Zk ?_
    refine Zj ?_
    refine Zl rfl (RV.tmp rfl RV.nil) rfl ?_
    obtain rfl := Option.some.inj H
    replace hS := hS.cut 0
    exact ⟨rfl, hS⟩
   replace H := Zo H hb
   refine Zm [false, false, false, false, false, false, true, true, true, true, true, true, true] (by decide +kernel) (by repeat (first | exact PF.body | exact PF.round | apply PF.then | apply PF.inBlock | apply PF.jump)) ?_
   refine LtK.put rfl rfl rfl (Zd Jm rfl) ?_
   refine LtK.put rfl rfl rfl (Zi Yf rfl (RW.below _) hS hs8 trivial Zbl) ?_
   refine LtK.put rfl rfl rfl (Zd Jm rfl) ?_
   refine LtK.put rfl rfl rfl (Zi Yf rfl (RW.below _) hS Zbd trivial Zbl) ?_
   refine LtK.put rfl rfl rfl (X9 (by kernel_rfl) rfl rfl (X6 _ _ _ _ _ _ _ _ _ _)) ?_
   refine LtK.put rfl rfl rfl (Z1 rfl rfl rfl) ?_
   refine LtK.put rfl rfl rfl (Zt rfl) ?_
   refine LtK.nil ?_
   refine Xa 167 rfl (fun hb => ?_) (fun hb => ?_)
   rotate_left
   ·replace H := Zn H hb
    refine Zm [false, false, false, false, false, false, false, false, false, false, false, false, false, true, true, false, true, true] (by decide +kernel) (by repeat (first | exact PF.body | exact PF.round | apply PF.then | apply PF.inBlock | apply PF.jump)) ?_
    refine LtK.skip rfl rfl rfl ?_
    refine LtK.skip rfl rfl rfl ?_
    refine LtK.skip rfl rfl rfl ?_
    refine LtK.skip rfl rfl rfl ?_
    refine LtK.nil ?_
    refine Zw [false, false, false, false, false, false, false, false, false, false, false, false, false, false, false, true] 15 ⟨by decide, by kernel_rfl, by kernel_rfl⟩ rfl rfl ?_
    try dsimp only [Zy]
    refine Yp rfl rfl rfl ?_
    refine Zg ?_
    refine Z3 (Below.refl _ _) ?_
    refine Zw [false, false, false, false, false, false, false, false, false, false, false, false, false, false, false, false, false, false, true] 18 ⟨by decide, by kernel_rfl, by kernel_rfl⟩ rfl rfl ?_
    try dsimp only [Zy]
    refine Yp rfl rfl rfl ?_
    refine Zg ?_
    refine Z3 (Below.refl _ _) ?_
    refine Zm [false, false, false, false, false, false, false, false, false, false, false, false, false, false, false, false, false, false, false, true, true, true] (by decide +kernel) (by repeat (first | exact PF.body | exact PF.round | apply PF.then | apply PF.inBlock | apply PF.jump)) ?_
    refine LtK.skip rfl rfl rfl ?_
    refine LtK.put rfl rfl rfl (Z5 rfl rfl rfl) ?_
    refine LtK.put rfl rfl rfl (Zt rfl) ?_
    refine LtK.nil ?_
    refine Zw [false, false, false, false, false, false, false, false, false, false, false, false, false, false, false, false, false, false, false, false, false, false, true] 22 ⟨by decide, by kernel_rfl, by kernel_rfl⟩ rfl rfl ?_
    try dsimp only [Zy]
    refine Yp rfl rfl rfl ?_
    refine Zg ?_
    refine Z3 (Below.refl _ _) ?_
    refine Zm [false, false, false, false, false, false, false, false, false, false, false, false, false, false, false, false, false, false, false, false, false, false, false, true, true] (by decide +kernel) (by repeat (first | exact PF.body | exact PF.round | apply PF.then | apply PF.inBlock | apply PF.jump)) ?_
    refine LtK.put rfl rfl rfl (Z5 rfl rfl rfl) ?_
    refine LtK.put rfl rfl rfl (Z0 rfl) ?_
    refine LtK.nil ?_
    refine Ya (by kernel_rfl) ?_
    refine Zc hK253 ?_
    refine Zk ?_
    refine Zj ?_
    refine Zl rfl (RV.tmp rfl RV.nil) rfl ?_
    obtain rfl := Option.some.inj H
    replace hS := hS.cut 0
    exact ⟨rfl, hS⟩
   replace H := Zo H hb
   refine Zm [false, false, false, false, false, false, false, false, false, false, false, false, false, true, true, false, true, true] (by decide +kernel) (by repeat (first | exact PF.body | exact PF.round | apply PF.then | apply PF.inBlock | apply PF.jump)) ?_
   refine LtK.put rfl rfl rfl (Zd Yb rfl) ?_
   refine LtK.put rfl rfl rfl (Zi Y0 rfl (RW.below _) hS hs8 trivial Va) ?_
   refine LtK.put rfl rfl rfl (Zd Yb rfl) ?_
   refine LtK.put rfl rfl rfl (Zi Y0 rfl (RW.below _) hS Zbd trivial Va) ?_
   refine LtK.nil ?_
   refine Zw [false, false, false, false, false, false, false, false, false, false, false, false, false, false, false, true] 15 ⟨by decide, by kernel_rfl, by kernel_rfl⟩ rfl rfl ?_
   try dsimp only [Zy]
   obtain ⟨r254, hm255, H⟩ := bind_some H
   refine Zp rfl rfl rfl rfl (by kernel_rfl) rfl (Y4 r19.1.tuple A21 c22 _ (SlI.of_rd k23 (hS.rd hs9) (hS.rd_blk hs9)) hm255) ?_
   rintro e w ⟨rfl, hN⟩; refine ⟨_, rfl, ?_⟩; have hB := hN.pure; have hS := hS.join hN; clear hN
   refine Zg ?_
   refine Z3 hB ?_
   refine Zw [false, false, false, false, false, false, false, false, false, false, false, false, false, false, false, false, false, false, true] 18 ⟨by decide, by kernel_rfl, by kernel_rfl⟩ rfl rfl ?_
   try dsimp only [Zy]
   obtain ⟨r256, hm257, H⟩ := bind_some H
   refine Zp rfl rfl rfl rfl (by kernel_rfl) rfl (Y4 x0.tuple A0_ c0_ _ (SlI.of_rd s0_.k (hS.rd0 s0_.rd) (hS.blk0 s0_.blk)) hm257) ?_
   rintro e w ⟨rfl, hN⟩; refine ⟨_, rfl, ?_⟩; have hB := hN.pure; have hS := hS.join hN; clear hN
   refine Zg ?_
   refine Z3 hB ?_
   refine Zm [false, false, false, false, false, false, false, false, false, false, false, false, false, false, false, false, false, false, false, true, true, true] (by decide +kernel) (by repeat (first | exact PF.body | exact PF.round | apply PF.then | apply PF.inBlock | apply PF.jump)) ?_
   refine LtK.put rfl rfl rfl (Y2 rfl rfl) ?_
   refine LtK.put rfl rfl rfl (Z1 rfl rfl rfl) ?_
   refine LtK.put rfl rfl rfl (Zt rfl) ?_
   refine LtK.nil ?_
   refine Xa 176 rfl (fun hb => ?_) (fun hb => ?_)
   rotate_left
   ·replace H := Zn H hb
    refine Zw [false, false, false, false, false, false, false, false, false, false, false, false, false, false, false, false, false, false, false, false, false, false, true] 22 ⟨by decide, by kernel_rfl, by kernel_rfl⟩ rfl rfl ?_
    try dsimp only [Zy]
    refine Yp rfl rfl rfl ?_
    refine Zg ?_
    refine Z3 (Below.refl _ _) ?_
    refine Zm [false, false, false, false, false, false, false, false, false, false, false, false, false, false, false, false, false, false, false, false, false, false, false, true, true] (by decide +kernel) (by repeat (first | exact PF.body | exact PF.round | apply PF.then | apply PF.inBlock | apply PF.jump)) ?_
    refine LtK.put rfl rfl rfl (Z5 rfl rfl rfl) ?_
    refine LtK.put rfl rfl rfl (Z0 rfl) ?_
    refine LtK.nil ?_
    refine Ya (by kernel_rfl) ?_
    refine Zc hK253 ?_
    refine Zk ?_
    refine Zj ?_
    refine Zl rfl (RV.tmp rfl RV.nil) rfl ?_
    obtain rfl := Option.some.inj H
    replace hS := hS.cut 0
    exact ⟨rfl, hS⟩
   replace H := Zo H hb
   refine Zw [false, false, false, false, false, false, false, false, false, false, false, false, false, false, false, false, false, false, false, false, false, false, true] 22 ⟨by decide, by kernel_rfl, by kernel_rfl⟩ rfl rfl ?_
   try dsimp only [Zy]
   obtain ⟨r258, hm259, H⟩ := bind_some H
   refine Zp rfl rfl rfl rfl (by kernel_rfl) rfl (Xk _ hm259) ?_
   rintro e w ⟨rfl, hN⟩; refine ⟨_, rfl, ?_⟩; have hB := hN.pure; have hS := hS.join hN; clear hN
   refine Zg ?_
   refine Z3 hB ?_
   refine Zm [false, false, false, false, false, false, false, false, false, false, false, false, false, false, false, false, false, false, false, false, false, false, false, true, true] (by decide +kernel) (by repeat (first | exact PF.body | exact PF.round | apply PF.then | apply PF.inBlock | apply PF.jump)) ?_
   refine LtK.put rfl rfl rfl (Z1 rfl rfl rfl) ?_
   refine LtK.put rfl rfl rfl (Z0 rfl) ?_
   refine LtK.nil ?_
   refine Ya (by kernel_rfl) ?_
   refine Zc hK253 ?_
   refine Zk ?_
   refine Zj ?_
   refine Zl rfl (RV.tmp rfl RV.nil) rfl ?_
   obtain rfl := Option.some.inj H
   replace hS := hS.cut 0
   exact ⟨rfl, hS⟩
  replace H := Zn H hb
  refine Zu ?_
  refine Zc hK251 ?_
  refine Ze (fun K hK260 => ?_)
  refine Ze (fun K hK261 => ?_)
  refine Zf ?_
  refine Za rfl rfl rfl (Zd Yb rfl) ?_
  refine Za rfl rfl rfl (Zd Yt rfl) ?_
  refine Za rfl rfl rfl (Zi Yf rfl (RW.here _) hS hs8 trivial Zej) ?_
  refine Za rfl rfl rfl (Zd Yh rfl) ?_
  refine Za rfl rfl rfl (Zi Yf rfl (RW.here _) hS Zcd trivial Vj) ?_
  refine Za rfl rfl rfl (Za1 (by kernel_rfl) rfl rfl (X6 _ _ _ _ _ _ _ _ _ _)) ?_
  refine Zb 1 rfl ?_
  refine Zs 185 rfl (fun hb => ?_) (fun hb => ?_)
  ·replace H := Zo H hb
   refine Zb 29 rfl ?_
   refine Zg ?_
   refine Zc hK261 ?_
   refine Zr rfl rfl ?_
   refine Ze (fun K hK262 => ?_)
   refine Zf ?_
   refine Zb 1 rfl ?_
   refine Zg ?_
   refine Zc hK262 ?_
   refine Zk ?_
   refine Zj ?_
   refine Zl rfl (RV.tmp rfl RV.nil) rfl ?_
   obtain rfl := Option.some.inj H
   replace hS := hS.cut 0
   exact ⟨rfl, hS⟩
  replace H := Zn H hb
  refine Za rfl rfl rfl (Zd Jm rfl) ?_
  refine Za rfl rfl rfl (Zi Yf rfl (RW.here _) hS hs8 trivial Zbl) ?_
  refine Za rfl rfl rfl (Zd Yh rfl) ?_
  refine Za rfl rfl rfl (Zi Yf rfl (RW.here _) hS Zcd trivial Vj) ?_
  refine Za rfl rfl rfl (Za1 (by kernel_rfl) rfl rfl (X6 _ _ _ _ _ _ _ _ _ _)) ?_
  refine Zb 2 rfl ?_
  refine Zs 192 rfl (fun hb => ?_) (fun hb => ?_)
  ·replace H := Zo H hb
   refine Zb 22 rfl ?_
   refine Zg ?_
   refine Zc hK261 ?_
   refine Zr rfl rfl ?_
   refine Ze (fun K hK263 => ?_)
   refine Zf ?_
   refine Zb 1 rfl ?_
   refine Zg ?_
   refine Zc hK263 ?_
   refine Zk ?_
   refine Zj ?_
   refine Zl rfl (RV.tmp rfl RV.nil) rfl ?_
   obtain rfl := Option.some.inj H
   replace hS := hS.cut 0
   exact ⟨rfl, hS⟩
  replace H := Zn H hb
  refine Za rfl rfl rfl (Zd Vh rfl) ?_
  refine Za rfl rfl rfl (Zh Zx rfl (RW.here _) hS hs8 trivial V7) ?_
  refine Za rfl rfl rfl (Zd Yh rfl) ?_
  refine Za rfl rfl rfl (Zd Z6 rfl) ?_
  refine Za rfl rfl rfl (Zh Zx rfl (RW.here _) hS Zcd trivial Vb) ?_
  refine Za rfl rfl rfl (Xo rfl rfl) ?_
  refine Zb 2 rfl ?_
  refine Zs 200 rfl (fun hb => ?_) (fun hb => ?_)
  ·replace H := Zo H hb
   refine Zb 14 rfl ?_
   refine Zg ?_
   refine Zc hK261 ?_
   refine Zr rfl rfl ?_
   refine Ze (fun K hK264 => ?_)
   refine Zf ?_
   refine Zb 1 rfl ?_
   refine Zg ?_
   refine Zc hK264 ?_
   refine Zk ?_
   refine Zj ?_
   refine Zl rfl (RV.tmp rfl RV.nil) rfl ?_
   obtain rfl := Option.some.inj H
   replace hS := hS.cut 0
   exact ⟨rfl, hS⟩
  replace H := Zn H hb
  refine Za rfl rfl rfl (Zd Yh rfl) ?_
  refine Za rfl rfl rfl (Zd Z6 rfl) ?_
  refine Za rfl rfl rfl (Zh Zx rfl (RW.here _) hS Zcd trivial Vb) ?_
  refine Za rfl rfl rfl (Zd Vh rfl) ?_
  refine Za rfl rfl rfl (Zh Zx rfl (RW.here _) hS Zbd trivial V7) ?_
  refine Za rfl rfl rfl (Jw rfl rfl) ?_
  refine Zb 2 rfl ?_
  refine Zs 208 rfl (fun hb => ?_) (fun hb => ?_)
  ·replace H := Zo H hb
   refine Zb 6 rfl ?_
   refine Zg ?_
   refine Zc hK261 ?_
   refine Zr rfl rfl ?_
   refine Ze (fun K hK265 => ?_)
   refine Zf ?_
   refine Zb 1 rfl ?_
   refine Zg ?_
   refine Zc hK265 ?_
   refine Zk ?_
   refine Zj ?_
   refine Zl rfl (RV.tmp rfl RV.nil) rfl ?_
   obtain rfl := Option.some.inj H
   replace hS := hS.cut 0
   exact ⟨rfl, hS⟩
  replace H := Zn H hb
  refine Zb 1 rfl ?_
  obtain ⟨e266, hi268, H⟩ := bind_some H
  obtain ⟨j267, A269, c270, hi268a, hi268b, hi268c⟩ := idxQ (q := q45) hq46 hi268
  refine Za rfl rfl rfl (Xj Zar rfl rfl hi268a hi268c (Rd.el (hS.rd Zdy) Xx hi268b)) ?_
  refine Za rfl rfl rfl (Xv Zbn rfl (Rd.el (hS.rd Zdy) Xx hi268b)) ?_
  refine Za rfl rfl rfl (Zfd Zfy rfl (RW.here _) (Rd.el (hS.rd Zdy) Xx hi268b) rfl) ?_
  refine Za rfl rfl rfl (Yq rfl) ?_
  refine Zb 1 rfl ?_
  refine Zg ?_
  refine Zc hK261 ?_
  refine Zz rfl (fun hb => ?_) (fun hb => ?_)
  ·replace H := Zo H hb
   refine Ze (fun K hK271 => ?_)
   refine Zf ?_
   refine Zb 1 rfl ?_
   refine Zg ?_
   refine Zc hK271 ?_
   refine Zk ?_
   refine Zj ?_
   refine Zl rfl (RV.tmp rfl RV.nil) rfl ?_
   obtain rfl := Option.some.inj H
   replace hS := hS.cut 0
   exact ⟨rfl, hS⟩
  replace H := Zn H hb
  refine Zu ?_
  refine Zc hK260 ?_
  refine Ze (fun K hK272 => ?_)
  refine Zf ?_
  refine Za rfl rfl rfl (Zd Yb rfl) ?_
  refine Za rfl rfl rfl (Zi Y0 rfl (RW.here _) hS Zbd trivial Va) ?_
  refine Za rfl rfl rfl (Zd Yh rfl) ?_
  refine Za rfl rfl rfl (Zd Z6 rfl) ?_
  refine Za rfl rfl rfl (Zh Zx rfl (RW.here _) hS Zcd trivial Vb) ?_
  obtain ⟨r273, hm274, H⟩ := bind_some H
  refine Zp rfl rfl rfl rfl (by kernel_rfl) rfl (Zdl x0.tuple x1.snap.index A0_ c0_ _ (SlI.of_rd s0_.k (hS.rd0 s0_.rd) (hS.blk0 s0_.blk)) hm274) ?_
  rintro e w ⟨rfl, hN⟩; refine ⟨_, rfl, ?_⟩; have hB := hN.pure; have hS := hS.join hN; clear hN
  refine Zb 1 rfl ?_
  refine Za rfl rfl rfl (Z4 rfl rfl) ?_
  refine Za rfl rfl rfl (Z4 rfl rfl) ?_
  refine Zb 2 rfl ?_
  refine Zg ?_
  refine Zc hK272 ?_
  refine Ze (fun K hK275 => ?_)
  refine Ze (fun K hK276 => ?_)
  refine Zf ?_
  refine Zb 1 rfl ?_
  refine Za rfl rfl rfl (Yq rfl) ?_
  refine Zb 1 rfl ?_
  refine Zs 226 rfl (fun hb => ?_) (fun hb => ?_)
  ·replace H := Zo H hb
   refine Zb 6 rfl ?_
   refine Zg ?_
   refine Zc hK276 ?_
   refine Zr rfl rfl ?_
   refine Ze (fun K hK277 => ?_)
   refine Zf ?_
   refine Za rfl rfl rfl (Zd Yb rfl) ?_
   refine Za rfl rfl rfl (Zd Xq rfl) ?_
   refine Za rfl rfl rfl (Zh Vl rfl (RW.here _) hS hs8 trivial Zb3) ?_
   refine Za rfl rfl rfl (Y7 Xy rfl) ?_
   refine Za rfl rfl rfl (Y2 rfl rfl) ?_
   refine Zb 1 rfl ?_
   refine Zs 238 rfl (fun hb => ?_) (fun hb => ?_)
   rotate_left
   ·replace H := Zn H hb
    refine Zb 3 rfl ?_
    refine Zg ?_
    refine Zc hK277 ?_
    refine Zk ?_
    refine Zj ?_
    refine Zl rfl (RV.tmp rfl RV.nil) rfl ?_
    obtain rfl := Option.some.inj H
    replace hS := hS.cut 0
    exact ⟨rfl, hS⟩
   replace H := Zo H hb
   obtain ⟨r278, hm279, H⟩ := bind_some H
   refine Zp rfl rfl rfl rfl (by kernel_rfl) rfl (Xk _ hm279) ?_
   rintro e w ⟨rfl, hN⟩; refine ⟨_, rfl, ?_⟩; have hB := hN.pure; have hS := hS.join hN; clear hN
   refine Zb 2 rfl ?_
   refine Zg ?_
   refine Zc hK277 ?_
   refine Zk ?_
   refine Zj ?_
   refine Zl rfl (RV.tmp rfl RV.nil) rfl ?_
   obtain rfl := Option.some.inj H
   replace hS := hS.cut 0
   exact ⟨rfl, hS⟩
  replace H := Zn H hb
  refine Zb 1 rfl ?_
  refine Za rfl rfl rfl (Zd Yh rfl) ?_
  refine Za rfl rfl rfl (Zd Vn rfl) ?_
  refine Za rfl rfl rfl (Zh Zx rfl (RW.here _) hS Zcd trivial sg11_1) ?_
  refine Za rfl rfl rfl (Xo rfl rfl) ?_
  refine Zb 1 rfl ?_
  refine Zg ?_
  refine Zc hK276 ?_
  refine Zz rfl (fun hb => ?_) (fun hb => ?_)
  ·replace H := Zo H hb
   refine Ze (fun K hK280 => ?_)
   refine Zf ?_
   refine Za rfl rfl rfl (Zd Yb rfl) ?_
   refine Za rfl rfl rfl (Zd Xq rfl) ?_
   refine Za rfl rfl rfl (Zh Vl rfl (RW.here _) hS hs8 trivial Zb3) ?_
   refine Za rfl rfl rfl (Y7 Xy rfl) ?_
   refine Za rfl rfl rfl (Y2 rfl rfl) ?_
   refine Zb 1 rfl ?_
   refine Zs 238 rfl (fun hb => ?_) (fun hb => ?_)
   rotate_left
   ·replace H := Zn H hb
    refine Zb 3 rfl ?_
    refine Zg ?_
    refine Zc hK280 ?_
    refine Zk ?_
    refine Zj ?_
    refine Zl rfl (RV.tmp rfl RV.nil) rfl ?_
    obtain rfl := Option.some.inj H
    replace hS := hS.cut 0
    exact ⟨rfl, hS⟩
   replace H := Zo H hb
   obtain ⟨r281, hm282, H⟩ := bind_some H
   refine Zp rfl rfl rfl rfl (by kernel_rfl) rfl (Xk _ hm282) ?_
   rintro e w ⟨rfl, hN⟩; refine ⟨_, rfl, ?_⟩; have hB := hN.pure; have hS := hS.join hN; clear hN
   refine Zb 2 rfl ?_
   refine Zg ?_
   refine Zc hK280 ?_
   refine Zk ?_
   refine Zj ?_
   refine Zl rfl (RV.tmp rfl RV.nil) rfl ?_
   obtain rfl := Option.some.inj H
   replace hS := hS.cut 0
   exact ⟨rfl, hS⟩
  replace H := Zn H hb
  refine Zu ?_
  refine Zc hK275 ?_
  refine Ze (fun K hK283 => ?_)
  refine Ze (fun K hK284 => ?_)
  refine Zf ?_
  refine Za rfl rfl rfl (Zd Yh rfl) ?_
  refine Za rfl rfl rfl (Zd Z6 rfl) ?_
  refine Za rfl rfl rfl (Zh Zx rfl (RW.here _) hS Zcd trivial Vb) ?_
  refine Za rfl rfl rfl (Vi rfl rfl) ?_
  refine Zb 1 rfl ?_
  refine Zg ?_
  refine Zc hK284 ?_
  refine Yj ?_
  refine V3 (X := Nat × Bool × Int) (fun x => (2, .pointer (some ⟨b2, 0, none⟩)) :: (4, .bool x.2.1) :: (5, .pointer (some ⟨b49, 0, none⟩)) :: (11, .int .i64 x.2.2) :: []) (fun x w => St0 All w0 w (.box b241 [.int .i64 r211.1.id, .int .i64 r211.1.n, .int .u8 r211.1.role, .int .i64 r211.1.binary, .int .i64 r211.1.tuple.snap.index, .int .i64 r211.1.tuple.snap.term, .int .i64 r211.1.tuple.snap.sum, .int .i64 r211.1.tuple.snap.level, .bool r211.1.tuple.snap.final, .slice A213 r211.1.tuple.log.length c214, .int .i64 r211.1.tuple.term, .int .i64 r211.1.tuple.vote, .int .i64 r211.1.commit, .int .i64 r211.1.applied.index, .int .i64 r211.1.applied.term, .int .i64 r211.1.applied.sum, .int .i64 r211.1.applied.level, .bool r211.1.applied.final, .slice A217 r211.1.votes.length c218, .slice A221 r211.1.next.length c222, .slice A225 r211.1.mtch.length c226, .slice A229 r211.1.caps.length c230] 30 :: .rd A213 (Ye Ja r211.1.tuple.log) :: .row (.slice A217 r211.1.votes.length c218) 4 1 r211.1.votes.length (Ye enO r211.1.votes) :: .row (.slice A221 r211.1.next.length c222) 3 1 r211.1.next.length (Ye Vp r211.1.next) :: .row (.slice A225 r211.1.mtch.length c226) 3 1 r211.1.mtch.length (Ye Vp r211.1.mtch) :: .row (.slice A229 r211.1.caps.length c230) 3 1 r211.1.caps.length (Ye Vp r211.1.caps) :: .rd A233 (Ye enQ q237) :: .rds (q237.map subQ) :: .box b49 [.int .i64 r19.1.id, .int .i64 r19.1.n, .int .u8 r19.1.role, .int .i64 r19.1.binary, .int .i64 r19.1.tuple.snap.index, .int .i64 r19.1.tuple.snap.term, .int .i64 r19.1.tuple.snap.sum, .int .i64 r19.1.tuple.snap.level, .bool r19.1.tuple.snap.final, .slice A21 r19.1.tuple.log.length c22, .int .i64 r19.1.tuple.term, .int .i64 r19.1.tuple.vote, .int .i64 r19.1.commit, .int .i64 r19.1.applied.index, .int .i64 r19.1.applied.term, .int .i64 r19.1.applied.sum, .int .i64 r19.1.applied.level, .bool r19.1.applied.final, .slice A25 r19.1.votes.length c26, .slice A29 r19.1.next.length c30, .slice A33 r19.1.mtch.length c34, .slice A37 r19.1.caps.length c38] 30 :: .rd A21 (Ye Ja r19.1.tuple.log) :: .row (.slice A25 r19.1.votes.length c26) 4 1 r19.1.votes.length (Ye enO r19.1.votes) :: .row (.slice A29 r19.1.next.length c30) 3 1 r19.1.next.length (Ye Vp r19.1.next) :: .row (.slice A33 r19.1.mtch.length c34) 3 1 r19.1.mtch.length (Ye Vp r19.1.mtch) :: .row (.slice A37 r19.1.caps.length c38) 3 1 r19.1.caps.length (Ye Vp r19.1.caps) :: .rd A41 (Ye enQ q45) :: .rds (q45.map subQ) :: .box b4 [.int .u8 x1.kind, .int .i64 x1.frm, .int .i64 x1.dst, .int .i64 x1.term, .int .i64 x1.cap, .int .i64 x1.last, .int .i64 x1.lastTerm, .int .i64 x1.commit, .bool x1.okk, .slice A5_ x1.entries.length c5_, .int .i64 x1.snap.index, .int .i64 x1.snap.term, .int .i64 x1.snap.sum, .int .i64 x1.snap.level, .bool x1.snap.final] 32 :: .box b2 [.int .i64 x0.id, .int .i64 x0.n, .int .u8 x0.role, .int .i64 x0.binary, .int .i64 x0.tuple.snap.index, .int .i64 x0.tuple.snap.term, .int .i64 x0.tuple.snap.sum, .int .i64 x0.tuple.snap.level, .bool x0.tuple.snap.final, .slice A0_ x0.tuple.log.length c0_, .int .i64 x0.tuple.term, .int .i64 x0.tuple.vote, .int .i64 x0.commit, .int .i64 x0.applied.index, .int .i64 x0.applied.term, .int .i64 x0.applied.sum, .int .i64 x0.applied.level, .bool x0.applied.final, .slice A1_ x0.votes.length c1_, .slice A2_ x0.next.length c2_, .slice A3_ x0.mtch.length c3_, .slice A4_ x0.caps.length c4_] 30 :: []) ∧ X8 x0 r19 x.1 x.2.1 x.2.2 = some r) (fun x => x.1) (Xz, false, (IntKind.wrap .i64 (x1.snap.index + 1))) (by repeat (first | exact Sub.nil | refine Sub.cons rfl ?_)) ⟨hS, H⟩ ?_
  rintro ⟨n, v285, v286⟩ w ⟨hS, H⟩
  dsimp only at hS H ⊢
  obtain _ | n := n
  ·have H0 : none = some r := H
   cases H0
  rw [X8] at H
  refine Ze (fun K hK287 => ?_)
  refine Ze (fun K hK288 => ?_)
  refine Zf ?_
  refine Zb 1 rfl ?_
  refine Za rfl rfl rfl (Zd Yb rfl) ?_
  refine Za rfl rfl rfl (Zi Y0 rfl (RW.here _) hS Zbd trivial Va) ?_
  obtain ⟨r289, hm290, H⟩ := bind_some H
  refine Zp rfl rfl rfl rfl (by kernel_rfl) rfl (Y4 x0.tuple A0_ c0_ _ (SlI.of_rd s0_.k (hS.rd0 s0_.rd) (hS.blk0 s0_.blk)) hm290) ?_
  rintro e w ⟨rfl, hN⟩; refine ⟨_, rfl, ?_⟩; have hB := hN.pure; have hS := hS.join hN; clear hN
  refine Za rfl rfl rfl (Jw rfl rfl) ?_
  refine Zg ?_
  refine Zc hK288 ?_
  refine Zz rfl (fun hb => ?_) (fun hb => ?_)
  rotate_left
  ·replace H := Zn H hb
   refine Vk ?_
   refine Yd ?_
   refine Yd ?_
   refine Xd ?_
   refine Zc hK283 ?_
   refine Ze (fun K hK305 => ?_)
   refine Yo 11 [] (fun _ _ => True) ⟨by kernel_rfl, by kernel_rfl⟩ hS (fun w hS hB => ?_)
   refine Zm [true, true, false, true, true] (by decide +kernel) (by repeat (first | exact PF.body | exact PF.round | apply PF.then | apply PF.inBlock | apply PF.jump)) ?_
   refine LtK.put rfl rfl rfl (Zd Yb rfl) ?_
   refine LtK.put rfl rfl rfl (Zi Y0 rfl (RW.below _) hS hs8 trivial Va) ?_
   refine LtK.put rfl rfl rfl (Zd Yb rfl) ?_
   refine LtK.put rfl rfl rfl (Zi Y0 rfl (RW.below _) hS Zbd trivial Va) ?_
   refine LtK.nil ?_
   refine Zw [false, false, true] 2 ⟨by decide, by kernel_rfl, by kernel_rfl⟩ rfl rfl ?_
   try dsimp only [Zy]
   obtain ⟨r306, hm307, H⟩ := bind_some H
   refine Zp rfl rfl rfl rfl (by kernel_rfl) rfl (Y4 r19.1.tuple A21 c22 _ (SlI.of_rd k23 (hS.rd hs9) (hS.rd_blk hs9)) hm307) ?_
   rintro e w ⟨rfl, hN⟩; refine ⟨_, rfl, ?_⟩; have hB := hN.pure; have hS := hS.join hN; clear hN
   refine Zg ?_
   refine Z3 hB ?_
   refine Zw [false, false, false, false, false, true] 5 ⟨by decide, by kernel_rfl, by kernel_rfl⟩ rfl rfl ?_
   try dsimp only [Zy]
   obtain ⟨r308, hm309, H⟩ := bind_some H
   refine Zp rfl rfl rfl rfl (by kernel_rfl) rfl (Y4 x0.tuple A0_ c0_ _ (SlI.of_rd s0_.k (hS.rd0 s0_.rd) (hS.blk0 s0_.blk)) hm309) ?_
   rintro e w ⟨rfl, hN⟩; refine ⟨_, rfl, ?_⟩; have hB := hN.pure; have hS := hS.join hN; clear hN
   refine Zg ?_
   refine Z3 hB ?_
   refine Zm [false, false, false, false, false, false, true, true] (by decide +kernel) (by repeat (first | exact PF.body | exact PF.round | apply PF.then | apply PF.inBlock | apply PF.jump)) ?_
   refine LtK.put rfl rfl rfl (Y2 rfl rfl) ?_
   refine LtK.put rfl rfl rfl (Zt rfl) ?_
   refine LtK.nil ?_
   refine Xa 280 rfl (fun hb => ?_) (fun hb => ?_)
   rotate_left
   ·replace H := Zn H hb
    refine Zw [false, false, false, false, false, false, false, false, true] 8 ⟨by decide, by kernel_rfl, by kernel_rfl⟩ rfl rfl ?_
    try dsimp only [Zy]
    refine Yp rfl rfl rfl ?_
    refine Zg ?_
    refine Z3 (Below.refl _ _) ?_
    refine Zm [false, false, false, false, false, false, false, false, false, true, true] (by decide +kernel) (by repeat (first | exact PF.body | exact PF.round | apply PF.then | apply PF.inBlock | apply PF.jump)) ?_
    refine LtK.put rfl rfl rfl (Z5 rfl rfl rfl) ?_
    refine LtK.put rfl rfl rfl (Z0 rfl) ?_
    refine LtK.nil ?_
    refine Ya (by kernel_rfl) ?_
    refine Zc hK305 ?_
    refine Zk ?_
    refine Zl rfl (RV.tmp rfl RV.nil) rfl ?_
    obtain rfl := Option.some.inj H
    replace hS := hS.cut 0
    exact ⟨rfl, hS⟩
   replace H := Zo H hb
   refine Zw [false, false, false, false, false, false, false, false, true] 8 ⟨by decide, by kernel_rfl, by kernel_rfl⟩ rfl rfl ?_
   try dsimp only [Zy]
   obtain ⟨r310, hm311, H⟩ := bind_some H
   refine Zp rfl rfl rfl rfl (by kernel_rfl) rfl (Xk _ hm311) ?_
   rintro e w ⟨rfl, hN⟩; refine ⟨_, rfl, ?_⟩; have hB := hN.pure; have hS := hS.join hN; clear hN
   refine Zg ?_
   refine Z3 hB ?_
   refine Zm [false, false, false, false, false, false, false, false, false, true, true] (by decide +kernel) (by repeat (first | exact PF.body | exact PF.round | apply PF.then | apply PF.inBlock | apply PF.jump)) ?_
   refine LtK.put rfl rfl rfl (Z1 rfl rfl rfl) ?_
   refine LtK.put rfl rfl rfl (Z0 rfl) ?_
   refine LtK.nil ?_
   refine Ya (by kernel_rfl) ?_
   refine Zc hK305 ?_
   refine Zk ?_
   refine Zl rfl (RV.tmp rfl RV.nil) rfl ?_
   obtain rfl := Option.some.inj H
   replace hS := hS.cut 0
   exact ⟨rfl, hS⟩
  replace H := Zo H hb
  refine Zu ?_
  refine Zc hK287 ?_
  refine Ze (fun K hK291 => ?_)
  refine Yj ?_
  refine Ze (fun K hK292 => ?_)
  refine Zf ?_
  refine Za rfl rfl rfl (Zd Yb rfl) ?_
  refine Za rfl rfl rfl (Zi Y0 rfl (RW.here _) hS Zbd trivial Va) ?_
  refine Zb 1 rfl ?_
  obtain ⟨r293, hm294, H⟩ := bind_some H
  refine Zp rfl rfl rfl rfl (by kernel_rfl) rfl (Za8 x0.tuple v286 A0_ c0_ _ (SlI.of_rd s0_.k (hS.rd0 s0_.rd) (hS.blk0 s0_.blk)) hm294) ?_
  rintro e w ⟨rfl, hN⟩; refine ⟨_, rfl, ?_⟩; have hB := hN.pure; have hS := hS.join hN; clear hN
  refine Zb 1 rfl ?_
  refine Za rfl rfl rfl (Z4 rfl rfl) ?_
  refine Za rfl rfl rfl (Z4 rfl rfl) ?_
  refine Z9 rfl rfl Zaq hS (fun b295 w hS hB => ?_)
  refine Zq rfl rfl rfl CellsOf.agg hS ps0 Zds (by kernel_rfl) rfl (fun w hS hB => ?_)
  refine Zb 1 rfl ?_
  refine Zg ?_
  refine Zc hK292 ?_
  refine Ze (fun K hK297 => ?_)
  refine Zf ?_
  refine Za rfl rfl rfl (Zd Yb rfl) ?_
  refine Za rfl rfl rfl (Zi Y0 rfl (RW.here _) hS hs9 trivial Va) ?_
  refine Zb 1 rfl ?_
  obtain ⟨r298, hm299, H⟩ := bind_some H
  refine Zp rfl rfl rfl rfl (by kernel_rfl) rfl (Za8 r19.1.tuple v286 A21 c22 _ (SlI.of_rd k23 (hS.rd Zfv) (hS.rd_blk Zfv)) hm299) ?_
  rintro e w ⟨rfl, hN⟩; refine ⟨_, rfl, ?_⟩; have hB := hN.pure; have hS := hS.join hN; clear hN
  refine Zb 1 rfl ?_
  refine Za rfl rfl rfl (Z4 rfl rfl) ?_
  refine Za rfl rfl rfl (Z4 rfl rfl) ?_
  refine Z9 rfl rfl Zaq hS (fun b300 w hS hB => ?_)
  refine Zq rfl rfl rfl CellsOf.agg hS ps0 Zds (by kernel_rfl) rfl (fun w hS hB => ?_)
  refine Zb 1 rfl ?_
  refine Zg ?_
  refine Zc hK297 ?_
  refine Ze (fun K hK302 => ?_)
  refine Zf ?_
  refine Zb 1 rfl ?_
  refine Za rfl rfl rfl (Yq rfl) ?_
  refine Zb 1 rfl ?_
  refine Zs 268 rfl (fun hb => ?_) (fun hb => ?_)
  ·replace H := Zo H hb
   refine Zb 4 rfl ?_
   refine Zg ?_
   refine Zc hK302 ?_
   refine Zr rfl rfl ?_
   refine Ze (fun K hK303 => ?_)
   refine Zf ?_
   refine Zb 1 rfl ?_
   refine Zg ?_
   refine Zc hK303 ?_
   refine Zk ?_
   refine Zv ?_
   refine Zj ?_
   refine Zj ?_
   refine Zv ?_
   refine Zj ?_
   refine Zl rfl (RV.tmp rfl RV.nil) rfl ?_
   obtain rfl := Option.some.inj H
   replace hS := hS.cut 0
   exact ⟨rfl, hS⟩
  replace H := Zn H hb
  refine Za rfl rfl rfl (Zi Vv rfl (RW.here _) hS Xu trivial Zax) ?_
  refine Za rfl rfl rfl (Zi Vv rfl (RW.here _) hS hs0 trivial Zax) ?_
  refine Za rfl rfl rfl (Za1 (by kernel_rfl) rfl rfl (eqT_46 _ _ _ _ _ _)) ?_
  refine Zb 1 rfl ?_
  refine Zg ?_
  refine Zc hK302 ?_
  refine Zz rfl (fun hb => ?_) (fun hb => ?_)
  rotate_left
  ·replace H := Zn H hb
   refine Zu ?_
   refine Z7 ?_
   refine Zc hK291 ?_
   refine Zf ?_
   refine Zb 1 rfl ?_
   refine Za rfl rfl rfl (Vi rfl rfl) ?_
   refine Zb 1 rfl ?_
   refine Zg ?_
   exact Vz (n, v285, (IntKind.wrap .i64 (v286 + 1))) (by repeat (first | exact Sub.nil | refine Sub.cons rfl ?_)) ⟨(hS.sub (List.Sublist.cons _ (List.Sublist.cons _ (List.Sublist.cons_cons _ (List.Sublist.cons_cons _ (List.Sublist.cons_cons _ (List.Sublist.cons_cons _ (List.Sublist.cons_cons _ (List.Sublist.cons_cons _ (List.Sublist.cons_cons _ (List.Sublist.cons_cons _ (List.Sublist.cons_cons _ (List.Sublist.cons_cons _ (List.Sublist.cons_cons _ (List.Sublist.cons_cons _ (List.Sublist.cons_cons _ (List.Sublist.cons_cons _ (List.Sublist.cons_cons _ (List.Sublist.cons_cons _ (List.Sublist.cons_cons _ (List.Sublist.cons_cons _ List.Sublist.slnil))))))))))))))))))))), H⟩ (Nat.lt_succ_self _)
  replace H := Zo H hb
  refine Ze (fun K hK304 => ?_)
  refine Zf ?_
  refine Zb 1 rfl ?_
  refine Zg ?_
  refine Zc hK304 ?_
  refine Zk ?_
  refine Zv ?_
  refine Zj ?_
  refine Zj ?_
  refine Zv ?_
  refine Zj ?_
  refine Zl rfl (RV.tmp rfl RV.nil) rfl ?_
  obtain rfl := Option.some.inj H
  replace hS := hS.cut 0
  exact ⟨rfl, hS⟩
 replace H := Zo H hb
 refine Zm [false, false, false, false, false, false, false, false, false, false, false, false, false, false, false, false, false, false, false, false, false, false, false, false, false, false, false, false, false, false, false, false, false, false, false, false, false, false, true, true, true, true, true, true] (by decide +kernel) (by repeat (first | exact PF.body | exact PF.round | apply PF.then | apply PF.inBlock | apply PF.jump)) ?_
 refine LtK.put rfl rfl rfl (Zt rfl) ?_
 obtain ⟨e100, hi102, H⟩ := bind_some H
 obtain ⟨j101, A103, c104, hi102a, hi102b, hi102c⟩ := idxQ (q := q45) hq46 hi102
 refine LtK.put rfl rfl rfl (Xj Zar rfl rfl hi102a hi102c (Rd.el (hS.rd hs6) Xx hi102b)) ?_
 refine LtK.put rfl rfl rfl (Xv Zem rfl (Rd.el (hS.rd hs6) Xx hi102b)) ?_
 refine LtK.put rfl rfl rfl (Zfd Zx rfl (RW.below _) (Rd.el (hS.rd hs6) Xx hi102b) rfl) ?_
 refine LtK.put rfl rfl rfl (Zd Yb rfl) ?_
 refine LtK.put rfl rfl rfl (Zi Y0 rfl (RW.below _) hS hs9 trivial Va) ?_
 refine LtK.nil ?_
 refine Zw [false, false, false, false, false, false, false, false, false, false, false, false, false, false, false, false, false, false, false, false, false, false, false, false, false, false, false, false, false, false, false, false, false, false, false, false, false, false, false, false, false, false, false, false, true] 44 ⟨by decide, by kernel_rfl, by kernel_rfl⟩ rfl rfl ?_
 try dsimp only [Zy]
 obtain ⟨r105, hm106, H⟩ := bind_some H
 refine Zp rfl rfl rfl rfl (by kernel_rfl) rfl (Y4 x0.tuple A0_ c0_ _ (SlI.of_rd s0_.k (hS.rd0 s0_.rd) (hS.blk0 s0_.blk)) hm106) ?_
 rintro e w ⟨rfl, hN⟩; refine ⟨_, rfl, ?_⟩; have hB := hN.pure; have hS := hS.join hN; clear hN
 refine Zg ?_
 refine Z3 hB ?_
 refine Zm [false, false, false, false, false, false, false, false, false, false, false, false, false, false, false, false, false, false, false, false, false, false, false, false, false, false, false, false, false, false, false, false, false, false, false, false, false, false, false, false, false, false, false, false, false, true, true, true] (by decide +kernel) (by repeat (first | exact PF.body | exact PF.round | apply PF.then | apply PF.inBlock | apply PF.jump)) ?_
 refine LtK.put rfl rfl rfl (Xo rfl rfl) ?_
 refine LtK.put rfl rfl rfl (Z1 rfl rfl rfl) ?_
 refine LtK.put rfl rfl rfl (Z5 rfl rfl rfl) ?_
 refine LtK.nil ?_
 refine Ya (by kernel_rfl) ?_
 refine Zc hK69 ?_
 refine Zz rfl (fun hb => ?_) (fun hb => ?_)
 ·replace H := Zo H hb
  refine Ze (fun K hK107 => ?_)
  refine Zf ?_
  refine Zb 1 rfl ?_
  refine Zg ?_
  refine Zc hK107 ?_
  refine Zk ?_
  refine Zj ?_
  refine Zl rfl (RV.tmp rfl RV.nil) rfl ?_
  obtain rfl := Option.some.inj H
  replace hS := hS.cut 0
  exact ⟨rfl, hS⟩
 replace H := Zn H hb
 refine Zu ?_
 refine Zc hK68 ?_
 refine Ze (fun K hK108 => ?_)
 refine Zf ?_
 refine Za rfl rfl rfl (Zi Y3 rfl (RW.here _) hS hs0 trivial Yl) ?_
 refine Za rfl rfl rfl (Zi Vd rfl (RW.here _) hS hs8 trivial Xn) ?_
 obtain ⟨r109, hm110, H⟩ := bind_some H
 refine Zp rfl rfl rfl rfl (by kernel_rfl) rfl (Zaw r19.1 x1 A21 c22 A25 c26 A29 c30 A33 c34 A37 c38 A5_ c5_ _ (SlI.of_rd k23 (hS.rd Xu) (hS.rd_blk Xu)) (SlI.of_rd k27 (hS.row_rd Vu) (hS.row_blk Vu)) (SlI.of_rd k31 (hS.row_rd hs3) (hS.row_blk hs3)) (SlI.of_rd k35 (hS.row_rd hs4) (hS.row_blk hs4)) (SlI.of_rd k39 (hS.row_rd hs5) (hS.row_blk hs5)) (SlI.of_rd s5_.k (hS.rd0 s5_.rd) (hS.blk0 s5_.blk)) hm110) ?_
 rintro e w ⟨A111, c112, A115, c116, A119, c120, A123, c124, A127, c128, A131, c132, q135, rfl, k113, k117, k121, k125, k129, k133, hq136, okq137, hN⟩; refine ⟨_, rfl, ?_⟩; have hB := hN.pure; have hS := hS.join hN; clear hN
 refine Zb 1 rfl ?_
 refine Za rfl rfl rfl (Z4 rfl rfl) ?_
 refine Za rfl rfl rfl (Z4 rfl rfl) ?_
 refine Z9 rfl rfl Zdd hS (fun b139 w hS hB => ?_)
 refine Zq rfl rfl rfl CellsOf.agg hS ps0 Xt (by kernel_rfl) rfl (fun w hS hB => ?_)
 refine Zb 1 rfl ?_
 refine Zg ?_
 refine Zc hK108 ?_
 refine Ze (fun K hK141 => ?_)
 refine Ze (fun K hK142 => ?_)
 refine Zf ?_
 refine Za rfl rfl rfl (Zi Y3 rfl (RW.here _) hS hs0 trivial Yl) ?_
 refine Za rfl rfl rfl (Zi Y3 rfl (RW.here _) hS hs8 trivial Yl) ?_
 obtain ⟨r143, hm144, H⟩ := bind_some H
 refine Zp rfl rfl rfl rfl (by kernel_rfl) rfl (Zep r109.1 r19.1 A111 c112 A115 c116 A119 c120 A123 c124 A127 c128 A21 c22 A25 c26 A29 c30 A33 c34 A37 c38 _ (SlI.of_rd k113 (hS.rd Xu) (hS.rd_blk Xu)) (SlI.of_rd k117 (hS.row_rd Vu) (hS.row_blk Vu)) (SlI.of_rd k121 (hS.row_rd hs3) (hS.row_blk hs3)) (SlI.of_rd k125 (hS.row_rd hs4) (hS.row_blk hs4)) (SlI.of_rd k129 (hS.row_rd hs5) (hS.row_blk hs5)) (SlI.of_rd k23 (hS.rd hs9) (hS.rd_blk hs9)) (SlI.of_rd k27 (hS.row_rd Zfv) (hS.row_blk Zfv)) (SlI.of_rd k31 (hS.row_rd hs11) (hS.row_blk hs11)) (SlI.of_rd k35 (hS.row_rd hs12) (hS.row_blk hs12)) (SlI.of_rd k39 (hS.row_rd hs13) (hS.row_blk hs13)) hm144) ?_
 rintro e w ⟨rfl, hN⟩; refine ⟨_, rfl, ?_⟩; have hB := hN.pure; have hS := hS.join hN; clear hN
 refine Za rfl rfl rfl (Yq rfl) ?_
 refine Zb 1 rfl ?_
 refine Zs 142 rfl (fun hb => ?_) (fun hb => ?_)
 ·replace H := Zo H hb
  refine Zb 5 rfl ?_
  refine Zg ?_
  refine Zc hK142 ?_
  refine Zr rfl rfl ?_
  refine Ze (fun K hK145 => ?_)
  refine Zf ?_
  refine Zb 1 rfl ?_
  refine Zg ?_
  refine Zc hK145 ?_
  refine Zk ?_
  refine Zj ?_
  refine Zl rfl (RV.tmp rfl RV.nil) rfl ?_
  obtain rfl := Option.some.inj H
  replace hS := hS.cut 0
  exact ⟨rfl, hS⟩
 replace H := Zn H hb
 refine Zb 2 rfl ?_
 obtain ⟨r146, hm147, H⟩ := bind_some H
 refine Zp rfl rfl rfl rfl (by kernel_rfl) rfl (Zfh r109.2 r19.2 A131 c132 q135 A41 c42 q45 _ (SlI.of_rd (k_q hq136 k133) (hS.rd hs6) (hS.rd_blk hs6)) hq136 (hS.rds_sl hs7 okq137) (SlI.of_rd (k_q hq46 k43) (hS.rd Zdy) (hS.rd_blk Zdy)) hq46 (hS.rds_sl hs15 okq47) hm147) ?_
 rintro e w ⟨rfl, hN⟩; refine ⟨_, rfl, ?_⟩; have hB := hN.pure; have hS := hS.join hN; clear hN
 refine Za rfl rfl rfl (Yq rfl) ?_
 refine Zb 1 rfl ?_
 refine Zg ?_
 refine Zc hK142 ?_
 refine Zz rfl (fun hb => ?_) (fun hb => ?_)
 ·replace H := Zo H hb
  refine Ze (fun K hK148 => ?_)
  refine Zf ?_
  refine Zb 1 rfl ?_
  refine Zg ?_
  refine Zc hK148 ?_
  refine Zk ?_
  refine Zj ?_
  refine Zl rfl (RV.tmp rfl RV.nil) rfl ?_
  obtain rfl := Option.some.inj H
  replace hS := hS.cut 0
  exact ⟨rfl, hS⟩
 replace H := Zn H hb
 refine Zu ?_
 refine Zc hK141 ?_
 refine Ze (fun K hK149 => ?_)
 refine Ze (fun K hK150 => ?_)
 refine Zf ?_
 refine Za rfl rfl rfl (Zd Yb rfl) ?_
 refine Za rfl rfl rfl (Zd Yt rfl) ?_
 refine Za rfl rfl rfl (Zi Yf rfl (RW.here _) hS hs8 trivial Zej) ?_
 refine Za rfl rfl rfl (Zd Yb rfl) ?_
 refine Za rfl rfl rfl (Zd Yt rfl) ?_
 refine Za rfl rfl rfl (Zi Yf rfl (RW.here _) hS Zbd trivial Zej) ?_
 refine Za rfl rfl rfl (X9 (by kernel_rfl) rfl rfl (X6 _ _ _ _ _ _ _ _ _ _)) ?_
 refine Zg ?_
 refine Zc hK150 ?_
 refine Zz rfl (fun hb => ?_) (fun hb => ?_)
 ·replace H := Zo H hb
  refine Ze (fun K hK151 => ?_)
  refine Yo 25 [] (fun _ _ => True) ⟨by kernel_rfl, by kernel_rfl⟩ hS (fun w hS hB => ?_)
  refine Zm [true, true, true, true, true, true] (by decide +kernel) (by repeat (first | exact PF.body | exact PF.round | apply PF.then | apply PF.inBlock | apply PF.jump)) ?_
  refine LtK.put rfl rfl rfl (Zd Vh rfl) ?_
  refine LtK.put rfl rfl rfl (Zh Zx rfl (RW.below _) hS hs8 trivial V7) ?_
  refine LtK.put rfl rfl rfl (Zd Vh rfl) ?_
  refine LtK.put rfl rfl rfl (Zh Zx rfl (RW.below _) hS Zbd trivial V7) ?_
  refine LtK.put rfl rfl rfl (Y2 rfl rfl) ?_
  refine LtK.put rfl rfl rfl (Zt rfl) ?_
  refine LtK.nil ?_
  refine Xa 160 rfl (fun hb => ?_) (fun hb => ?_)
  rotate_left
  ·replace H := Zn H hb
   refine Zm [false, false, false, false, false, false, true, true, true, true, true, true, true, true, true, false, true, true] (by decide +kernel) (by repeat (first | exact PF.body | exact PF.round | apply PF.then | apply PF.inBlock | apply PF.jump)) ?_
   refine LtK.skip rfl rfl rfl ?_
   refine LtK.skip rfl rfl rfl ?_
   refine LtK.skip rfl rfl rfl ?_
   refine LtK.skip rfl rfl rfl ?_
   refine LtK.skip rfl rfl rfl ?_
   refine LtK.put rfl rfl rfl (Z5 rfl rfl rfl) ?_
   refine LtK.put rfl rfl rfl (Zt rfl) ?_
   refine LtK.skip rfl rfl rfl ?_
   refine LtK.skip rfl rfl rfl ?_
   refine LtK.skip rfl rfl rfl ?_
   refine LtK.skip rfl rfl rfl ?_
   refine LtK.nil ?_
   refine Zw [false, false, false, false, false, false, false, false, false, false, false, false, false, false, false, true] 15 ⟨by decide, by kernel_rfl, by kernel_rfl⟩ rfl rfl ?_
   try dsimp only [Zy]
   refine Yp rfl rfl rfl ?_
   refine Zg ?_
   refine Z3 (Below.refl _ _) ?_
   refine Zw [false, false, false, false, false, false, false, false, false, false, false, false, false, false, false, false, false, false, true] 18 ⟨by decide, by kernel_rfl, by kernel_rfl⟩ rfl rfl ?_
   try dsimp only [Zy]
   refine Yp rfl rfl rfl ?_
   refine Zg ?_
   refine Z3 (Below.refl _ _) ?_
   refine Zm [false, false, false, false, false, false, false, false, false, false, false, false, false, false, false, false, false, false, false, true, true, true] (by decide +kernel) (by repeat (first | exact PF.body | exact PF.round | apply PF.then | apply PF.inBlock | apply PF.jump)) ?_
   refine LtK.skip rfl rfl rfl ?_
   refine LtK.put rfl rfl rfl (Z5 rfl rfl rfl) ?_
   refine LtK.put rfl rfl rfl (Zt rfl) ?_
   refine LtK.nil ?_
   refine Zw [false, false, false, false, false, false, false, false, false, false, false, false, false, false, false, false, false, false, false, false, false, false, true] 22 ⟨by decide, by kernel_rfl, by kernel_rfl⟩ rfl rfl ?_
   try dsimp only [Zy]
   refine Yp rfl rfl rfl ?_
   refine Zg ?_
   refine Z3 (Below.refl _ _) ?_
   refine Zm [false, false, false, false, false, false, false, false, false, false, false, false, false, false, false, false, false, false, false, false, false, false, false, true, true] (by decide +kernel) (by repeat (first | exact PF.body | exact PF.round | apply PF.then | apply PF.inBlock | apply PF.jump)) ?_
   refine LtK.put rfl rfl rfl (Z5 rfl rfl rfl) ?_
   refine LtK.put rfl rfl rfl (Z0 rfl) ?_
   refine LtK.nil ?_
   refine Ya (by kernel_rfl) ?_
   refine Zc hK151 ?_
   refine Zk ?_
   refine Zj ?_
   refine Zl rfl (RV.tmp rfl RV.nil) rfl ?_
   obtain rfl := Option.some.inj H
   replace hS := hS.cut 0
   exact ⟨rfl, hS⟩
  replace H := Zo H hb
  refine Zm [false, false, false, false, false, false, true, true, true, true, true, true, true] (by decide +kernel) (by repeat (first | exact PF.body | exact PF.round | apply PF.then | apply PF.inBlock | apply PF.jump)) ?_
  refine LtK.put rfl rfl rfl (Zd Jm rfl) ?_
  refine LtK.put rfl rfl rfl (Zi Yf rfl (RW.below _) hS hs8 trivial Zbl) ?_
  refine LtK.put rfl rfl rfl (Zd Jm rfl) ?_
  refine LtK.put rfl rfl rfl (Zi Yf rfl (RW.below _) hS Zbd trivial Zbl) ?_
  refine LtK.put rfl rfl rfl (X9 (by kernel_rfl) rfl rfl (X6 _ _ _ _ _ _ _ _ _ _)) ?_
  refine LtK.put rfl rfl rfl (Z1 rfl rfl rfl) ?_
  refine LtK.put rfl rfl rfl (Zt rfl) ?_
  refine LtK.nil ?_
  refine Xa 167 rfl (fun hb => ?_) (fun hb => ?_)
  rotate_left
  ·replace H := Zn H hb
   refine Zm [false, false, false, false, false, false, false, false, false, false, false, false, false, true, true, false, true, true] (by decide +kernel) (by repeat (first | exact PF.body | exact PF.round | apply PF.then | apply PF.inBlock | apply PF.jump)) ?_
   refine LtK.skip rfl rfl rfl ?_
   refine LtK.skip rfl rfl rfl ?_
   refine LtK.skip rfl rfl rfl ?_
   refine LtK.skip rfl rfl rfl ?_
   refine LtK.nil ?_
   refine Zw [false, false, false, false, false, false, false, false, false, false, false, false, false, false, false, true] 15 ⟨by decide, by kernel_rfl, by kernel_rfl⟩ rfl rfl ?_
   try dsimp only [Zy]
   refine Yp rfl rfl rfl ?_
   refine Zg ?_
   refine Z3 (Below.refl _ _) ?_
   refine Zw [false, false, false, false, false, false, false, false, false, false, false, false, false, false, false, false, false, false, true] 18 ⟨by decide, by kernel_rfl, by kernel_rfl⟩ rfl rfl ?_
   try dsimp only [Zy]
   refine Yp rfl rfl rfl ?_
   refine Zg ?_
   refine Z3 (Below.refl _ _) ?_
   refine Zm [false, false, false, false, false, false, false, false, false, false, false, false, false, false, false, false, false, false, false, true, true, true] (by decide +kernel) (by repeat (first | exact PF.body | exact PF.round | apply PF.then | apply PF.inBlock | apply PF.jump)) ?_
   refine LtK.skip rfl rfl rfl ?_
   refine LtK.put rfl rfl rfl (Z5 rfl rfl rfl) ?_
   refine LtK.put rfl rfl rfl (Zt rfl) ?_
   refine LtK.nil ?_
   refine Zw [false, false, false, false, false, false, false, false, false, false, false, false, false, false, false, false, false, false, false, false, false, false, true] 22 ⟨by decide, by kernel_rfl, by kernel_rfl⟩ rfl rfl ?_
   try dsimp only [Zy]
   refine Yp rfl rfl rfl ?_
   refine Zg ?_
   refine Z3 (Below.refl _ _) ?_
   refine Zm [false, false, false, false, false, false, false, false, false, false, false, false, false, false, false, false, false, false, false, false, false, false, false, true, true] (by decide +kernel) (by repeat (first | exact PF.body | exact PF.round | apply PF.then | apply PF.inBlock | apply PF.jump)) ?_
   refine LtK.put rfl rfl rfl (Z5 rfl rfl rfl) ?_
   refine LtK.put rfl rfl rfl (Z0 rfl) ?_
   refine LtK.nil ?_
   refine Ya (by kernel_rfl) ?_
   refine Zc hK151 ?_
   refine Zk ?_
   refine Zj ?_
   refine Zl rfl (RV.tmp rfl RV.nil) rfl ?_
   obtain rfl := Option.some.inj H
   replace hS := hS.cut 0
   exact ⟨rfl, hS⟩
  replace H := Zo H hb
  refine Zm [false, false, false, false, false, false, false, false, false, false, false, false, false, true, true, false, true, true] (by decide +kernel) (by repeat (first | exact PF.body | exact PF.round | apply PF.then | apply PF.inBlock | apply PF.jump)) ?_
  refine LtK.put rfl rfl rfl (Zd Yb rfl) ?_
  refine LtK.put rfl rfl rfl (Zi Y0 rfl (RW.below _) hS hs8 trivial Va) ?_
  refine LtK.put rfl rfl rfl (Zd Yb rfl) ?_
  refine LtK.put rfl rfl rfl (Zi Y0 rfl (RW.below _) hS Zbd trivial Va) ?_
  refine LtK.nil ?_
  refine Zw [false, false, false, false, false, false, false, false, false, false, false, false, false, false, false, true] 15 ⟨by decide, by kernel_rfl, by kernel_rfl⟩ rfl rfl ?_
  try dsimp only [Zy]
  obtain ⟨r152, hm153, H⟩ := bind_some H
  refine Zp rfl rfl rfl rfl (by kernel_rfl) rfl (Y4 r19.1.tuple A21 c22 _ (SlI.of_rd k23 (hS.rd hs9) (hS.rd_blk hs9)) hm153) ?_
  rintro e w ⟨rfl, hN⟩; refine ⟨_, rfl, ?_⟩; have hB := hN.pure; have hS := hS.join hN; clear hN
  refine Zg ?_
  refine Z3 hB ?_
  refine Zw [false, false, false, false, false, false, false, false, false, false, false, false, false, false, false, false, false, false, true] 18 ⟨by decide, by kernel_rfl, by kernel_rfl⟩ rfl rfl ?_
  try dsimp only [Zy]
  obtain ⟨r154, hm155, H⟩ := bind_some H
  refine Zp rfl rfl rfl rfl (by kernel_rfl) rfl (Y4 x0.tuple A0_ c0_ _ (SlI.of_rd s0_.k (hS.rd0 s0_.rd) (hS.blk0 s0_.blk)) hm155) ?_
  rintro e w ⟨rfl, hN⟩; refine ⟨_, rfl, ?_⟩; have hB := hN.pure; have hS := hS.join hN; clear hN
  refine Zg ?_
  refine Z3 hB ?_
  refine Zm [false, false, false, false, false, false, false, false, false, false, false, false, false, false, false, false, false, false, false, true, true, true] (by decide +kernel) (by repeat (first | exact PF.body | exact PF.round | apply PF.then | apply PF.inBlock | apply PF.jump)) ?_
  refine LtK.put rfl rfl rfl (Y2 rfl rfl) ?_
  refine LtK.put rfl rfl rfl (Z1 rfl rfl rfl) ?_
  refine LtK.put rfl rfl rfl (Zt rfl) ?_
  refine LtK.nil ?_
  refine Xa 176 rfl (fun hb => ?_) (fun hb => ?_)
  rotate_left
  ·replace H := Zn H hb
   refine Zw [false, false, false, false, false, false, false, false, false, false, false, false, false, false, false, false, false, false, false, false, false, false, true] 22 ⟨by decide, by kernel_rfl, by kernel_rfl⟩ rfl rfl ?_
   try dsimp only [Zy]
   refine Yp rfl rfl rfl ?_
   refine Zg ?_
   refine Z3 (Below.refl _ _) ?_
   refine Zm [false, false, false, false, false, false, false, false, false, false, false, false, false, false, false, false, false, false, false, false, false, false, false, true, true] (by decide +kernel) (by repeat (first | exact PF.body | exact PF.round | apply PF.then | apply PF.inBlock | apply PF.jump)) ?_
   refine LtK.put rfl rfl rfl (Z5 rfl rfl rfl) ?_
   refine LtK.put rfl rfl rfl (Z0 rfl) ?_
   refine LtK.nil ?_
   refine Ya (by kernel_rfl) ?_
   refine Zc hK151 ?_
   refine Zk ?_
   refine Zj ?_
   refine Zl rfl (RV.tmp rfl RV.nil) rfl ?_
   obtain rfl := Option.some.inj H
   replace hS := hS.cut 0
   exact ⟨rfl, hS⟩
  replace H := Zo H hb
  refine Zw [false, false, false, false, false, false, false, false, false, false, false, false, false, false, false, false, false, false, false, false, false, false, true] 22 ⟨by decide, by kernel_rfl, by kernel_rfl⟩ rfl rfl ?_
  try dsimp only [Zy]
  obtain ⟨r156, hm157, H⟩ := bind_some H
  refine Zp rfl rfl rfl rfl (by kernel_rfl) rfl (Xk _ hm157) ?_
  rintro e w ⟨rfl, hN⟩; refine ⟨_, rfl, ?_⟩; have hB := hN.pure; have hS := hS.join hN; clear hN
  refine Zg ?_
  refine Z3 hB ?_
  refine Zm [false, false, false, false, false, false, false, false, false, false, false, false, false, false, false, false, false, false, false, false, false, false, false, true, true] (by decide +kernel) (by repeat (first | exact PF.body | exact PF.round | apply PF.then | apply PF.inBlock | apply PF.jump)) ?_
  refine LtK.put rfl rfl rfl (Z1 rfl rfl rfl) ?_
  refine LtK.put rfl rfl rfl (Z0 rfl) ?_
  refine LtK.nil ?_
  refine Ya (by kernel_rfl) ?_
  refine Zc hK151 ?_
  refine Zk ?_
  refine Zj ?_
  refine Zl rfl (RV.tmp rfl RV.nil) rfl ?_
  obtain rfl := Option.some.inj H
  replace hS := hS.cut 0
  exact ⟨rfl, hS⟩
 replace H := Zn H hb
 refine Zu ?_
 refine Zc hK149 ?_
 refine Ze (fun K hK158 => ?_)
 refine Ze (fun K hK159 => ?_)
 refine Zf ?_
 refine Za rfl rfl rfl (Zd Yb rfl) ?_
 refine Za rfl rfl rfl (Zd Yt rfl) ?_
 refine Za rfl rfl rfl (Zi Yf rfl (RW.here _) hS hs8 trivial Zej) ?_
 refine Za rfl rfl rfl (Zd Yh rfl) ?_
 refine Za rfl rfl rfl (Zi Yf rfl (RW.here _) hS Zcd trivial Vj) ?_
 refine Za rfl rfl rfl (Za1 (by kernel_rfl) rfl rfl (X6 _ _ _ _ _ _ _ _ _ _)) ?_
 refine Zb 1 rfl ?_
 refine Zs 185 rfl (fun hb => ?_) (fun hb => ?_)
 ·replace H := Zo H hb
  refine Zb 29 rfl ?_
  refine Zg ?_
  refine Zc hK159 ?_
  refine Zr rfl rfl ?_
  refine Ze (fun K hK160 => ?_)
  refine Zf ?_
  refine Zb 1 rfl ?_
  refine Zg ?_
  refine Zc hK160 ?_
  refine Zk ?_
  refine Zj ?_
  refine Zl rfl (RV.tmp rfl RV.nil) rfl ?_
  obtain rfl := Option.some.inj H
  replace hS := hS.cut 0
  exact ⟨rfl, hS⟩
 replace H := Zn H hb
 refine Za rfl rfl rfl (Zd Jm rfl) ?_
 refine Za rfl rfl rfl (Zi Yf rfl (RW.here _) hS hs8 trivial Zbl) ?_
 refine Za rfl rfl rfl (Zd Yh rfl) ?_
 refine Za rfl rfl rfl (Zi Yf rfl (RW.here _) hS Zcd trivial Vj) ?_
 refine Za rfl rfl rfl (Za1 (by kernel_rfl) rfl rfl (X6 _ _ _ _ _ _ _ _ _ _)) ?_
 refine Zb 2 rfl ?_
 refine Zs 192 rfl (fun hb => ?_) (fun hb => ?_)
 ·replace H := Zo H hb
  refine Zb 22 rfl ?_
  refine Zg ?_
  refine Zc hK159 ?_
  refine Zr rfl rfl ?_
  refine Ze (fun K hK161 => ?_)
  refine Zf ?_
  refine Zb 1 rfl ?_
  refine Zg ?_
  refine Zc hK161 ?_
  refine Zk ?_
  refine Zj ?_
  refine Zl rfl (RV.tmp rfl RV.nil) rfl ?_
  obtain rfl := Option.some.inj H
  replace hS := hS.cut 0
  exact ⟨rfl, hS⟩
 replace H := Zn H hb
 refine Za rfl rfl rfl (Zd Vh rfl) ?_
 refine Za rfl rfl rfl (Zh Zx rfl (RW.here _) hS hs8 trivial V7) ?_
 refine Za rfl rfl rfl (Zd Yh rfl) ?_
 refine Za rfl rfl rfl (Zd Z6 rfl) ?_
 refine Za rfl rfl rfl (Zh Zx rfl (RW.here _) hS Zcd trivial Vb) ?_
 refine Za rfl rfl rfl (Xo rfl rfl) ?_
 refine Zb 2 rfl ?_
 refine Zs 200 rfl (fun hb => ?_) (fun hb => ?_)
 ·replace H := Zo H hb
  refine Zb 14 rfl ?_
  refine Zg ?_
  refine Zc hK159 ?_
  refine Zr rfl rfl ?_
  refine Ze (fun K hK162 => ?_)
  refine Zf ?_
  refine Zb 1 rfl ?_
  refine Zg ?_
  refine Zc hK162 ?_
  refine Zk ?_
  refine Zj ?_
  refine Zl rfl (RV.tmp rfl RV.nil) rfl ?_
  obtain rfl := Option.some.inj H
  replace hS := hS.cut 0
  exact ⟨rfl, hS⟩
 replace H := Zn H hb
 refine Za rfl rfl rfl (Zd Yh rfl) ?_
 refine Za rfl rfl rfl (Zd Z6 rfl) ?_
 refine Za rfl rfl rfl (Zh Zx rfl (RW.here _) hS Zcd trivial Vb) ?_
 refine Za rfl rfl rfl (Zd Vh rfl) ?_
 refine Za rfl rfl rfl (Zh Zx rfl (RW.here _) hS Zbd trivial V7) ?_
 refine Za rfl rfl rfl (Jw rfl rfl) ?_
 refine Zb 2 rfl ?_
 refine Zs 208 rfl (fun hb => ?_) (fun hb => ?_)
 ·replace H := Zo H hb
  refine Zb 6 rfl ?_
  refine Zg ?_
  refine Zc hK159 ?_
  refine Zr rfl rfl ?_
  refine Ze (fun K hK163 => ?_)
  refine Zf ?_
  refine Zb 1 rfl ?_
  refine Zg ?_
  refine Zc hK163 ?_
  refine Zk ?_
  refine Zj ?_
  refine Zl rfl (RV.tmp rfl RV.nil) rfl ?_
  obtain rfl := Option.some.inj H
  replace hS := hS.cut 0
  exact ⟨rfl, hS⟩
 replace H := Zn H hb
 refine Zb 1 rfl ?_
 obtain ⟨e164, hi166, H⟩ := bind_some H
 obtain ⟨j165, A167, c168, hi166a, hi166b, hi166c⟩ := idxQ (q := q45) hq46 hi166
 refine Za rfl rfl rfl (Xj Zar rfl rfl hi166a hi166c (Rd.el (hS.rd Zdy) Xx hi166b)) ?_
 refine Za rfl rfl rfl (Xv Zbn rfl (Rd.el (hS.rd Zdy) Xx hi166b)) ?_
 refine Za rfl rfl rfl (Zfd Zfy rfl (RW.here _) (Rd.el (hS.rd Zdy) Xx hi166b) rfl) ?_
 refine Za rfl rfl rfl (Yq rfl) ?_
 refine Zb 1 rfl ?_
 refine Zg ?_
 refine Zc hK159 ?_
 refine Zz rfl (fun hb => ?_) (fun hb => ?_)
 ·replace H := Zo H hb
  refine Ze (fun K hK169 => ?_)
  refine Zf ?_
  refine Zb 1 rfl ?_
  refine Zg ?_
  refine Zc hK169 ?_
  refine Zk ?_
  refine Zj ?_
  refine Zl rfl (RV.tmp rfl RV.nil) rfl ?_
  obtain rfl := Option.some.inj H
  replace hS := hS.cut 0
  exact ⟨rfl, hS⟩
 replace H := Zn H hb
 refine Zu ?_
 refine Zc hK158 ?_
 refine Ze (fun K hK170 => ?_)
 refine Zf ?_
 refine Za rfl rfl rfl (Zd Yb rfl) ?_
 refine Za rfl rfl rfl (Zi Y0 rfl (RW.here _) hS Zbd trivial Va) ?_
 refine Za rfl rfl rfl (Zd Yh rfl) ?_
 refine Za rfl rfl rfl (Zd Z6 rfl) ?_
 refine Za rfl rfl rfl (Zh Zx rfl (RW.here _) hS Zcd trivial Vb) ?_
 obtain ⟨r171, hm172, H⟩ := bind_some H
 refine Zp rfl rfl rfl rfl (by kernel_rfl) rfl (Zdl x0.tuple x1.snap.index A0_ c0_ _ (SlI.of_rd s0_.k (hS.rd0 s0_.rd) (hS.blk0 s0_.blk)) hm172) ?_
 rintro e w ⟨rfl, hN⟩; refine ⟨_, rfl, ?_⟩; have hB := hN.pure; have hS := hS.join hN; clear hN
 refine Zb 1 rfl ?_
 refine Za rfl rfl rfl (Z4 rfl rfl) ?_
 refine Za rfl rfl rfl (Z4 rfl rfl) ?_
 refine Zb 2 rfl ?_
 refine Zg ?_
 refine Zc hK170 ?_
 refine Ze (fun K hK173 => ?_)
 refine Ze (fun K hK174 => ?_)
 refine Zf ?_
 refine Zb 1 rfl ?_
 refine Za rfl rfl rfl (Yq rfl) ?_
 refine Zb 1 rfl ?_
 refine Zs 226 rfl (fun hb => ?_) (fun hb => ?_)
 ·replace H := Zo H hb
  refine Zb 6 rfl ?_
  refine Zg ?_
  refine Zc hK174 ?_
  refine Zr rfl rfl ?_
  refine Ze (fun K hK175 => ?_)
  refine Zf ?_
  refine Za rfl rfl rfl (Zd Yb rfl) ?_
  refine Za rfl rfl rfl (Zd Xq rfl) ?_
  refine Za rfl rfl rfl (Zh Vl rfl (RW.here _) hS hs8 trivial Zb3) ?_
  refine Za rfl rfl rfl (Y7 Xy rfl) ?_
  refine Za rfl rfl rfl (Y2 rfl rfl) ?_
  refine Zb 1 rfl ?_
  refine Zs 238 rfl (fun hb => ?_) (fun hb => ?_)
  rotate_left
  ·replace H := Zn H hb
   refine Zb 3 rfl ?_
   refine Zg ?_
   refine Zc hK175 ?_
   refine Zk ?_
   refine Zj ?_
   refine Zl rfl (RV.tmp rfl RV.nil) rfl ?_
   obtain rfl := Option.some.inj H
   replace hS := hS.cut 0
   exact ⟨rfl, hS⟩
  replace H := Zo H hb
  obtain ⟨r176, hm177, H⟩ := bind_some H
  refine Zp rfl rfl rfl rfl (by kernel_rfl) rfl (Xk _ hm177) ?_
  rintro e w ⟨rfl, hN⟩; refine ⟨_, rfl, ?_⟩; have hB := hN.pure; have hS := hS.join hN; clear hN
  refine Zb 2 rfl ?_
  refine Zg ?_
  refine Zc hK175 ?_
  refine Zk ?_
  refine Zj ?_
  refine Zl rfl (RV.tmp rfl RV.nil) rfl ?_
  obtain rfl := Option.some.inj H
  replace hS := hS.cut 0
  exact ⟨rfl, hS⟩
 replace H := Zn H hb
 refine Zb 1 rfl ?_
 refine Za rfl rfl rfl (Zd Yh rfl) ?_
 refine Za rfl rfl rfl (Zd Vn rfl) ?_
 refine Za rfl rfl rfl (Zh Zx rfl (RW.here _) hS Zcd trivial sg11_1) ?_
 refine Za rfl rfl rfl (Xo rfl rfl) ?_
 refine Zb 1 rfl ?_
 refine Zg ?_
 refine Zc hK174 ?_
 refine Zz rfl (fun hb => ?_) (fun hb => ?_)
 ·replace H := Zo H hb
  refine Ze (fun K hK178 => ?_)
  refine Zf ?_
  refine Za rfl rfl rfl (Zd Yb rfl) ?_
  refine Za rfl rfl rfl (Zd Xq rfl) ?_
  refine Za rfl rfl rfl (Zh Vl rfl (RW.here _) hS hs8 trivial Zb3) ?_
  refine Za rfl rfl rfl (Y7 Xy rfl) ?_
  refine Za rfl rfl rfl (Y2 rfl rfl) ?_
  refine Zb 1 rfl ?_
  refine Zs 238 rfl (fun hb => ?_) (fun hb => ?_)
  rotate_left
  ·replace H := Zn H hb
   refine Zb 3 rfl ?_
   refine Zg ?_
   refine Zc hK178 ?_
   refine Zk ?_
   refine Zj ?_
   refine Zl rfl (RV.tmp rfl RV.nil) rfl ?_
   obtain rfl := Option.some.inj H
   replace hS := hS.cut 0
   exact ⟨rfl, hS⟩
  replace H := Zo H hb
  obtain ⟨r179, hm180, H⟩ := bind_some H
  refine Zp rfl rfl rfl rfl (by kernel_rfl) rfl (Xk _ hm180) ?_
  rintro e w ⟨rfl, hN⟩; refine ⟨_, rfl, ?_⟩; have hB := hN.pure; have hS := hS.join hN; clear hN
  refine Zb 2 rfl ?_
  refine Zg ?_
  refine Zc hK178 ?_
  refine Zk ?_
  refine Zj ?_
  refine Zl rfl (RV.tmp rfl RV.nil) rfl ?_
  obtain rfl := Option.some.inj H
  replace hS := hS.cut 0
  exact ⟨rfl, hS⟩
 replace H := Zn H hb
 refine Zu ?_
 refine Zc hK173 ?_
 refine Ze (fun K hK181 => ?_)
 refine Ze (fun K hK182 => ?_)
 refine Zf ?_
 refine Za rfl rfl rfl (Zd Yh rfl) ?_
 refine Za rfl rfl rfl (Zd Z6 rfl) ?_
 refine Za rfl rfl rfl (Zh Zx rfl (RW.here _) hS Zcd trivial Vb) ?_
 refine Za rfl rfl rfl (Vi rfl rfl) ?_
 refine Zb 1 rfl ?_
 refine Zg ?_
 refine Zc hK182 ?_
 refine Yj ?_
 refine V3 (X := Nat × Bool × Int) (fun x => (2, .pointer (some ⟨b2, 0, none⟩)) :: (4, .bool x.2.1) :: (5, .pointer (some ⟨b49, 0, none⟩)) :: (11, .int .i64 x.2.2) :: []) (fun x w => St0 All w0 w (.box b139 [.int .i64 r109.1.id, .int .i64 r109.1.n, .int .u8 r109.1.role, .int .i64 r109.1.binary, .int .i64 r109.1.tuple.snap.index, .int .i64 r109.1.tuple.snap.term, .int .i64 r109.1.tuple.snap.sum, .int .i64 r109.1.tuple.snap.level, .bool r109.1.tuple.snap.final, .slice A111 r109.1.tuple.log.length c112, .int .i64 r109.1.tuple.term, .int .i64 r109.1.tuple.vote, .int .i64 r109.1.commit, .int .i64 r109.1.applied.index, .int .i64 r109.1.applied.term, .int .i64 r109.1.applied.sum, .int .i64 r109.1.applied.level, .bool r109.1.applied.final, .slice A115 r109.1.votes.length c116, .slice A119 r109.1.next.length c120, .slice A123 r109.1.mtch.length c124, .slice A127 r109.1.caps.length c128] 30 :: .rd A111 (Ye Ja r109.1.tuple.log) :: .row (.slice A115 r109.1.votes.length c116) 4 1 r109.1.votes.length (Ye enO r109.1.votes) :: .row (.slice A119 r109.1.next.length c120) 3 1 r109.1.next.length (Ye Vp r109.1.next) :: .row (.slice A123 r109.1.mtch.length c124) 3 1 r109.1.mtch.length (Ye Vp r109.1.mtch) :: .row (.slice A127 r109.1.caps.length c128) 3 1 r109.1.caps.length (Ye Vp r109.1.caps) :: .rd A131 (Ye enQ q135) :: .rds (q135.map subQ) :: .box b49 [.int .i64 r19.1.id, .int .i64 r19.1.n, .int .u8 r19.1.role, .int .i64 r19.1.binary, .int .i64 r19.1.tuple.snap.index, .int .i64 r19.1.tuple.snap.term, .int .i64 r19.1.tuple.snap.sum, .int .i64 r19.1.tuple.snap.level, .bool r19.1.tuple.snap.final, .slice A21 r19.1.tuple.log.length c22, .int .i64 r19.1.tuple.term, .int .i64 r19.1.tuple.vote, .int .i64 r19.1.commit, .int .i64 r19.1.applied.index, .int .i64 r19.1.applied.term, .int .i64 r19.1.applied.sum, .int .i64 r19.1.applied.level, .bool r19.1.applied.final, .slice A25 r19.1.votes.length c26, .slice A29 r19.1.next.length c30, .slice A33 r19.1.mtch.length c34, .slice A37 r19.1.caps.length c38] 30 :: .rd A21 (Ye Ja r19.1.tuple.log) :: .row (.slice A25 r19.1.votes.length c26) 4 1 r19.1.votes.length (Ye enO r19.1.votes) :: .row (.slice A29 r19.1.next.length c30) 3 1 r19.1.next.length (Ye Vp r19.1.next) :: .row (.slice A33 r19.1.mtch.length c34) 3 1 r19.1.mtch.length (Ye Vp r19.1.mtch) :: .row (.slice A37 r19.1.caps.length c38) 3 1 r19.1.caps.length (Ye Vp r19.1.caps) :: .rd A41 (Ye enQ q45) :: .rds (q45.map subQ) :: .box b4 [.int .u8 x1.kind, .int .i64 x1.frm, .int .i64 x1.dst, .int .i64 x1.term, .int .i64 x1.cap, .int .i64 x1.last, .int .i64 x1.lastTerm, .int .i64 x1.commit, .bool x1.okk, .slice A5_ x1.entries.length c5_, .int .i64 x1.snap.index, .int .i64 x1.snap.term, .int .i64 x1.snap.sum, .int .i64 x1.snap.level, .bool x1.snap.final] 32 :: .box b2 [.int .i64 x0.id, .int .i64 x0.n, .int .u8 x0.role, .int .i64 x0.binary, .int .i64 x0.tuple.snap.index, .int .i64 x0.tuple.snap.term, .int .i64 x0.tuple.snap.sum, .int .i64 x0.tuple.snap.level, .bool x0.tuple.snap.final, .slice A0_ x0.tuple.log.length c0_, .int .i64 x0.tuple.term, .int .i64 x0.tuple.vote, .int .i64 x0.commit, .int .i64 x0.applied.index, .int .i64 x0.applied.term, .int .i64 x0.applied.sum, .int .i64 x0.applied.level, .bool x0.applied.final, .slice A1_ x0.votes.length c1_, .slice A2_ x0.next.length c2_, .slice A3_ x0.mtch.length c3_, .slice A4_ x0.caps.length c4_] 30 :: []) ∧ Jn x0 r19 x.1 x.2.1 x.2.2 = some r) (fun x => x.1) (Xz, false, (IntKind.wrap .i64 (x1.snap.index + 1))) (by repeat (first | exact Sub.nil | refine Sub.cons rfl ?_)) ⟨hS, H⟩ ?_
 rintro ⟨n, v183, v184⟩ w ⟨hS, H⟩
 dsimp only at hS H ⊢
 obtain _ | n := n
 ·have H0 : none = some r := H
  cases H0
 rw [Jn] at H
 refine Ze (fun K hK185 => ?_)
 refine Ze (fun K hK186 => ?_)
 refine Zf ?_
 refine Zb 1 rfl ?_
 refine Za rfl rfl rfl (Zd Yb rfl) ?_
 refine Za rfl rfl rfl (Zi Y0 rfl (RW.here _) hS Zbd trivial Va) ?_
 obtain ⟨r187, hm188, H⟩ := bind_some H
 refine Zp rfl rfl rfl rfl (by kernel_rfl) rfl (Y4 x0.tuple A0_ c0_ _ (SlI.of_rd s0_.k (hS.rd0 s0_.rd) (hS.blk0 s0_.blk)) hm188) ?_
 rintro e w ⟨rfl, hN⟩; refine ⟨_, rfl, ?_⟩; have hB := hN.pure; have hS := hS.join hN; clear hN
 refine Za rfl rfl rfl (Jw rfl rfl) ?_
 refine Zg ?_
 refine Zc hK186 ?_
 refine Zz rfl (fun hb => ?_) (fun hb => ?_)
 rotate_left
 ·replace H := Zn H hb
  refine Vk ?_
  refine Yd ?_
  refine Yd ?_
  refine Xd ?_
  refine Zc hK181 ?_
  refine Ze (fun K hK203 => ?_)
  refine Yo 11 [] (fun _ _ => True) ⟨by kernel_rfl, by kernel_rfl⟩ hS (fun w hS hB => ?_)
  refine Zm [true, true, false, true, true] (by decide +kernel) (by repeat (first | exact PF.body | exact PF.round | apply PF.then | apply PF.inBlock | apply PF.jump)) ?_
  refine LtK.put rfl rfl rfl (Zd Yb rfl) ?_
  refine LtK.put rfl rfl rfl (Zi Y0 rfl (RW.below _) hS hs8 trivial Va) ?_
  refine LtK.put rfl rfl rfl (Zd Yb rfl) ?_
  refine LtK.put rfl rfl rfl (Zi Y0 rfl (RW.below _) hS Zbd trivial Va) ?_
  refine LtK.nil ?_
  refine Zw [false, false, true] 2 ⟨by decide, by kernel_rfl, by kernel_rfl⟩ rfl rfl ?_
  try dsimp only [Zy]
  obtain ⟨r204, hm205, H⟩ := bind_some H
  refine Zp rfl rfl rfl rfl (by kernel_rfl) rfl (Y4 r19.1.tuple A21 c22 _ (SlI.of_rd k23 (hS.rd hs9) (hS.rd_blk hs9)) hm205) ?_
  rintro e w ⟨rfl, hN⟩; refine ⟨_, rfl, ?_⟩; have hB := hN.pure; have hS := hS.join hN; clear hN
  refine Zg ?_
  refine Z3 hB ?_
  refine Zw [false, false, false, false, false, true] 5 ⟨by decide, by kernel_rfl, by kernel_rfl⟩ rfl rfl ?_
  try dsimp only [Zy]
  obtain ⟨r206, hm207, H⟩ := bind_some H
  refine Zp rfl rfl rfl rfl (by kernel_rfl) rfl (Y4 x0.tuple A0_ c0_ _ (SlI.of_rd s0_.k (hS.rd0 s0_.rd) (hS.blk0 s0_.blk)) hm207) ?_
  rintro e w ⟨rfl, hN⟩; refine ⟨_, rfl, ?_⟩; have hB := hN.pure; have hS := hS.join hN; clear hN
  refine Zg ?_
  refine Z3 hB ?_
  refine Zm [false, false, false, false, false, false, true, true] (by decide +kernel) (by repeat (first | exact PF.body | exact PF.round | apply PF.then | apply PF.inBlock | apply PF.jump)) ?_
  refine LtK.put rfl rfl rfl (Y2 rfl rfl) ?_
  refine LtK.put rfl rfl rfl (Zt rfl) ?_
  refine LtK.nil ?_
  refine Xa 280 rfl (fun hb => ?_) (fun hb => ?_)
  rotate_left
  ·replace H := Zn H hb
   refine Zw [false, false, false, false, false, false, false, false, true] 8 ⟨by decide, by kernel_rfl, by kernel_rfl⟩ rfl rfl ?_
   try dsimp only [Zy]
   refine Yp rfl rfl rfl ?_
   refine Zg ?_
   refine Z3 (Below.refl _ _) ?_
   refine Zm [false, false, false, false, false, false, false, false, false, true, true] (by decide +kernel) (by repeat (first | exact PF.body | exact PF.round | apply PF.then | apply PF.inBlock | apply PF.jump)) ?_
   refine LtK.put rfl rfl rfl (Z5 rfl rfl rfl) ?_
   refine LtK.put rfl rfl rfl (Z0 rfl) ?_
   refine LtK.nil ?_
   refine Ya (by kernel_rfl) ?_
   refine Zc hK203 ?_
   refine Zk ?_
   refine Zl rfl (RV.tmp rfl RV.nil) rfl ?_
   obtain rfl := Option.some.inj H
   replace hS := hS.cut 0
   exact ⟨rfl, hS⟩
  replace H := Zo H hb
  refine Zw [false, false, false, false, false, false, false, false, true] 8 ⟨by decide, by kernel_rfl, by kernel_rfl⟩ rfl rfl ?_
  try dsimp only [Zy]
  obtain ⟨r208, hm209, H⟩ := bind_some H
  refine Zp rfl rfl rfl rfl (by kernel_rfl) rfl (Xk _ hm209) ?_
  rintro e w ⟨rfl, hN⟩; refine ⟨_, rfl, ?_⟩; have hB := hN.pure; have hS := hS.join hN; clear hN
  refine Zg ?_
  refine Z3 hB ?_
  refine Zm [false, false, false, false, false, false, false, false, false, true, true] (by decide +kernel) (by repeat (first | exact PF.body | exact PF.round | apply PF.then | apply PF.inBlock | apply PF.jump)) ?_
  refine LtK.put rfl rfl rfl (Z1 rfl rfl rfl) ?_
  refine LtK.put rfl rfl rfl (Z0 rfl) ?_
  refine LtK.nil ?_
  refine Ya (by kernel_rfl) ?_
  refine Zc hK203 ?_
  refine Zk ?_
  refine Zl rfl (RV.tmp rfl RV.nil) rfl ?_
  obtain rfl := Option.some.inj H
  replace hS := hS.cut 0
  exact ⟨rfl, hS⟩
 replace H := Zo H hb
 refine Zu ?_
 refine Zc hK185 ?_
 refine Ze (fun K hK189 => ?_)
 refine Yj ?_
 refine Ze (fun K hK190 => ?_)
 refine Zf ?_
 refine Za rfl rfl rfl (Zd Yb rfl) ?_
 refine Za rfl rfl rfl (Zi Y0 rfl (RW.here _) hS Zbd trivial Va) ?_
 refine Zb 1 rfl ?_
 obtain ⟨r191, hm192, H⟩ := bind_some H
 refine Zp rfl rfl rfl rfl (by kernel_rfl) rfl (Za8 x0.tuple v184 A0_ c0_ _ (SlI.of_rd s0_.k (hS.rd0 s0_.rd) (hS.blk0 s0_.blk)) hm192) ?_
 rintro e w ⟨rfl, hN⟩; refine ⟨_, rfl, ?_⟩; have hB := hN.pure; have hS := hS.join hN; clear hN
 refine Zb 1 rfl ?_
 refine Za rfl rfl rfl (Z4 rfl rfl) ?_
 refine Za rfl rfl rfl (Z4 rfl rfl) ?_
 refine Z9 rfl rfl Zaq hS (fun b193 w hS hB => ?_)
 refine Zq rfl rfl rfl CellsOf.agg hS ps0 Zds (by kernel_rfl) rfl (fun w hS hB => ?_)
 refine Zb 1 rfl ?_
 refine Zg ?_
 refine Zc hK190 ?_
 refine Ze (fun K hK195 => ?_)
 refine Zf ?_
 refine Za rfl rfl rfl (Zd Yb rfl) ?_
 refine Za rfl rfl rfl (Zi Y0 rfl (RW.here _) hS hs9 trivial Va) ?_
 refine Zb 1 rfl ?_
 obtain ⟨r196, hm197, H⟩ := bind_some H
 refine Zp rfl rfl rfl rfl (by kernel_rfl) rfl (Za8 r19.1.tuple v184 A21 c22 _ (SlI.of_rd k23 (hS.rd Zfv) (hS.rd_blk Zfv)) hm197) ?_
 rintro e w ⟨rfl, hN⟩; refine ⟨_, rfl, ?_⟩; have hB := hN.pure; have hS := hS.join hN; clear hN
 refine Zb 1 rfl ?_
 refine Za rfl rfl rfl (Z4 rfl rfl) ?_
 refine Za rfl rfl rfl (Z4 rfl rfl) ?_
 refine Z9 rfl rfl Zaq hS (fun b198 w hS hB => ?_)
 refine Zq rfl rfl rfl CellsOf.agg hS ps0 Zds (by kernel_rfl) rfl (fun w hS hB => ?_)
 refine Zb 1 rfl ?_
 refine Zg ?_
 refine Zc hK195 ?_
 refine Ze (fun K hK200 => ?_)
 refine Zf ?_
 refine Zb 1 rfl ?_
 refine Za rfl rfl rfl (Yq rfl) ?_
 refine Zb 1 rfl ?_
 refine Zs 268 rfl (fun hb => ?_) (fun hb => ?_)
 ·replace H := Zo H hb
  refine Zb 4 rfl ?_
  refine Zg ?_
  refine Zc hK200 ?_
  refine Zr rfl rfl ?_
  refine Ze (fun K hK201 => ?_)
  refine Zf ?_
  refine Zb 1 rfl ?_
  refine Zg ?_
  refine Zc hK201 ?_
  refine Zk ?_
  refine Zv ?_
  refine Zj ?_
  refine Zj ?_
  refine Zv ?_
  refine Zj ?_
  refine Zl rfl (RV.tmp rfl RV.nil) rfl ?_
  obtain rfl := Option.some.inj H
  replace hS := hS.cut 0
  exact ⟨rfl, hS⟩
 replace H := Zn H hb
 refine Za rfl rfl rfl (Zi Vv rfl (RW.here _) hS Xu trivial Zax) ?_
 refine Za rfl rfl rfl (Zi Vv rfl (RW.here _) hS hs0 trivial Zax) ?_
 refine Za rfl rfl rfl (Za1 (by kernel_rfl) rfl rfl (eqT_46 _ _ _ _ _ _)) ?_
 refine Zb 1 rfl ?_
 refine Zg ?_
 refine Zc hK200 ?_
 refine Zz rfl (fun hb => ?_) (fun hb => ?_)
 rotate_left
 ·replace H := Zn H hb
  refine Zu ?_
  refine Z7 ?_
  refine Zc hK189 ?_
  refine Zf ?_
  refine Zb 1 rfl ?_
  refine Za rfl rfl rfl (Vi rfl rfl) ?_
  refine Zb 1 rfl ?_
  refine Zg ?_
  exact Vz (n, v183, (IntKind.wrap .i64 (v184 + 1))) (by repeat (first | exact Sub.nil | refine Sub.cons rfl ?_)) ⟨(hS.sub (List.Sublist.cons _ (List.Sublist.cons _ (List.Sublist.cons_cons _ (List.Sublist.cons_cons _ (List.Sublist.cons_cons _ (List.Sublist.cons_cons _ (List.Sublist.cons_cons _ (List.Sublist.cons_cons _ (List.Sublist.cons_cons _ (List.Sublist.cons_cons _ (List.Sublist.cons_cons _ (List.Sublist.cons_cons _ (List.Sublist.cons_cons _ (List.Sublist.cons_cons _ (List.Sublist.cons_cons _ (List.Sublist.cons_cons _ (List.Sublist.cons_cons _ (List.Sublist.cons_cons _ (List.Sublist.cons_cons _ (List.Sublist.cons_cons _ List.Sublist.slnil))))))))))))))))))))), H⟩ (Nat.lt_succ_self _)
 replace H := Zo H hb
 refine Ze (fun K hK202 => ?_)
 refine Zf ?_
 refine Zb 1 rfl ?_
 refine Zg ?_
 refine Zc hK202 ?_
 refine Zk ?_
 refine Zv ?_
 refine Zj ?_
 refine Zj ?_
 refine Zv ?_
 refine Zj ?_
 refine Zl rfl (RV.tmp rfl RV.nil) rfl ?_
 obtain rfl := Option.some.inj H
 replace hS := hS.cut 0
 exact ⟨rfl, hS⟩
end Go.Proofs.Ytenagnncpaabdaa
namespace Go.Proofs.Ytenagnncpaabdaa
open Go Go.RowKit
set_option maxRecDepth 100000
theorem lastT_mono (t : Int) (l : List En) (h : Zek t l = true) : t ≤ Ze6 t l := by
 induction l generalizing t with
 | nil => exact Int.le_refl _
 | cons e l ih =>
  simp only [Zek, Bool.and_eq_true, decide_eq_true_eq] at h
  exact Int.le_trans h.1.2 (ih _ h.2)
theorem tupB_iff (t : Tu) : J8 t = true ↔ FineP t.snap ∧ (t.snap.index ≤ 1073740824 ∧ t.log.length ≤ 200 ∧ 0 ≤ t.vote ∧ t.vote ≤ 5 ∧ t.term ≤ 1073741824) ∧ Zek t.snap.term t.log = true ∧ Ze6 t.snap.term t.log ≤ t.term := by
 unfold J8
 simp only [Bool.and_eq_true, decide_eq_true_eq, Zbv, and_assoc]
theorem chg_no (x : Tu) (res : Option Tu) (h : ∀ y, res = some y → J8 y = false) : Zb6 x res = x ∧ chgE x res = 2 := by
 have : Zdt x res = none := by
  unfold Zdt
  split
  ·cases res with
   | none => rfl
   | some y => simp [h y rfl]
  ·rfl
 unfold Zb6 chgE
 rw [this]
 exact ⟨rfl, rfl⟩
theorem chg_yes (x y : Tu) (res : Option Tu) (hx : J8 x = true) (h : res = some y) (hy : J8 y = true) : Zb6 x res = y ∧ chgE x res = 0 := by
 have : Zdt x res = some y := by unfold Zdt; rw [if_pos hx, h]; exact if_pos hy
 unfold Zb6 chgE
 rw [this]
 exact ⟨rfl, rfl⟩
end Go.Proofs.Ytenagnncpaabdaa
namespace Go.Proofs.Ytenagnncpaabdaa
open Go Go.RowKit
set_option maxRecDepth 100000
theorem p_number (x : Int) : V6 x = some (numB x) := by
 unfold V6 numB
 by_cases h : 0 ≤ x <;> simp [h]
theorem p_Fine (x : St) : V1 x = some (J9 x) := by
 obtain ⟨i, t, s, l, f⟩ := x
 simp only [V1, J0, p_number, Option.bind_some, J9, firstS, numB, St.mk.injEq, Bool.cond_not, Bool.cond_decide]
 cases f <;> (repeat' split) <;> simp_all <;> omega
theorem p_Right (x : En) : Zao x = some (Jj x) := by
 obtain ⟨t, k, v⟩ := x
 simp only [Zao, p_number, Option.bind_some, Jj, numB, Bool.cond_not, Bool.cond_decide]
 (repeat' split) <;> (refine congrArg some ?_; rw [Bool.eq_iff_iff]; simp only [decide_eq_true_eq, true_iff, Bool.false_eq_true, false_iff]; omega)
theorem p_Right12_l1 (x : Tu) (hl : x.log.length ≤ 1000000) : ∀ (m k n : Nat) (b : Bool) (t : Int), m = x.log.length - k → k ≤ x.log.length → m < n →
  Jc x n b t k = some (Zek t (x.log.drop k) && decide (Ze6 t (x.log.drop k) ≤ x.term ∧ 0 ≤ x.term ∧ x.term ≤ 1073741824)) := by
 intro m
 induction m with
 | zero =>
  intro k n b t hm hk hn
  obtain ⟨n, rfl⟩ : ∃ n', n = n' + 1 := ⟨n - 1, by omega⟩
  have hkl : k = x.log.length := by omega
  have hd : x.log.drop k = [] := List.drop_eq_nil_of_le (by omega)
  rw [Jc, hd]
  simp only [Zek, Bool.cond_decide, if_neg (show ¬ ((k : Int) < (x.log.length : Int)) by omega), Bool.true_and]
  (repeat' split) <;> (refine congrArg some ?_; rw [Bool.eq_iff_iff]; simp only [decide_eq_true_eq, true_iff, Bool.false_eq_true, false_iff]; simp only [Ze6]; omega)
 | succ m ih =>
  intro k n b t hm hk hn
  obtain ⟨n, rfl⟩ : ∃ n', n = n' + 1 := ⟨n - 1, by omega⟩
  obtain ⟨e, he, hd⟩ := Xw (show k < x.log.length by omega)
  have hi := ih (k + 1) n b e.term (by omega) (by omega) (by omega)
  rw [Jc, hd]
  simp only [Bool.cond_decide, if_pos (show ((k : Int) < (x.log.length : Int)) by omega), Za9, he, Option.bind_some, p_Right, Bool.cond_not, Zek, Ze6]
  rw [Zcr (by omega), show ((k : Int) + 1) = ((k + 1 : Nat) : Int) by omega, hi]
  cases hr : Jj e with
  | false => rfl
  | true =>
   simp only [cond_true, Bool.true_and]
   by_cases h : e.term < t
   ·rw [if_pos h, decide_eq_false (show ¬ (t ≤ e.term) by omega)]; rfl
   ·rw [if_neg h, decide_eq_true (show t ≤ e.term by omega)]; rfl
theorem p_Right12 (x : Tu) : Zcj x = some (J8 x) := by
 have key : J8 x = (J9 x.snap && decide (x.snap.index ≤ 1073740824 ∧ x.log.length ≤ 200 ∧ 0 ≤ x.vote ∧ x.vote ≤ 5) && (Zek x.snap.term x.log && decide (Ze6 x.snap.term x.log ≤ x.term ∧ 0 ≤ x.term ∧ x.term ≤ 1073741824))) := by
  rw [Bool.eq_iff_iff]
  unfold J8
  simp only [Bool.and_eq_true, decide_eq_true_eq]
  constructor
  ·rintro ⟨⟨⟨h1, h2⟩, h3⟩, h4⟩
   have h5 := lastT_mono _ _ h3
   have h6 : 0 ≤ x.snap.term := by
    rcases (Zbv _).1 h1 with h | h
    ·rw [h]; decide
    ·omega
   exact ⟨⟨h1, by omega⟩, h3, by omega⟩
  ·rintro ⟨⟨h1, h2⟩, h3, h4⟩
   exact ⟨⟨⟨h1, by omega⟩, h3⟩, by omega⟩
 rw [key]
 simp only [Zcj, p_Fine, Option.bind_some, Bool.cond_not, Bool.cond_decide]
 cases hf : J9 x.snap with
 | false => rfl
 | true =>
  simp only [cond_true, Bool.true_and]
  by_cases h1 : x.snap.index ≤ 1073740824 ∧ x.log.length ≤ 200 ∧ 0 ≤ x.vote ∧ x.vote ≤ 5
  ·rw [if_neg (by omega), if_neg (by omega), if_neg (by omega), if_neg (by omega), decide_eq_true h1, Bool.true_and]
   have := p_Right12_l1 x (by omega) x.log.length 0 Xz false x.snap.term (by omega) (by omega) (by unfold Xz; omega)
   exact this
  ·rw [decide_eq_false h1, Bool.false_and]
   (repeat' split) <;> first | rfl | (exfalso; omega)
theorem p_Same_l1 (a b : List En) (hl : a.length ≤ 1000000) (hab : a.length = b.length) : ∀ (m k n : Nat) (v : Bool), m = a.length - k → k ≤ a.length → m < n → Js a b n v k = some (decide (a.drop k = b.drop k)) := by
 intro m
 induction m with
 | zero =>
  intro k n v hm hk hn
  obtain ⟨n, rfl⟩ : ∃ n', n = n' + 1 := ⟨n - 1, by omega⟩
  rw [Js, List.drop_eq_nil_of_le (by omega), List.drop_eq_nil_of_le (by omega)]
  simp only [Bool.cond_decide, if_neg (show ¬ ((k : Int) < (a.length : Int)) by omega)]
  rfl
 | succ m ih =>
  intro k n v hm hk hn
  obtain ⟨n, rfl⟩ : ∃ n', n = n' + 1 := ⟨n - 1, by omega⟩
  obtain ⟨e, he, hd⟩ := Xw (show k < a.length by omega)
  obtain ⟨f, hf, hd2⟩ := Xw (show k < b.length by omega)
  rw [Js, hd, hd2]
  simp only [Bool.cond_decide, if_pos (show ((k : Int) < (a.length : Int)) by omega), Za9, he, hf, Option.bind_some, en_eq, Bool.cond_not]
  rw [Zcr (by omega), show ((k : Int) + 1) = ((k + 1 : Nat) : Int) by omega, ih (k + 1) n v (by omega) (by omega) (by omega)]
  by_cases h : e = f
  ·subst h; rw [if_pos rfl]; congr 1; rw [Bool.eq_iff_iff]; simp
  ·rw [if_neg h]; congr 1; rw [Bool.eq_iff_iff]; simp [h]
theorem p_Same (a b : List En) (hl : a.length ≤ 1000000) : Zby a b = some (decide (a = b)) := by
 unfold Zby
 by_cases h : a.length = b.length
 ·simp only [Bool.cond_decide, if_neg (show ¬ ((a.length : Int) ≠ (b.length : Int)) by omega)]
  have := p_Same_l1 a b hl h a.length 0 Xz false (by omega) (by omega) (by unfold Xz; omega)
  simpa using this
 ·simp only [Bool.cond_decide, if_pos (show ((a.length : Int) ≠ (b.length : Int)) by omega)]
  rw [decide_eq_false (fun h' => h (by rw [h']))]
theorem p_Same12 (x y : Tu) (hl : x.log.length ≤ 1000000) : Zc6 x y = some (decide (x = y)) := by
 obtain ⟨s, l, t, v⟩ := x; obtain ⟨s2, l2, t2, v2⟩ := y
 simp only [Zc6, snap_eq, p_Same l l2 hl, Option.bind_some, Bool.cond_decide, Tu.mk.injEq]
 by_cases h1 : s = s2 <;> by_cases h2 : t = t2 <;> by_cases h3 : v = v2 <;> simp [h1, h2, h3]
def bdT (x : Tu) : Prop := x.log.length ≤ 1000000 ∧ -2000000000000 ≤ x.snap.index ∧ x.snap.index ≤ 2000000000000
theorem q_Right (x : Tu) (h : bdT x) : Zcf x = some (J8 x) := by unfold Zcf; rw [okT_iff.2 h]; rfl
theorem q_State_yes (x : Tu) (k : Nat) (h : bdT x) (hk : k ≤ x.log.length) : Jf x (x.snap.index + k) = some (allS x.snap (x.log.take k), true) := by
 unfold Jf
 rw [okT_iff.2 h, decide_eq_true (by omega)]
 have : (x.snap.index + (k : Int) - x.snap.index).toNat = k := by omega
 rw [this]; rfl
theorem q_State_no (x : Tu) (i : Int) (h : bdT x) (hi : i < x.snap.index ∨ x.snap.index + x.log.length < i) : Jf x i = some (⟨0, 0, 0, 0, false⟩, false) := by
 unfold Jf
 rw [okT_iff.2 h, decide_eq_false (by omega)]; rfl
theorem p_tLast (x : Tu) (h : bdT x) : Jy x = some x.last := by unfold Jy Tu.last; obtain ⟨h1, h2, h3⟩ := h; rw [Zcr (by omega)]
theorem Zfw (x : Tu) (h : bdT x) : Y1 x = some x.last := p_tLast x h
theorem p_Next (s : St) (e : En) : Zb1 s e = some (Zau s e) := by
 simp only [Zb1, p_Right, p_Fine, Option.bind_some]
 by_cases hc : Jj e = true ∧ J9 s = true ∧ s.index < 1073741824
 ·obtain ⟨hr, hf, hi⟩ := hc
  have hn : Zau s e = Zdo e.kind e.value { s with index := s.index + 1, term := e.term } := by unfold Zau; rw [if_pos ⟨hr, hf, hi⟩]
  have hb : 0 ≤ s.index ∧ 0 ≤ s.sum ∧ s.sum ≤ 1073741824 := by
   rcases (Zbv s).1 hf with h | h
   ·rw [h]; decide
   ·omega
  have hv : 0 ≤ e.value ∧ e.value ≤ 1073741824 := by
   unfold Jj at hr; simp only [decide_eq_true_eq] at hr; omega
  have w0 : IntKind.wrap .i64 (s.index + 1) = s.index + 1 := Zcr (by omega)
  have w1 : IntKind.wrap .i64 (31 * s.sum) = 31 * s.sum := Zcr (by omega)
  have w2 : IntKind.wrap .i64 (31 * s.sum + e.value) = 31 * s.sum + e.value := Zcr (by omega)
  have w3 : IntKind.wrap .i64 (31 * s.sum + e.value + 1) = 31 * s.sum + e.value + 1 := Zcr (by omega)
  rw [hn, hr, hf, w0, w1, w2, w3, Int.tmod_eq_emod_of_nonneg (by omega), decide_eq_false (show ¬ (1073741824 ≤ s.index) by omega)]
  simp only [Bool.not_true, cond_false, Bool.cond_decide]
  unfold Zdo
  by_cases k1 : e.kind = 1
  ·rw [if_pos k1, if_pos k1]
  ·rw [if_neg k1, if_neg k1]
   by_cases k2 : e.kind = 2
   ·rw [if_pos k2, if_pos k2]
   ·rw [if_neg k2, if_neg k2]
    by_cases k3 : e.kind = 3
    ·rw [if_pos k3, if_pos k3]
     cases hF : s.final <;> rfl
    ·rw [if_neg k3, if_neg k3]
     by_cases k4 : e.kind = 4
     ·rw [if_pos k4, if_pos k4]
     ·rw [if_neg k4, if_neg k4]
 ·have hn : Zau s e = s := by unfold Zau; rw [if_neg hc]
  rw [hn]
  cases hr : Jj e with
  | false => rfl
  | true =>
   cases hf : J9 s with
   | false => rfl
   | true =>
    rw [decide_eq_true (show 1073741824 ≤ s.index by
     have : ¬ (s.index < 1073741824) := fun h => hc ⟨hr, hf, h⟩
     omega)]
    rfl
theorem p_All_l1 (l : List En) (hl : l.length ≤ 1000000) : ∀ (m k n : Nat) (s : St), m = l.length - k → k ≤ l.length → m < n → J4 l n k s.index s.term s.sum s.level s.final = some (allS s (l.drop k)) := by
 intro m
 induction m with
 | zero =>
  intro k n s hm hk hn
  obtain ⟨n, rfl⟩ : ∃ n', n = n' + 1 := ⟨n - 1, by omega⟩
  rw [J4, List.drop_eq_nil_of_le (by omega)]
  simp only [Bool.cond_decide, if_neg (show ¬ ((k : Int) < (l.length : Int)) by omega)]
  rfl
 | succ m ih =>
  intro k n s hm hk hn
  obtain ⟨n, rfl⟩ : ∃ n', n = n' + 1 := ⟨n - 1, by omega⟩
  obtain ⟨e, he, hd⟩ := Xw (show k < l.length by omega)
  rw [J4, hd]
  simp only [Bool.cond_decide, if_pos (show ((k : Int) < (l.length : Int)) by omega), Za9, he, Option.bind_some]
  have : Zb1 ⟨s.index, s.term, s.sum, s.level, s.final⟩ e = some (Zau s e) := p_Next s e
  rw [this, Option.bind_some, Zcr (by omega), show ((k : Int) + 1) = ((k + 1 : Nat) : Int) by omega, ih (k + 1) n (Zau s e) (by omega) (by omega) (by omega)]
  rfl
theorem p_All (s : St) (l : List En) (hl : l.length ≤ 1000000) : Zfk s l = some (allS s l) := p_All_l1 l hl l.length 0 Xz s (by omega) (by omega) (by unfold Xz; omega)
theorem p_State12 (x : Tu) (i : Int) (h : bdT x) : Zbh x i = Jf x i := by
 have h1 := h.1
 have h2 := h.2
 unfold Zbh
 rw [Zfw x h]
 simp only [Option.bind_some, Bool.cond_decide, Tu.last]
 by_cases h3 : i < x.snap.index
 ·rw [if_pos h3, q_State_no x i h (.inl h3)]
 ·rw [if_neg h3]
  by_cases h4 : x.snap.index + (x.log.length : Int) < i
  ·rw [if_pos h4, q_State_no x i h (.inr h4)]
  ·rw [if_neg h4]
   obtain ⟨k, hk⟩ : ∃ k : Nat, i = x.snap.index + (k : Int) := ⟨(i - x.snap.index).toNat, by omega⟩
   have w1 : IntKind.wrap .i64 (i - x.snap.index) = (k : Int) := by rw [Zcr (by omega)]; omega
   rw [w1, takeI_nat _ _ (by omega), Option.bind_some, p_All _ _ (by rw [List.length_take]; omega), hk, q_State_yes x k h (by omega)]
   rfl
end Go.Proofs.Ytenagnncpaabdaa
namespace Go.Proofs.Ytenagnncpaabdaa
open Go Go.RowKit
set_option maxRecDepth 100000
noncomputable def cdec (p : Prop) : Bool := @decide p (Classical.propDecidable p)
theorem X3 {p : Prop} (h : p) : cdec p = true := @decide_eq_true p (Classical.propDecidable p) h
theorem Yi {p : Prop} (h : ¬ p) : cdec p = false := @decide_eq_false p (Classical.propDecidable p) h
theorem Vx {p q : Prop} (h : p ↔ q) : cdec p = cdec q := by rw [propext h]
theorem Zea {p : Prop} [Decidable p] : decide p = cdec p := by
 by_cases h : p
 ·rw [X3 h, decide_eq_true h]
 ·rw [Yi h, decide_eq_false h]
def InB (l : List Int) (lo hi : Int) : Prop := ∀ x ∈ l, lo ≤ x ∧ x ≤ hi
theorem Zen {lo hi : Int} : InB [] lo hi := fun _ h => by cases h
theorem InB_cons {x : Int} {l : List Int} {lo hi : Int} : InB (x :: l) lo hi ↔ (lo ≤ x ∧ x ≤ hi) ∧ InB l lo hi := by
 unfold InB
 constructor
 ·intro h; exact ⟨h x (by simp), fun y hy => h y (by simp [hy])⟩
 ·rintro ⟨h1, h2⟩ y hy
  rcases List.mem_cons.1 hy with rfl | hy
  ·exact h1
  ·exact h2 y hy
theorem InB.get {l : List Int} {lo hi : Int} (h : InB l lo hi) {i : Nat} {x : Int} (hx : l[i]? = some x) : lo ≤ x ∧ x ≤ hi := h x (List.mem_of_getElem? hx)
theorem InB.set {l : List Int} {lo hi : Int} (h : InB l lo hi) {i : Nat} {x : Int} (hx : lo ≤ x ∧ x ≤ hi) : InB (l.set i x) lo hi := fun y hy => by
 rcases List.mem_or_eq_of_mem_set hy with h1 | rfl
 ·exact h y h1
 ·exact hx
theorem p_within (x lo hi : Int) : Vt x lo hi = some (cdec (lo ≤ x ∧ x ≤ hi)) := by
 unfold Vt
 rw [Bool.cond_decide]
 by_cases h : lo ≤ x
 ·rw [if_pos h, Zea]; congr 1; exact Vx ⟨fun h2 => ⟨h, h2⟩, fun h2 => h2.2⟩
 ·rw [if_neg h, Yi (fun h2 => h h2.1)]
theorem p_each_l1 (l : List Int) (lo hi : Int) (hl : l.length ≤ 1000000) : ∀ (m k n : Nat) (v : Int), m = l.length - k → k ≤ l.length → m < n → Zal l lo hi n v k = some (cdec (InB (l.drop k) lo hi)) := by
 intro m
 induction m with
 | zero =>
  intro k n v hm hk hn
  obtain ⟨n, rfl⟩ : ∃ n', n = n' + 1 := ⟨n - 1, by omega⟩
  rw [Zal, List.drop_eq_nil_of_le (by omega), X3 Zen]
  simp only [Bool.cond_decide, if_neg (show ¬ ((k : Int) < (l.length : Int)) by omega)]
  rfl
 | succ m ih =>
  intro k n v hm hk hn
  obtain ⟨n, rfl⟩ : ∃ n', n = n' + 1 := ⟨n - 1, by omega⟩
  obtain ⟨e, he, hd⟩ := Xw (show k < l.length by omega)
  rw [Zal, hd]
  simp only [Bool.cond_decide, if_pos (show ((k : Int) < (l.length : Int)) by omega), Za9, he, Option.bind_some, p_within]
  rw [Zcr (by omega), show ((k : Int) + 1) = ((k + 1 : Nat) : Int) by omega, ih (k + 1) n v (by omega) (by omega) (by omega)]
  by_cases h : lo ≤ e ∧ e ≤ hi
  ·rw [X3 h]; show some _ = _; congr 1; exact Vx ⟨fun h2 => InB_cons.2 ⟨h, h2⟩, fun h2 => (InB_cons.1 h2).2⟩
  ·rw [Yi h, Yi (fun h2 => h (InB_cons.1 h2).1), decide_eq_true (show (0 : Int) ≤ (k : Int) by omega)]; rfl
theorem p_each (l : List Int) (n lo hi : Int) (hl : l.length ≤ 1000000) : Za7 l n lo hi = some (cdec ((l.length : Int) = n ∧ InB l lo hi)) := by
 unfold Za7
 rw [Bool.cond_decide]
 by_cases h : (l.length : Int) = n
 ·rw [if_pos h]
  have := p_each_l1 l lo hi hl l.length 0 Xz 0 (by omega) (by omega) (by unfold Xz; omega)
  rw [show ((0 : Nat) : Int) = 0 from rfl] at this
  rw [this, List.drop_zero]
  congr 1; exact Vx ⟨fun h2 => ⟨h, h2⟩, fun h2 => h2.2⟩
 ·rw [if_neg h, Yi (fun h2 => h h2.1)]
theorem p_eRight (e : En) : Zfq e = some (Jj e) := rfl
def stOf (t : Tu) (i : Int) : Option St := if t.snap.index ≤ i ∧ i ≤ t.last then some (allS t.snap (t.log.take (i - t.snap.index).toNat)) else none
theorem q_State (x : Tu) (i : Int) (h : bdT x) : Jf x i = some ((stOf x i).getD ⟨0, 0, 0, 0, false⟩, (stOf x i).isSome) := by
 unfold stOf Tu.last
 by_cases hi : x.snap.index ≤ i ∧ i ≤ x.snap.index + x.log.length
 ·rw [if_pos hi]
  obtain ⟨k, hk⟩ : ∃ k : Nat, i = x.snap.index + (k : Int) := ⟨(i - x.snap.index).toNat, by omega⟩
  rw [hk, q_State_yes x k h (by omega), show (x.snap.index + (k : Int) - x.snap.index).toNat = k by omega]
  rfl
 ·rw [if_neg hi, q_State_no x i h (by omega)]; rfl
structure RightC (x : Co) : Prop where
 n : 1 ≤ x.n ∧ x.n ≤ 5
 id : 1 ≤ x.id ∧ x.id ≤ x.n
 role : x.role ≤ 2
 bin : 1 ≤ x.binary ∧ x.binary ≤ 2
 tup : J8 x.tuple = true
 st : stOf x.tuple x.commit = some x.applied
 lv : (x.votes.length : Int) = x.n
 ln : (x.next.length : Int) = x.n
 lm : (x.mtch.length : Int) = x.n
 lc : (x.caps.length : Int) = x.n
 next : InB x.next 1 (x.tuple.last + 1)
 mtch : InB x.mtch 0 x.tuple.last
 caps : InB x.caps 0 2
 own : x.caps[(x.id - 1).toNat]? = some x.binary
 lead : x.role = 0 ∨ (0 < x.tuple.term ∧ x.tuple.vote = x.id)
noncomputable def Zfm (x : Co) : Bool := cdec (RightC x)
structure BdC (x : Co) : Prop where
 tup : bdT x.tuple
 lv : x.votes.length ≤ 1000000
 ln : x.next.length ≤ 1000000
 lm : x.mtch.length ≤ 1000000
 lc : x.caps.length ≤ 1000000
theorem own_get (x : Co) (h1 : 1 ≤ x.n ∧ x.n ≤ 5) (h2 : 1 ≤ x.id ∧ x.id ≤ x.n) (h3 : (x.caps.length : Int) = x.n) : ∃ e, idx x.caps (IntKind.wrap .i64 (x.id - 1)) = some e ∧ x.caps[(x.id - 1).toNat]? = some e := by
 have hw : IntKind.wrap .i64 (x.id - 1) = (((x.id - 1).toNat : Nat) : Int) := by rw [Zcr (by omega)]; omega
 obtain ⟨e, he, _⟩ := Xw (show (x.id - 1).toNat < x.caps.length by omega)
 exact ⟨e, by rw [hw, Za9, he], he⟩
theorem last_bd {t : Tu} (h : bdT t) : -3000000000000 ≤ t.last ∧ t.last ≤ 3000000000000 := by
 obtain ⟨h1, h2, h3⟩ := h
 unfold Tu.last; omega
theorem p_mRight (x : Co) (h : BdC x) : J2 x = some (Zfm x) := by
 have hlb := last_bd h.tup
 have hw : IntKind.wrap .i64 (x.tuple.last + 1) = x.tuple.last + 1 := Zcr (by omega)
 simp only [J2, p_tLast x.tuple h.tup, p_within, q_Right x.tuple h.tup, q_State x.tuple x.commit h.tup, p_each x.next _ _ _ h.ln, p_each x.mtch _ _ _ h.lm, p_each x.caps _ _ _ h.lc, Option.bind_some, hw, snap_eq]
 unfold Zfm
 by_cases c1 : 1 ≤ x.n ∧ x.n ≤ 5
 case neg => rw [Yi c1, Yi (p := RightC x) fun h => c1 h.n]; rfl
 by_cases c2 : 1 ≤ x.id ∧ x.id ≤ x.n
 case neg => rw [X3 c1, Yi c2, Yi (p := RightC x) fun h => c2 h.id]; rfl
 by_cases c3 : x.role ≤ 2
 case neg => rw [X3 c1, X3 c2, decide_eq_false c3, Yi (p := RightC x) fun h => c3 h.role]; rfl
 by_cases c4 : 1 ≤ x.binary ∧ x.binary ≤ 2
 case neg => rw [X3 c1, X3 c2, decide_eq_true c3, Yi c4, Yi (p := RightC x) fun h => c4 h.bin]; rfl
 rw [X3 c1, X3 c2, decide_eq_true c3, X3 c4]
 simp only [cond_true, Bool.not_true, cond_false]
 cases c5 : J8 x.tuple
 case false => rw [Yi (p := RightC x) fun h => by have h2 := h.tup; rw [c5] at h2; cases h2]; rfl
 simp only [cond_true, Bool.not_true, cond_false]
 cases c6 : stOf x.tuple x.commit with
 | none => rw [Yi (p := RightC x) fun h => by rw [h.st] at c6; cases c6]; rfl
 | some s =>
  simp only [Option.isSome_some, Option.getD_some, cond_true]
  by_cases c7 : s = x.applied
  case neg => rw [decide_eq_false c7, Yi (p := RightC x) fun h => c7 (by have := h.st; rw [c6] at this; exact Option.some.inj this)]; rfl
  rw [decide_eq_true c7]
  simp only [cond_true, Bool.not_true, cond_false]
  by_cases c8 : (x.votes.length : Int) = x.n
  case neg => rw [decide_eq_false c8, Yi (p := RightC x) fun h => c8 h.lv]; rfl
  by_cases c9 : (x.next.length : Int) = x.n ∧ InB x.next 1 (x.tuple.last + 1)
  case neg => rw [decide_eq_true c8, Yi c9, Yi (p := RightC x) fun h => c9 ⟨h.ln, h.next⟩]; rfl
  by_cases c10 : (x.mtch.length : Int) = x.n ∧ InB x.mtch 0 x.tuple.last
  case neg => rw [decide_eq_true c8, X3 c9, Yi c10, Yi (p := RightC x) fun h => c10 ⟨h.lm, h.mtch⟩]; rfl
  by_cases c11 : (x.caps.length : Int) = x.n ∧ InB x.caps 0 2
  case neg => rw [decide_eq_true c8, X3 c9, X3 c10, Yi c11, Yi (p := RightC x) fun h => c11 ⟨h.lc, h.caps⟩]; rfl
  rw [decide_eq_true c8, X3 c9, X3 c10, X3 c11]
  obtain ⟨e, he, he2⟩ := own_get x c1 c2 c11.1
  simp only [cond_true, Bool.not_true, cond_false, Option.bind_some, he]
  by_cases c12 : e = x.binary
  case neg => rw [decide_eq_false c12, Yi (p := RightC x) fun h => c12 (by have := h.own; rw [he2] at this; exact Option.some.inj this)]; rfl
  rw [decide_eq_true c12]
  simp only [cond_true, Bool.not_true, cond_false, Bool.cond_decide]
  subst c12
  subst c7
  by_cases c13 : x.role = 0
  ·rw [if_pos c13, X3 (p := RightC x) ⟨c1, c2, c3, c4, c5, c6, c8, c9.1, c10.1, c11.1, c9.2, c10.2, c11.2, he2, .inl c13⟩]
  ·rw [if_neg c13]
   by_cases c14 : 0 < x.tuple.term
   ·rw [if_pos c14]
    by_cases c15 : x.tuple.vote = x.id
    ·rw [decide_eq_true c15, X3 (p := RightC x) ⟨c1, c2, c3, c4, c5, c6, c8, c9.1, c10.1, c11.1, c9.2, c10.2, c11.2, he2, .inr ⟨c14, c15⟩⟩]; rfl
    ·rw [decide_eq_false c15, Yi (p := RightC x) fun h => by rcases h.lead with h | h; exact c13 h; exact c15 h.2]; rfl
   ·rw [if_neg c14, Yi (p := RightC x) fun h => by rcases h.lead with h | h; exact c13 h; exact c14 h.1]
theorem p_mOwn (x : Co) (h : BdC x) : Zbg x = some x := by
 have h1 := h.tup.1
 have h2 := h.lv
 have h3 := h.ln
 have h4 := h.lm
 have h5 := h.lc
 simp only [Zbg, Ze7, X5, V4, Vf, Option.bind_some, fewI_ok _ (show x.tuple.log.length ≤ 1000000000 by omega), fewI_ok _ (show x.votes.length ≤ 1000000000 by omega), fewI_ok _ (show x.next.length ≤ 1000000000 by omega), fewI_ok _ (show x.mtch.length ≤ 1000000000 by omega), fewI_ok _ (show x.caps.length ≤ 1000000000 by omega)]
theorem p_ints_l1 (a b : List Int) (hl : a.length ≤ 1000000) (hab : a.length = b.length) : ∀ (m k n : Nat) (v : Bool), m = a.length - k → k ≤ a.length → m < n → Jr a b n v k = some (decide (a.drop k = b.drop k)) := by
 intro m
 induction m with
 | zero =>
  intro k n v hm hk hn
  obtain ⟨n, rfl⟩ : ∃ n', n = n' + 1 := ⟨n - 1, by omega⟩
  rw [Jr, List.drop_eq_nil_of_le (by omega), List.drop_eq_nil_of_le (by omega)]
  simp only [Bool.cond_decide, if_neg (show ¬ ((k : Int) < (a.length : Int)) by omega)]
  rfl
 | succ m ih =>
  intro k n v hm hk hn
  obtain ⟨n, rfl⟩ : ∃ n', n = n' + 1 := ⟨n - 1, by omega⟩
  obtain ⟨e, he, hd⟩ := Xw (show k < a.length by omega)
  obtain ⟨f, hf, hd2⟩ := Xw (show k < b.length by omega)
  rw [Jr, hd, hd2]
  simp only [Bool.cond_decide, if_pos (show ((k : Int) < (a.length : Int)) by omega), Za9, he, hf, Option.bind_some]
  rw [Zcr (by omega), show ((k : Int) + 1) = ((k + 1 : Nat) : Int) by omega, ih (k + 1) n v (by omega) (by omega) (by omega)]
  by_cases h : e = f
  ·subst h; rw [if_neg (fun h => h rfl)]; congr 1; rw [Bool.eq_iff_iff]; simp
  ·rw [if_pos h]; congr 1; rw [Bool.eq_iff_iff]; simp [h]
theorem p_ints (a b : List Int) (hl : a.length ≤ 1000000) : Za2 a b = some (decide (a = b)) := by
 unfold Za2
 by_cases h : a.length = b.length
 ·simp only [Bool.cond_decide, if_neg (show ¬ ((a.length : Int) ≠ (b.length : Int)) by omega)]
  have := p_ints_l1 a b hl h a.length 0 Xz false (by omega) (by omega) (by unfold Xz; omega)
  simpa using this
 ·simp only [Bool.cond_decide, if_pos (show ((a.length : Int) ≠ (b.length : Int)) by omega)]
  rw [decide_eq_false (fun h' => h (by rw [h']))]
theorem p_Same20_l1 (x y : Co) (h : BdC x) (hab : x.votes.length = y.votes.length) : ∀ (m k n : Nat) (v : Bool), m = x.votes.length - k → k ≤ x.votes.length → m < n → Jt x y n v k = some (decide (x.votes.drop k = y.votes.drop k ∧ x.next = y.next ∧ x.mtch = y.mtch ∧ x.caps = y.caps)) := by
 have hv := h.lv
 intro m
 induction m with
 | zero =>
  intro k n v hm hk hn
  obtain ⟨n, rfl⟩ : ∃ n', n = n' + 1 := ⟨n - 1, by omega⟩
  rw [Jt, List.drop_eq_nil_of_le (by omega), List.drop_eq_nil_of_le (by omega)]
  simp only [Bool.cond_decide, if_neg (show ¬ ((k : Int) < (x.votes.length : Int)) by omega), p_ints _ _ h.ln, p_ints _ _ h.lm, p_ints _ _ h.lc, Option.bind_some]
  (repeat' split) <;> (congr 1; rw [Bool.eq_iff_iff]; simp_all)
 | succ m ih =>
  intro k n v hm hk hn
  obtain ⟨n, rfl⟩ : ∃ n', n = n' + 1 := ⟨n - 1, by omega⟩
  obtain ⟨e, he, hd⟩ := Xw (show k < x.votes.length by omega)
  obtain ⟨f, hf, hd2⟩ := Xw (show k < y.votes.length by omega)
  rw [Jt, hd, hd2]
  simp only [Bool.cond_decide, if_pos (show ((k : Int) < (x.votes.length : Int)) by omega), Za9, he, hf, Option.bind_some]
  rw [Zcr (by omega), show ((k : Int) + 1) = ((k + 1 : Nat) : Int) by omega, ih (k + 1) n v (by omega) (by omega) (by omega)]
  by_cases h : e = f
  ·subst h; rw [if_neg (fun h => h rfl)]; congr 1; rw [Bool.eq_iff_iff]; simp
  ·rw [if_pos h]; congr 1; rw [Bool.eq_iff_iff]; simp [h]
theorem p_Same20 (x y : Co) (h : BdC x) : Zae x y = some (decide (x = y)) := by
 have hv := h.lv
 obtain ⟨a1, a2, a3, a4, a5, a6, a7, a8, a9, a10, a11⟩ := x
 obtain ⟨b1, b2, b3, b4, b5, b6, b7, b8, b9, b10, b11⟩ := y
 simp only [Zae, p_Same12 a5 b5 h.tup.1, snap_eq, Option.bind_some, Bool.cond_decide, Co.mk.injEq, Bool.cond_not]
 by_cases c1 : a1 = b1
 case neg => simp [c1]
 by_cases c2 : a2 = b2
 case neg => simp [c2]
 by_cases c3 : a3 = b3
 case neg => simp [c3]
 by_cases c4 : a4 = b4
 case neg => simp [c4]
 by_cases c5 : a5 = b5
 case neg => simp [c5]
 by_cases c6 : a6 = b6
 case neg => simp [c6]
 by_cases c7 : a7 = b7
 case neg => simp [c7]
 by_cases c8 : a8.length = b8.length
 case neg =>
  have : a8 ≠ b8 := fun h => c8 (by rw [h])
  simp [c8, this]
  intros; omega
 have := p_Same20_l1 ⟨a1, a2, a3, a4, a5, a6, a7, a8, a9, a10, a11⟩ ⟨b1, b2, b3, b4, b5, b6, b7, b8, b9, b10, b11⟩ h c8 a8.length 0 Xz false (by simp) (by omega) (by dsimp only at hv; unfold Xz; omega)
 dsimp only at this
 rw [show ((0 : Nat) : Int) = 0 from rfl] at this
 rw [this]
 subst c1; subst c2; subst c3; subst c4; subst c5; subst c6; subst c7
 simp [c8]
theorem p_Great_no (x : Co) (h : Zan x = some false) : BdC x ∧ x.votes.length ≤ 9 ∧ x.next.length ≤ 9 ∧ x.mtch.length ≤ 9 ∧ x.caps.length ≤ 9 ∧ x.tuple.log.length ≤ 250 := by
 unfold Zan Zb8 at h
 simp only [Option.bind_some, Bool.cond_decide] at h
 repeat' split at h
 all_goals first | (cases h; done) | skip
 simp only [Option.some.injEq, decide_eq_false_iff_not] at h
 refine ⟨⟨⟨by omega, by omega, by omega⟩, by omega, by omega, by omega, by omega⟩, by omega, by omega, by omega, by omega, by omega⟩
theorem p_Great_some (x : Co) : ∃ b, Zan x = some b := by
 unfold Zan Zb8
 simp only [Option.bind_some, Bool.cond_decide]
 repeat' split
 all_goals exact ⟨_, rfl⟩
theorem RightC.bd {x : Co} (h : RightC x) : BdC x := by
 have h1 := Zff _ h.tup
 have := h.n
 have := h.lv
 have := h.ln
 have := h.lm
 have := h.lc
 exact ⟨⟨by omega, h1.1, by omega⟩, by omega, by omega, by omega, by omega⟩
theorem p_State12' (x : Tu) (i : Int) (h : bdT x) : Zbh x i = some ((stOf x i).getD ⟨0, 0, 0, 0, false⟩, (stOf x i).isSome) := by rw [p_State12 x i h, q_State x i h]
theorem p_Right20_l1 (x : Co) (hn : 1 ≤ x.n ∧ x.n ≤ 5) (hi : 1 ≤ x.id ∧ x.id ≤ x.n) (h2 : (x.next.length : Int) = x.n) (h3 : (x.mtch.length : Int) = x.n) (h4 : (x.caps.length : Int) = x.n) (hb : bdT x.tuple) : ∀ (m k n : Nat) (b : Bool), m = x.caps.length - k → k ≤ x.caps.length → m < n →
  Jb x x.tuple.last n b k = some (cdec (InB (x.next.drop k) 1 (x.tuple.last + 1) ∧ InB (x.mtch.drop k) 0 x.tuple.last ∧ InB (x.caps.drop k) 0 2 ∧ x.caps[(x.id - 1).toNat]? = some x.binary ∧ (x.role = 0 ∨ (0 < x.tuple.term ∧ x.tuple.vote = x.id)))) := by
 have hlb := last_bd hb
 have hw : IntKind.wrap .i64 (x.tuple.last + 1) = x.tuple.last + 1 := Zcr (by omega)
 obtain ⟨e0, he0, he1⟩ := own_get x hn hi h4
 intro m
 induction m with
 | zero =>
  intro k n b hm hk hn'
  obtain ⟨n, rfl⟩ : ∃ n', n = n' + 1 := ⟨n - 1, by omega⟩
  rw [Jb, List.drop_eq_nil_of_le (by omega), List.drop_eq_nil_of_le (by omega), List.drop_eq_nil_of_le (by omega)]
  simp only [Bool.cond_decide, if_neg (show ¬ ((k : Int) < x.n) by omega), he0, he1, Option.bind_some, Option.some.injEq]
  by_cases c1 : x.role = 0
  ·rw [if_neg (fun h => h c1), Zea]; congr 1; exact Vx ⟨fun h => ⟨Zen, Zen, Zen, h, .inl c1⟩, fun h => h.2.2.2.1⟩
  ·rw [if_pos c1]
   by_cases c2 : x.tuple.term < 1
   ·rw [if_pos c2, Yi]; rintro ⟨_, _, _, _, h | h⟩; exact c1 h; omega
   ·rw [if_neg c2]
    by_cases c3 : x.tuple.vote = x.id
    ·rw [if_neg (fun h => h c3), Zea]; congr 1; exact Vx ⟨fun h => ⟨Zen, Zen, Zen, h, .inr ⟨by omega, c3⟩⟩, fun h => h.2.2.2.1⟩
    ·rw [if_pos c3, Yi]; rintro ⟨_, _, _, _, h | h⟩; exact c1 h; exact c3 h.2
 | succ m ih =>
  intro k n b hm hk hn'
  obtain ⟨n, rfl⟩ : ∃ n', n = n' + 1 := ⟨n - 1, by omega⟩
  obtain ⟨e, he, hd⟩ := Xw (show k < x.next.length by omega)
  obtain ⟨f, hf, hd2⟩ := Xw (show k < x.mtch.length by omega)
  obtain ⟨g, hg, hd3⟩ := Xw (show k < x.caps.length by omega)
  rw [Jb, hd, hd2, hd3]
  simp only [Bool.cond_decide, if_pos (show ((k : Int) < x.n) by omega), Za9, he, hf, hg, Option.bind_some, hw]
  rw [Zcr (n := (k : Int) + 1) (by omega), show ((k : Int) + 1) = ((k + 1 : Nat) : Int) by omega, ih (k + 1) n b (by omega) (by omega) (by omega)]
  by_cases c1 : e < 1
  ·rw [if_pos c1, Yi]; rintro ⟨h, _⟩; have := (InB_cons.1 h).1; omega
  rw [if_neg c1]
  by_cases c2 : x.tuple.last + 1 < e
  ·rw [if_pos c2, Yi]; rintro ⟨h, _⟩; have := (InB_cons.1 h).1; omega
  rw [if_neg c2]
  by_cases c3 : f < 0
  ·rw [if_pos c3, Yi]; rintro ⟨_, h, _⟩; have := (InB_cons.1 h).1; omega
  rw [if_neg c3]
  by_cases c4 : x.tuple.last < f
  ·rw [if_pos c4, Yi]; rintro ⟨_, h, _⟩; have := (InB_cons.1 h).1; omega
  rw [if_neg c4]
  by_cases c5 : g < 0
  ·rw [if_pos c5, Yi]; rintro ⟨_, _, h, _⟩; have := (InB_cons.1 h).1; omega
  rw [if_neg c5]
  by_cases c6 : 2 < g
  ·rw [if_pos c6, Yi]; rintro ⟨_, _, h, _⟩; have := (InB_cons.1 h).1; omega
  rw [if_neg c6]
  congr 1
  exact Vx ⟨fun h => ⟨InB_cons.2 ⟨by omega, h.1⟩, InB_cons.2 ⟨by omega, h.2.1⟩, InB_cons.2 ⟨by omega, h.2.2.1⟩, h.2.2.2⟩, fun h => ⟨(InB_cons.1 h.1).2, (InB_cons.1 h.2.1).2, (InB_cons.1 h.2.2.1).2, h.2.2.2⟩⟩
theorem p_Right20 (x : Co) (h : BdC x) : Zbf x = some (Zfm x) := by
 simp only [Zbf, p_Right12, p_State12' x.tuple x.commit h.tup, Zfw x.tuple h.tup, Option.bind_some, snap_eq, Bool.cond_decide]
 unfold Zfm
 by_cases c1 : x.n < 1
 ·rw [if_pos c1, Yi (p := RightC x) fun h => by have := h.n; omega]
 rw [if_neg c1]
 by_cases c2 : 5 < x.n
 ·rw [if_pos c2, Yi (p := RightC x) fun h => by have := h.n; omega]
 rw [if_neg c2]
 by_cases c3 : x.id < 1
 ·rw [if_pos c3, Yi (p := RightC x) fun h => by have := h.id; omega]
 rw [if_neg c3]
 by_cases c4 : x.n < x.id
 ·rw [if_pos c4, Yi (p := RightC x) fun h => by have := h.id; omega]
 rw [if_neg c4]
 by_cases c5 : 2 < x.role
 ·rw [if_pos c5, Yi (p := RightC x) fun h => by have := h.role; omega]
 rw [if_neg c5]
 by_cases c6 : x.binary < 1
 ·rw [if_pos c6, Yi (p := RightC x) fun h => by have := h.bin; omega]
 rw [if_neg c6]
 by_cases c7 : 2 < x.binary
 ·rw [if_pos c7, Yi (p := RightC x) fun h => by have := h.bin; omega]
 rw [if_neg c7]
 cases c8 : J8 x.tuple with
 | false => rw [Yi (p := RightC x) fun h => by have h2 := h.tup; rw [c8] at h2; cases h2]; rfl
 | true =>
  simp only [Bool.not_true, cond_false]
  cases c9 : stOf x.tuple x.commit with
  | none => rw [Yi (p := RightC x) fun h => by rw [h.st] at c9; cases c9]; rfl
  | some s =>
   simp only [Option.isSome_some, Option.getD_some, Bool.not_true, cond_false]
   by_cases d1 : s = x.applied
   case neg => rw [decide_eq_false d1, Yi (p := RightC x) fun h => d1 (by have := h.st; rw [c9] at this; exact Option.some.inj this)]; rfl
   rw [decide_eq_true d1]
   simp only [Bool.not_true, cond_false]
   by_cases d2 : (x.votes.length : Int) = x.n
   case neg => rw [if_pos d2, Yi (p := RightC x) fun h => d2 h.lv]
   rw [if_neg (fun h => h d2)]
   by_cases d3 : (x.next.length : Int) = x.n
   case neg => rw [if_pos d3, Yi (p := RightC x) fun h => d3 h.ln]
   rw [if_neg (fun h => h d3)]
   by_cases d4 : (x.mtch.length : Int) = x.n
   case neg => rw [if_pos d4, Yi (p := RightC x) fun h => d4 h.lm]
   rw [if_neg (fun h => h d4)]
   by_cases d5 : (x.caps.length : Int) = x.n
   case neg => rw [if_pos d5, Yi (p := RightC x) fun h => d5 h.lc]
   rw [if_neg (fun h => h d5)]
   have := p_Right20_l1 x (by omega) (by omega) d3 d4 d5 h.tup x.caps.length 0 Xz false (by omega) (by omega) (by have := h.lc; unfold Xz; omega)
   rw [show ((0 : Nat) : Int) = 0 from rfl] at this
   rw [this]
   simp only [List.drop_zero]
   congr 1
   subst d1
   exact Vx ⟨fun h => ⟨by omega, by omega, by omega, by omega, c8, c9, d2, d3, d4, d5, h.1, h.2.1, h.2.2.1, h.2.2.2.1, h.2.2.2.2⟩, fun h => ⟨h.next, h.mtch, h.caps, h.own, h.lead⟩⟩
end Go.Proofs.Ytenagnncpaabdaa
namespace Go.Proofs.Ytenagnncpaabdaa
open Go Go.RowKit
set_option maxRecDepth 100000
theorem p_eNumber (x : Int) : X7 x = some (numB x) := by
 unfold X7 numB
 by_cases h : 0 ≤ x <;> simp [h]
theorem p_eFine (x : St) : Jg x = some (J9 x) := by
 obtain ⟨i, t, s, l, f⟩ := x
 simp only [Jg, Zd8, p_eNumber, Option.bind_some, J9, firstS, numB, St.mk.injEq, Bool.cond_not, Bool.cond_decide]
 cases f <;> (repeat' split) <;> simp_all <;> omega
def entB (last term : Int) : List En → Prop
 | [] => True
 | e :: l => Jj e = true ∧ (last ≤ e.term ∧ e.term ≤ term) ∧ entB e.term term l
structure FineM (m : Ms) (n : Int) : Prop where
 many : 1 ≤ n ∧ n ≤ 5
 frm : 1 ≤ m.frm ∧ m.frm ≤ n
 dst : 1 ≤ m.dst ∧ m.dst ≤ n
 ne : m.frm ≠ m.dst
 kind : 1 ≤ m.kind ∧ m.kind ≤ 5
 term : 1 ≤ m.term ∧ m.term ≤ 1073741824
 cap : 1 ≤ m.cap ∧ m.cap ≤ 2
 last : 0 ≤ m.last ∧ m.last ≤ 1073741824
 lastTerm : 0 ≤ m.lastTerm ∧ m.lastTerm ≤ 1073741824
 commit : 0 ≤ m.commit ∧ m.commit ≤ 1073741824
 ents : entB m.lastTerm m.term m.entries
 few : m.entries.length ≤ 4
 app : m.kind ≠ 3 → m.entries.length = 0 ∧ m.commit = 0
 okk : m.okk = true → m.kind = 2 ∨ m.kind = 4
 snap : m.kind = 5 → 0 < m.snap.index ∧ J9 m.snap = true
 nosnap : m.kind ≠ 5 → m.snap = ⟨0, 0, 0, 0, false⟩
noncomputable def fineM (m : Ms) (n : Int) : Bool := cdec (FineM m n)
structure BdM (m : Ms) : Prop where
 kind : 0 ≤ m.kind ∧ m.kind ≤ 255
 ents : m.entries.length ≤ 1000000
theorem p_entries_l1 (x : Ms) (h : x.entries.length ≤ 1000000) : ∀ (m k n : Nat) (v : Bool) (last : Int), m = x.entries.length - k → k ≤ x.entries.length → m < n → Je x n v last k = some (cdec (entB last x.term (x.entries.drop k) ∧ x.entries.length ≤ 4)) := by
 intro m
 induction m with
 | zero =>
  intro k n v last hm hk hn
  obtain ⟨n, rfl⟩ : ∃ n', n = n' + 1 := ⟨n - 1, by omega⟩
  rw [Je, List.drop_eq_nil_of_le (by omega)]
  simp only [Bool.cond_decide, if_neg (show ¬ ((k : Int) < (x.entries.length : Int)) by omega)]
  rw [Zea]; congr 1
  exact Vx ⟨fun h => ⟨trivial, by omega⟩, fun h => by have := h.2; omega⟩
 | succ m ih =>
  intro k n v last hm hk hn
  obtain ⟨n, rfl⟩ : ∃ n', n = n' + 1 := ⟨n - 1, by omega⟩
  obtain ⟨e, he, hd⟩ := Xw (show k < x.entries.length by omega)
  rw [Je, hd]
  simp only [Bool.cond_decide, if_pos (show ((k : Int) < (x.entries.length : Int)) by omega), Za9, he, Option.bind_some, p_eRight, p_within]
  rw [Zcr (by omega), show ((k : Int) + 1) = ((k + 1 : Nat) : Int) by omega, ih (k + 1) n v e.term (by omega) (by omega) (by omega)]
  cases c1 : Jj e with
  | false => rw [Yi (p := entB last x.term (e :: x.entries.drop (k + 1)) ∧ x.entries.length ≤ 4) fun h => by have h2 := h.1.1; rw [c1] at h2; cases h2]; rfl
  | true =>
   by_cases c2 : last ≤ e.term ∧ e.term ≤ x.term
   ·rw [X3 c2]; show some _ = some _; congr 1
    exact Vx ⟨fun h => ⟨⟨c1, c2, h.1⟩, h.2⟩, fun h => ⟨h.1.2.2, h.2⟩⟩
   ·rw [Yi c2, Yi (p := entB last x.term (e :: x.entries.drop (k + 1)) ∧ x.entries.length ≤ 4) fun h => c2 h.1.2.1]; rfl
theorem p_entries (x : Ms) (h : x.entries.length ≤ 1000000) : Zcg x = some (cdec (entB x.lastTerm x.term x.entries ∧ x.entries.length ≤ 4)) := by
 have := p_entries_l1 x h x.entries.length 0 Xz false x.lastTerm (by omega) (by omega) (by unfold Xz; omega)
 unfold Zcg
 simpa using this
theorem st_zero (s : St) : (decide (s.index = 0) && (decide (s.term = 0) && (decide (s.sum = 0) && (decide (s.level = 0) && decide (s.final = false))))) = decide (s = ⟨0, 0, 0, 0, false⟩) := by
 obtain ⟨a1, a2, a3, a4, a5⟩ := s
 rw [Bool.eq_iff_iff]; simp
theorem p_mFine (m : Ms) (n : Int) (h : BdM m) : Zdw m n = some (fineM m n) := by
 have hw : IntKind.wrap .i64 m.kind = m.kind := Zcr (by have := h.kind; omega)
 simp only [Zdw, p_within, p_each [m.frm, m.dst] _ _ _ (by simp), p_each [m.last, m.lastTerm, m.commit] _ _ _ (by simp), p_entries m h.ents, p_eFine, Option.bind_some, hw, st_zero]
 unfold fineM
 by_cases c1 : 1 ≤ n ∧ n ≤ 5
 case neg => rw [Yi c1, Yi (p := FineM m n) fun h => c1 h.many]; rfl
 rw [X3 c1]
 by_cases c2 : (([m.frm, m.dst].length : Nat) : Int) = 2 ∧ InB [m.frm, m.dst] 1 n
 case neg => rw [Yi c2, Yi (p := FineM m n) fun h => c2 ⟨rfl, InB_cons.2 ⟨h.frm, InB_cons.2 ⟨h.dst, Zen⟩⟩⟩]; rfl
 rw [X3 c2]
 have c21 := (InB_cons.1 c2.2).1
 have c22 := (InB_cons.1 (InB_cons.1 c2.2).2).1
 by_cases c3 : m.frm = m.dst
 case pos => rw [decide_eq_true c3, Yi (p := FineM m n) fun h => h.ne c3]; rfl
 rw [decide_eq_false c3]
 by_cases c4 : 1 ≤ m.kind ∧ m.kind ≤ 5
 case neg => rw [Yi c4, Yi (p := FineM m n) fun h => c4 h.kind]; rfl
 rw [X3 c4]
 by_cases c5 : 1 ≤ m.term ∧ m.term ≤ 1073741824
 case neg => rw [Yi c5, Yi (p := FineM m n) fun h => c5 h.term]; rfl
 rw [X3 c5]
 by_cases c6 : 1 ≤ m.cap ∧ m.cap ≤ 2
 case neg => rw [Yi c6, Yi (p := FineM m n) fun h => c6 h.cap]; rfl
 rw [X3 c6]
 by_cases c7 : (([m.last, m.lastTerm, m.commit].length : Nat) : Int) = 3 ∧ InB [m.last, m.lastTerm, m.commit] 0 1073741824
 case neg => rw [Yi c7, Yi (p := FineM m n) fun h => c7 ⟨rfl, InB_cons.2 ⟨h.last, InB_cons.2 ⟨h.lastTerm, InB_cons.2 ⟨h.commit, Zen⟩⟩⟩⟩]; rfl
 rw [X3 c7]
 have c71 := (InB_cons.1 c7.2).1
 have c72 := (InB_cons.1 (InB_cons.1 c7.2).2).1
 have c73 := (InB_cons.1 (InB_cons.1 (InB_cons.1 c7.2).2).2).1
 by_cases c8 : entB m.lastTerm m.term m.entries ∧ m.entries.length ≤ 4
 case neg => rw [Yi c8, Yi (p := FineM m n) fun h => c8 ⟨h.ents, h.few⟩]; rfl
 rw [X3 c8]
 have yes : ∀ (d1 : m.kind ≠ 3 → m.entries.length = 0 ∧ m.commit = 0) (d2 : m.okk = true → m.kind = 2 ∨ m.kind = 4), (if m.kind = 5 then (if 0 < m.snap.index then some (J9 m.snap) else some false) else some (decide (m.snap = ⟨0, 0, 0, 0, false⟩))) = some (cdec (FineM m n)) := by
  intro d1 d2
  by_cases e1 : m.kind = 5
  ·rw [if_pos e1]
   by_cases e2 : 0 < m.snap.index
   ·rw [if_pos e2]
    cases e3 : J9 m.snap with
    | true => rw [X3 (p := FineM m n) ⟨c1, c21, c22, c3, c4, c5, c6, c71, c72, c73, c8.1, c8.2, d1, d2, fun _ => ⟨e2, e3⟩, fun h => (h e1).elim⟩]
    | false => rw [Yi (p := FineM m n) fun h => by have h2 := (h.snap e1).2; rw [e3] at h2; cases h2]
   ·rw [if_neg e2, Yi (p := FineM m n) fun h => e2 (h.snap e1).1]
  ·rw [if_neg e1, Zea]
   congr 1
   exact Vx ⟨fun e2 => ⟨c1, c21, c22, c3, c4, c5, c6, c71, c72, c73, c8.1, c8.2, d1, d2, fun h => (e1 h).elim, fun _ => e2⟩, fun h => h.nosnap e1⟩
 simp only [Bool.not_true, cond_false, Bool.cond_decide]
 by_cases d1 : m.kind = 3
 ·rw [if_neg (fun h => h d1)]
  cases d2 : m.okk with
  | false => exact yes (fun h => (h d1).elim) (fun h => by rw [d2] at h; cases h)
  | true =>
   rw [if_pos (by omega), if_pos (by omega), Yi (p := FineM m n) fun h => by have := h.okk d2; omega]; rfl
 ·rw [if_pos d1]
  by_cases d3 : (0 : Int) < (m.entries.length : Int)
  ·rw [if_pos d3, Yi (p := FineM m n) fun h => by have := (h.app d1).1; omega]
  rw [if_neg d3]
  by_cases d4 : 0 < m.commit
  ·rw [if_pos d4, Yi (p := FineM m n) fun h => by have := (h.app d1).2; omega]
  rw [if_neg d4]
  have d5 : m.kind ≠ 3 → m.entries.length = 0 ∧ m.commit = 0 := fun _ => ⟨by omega, by omega⟩
  cases d2 : m.okk with
  | false => exact yes d5 (fun h => by rw [d2] at h; cases h)
  | true =>
   show (if m.kind ≠ 2 then _ else _) = _
   by_cases d6 : m.kind = 2
   ·rw [if_neg (fun h => h d6)]; exact yes d5 (fun _ => .inl d6)
   ·rw [if_pos d6]
    by_cases d7 : m.kind = 4
    ·rw [if_neg (fun h => h d7)]; exact yes d5 (fun _ => .inr d7)
    ·rw [if_pos d7, Yi (p := FineM m n) fun h => by have := h.okk d2; omega]
end Go.Proofs.Ytenagnncpaabdaa
namespace Go.Proofs.Ytenagnncpaabdaa
open Go Go.RowKit
set_option maxRecDepth 100000
def ToC (x : Co) (m : Ms) : Prop := m.dst = x.id ∧ RightC x ∧ FineM m x.n
theorem p_To (x : Co) (m : Ms) (hx : BdC x) (hm : BdM m) : Zc3 x m = some (cdec (ToC x m)) := by
 simp only [Zc3, p_mRight x hx, p_mFine m x.n hm, Option.bind_some, Bool.cond_decide]
 by_cases c1 : m.dst = x.id
 case neg => rw [if_pos c1, Yi fun h => c1 h.1]
 rw [if_neg (fun h => h c1)]
 unfold Zfm fineM
 by_cases c2 : RightC x
 case neg => rw [Yi c2, Yi (p := ToC x m) fun h => c2 h.2.1]; rfl
 rw [X3 c2]
 show some _ = some _
 congr 1
 exact Vx ⟨fun h => ⟨c1, c2, h⟩, fun h => h.2.2⟩
open Classical in
noncomputable def hearC (x : Co) (m : Ms) : Co := if ToC x m then { x with caps := x.caps.set (m.frm - 1).toNat m.cap } else x
theorem idx_in {α : Type} (l : List α) (i : Int) (h : 1 ≤ i ∧ i ≤ (l.length : Int)) (hl : l.length ≤ 1000000) : ∃ e, idx l (i - 1) = some e ∧ l[(i - 1).toNat]? = some e ∧ IntKind.wrap .i64 (i - 1) = i - 1 := by
 have hw : i - 1 = (((i - 1).toNat : Nat) : Int) := by omega
 obtain ⟨e, he, _⟩ := Xw (show (i - 1).toNat < l.length by omega)
 exact ⟨e, by rw [hw, Za9]; exact he, he, Zcr (by omega)⟩
theorem p_Hear (x : Co) (m : Ms) (hx : BdC x) (hm : BdM m) : Zci x m = some (hearC x m) := by
 simp only [Zci, p_To x m hx hm, p_mOwn x hx, p_mRight x hx, Option.bind_some]
 unfold hearC
 by_cases c1 : ToC x m
 ·rw [X3 c1, if_pos c1]
  unfold Zfm
  rw [X3 c1.2.1]
  obtain ⟨e, he, _, hw⟩ := idx_in x.caps m.frm (by have := c1.2.2.frm; have := c1.2.1.lc; omega) hx.lc
  simp only [cond_true, he, Option.bind_some, hw]
  rfl
 ·rw [Yi c1, if_neg c1]; rfl
theorem hear_right (x : Co) (m : Ms) (h : RightC x) : RightC (hearC x m) := by
 unfold hearC
 split
 ·rename_i c
  have hf := c.2.2
  refine ⟨h.n, h.id, h.role, h.bin, h.tup, h.st, h.lv, h.ln, h.lm, ?_, h.next, h.mtch, InB.set h.caps (by have := hf.cap; omega), ?_, h.lead⟩
  ·dsimp only; rw [List.length_set]; exact h.lc
  ·dsimp only
   rw [List.getElem?_set_ne]
   ·exact h.own
   ·have h1 := hf.ne; have h2 := c.1; have h3 := hf.frm; have h4 := h.id; omega
 ·exact h
end Go.Proofs.Ytenagnncpaabdaa
namespace Go.Proofs.Ytenagnncpaabdaa
open Go Go.RowKit
set_option maxRecDepth 100000
theorem p_tTermAt (x : Tu) (i : Int) (h : bdT x) : Zbs x i = some ((Jd x i).getD 0, (Jd x i).isSome) := by
 obtain ⟨h1, h2, h3⟩ := h
 unfold Zbs m_tuple_At Jd
 rw [p_tLast x ⟨h1, h2, h3⟩]
 unfold Tu.last
 simp only [Option.bind_some, Bool.cond_decide]
 by_cases hi : i = x.snap.index
 ·rw [if_pos hi, if_pos hi]; rfl
 ·rw [if_neg hi, if_neg hi]
  by_cases h4 : i ≤ x.snap.index
  ·rw [if_pos h4, if_neg (by omega)]; rfl
  ·rw [if_neg h4]
   by_cases h5 : x.snap.index + (x.log.length : Int) < i
   ·rw [if_pos h5, if_neg (by omega)]; rfl
   ·rw [if_neg h5, if_pos (by omega)]
    obtain ⟨k, hk⟩ : ∃ k : Nat, i = x.snap.index + 1 + k := ⟨(i - x.snap.index - 1).toNat, by omega⟩
    have e1 : IntKind.wrap .i64 (i - x.snap.index) = i - x.snap.index := Zcr (by omega)
    have e2 : IntKind.wrap .i64 (i - x.snap.index - 1) = (k : Int) := by rw [Zcr (by omega)]; omega
    have e3 : (i - x.snap.index - 1).toNat = k := by omega
    rw [e1, e2, e3, Za9]
    obtain ⟨e, he, _⟩ := Xw (show k < x.log.length by omega)
    rw [he]; rfl
theorem p_TermAt12 (x : Tu) (i : Int) (h : bdT x) : J6 x i = some ((Jd x i).getD 0, (Jd x i).isSome) := p_tTermAt x i h
theorem commit_bd {x : Co} (h : RightC x) : x.tuple.snap.index ≤ x.commit ∧ x.commit ≤ x.tuple.last := by
 have := h.st
 unfold stOf at this
 split at this
 ·assumption
 ·cases this
theorem InB.mono {l : List Int} {a b c d : Int} (h : InB l a b) (h1 : c ≤ a) (h2 : b ≤ d) : InB l c d := fun x hx => by have := h x hx; omega
end Go.Proofs.Ytenagnncpaabdaa
namespace Go.Proofs.Ytenagnncpaabdaa
open Go Go.RowKit
set_option maxRecDepth 100000
theorem q_Install (x : Tu) (s : St) (h : x.log.length ≤ 1000000) : Zbe x s = some (Zb6 x (Zcb x s), chgE x (Zcb x s)) := by unfold Zbe; rw [decide_eq_true h]; rfl
theorem q_Hard (x : Tu) (t v : Int) (h : x.log.length ≤ 1000000) : Zb2 x t v = some (Zb6 x (hardR x t v), chgE x (hardR x t v)) := by unfold Zb2; rw [decide_eq_true h]; rfl
theorem p_fits (x : Co) (m : Ms) (hx : BdC x) (hm : BdM m) : Zdr x m = some (cdec (ToC x m)) := by
 simp only [Zdr, p_mRight x hx, p_mFine m x.n hm, Option.bind_some, Bool.cond_decide]
 by_cases c1 : m.dst = x.id
 case neg => rw [if_neg c1, Yi fun h => c1 h.1]
 rw [if_pos c1]
 unfold Zfm fineM
 by_cases c2 : FineM m x.n
 case neg => rw [Yi c2, Yi (p := ToC x m) fun h => c2 h.2.2]; rfl
 rw [X3 c2]
 show some _ = some _
 congr 1
 exact Vx ⟨fun h => ⟨c1, h, c2⟩, fun h => h.2.1⟩
theorem hard_yes (x : Tu) (t v : Int) (hx : J8 x = true) (h : x.term < t ∨ t = x.term ∧ (x.vote = 0 ∨ x.vote = v)) (ht : t ≤ 1073741824) (hv : 0 ≤ v ∧ v ≤ 5) : J8 { x with term := t, vote := v } = true ∧ Zb2 x t v = some ({ x with term := t, vote := v }, 0) := by
 obtain ⟨g1, g2, g3, g4⟩ := (tupB_iff x).1 hx
 have hT : J8 { x with term := t, vote := v } = true := (tupB_iff _).2 ⟨g1, ⟨g2.1, g2.2.1, hv.1, hv.2, ht⟩, g3, by dsimp only; omega⟩
 refine ⟨hT, ?_⟩
 rw [q_Hard x t v (by omega)]
 have hr : hardR x t v = some { x with term := t, vote := v } := by unfold hardR; rw [if_pos h]
 have := chg_yes x _ _ hx hr hT
 rw [this.1, this.2]
theorem hear_no (x : Co) (m : Ms) (h : ¬ ToC x m) : hearC x m = x := by unfold hearC; rw [if_neg h]
theorem hear_eq (x : Co) (m : Ms) (h : ToC x m) : hearC x m = { x with caps := x.caps.set (m.frm - 1).toNat m.cap } := by unfold hearC; rw [if_pos h]
open Classical in
noncomputable def Yw (x : Co) (m : Ms) : Co := if ToC x m ∧ x.tuple.term < m.term then { x with caps := x.caps.set (m.frm - 1).toNat m.cap, tuple := { x.tuple with term := m.term, vote := 0 }, role := 0, votes := List.replicate x.n.toNat false } else hearC x m
theorem p_Meet (x : Co) (m : Ms) (hx : BdC x) (hm : BdM m) : Zc9 x m = some (Yw x m) := by
 simp only [Zc9, p_mOwn x hx, p_fits x m hx hm, p_Hear x m hx hm, Option.bind_some, Bool.cond_decide]
 unfold Yw
 by_cases c1 : ToC x m
 case neg => rw [Yi c1, if_neg (show ¬ (ToC x m ∧ x.tuple.term < m.term) from fun h => c1 h.1), hear_no x m c1]; rfl
 rw [X3 c1]
 simp only [Bool.not_true, cond_false]
 rw [hear_eq x m c1]
 by_cases c2 : x.tuple.term < m.term
 ·rw [if_pos (show ToC x m ∧ x.tuple.term < m.term from ⟨c1, c2⟩), if_pos (show x.tuple.term < m.term from c2)]
  have hH := (hard_yes x.tuple m.term 0 c1.2.1.tup (.inl c2) c1.2.2.term.2 (by omega)).2
  have hn := c1.2.1.n
  obtain ⟨N, hN⟩ : ∃ N : Nat, x.n = (N : Int) := ⟨x.n.toNat, by omega⟩
  have hk : makeI false x.n = some (List.replicate x.n.toNat false) := by rw [hN, makeI_nat _ N (by omega), Int.toNat_natCast]
  simp only [hH, hk, Option.bind_some]
 ·rw [if_neg (show ¬ (ToC x m ∧ x.tuple.term < m.term) from fun h => c2 h.2), if_neg (show ¬ x.tuple.term < m.term from c2)]
theorem meet_right (x : Co) (m : Ms) (h : RightC x) : RightC (Yw x m) := by
 unfold Yw
 split
 ·rename_i c
  have hh := hear_right x m h
  rw [hear_eq x m c.1] at hh
  have hn := h.n
  refine ⟨h.n, h.id, by show (0 : Int) ≤ 2; decide, h.bin, (hard_yes x.tuple m.term 0 h.tup (.inl c.2) c.1.2.2.term.2 (by omega)).1, h.st, ?_, h.ln, h.lm, hh.lc, h.next, h.mtch, hh.caps, hh.own, .inl rfl⟩
  dsimp only; rw [List.length_replicate]; omega
 ·exact hear_right x m h
structure MeetF (x y : Co) : Prop where
 id : y.id = x.id
 n : y.n = x.n
 binary : y.binary = x.binary
 commit : y.commit = x.commit
 applied : y.applied = x.applied
 next : y.next = x.next
 mtch : y.mtch = x.mtch
 snap : y.tuple.snap = x.tuple.snap
 log : y.tuple.log = x.tuple.log
 term : x.tuple.term ≤ y.tuple.term
theorem meet_f (x : Co) (m : Ms) : MeetF x (Yw x m) := by
 unfold Yw
 split
 ·rename_i c
  exact ⟨rfl, rfl, rfl, rfl, rfl, rfl, rfl, rfl, rfl, by dsimp only; omega⟩
 ·by_cases c : ToC x m
  ·rw [hear_eq x m c]; exact ⟨rfl, rfl, rfl, rfl, rfl, rfl, rfl, rfl, rfl, Int.le_refl _⟩
  ·rw [hear_no x m c]; exact ⟨rfl, rfl, rfl, rfl, rfl, rfl, rfl, rfl, rfl, Int.le_refl _⟩
theorem MeetF.last {x y : Co} (h : MeetF x y) : y.tuple.last = x.tuple.last := by unfold Tu.last; rw [h.snap, h.log]
theorem meet_term (x : Co) (m : Ms) (h : ToC x m) : (x.tuple.term < m.term ∧ (Yw x m).tuple.term = m.term ∧ (Yw x m).tuple.vote = 0 ∧ (Yw x m).role = 0) ∨ (m.term ≤ x.tuple.term ∧ Yw x m = { x with caps := x.caps.set (m.frm - 1).toNat m.cap }) := by
 by_cases c : x.tuple.term < m.term
 ·left
  unfold Yw
  rw [if_pos ⟨h, c⟩]
  exact ⟨c, rfl, rfl, rfl⟩
 ·right
  unfold Yw
  rw [if_neg (fun h => c h.2), hear_eq x m h]
  exact ⟨by omega, rfl⟩
theorem meet_ge (x : Co) (m : Ms) (h : ToC x m) : m.term ≤ (Yw x m).tuple.term := by
 rcases meet_term x m h with ⟨_, h2, _⟩ | ⟨h1, h2⟩
 ·rw [h2]; exact Int.le_refl _
 ·rw [h2]; exact h1
theorem meet_caps (x : Co) (m : Ms) (h : ToC x m) : (Yw x m).caps = x.caps.set (m.frm - 1).toNat m.cap := by
 unfold Yw
 split
 ·rfl
 ·rw [hear_eq x m h]
theorem meet_again (d : Co) (m : Ms) (h : m.term ≤ d.tuple.term) (hc : ToC d m → d.caps[(m.frm - 1).toNat]? = some m.cap) : Yw d m = d := by
 unfold Yw
 rw [if_neg (fun h2 => by have := h2.2; omega)]
 by_cases c : ToC d m
 ·rw [hear_eq d m c]
  have h2 := hc c
  obtain ⟨h3, h4⟩ := List.getElem?_eq_some_iff.1 h2
  have : d.caps.set (m.frm - 1).toNat m.cap = d.caps := by rw [← h4]; exact List.set_getElem_self h3
  rw [this]
 ·exact hear_no d m c
theorem to_again (x d : Co) (m : Ms) (h : ToC x m) (hR : RightC d) (h1 : d.id = x.id) (h2 : d.n = x.n) : ToC d m := ⟨by rw [h1]; exact h.1, hR, by rw [h2]; exact h.2.2⟩
theorem caps_met (x : Co) (m : Ms) (h : ToC x m) : (x.caps.set (m.frm - 1).toNat m.cap)[(m.frm - 1).toNat]? = some m.cap := by
 have h1 := h.2.1.lc
 have h2 := h.2.2.frm
 exact List.getElem?_set_self (by omega)
def mapTo (f : Int → Int) (k : Nat) (l : List Int) : List Int := (l.take k).map f ++ l.drop k
theorem mapTo_get (f : Int → Int) (l : List Int) (k : Nat) (e : Int) (h : l[k]? = some e) : (mapTo f k l)[k]? = some e := by
 have hk := (List.getElem?_eq_some_iff.1 h).1
 unfold mapTo
 rw [List.getElem?_append_right (by rw [List.length_map, List.length_take]; omega), List.length_map, List.length_take, List.getElem?_drop, ← h]
 congr 1; omega
theorem mapTo_set (f : Int → Int) (l : List Int) (k : Nat) (e : Int) (h : l[k]? = some e) : (mapTo f k l).set k (f e) = mapTo f (k + 1) l := by
 have hk := (List.getElem?_eq_some_iff.1 h).1
 obtain ⟨e', he', hd⟩ := Xw hk
 rw [h] at he'
 obtain rfl := Option.some.inj he'
 unfold mapTo
 rw [List.set_append, if_neg (by rw [List.length_map, List.length_take]; omega), hd, List.take_add_one, h]
 have : k - ((l.take k).map f).length = 0 := by rw [List.length_map, List.length_take]; omega
 rw [this]
 simp
theorem mapTo_all (f : Int → Int) (l : List Int) (k : Nat) (h : l.length ≤ k) : mapTo f k l = l.map f := by
 unfold mapTo
 rw [List.take_of_length_le h, List.drop_eq_nil_of_le h, List.append_nil]
theorem mapTo_zero (f : Int → Int) (l : List Int) : mapTo f 0 l = l := by simp [mapTo]
theorem setI_nat {α : Type} (l : List α) (k : Nat) (v : α) : setI l (k : Int) v = l.set k v := by unfold setI; simp
def fitC (x : Co) : Co := { x with next := x.next.map (fun e => min e (x.tuple.last + 1)), mtch := x.mtch.map (fun e => min e x.tuple.last) }
theorem p_Fit_l2 (x : Co) (r : Int) (v : List Int) (hl : x.mtch.length ≤ 1000000) : ∀ (q k n : Nat), q = x.mtch.length - k → k ≤ x.mtch.length → q < n → Zam x r v n k (mapTo (fun e => min e r) k x.mtch) = some { x with next := v, mtch := x.mtch.map (fun e => min e r) } := by
 intro q
 induction q with
 | zero =>
  intro k n hq hk hn
  obtain ⟨n, rfl⟩ : ∃ n', n = n' + 1 := ⟨n - 1, by omega⟩
  rw [Zam, mapTo_all _ _ _ (by omega)]
  simp only [Bool.cond_decide, if_neg (show ¬ (k : Int) < (x.mtch.length : Int) by omega)]
 | succ q ih =>
  intro k n hq hk hn
  obtain ⟨n, rfl⟩ : ∃ n', n = n' + 1 := ⟨n - 1, by omega⟩
  obtain ⟨e, he, _⟩ := Xw (show k < x.mtch.length by omega)
  rw [Zam]
  simp only [Bool.cond_decide, if_pos (show (k : Int) < (x.mtch.length : Int) by omega), Za9, mapTo_get _ _ _ _ he, Option.bind_some, setI_nat]
  have := mapTo_set (fun e => min e r) x.mtch k e he
  rw [this, Zcr (by omega), show ((k : Int) + 1) = ((k + 1 : Nat) : Int) by omega, ih (k + 1) n (by omega) (by omega) (by omega)]
theorem p_Fit_l1 (x : Co) (r : Int) (hl : x.next.length ≤ 1000000) (hl2 : x.mtch.length ≤ 1000000) (hr : -3000000000000 ≤ r ∧ r ≤ 3000000000000) : ∀ (q k n : Nat), q = x.next.length - k → k ≤ x.next.length → q < n → Zap x r n k (mapTo (fun e => min e (r + 1)) k x.next) = some { x with next := x.next.map (fun e => min e (r + 1)), mtch := x.mtch.map (fun e => min e r) } := by
 intro q
 induction q with
 | zero =>
  intro k n hq hk hn
  obtain ⟨n, rfl⟩ : ∃ n', n = n' + 1 := ⟨n - 1, by omega⟩
  rw [Zap, mapTo_all _ _ _ (by omega)]
  simp only [Bool.cond_decide, if_neg (show ¬ (k : Int) < (x.next.length : Int) by omega)]
  have := p_Fit_l2 x r (x.next.map fun e => min e (r + 1)) hl2 x.mtch.length 0 Xz (by omega) (by omega) (by unfold Xz; omega)
  rw [mapTo_zero] at this
  exact this
 | succ q ih =>
  intro k n hq hk hn
  obtain ⟨n, rfl⟩ : ∃ n', n = n' + 1 := ⟨n - 1, by omega⟩
  obtain ⟨e, he, _⟩ := Xw (show k < x.next.length by omega)
  rw [Zap]
  simp only [Bool.cond_decide, if_pos (show (k : Int) < (x.next.length : Int) by omega), Za9, mapTo_get _ _ _ _ he, Option.bind_some, setI_nat, Zcr (n := r + 1) (by omega)]
  have := mapTo_set (fun e => min e (r + 1)) x.next k e he
  rw [this, Zcr (by omega), show ((k : Int) + 1) = ((k + 1 : Nat) : Int) by omega, ih (k + 1) n (by omega) (by omega) (by omega)]
theorem p_Fit (x : Co) (h : BdC x) : Ze3 x = some (fitC x) := by
 have hb := last_bd h.tup
 have := p_Fit_l1 x x.tuple.last h.ln h.lm hb x.next.length 0 Xz (by omega) (by omega) (by have := h.ln; unfold Xz; omega)
 rw [mapTo_zero] at this
 simp only [Ze3, p_mOwn x h, Option.bind_some, p_tLast x.tuple h.tup]
 exact this
theorem map_min_in {l : List Int} {lo hi hi' : Int} (h : InB l lo hi') (hl : lo ≤ hi) : InB (l.map (fun e => min e hi)) lo hi := fun x hx => by
 obtain ⟨a, ha, rfl⟩ := List.mem_map.1 hx
 have := h a ha
 omega
def Zbm (y : Co) (m : Ms) (k : Int) (ok : Bool) (last : Int) : Ms := ⟨k, y.id, m.frm, y.tuple.term, y.binary, last, 0, 0, ok, [], ⟨0, 0, 0, 0, false⟩⟩
theorem back_fine (x y : Co) (m : Ms) (ok : Bool) (k last : Int) (h : ToC x m) (h1 : y.id = x.id) (h2 : y.binary = x.binary) (ht : 1 ≤ y.tuple.term ∧ y.tuple.term ≤ 1073741824) (hk : k = 2 ∨ k = 4) (hl : 0 ≤ last ∧ last ≤ 1073741824) : FineM (Zbm y m k ok last) x.n := by
 have hf := h.2.2
 have hid := h.2.1.id
 have hb := h.2.1.bin
 have he := h.1
 have hne := hf.ne
 unfold Zbm
 refine ⟨hf.many, by dsimp only; omega, hf.frm, by dsimp only; omega, by dsimp only; omega, ht, by dsimp only; omega, hl, ⟨Int.le_refl 0, (by decide : (0 : Int) ≤ 1073741824)⟩, ⟨Int.le_refl 0, (by decide : (0 : Int) ≤ 1073741824)⟩, trivial, by simp, fun _ => ⟨rfl, rfl⟩, fun _ => hk, fun h5 => by dsimp only at h5; omega, fun _ => rfl⟩
end Go.Proofs.Ytenagnncpaabdaa
