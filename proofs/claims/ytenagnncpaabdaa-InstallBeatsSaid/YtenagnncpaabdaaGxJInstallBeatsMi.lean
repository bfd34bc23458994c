/- Texts of one claim put together. -/
import Derived.Test.YtenagnncpaabdaaMi4
import Derived.Test.YtenagnncpaabdaaMi5
namespace Go.Proofs.Ytenagnncpaabdaa
open Go Go.RowKit
set_option maxRecDepth 100000
set_option maxHeartbeats 4000000
theorem c_law25_InstallBeats (x0 : Co) (A0_ : Option Addr) (c0_ : Nat) (A1_ : Option Addr) (c1_ : Nat) (A2_ : Option Addr) (c2_ : Nat) (A3_ : Option Addr) (c3_ : Nat) (A4_ : Option Addr) (c4_ : Nat) (w0 : World) (s0_ : SlI w0 Jv A0_ c0_ x0.tuple.log) (s1_ : SlI w0 enO A1_ c1_ x0.votes) (s2_ : SlI w0 Vu A2_ c2_ x0.next) (s3_ : SlI w0 Vu A3_ c3_ x0.mtch) (s4_ : SlI w0 Vu A4_ c4_ x0.caps) {r : Bool} (H : Zal x0 = some r) : Calls Try.prog 5 #[.agg #[.int .i64 x0.id, .int .i64 x0.n, .int .u8 x0.role, .int .i64 x0.binary, .int .i64 x0.tuple.snap.index, .int .i64 x0.tuple.snap.term, .int .i64 x0.tuple.snap.sum, .int .i64 x0.tuple.snap.level, .bool x0.tuple.snap.final, .slice A0_ x0.tuple.log.length c0_, .int .i64 x0.tuple.term, .int .i64 x0.tuple.vote, .int .i64 x0.commit, .int .i64 x0.applied.index, .int .i64 x0.applied.term, .int .i64 x0.applied.sum, .int .i64 x0.applied.level, .bool x0.applied.final, .slice A1_ x0.votes.length c1_, .slice A2_ x0.next.length c2_, .slice A3_ x0.mtch.length c3_, .slice A4_ x0.caps.length c4_]] w0 fun e w' => e = .returned (.bool r) ∧ St0 All w0 w' [] := by
 unfold Zal at H
 refine Yl Try.func5 rfl Try.ntmps5 rfl ?_
 have hS := St0.start All w0
 refine Zd (fun K hK1 => ?_)
 refine Zf ?_
 refine Z9 rfl rfl rfl CellsOf.agg hS (fun b2 w hS hB => ?_)
 refine Zb 1 rfl ?_
 refine Zg ?_
 refine Zc hK1 ?_
 refine Zd (fun K hK4 => ?_)
 refine Zd (fun K hK5 => ?_)
 refine Zf ?_
 refine Za rfl rfl rfl (Zj Yp rfl (RW.here _) hS hs0 trivial Yb) ?_
 obtain ⟨r6, hm7, H⟩ := bind_some H
 refine Zr rfl rfl rfl rfl (by kernel_rfl) rfl (Zfh x0 A0_ c0_ A1_ c1_ A2_ c2_ A3_ c3_ A4_ c4_ _ (SlI.of_rd s0_.k (hS.rd0 s0_.rd) (hS.blk0 s0_.blk)) (SlI.of_rd s1_.k (hS.rd0 s1_.rd) (hS.blk0 s1_.blk)) (SlI.of_rd s2_.k (hS.rd0 s2_.rd) (hS.blk0 s2_.blk)) (SlI.of_rd s3_.k (hS.rd0 s3_.rd) (hS.blk0 s3_.blk)) (SlI.of_rd s4_.k (hS.rd0 s4_.rd) (hS.blk0 s4_.blk)) hm7) ?_
 rintro e w ⟨rfl, hN⟩; refine ⟨_, rfl, ?_⟩; have hB := hN.pure; have hS := hS.join hN; clear hN
 refine Zb 1 rfl ?_
 refine Zt 11 rfl (fun hb => ?_) (fun hb => ?_)
 ·replace H := Zq H hb
  refine Zb 4 rfl ?_
  refine Zg ?_
  refine Zc hK5 ?_
  refine Zs rfl rfl ?_
  refine Zd (fun K hK8 => ?_)
  refine Zf ?_
  obtain ⟨r9, hm10, H⟩ := bind_some H
  refine Zr rfl rfl rfl rfl (by kernel_rfl) rfl (Xm _ hm10) ?_
  rintro e w ⟨rfl, hN⟩; refine ⟨_, rfl, ?_⟩; have hB := hN.pure; have hS := hS.join hN; clear hN
  refine Zb 1 rfl ?_
  refine Zg ?_
  refine Zc hK8 ?_
  refine Zk ?_
  refine Zi ?_
  refine Zl rfl (RV.tmp rfl RV.nil) rfl ?_
  obtain rfl := Option.some.inj H
  replace hS := hS.cut 0
  exact ⟨rfl, hS⟩
 replace H := Zp H hb
 refine Za rfl rfl rfl (Zj Yp rfl (RW.here _) hS hs0 trivial Yb) ?_
 obtain ⟨r11, hm12, H⟩ := bind_some H
 refine Zr rfl rfl rfl rfl (by kernel_rfl) rfl (Zd9 x0 A0_ c0_ A1_ c1_ A2_ c2_ A3_ c3_ A4_ c4_ _ (SlI.of_rd s0_.k (hS.rd0 s0_.rd) (hS.blk0 s0_.blk)) (SlI.of_rd s1_.k (hS.rd0 s1_.rd) (hS.blk0 s1_.blk)) (SlI.of_rd s2_.k (hS.rd0 s2_.rd) (hS.blk0 s2_.blk)) (SlI.of_rd s3_.k (hS.rd0 s3_.rd) (hS.blk0 s3_.blk)) (SlI.of_rd s4_.k (hS.rd0 s4_.rd) (hS.blk0 s4_.blk)) hm12) ?_
 rintro e w ⟨rfl, hN⟩; refine ⟨_, rfl, ?_⟩; have hB := hN.pure; have hS := hS.join hN; clear hN
 refine Za rfl rfl rfl (Yt rfl) ?_
 refine Zb 1 rfl ?_
 refine Zg ?_
 refine Zc hK5 ?_
 refine Z0 rfl (fun hb => ?_) (fun hb => ?_)
 ·replace H := Zq H hb
  refine Zd (fun K hK13 => ?_)
  refine Zf ?_
  obtain ⟨r14, hm15, H⟩ := bind_some H
  refine Zr rfl rfl rfl rfl (by kernel_rfl) rfl (Xm _ hm15) ?_
  rintro e w ⟨rfl, hN⟩; refine ⟨_, rfl, ?_⟩; have hB := hN.pure; have hS := hS.join hN; clear hN
  refine Zb 1 rfl ?_
  refine Zg ?_
  refine Zc hK13 ?_
  refine Zk ?_
  refine Zi ?_
  refine Zl rfl (RV.tmp rfl RV.nil) rfl ?_
  obtain rfl := Option.some.inj H
  replace hS := hS.cut 0
  exact ⟨rfl, hS⟩
 replace H := Zp H hb
 refine Zu ?_
 refine Zc hK4 ?_
 refine Zd (fun K hK16 => ?_)
 refine Zf ?_
 refine Za rfl rfl rfl (Zj Yp rfl (RW.here _) hS hs0 trivial Yb) ?_
 obtain ⟨r17, hm18, H⟩ := bind_some H
 refine Zr rfl rfl rfl rfl (by kernel_rfl) rfl (c_install_Beat x0 A0_ c0_ A1_ c1_ A2_ c2_ A3_ c3_ A4_ c4_ _ (SlI.of_rd s0_.k (hS.rd0 s0_.rd) (hS.blk0 s0_.blk)) (SlI.of_rd s1_.k (hS.rd0 s1_.rd) (hS.blk0 s1_.blk)) (SlI.of_rd s2_.k (hS.rd0 s2_.rd) (hS.blk0 s2_.blk)) (SlI.of_rd s3_.k (hS.rd0 s3_.rd) (hS.blk0 s3_.blk)) (SlI.of_rd s4_.k (hS.rd0 s4_.rd) (hS.blk0 s4_.blk)) hm18) ?_
 rintro e w ⟨A19, c20, q23, rfl, k21, hq24, okq25, hN⟩; refine ⟨_, rfl, ?_⟩; have hB := hN.pure; have hS := hS.join hN; clear hN
 refine Zb 1 rfl ?_
 refine Zg ?_
 refine Zc hK16 ?_
 refine Zd (fun K hK27 => ?_)
 refine Zd (fun K hK28 => ?_)
 refine Zf ?_
 refine Za rfl rfl rfl (Ze J6 rfl) ?_
 refine Za rfl rfl rfl (Zh Zai rfl (RW.here _) hS Vh trivial J9) ?_
 refine Za rfl rfl rfl (Xk rfl rfl) ?_
 refine Zg ?_
 refine Zc hK28 ?_
 refine Z0 rfl (fun hb => ?_) (fun hb => ?_)
 ·replace H := Zq H hb
  refine Zd (fun K hK29 => ?_)
  refine Zf ?_
  refine Zb 1 rfl ?_
  refine Za rfl rfl rfl (Y1 Zam rfl) ?_
  refine Za rfl rfl rfl (Yy rfl rfl) ?_
  refine Zb 1 rfl ?_
  refine Zt 25 rfl (fun hb => ?_) (fun hb => ?_)
  rotate_left
  ·replace H := Zp H hb
   refine Zb 9 rfl ?_
   refine Zg ?_
   refine Zc hK29 ?_
   refine Zk ?_
   refine Zi ?_
   refine Zl rfl (RV.tmp rfl RV.nil) rfl ?_
   obtain rfl := Option.some.inj H
   replace hS := hS.cut 0
   exact ⟨rfl, hS⟩
  replace H := Zq H hb
  refine Za rfl rfl rfl (Zj Yp rfl (RW.here _) hS Vh trivial Yb) ?_
  obtain ⟨r30, hm31, H⟩ := bind_some H
  refine Zr rfl rfl rfl rfl (by kernel_rfl) rfl (Zd0 x0 A0_ c0_ A1_ c1_ A2_ c2_ A3_ c3_ A4_ c4_ _ (SlI.of_rd s0_.k (hS.rd0 s0_.rd) (hS.blk0 s0_.blk)) (SlI.of_rd s1_.k (hS.rd0 s1_.rd) (hS.blk0 s1_.blk)) (SlI.of_rd s2_.k (hS.rd0 s2_.rd) (hS.blk0 s2_.blk)) (SlI.of_rd s3_.k (hS.rd0 s3_.rd) (hS.blk0 s3_.blk)) (SlI.of_rd s4_.k (hS.rd0 s4_.rd) (hS.blk0 s4_.blk)) hm31) ?_
  rintro e w ⟨A32, c33, rfl, k34, hN⟩; refine ⟨_, rfl, ?_⟩; have hB := hN.pure; have hS := hS.join hN; clear hN
  refine Za rfl rfl rfl (Y1 Vd rfl) ?_
  refine Za rfl rfl rfl (Yy rfl rfl) ?_
  refine Zb 2 rfl ?_
  refine Zt 31 rfl (fun hb => ?_) (fun hb => ?_)
  rotate_left
  ·replace H := Zp H hb
   refine Zb 3 rfl ?_
   refine Zg ?_
   refine Zc hK29 ?_
   refine Zk ?_
   refine Zi ?_
   refine Zl rfl (RV.tmp rfl RV.nil) rfl ?_
   obtain rfl := Option.some.inj H
   replace hS := hS.cut 0
   exact ⟨rfl, hS⟩
  replace H := Zq H hb
  obtain ⟨r36, hm37, H⟩ := bind_some H
  refine Zr rfl rfl rfl rfl (by kernel_rfl) rfl (Xm _ hm37) ?_
  rintro e w ⟨rfl, hN⟩; refine ⟨_, rfl, ?_⟩; have hB := hN.pure; have hS := hS.join hN; clear hN
  refine Zb 2 rfl ?_
  refine Zg ?_
  refine Zc hK29 ?_
  refine Zk ?_
  refine Zi ?_
  refine Zl rfl (RV.tmp rfl RV.nil) rfl ?_
  obtain rfl := Option.some.inj H
  replace hS := hS.cut 0
  exact ⟨rfl, hS⟩
 replace H := Zp H hb
 refine Zu ?_
 refine Zc hK27 ?_
 refine Zd (fun K hK38 => ?_)
 refine Zf ?_
 refine Za rfl rfl rfl (Zj Yp rfl (RW.here _) hS Vh trivial Yb) ?_
 obtain ⟨r39, hm40, H⟩ := bind_some H
 refine Zr rfl rfl rfl rfl (by kernel_rfl) rfl (Zd0 x0 A0_ c0_ A1_ c1_ A2_ c2_ A3_ c3_ A4_ c4_ _ (SlI.of_rd s0_.k (hS.rd0 s0_.rd) (hS.blk0 s0_.blk)) (SlI.of_rd s1_.k (hS.rd0 s1_.rd) (hS.blk0 s1_.blk)) (SlI.of_rd s2_.k (hS.rd0 s2_.rd) (hS.blk0 s2_.blk)) (SlI.of_rd s3_.k (hS.rd0 s3_.rd) (hS.blk0 s3_.blk)) (SlI.of_rd s4_.k (hS.rd0 s4_.rd) (hS.blk0 s4_.blk)) hm40) ?_
 rintro e w ⟨A41, c42, rfl, k43, hN⟩; refine ⟨_, rfl, ?_⟩; have hB := hN.pure; have hS := hS.join hN; clear hN
 refine Zb 1 rfl ?_
 refine Zg ?_
 refine Zc hK38 ?_
 refine Zd (fun K hK45 => ?_)
 refine Zf ?_
 refine Zb 2 rfl ?_
 refine Zg ?_
 refine Zc hK45 ?_
 refine Zd (fun K hK46 => ?_)
 refine Zd (fun K hK47 => ?_)
 refine Zf ?_
 refine Zb 1 rfl ?_
 refine Zg ?_
 refine Zc hK47 ?_
 refine Yj ?_
 refine Jq (X := Nat × Bool × Int × Int × Int) (fun x => (1, .pointer (some ⟨b2, 0, none⟩)) :: (2, .bool x.2.1) :: (3, .slice A19 r17.length c20) :: (4, .slice A41 r39.length c42) :: (5, .int .i64 x.2.2.1) :: (6, .int .i64 x.2.2.2.1) :: (7, .int .i64 x.2.2.2.2) :: []) (fun x w => St0 All w0 w (.row (.slice A41 r39.length c42) 3 1 r39.length (Ym Vu r39) :: .rd A19 (Ym enQ q23) :: .rds (q23.map subQ) :: .box b2 [.int .i64 x0.id, .int .i64 x0.n, .int .u8 x0.role, .int .i64 x0.binary, .int .i64 x0.tuple.snap.index, .int .i64 x0.tuple.snap.term, .int .i64 x0.tuple.snap.sum, .int .i64 x0.tuple.snap.level, .bool x0.tuple.snap.final, .slice A0_ x0.tuple.log.length c0_, .int .i64 x0.tuple.term, .int .i64 x0.tuple.vote, .int .i64 x0.commit, .int .i64 x0.applied.index, .int .i64 x0.applied.term, .int .i64 x0.applied.sum, .int .i64 x0.applied.level, .bool x0.applied.final, .slice A1_ x0.votes.length c1_, .slice A2_ x0.next.length c2_, .slice A3_ x0.mtch.length c3_, .slice A4_ x0.caps.length c4_] 30 :: []) ∧ Y7 x0 r17 r39 x.1 x.2.1 x.2.2.1 x.2.2.2.1 x.2.2.2.2 = some r) (fun x => x.1) (X6, false, 0, 0, 1) (by repeat (first | exact Sub.nil | refine Sub.cons rfl ?_)) ⟨hS, H⟩ ?_
 rintro ⟨n, v48, v49, v50, v51⟩ w ⟨hS, H⟩
 dsimp only at hS H ⊢
 obtain _ | n := n
 ·have H0 : none = some r := H
  cases H0
 rw [Y7] at H
 refine Zd (fun K hK52 => ?_)
 refine Zd (fun K hK53 => ?_)
 refine Zf ?_
 refine Zb 1 rfl ?_
 refine Za rfl rfl rfl (Ze Vy rfl) ?_
 refine Za rfl rfl rfl (Zh Zx rfl (RW.here _) hS hs3 trivial Vn) ?_
 refine Za rfl rfl rfl (Za1 rfl rfl) ?_
 refine Zg ?_
 refine Zc hK53 ?_
 refine Z0 rfl (fun hb => ?_) (fun hb => ?_)
 rotate_left
 ·replace H := Zp H hb
  refine Vo ?_
  refine Ye ?_
  refine Ye ?_
  refine Xf ?_
  refine Zc hK46 ?_
  refine Zd (fun K hK107 => ?_)
  refine Zf ?_
  refine Zb 2 rfl ?_
  refine Za rfl rfl rfl (Y1 Zam rfl) ?_
  refine Za rfl rfl rfl (Yy rfl rfl) ?_
  refine Zb 1 rfl ?_
  refine Zt 136 rfl (fun hb => ?_) (fun hb => ?_)
  rotate_left
  ·replace H := Zp H hb
   refine Zb 9 rfl ?_
   refine Zg ?_
   refine Zc hK107 ?_
   refine Zk ?_
   refine Zl rfl (RV.tmp rfl RV.nil) rfl ?_
   obtain rfl := Option.some.inj H
   replace hS := hS.cut 0
   exact ⟨rfl, hS⟩
  replace H := Zq H hb
  refine Zb 2 rfl ?_
  refine Za rfl rfl rfl (Y1 Vd rfl) ?_
  refine Za rfl rfl rfl (Yy rfl rfl) ?_
  refine Zb 2 rfl ?_
  refine Zt 142 rfl (fun hb => ?_) (fun hb => ?_)
  rotate_left
  ·replace H := Zp H hb
   refine Zb 3 rfl ?_
   refine Zg ?_
   refine Zc hK107 ?_
   refine Zk ?_
   refine Zl rfl (RV.tmp rfl RV.nil) rfl ?_
   obtain rfl := Option.some.inj H
   replace hS := hS.cut 0
   exact ⟨rfl, hS⟩
  replace H := Zq H hb
  obtain ⟨r108, hm109, H⟩ := bind_some H
  refine Zr rfl rfl rfl rfl (by kernel_rfl) rfl (Xm _ hm109) ?_
  rintro e w ⟨rfl, hN⟩; refine ⟨_, rfl, ?_⟩; have hB := hN.pure; have hS := hS.join hN; clear hN
  refine Zb 2 rfl ?_
  refine Zg ?_
  refine Zc hK107 ?_
  refine Zk ?_
  refine Zl rfl (RV.tmp rfl RV.nil) rfl ?_
  obtain rfl := Option.some.inj H
  replace hS := hS.cut 0
  exact ⟨rfl, hS⟩
 replace H := Zq H hb
 refine Zu ?_
 refine Zc hK52 ?_
 refine Zd (fun K hK54 => ?_)
 refine Yj ?_
 refine Zd (fun K hK55 => ?_)
 refine Zd (fun K hK56 => ?_)
 refine Zf ?_
 refine Zb 1 rfl ?_
 refine Za rfl rfl rfl (Ze Ji rfl) ?_
 refine Za rfl rfl rfl (Zh Zx rfl (RW.here _) hS hs3 trivial Y2) ?_
 refine Za rfl rfl rfl (Yy rfl rfl) ?_
 refine Zg ?_
 refine Zc hK56 ?_
 refine Z0 rfl (fun hb => ?_) (fun hb => ?_)
 ·replace H := Zq H hb
  refine Vo ?_
  refine Ye ?_
  refine Xf ?_
  refine Zc hK54 ?_
  refine Zf ?_
  refine Zb 1 rfl ?_
  refine Za rfl rfl rfl (X1 rfl rfl) ?_
  refine Zb 1 rfl ?_
  refine Zg ?_
  exact Vp (n, v48, v49, v50, (IntKind.wrap .i64 (v51 + 1))) (by repeat (first | exact Sub.nil | refine Sub.cons rfl ?_)) ⟨hS, H⟩ (Nat.lt_succ_self _)
 replace H := Zp H hb
 refine Zu ?_
 refine Zc hK55 ?_
 refine Zd (fun K hK57 => ?_)
 refine Zd (fun K hK58 => ?_)
 refine Yo 34 [] (fun _ _ => True) ⟨by kernel_rfl, by kernel_rfl⟩ hS (fun w hS hB => ?_)
 refine Zm [true, true, true, true, true] (by decide +kernel) (by repeat (first | exact PF.body | exact PF.round | apply PF.then | apply PF.inBlock | apply PF.jump)) ?_
 refine LtK.put rfl rfl rfl (Zn rfl) ?_
 refine LtK.put rfl rfl rfl (Zn rfl) ?_
 refine LtK.put rfl rfl rfl (Y1 Zam rfl) ?_
 refine LtK.put rfl rfl rfl (Zbk rfl rfl) ?_
 refine LtK.put rfl rfl rfl (Zn rfl) ?_
 refine LtK.nil ?_
 refine Y8 50 rfl (fun hb => ?_) (fun hb => ?_)
 ·replace H := Zq H hb
  refine Zm [false, false, false, false, false, true, true, true, true, true, true, true, true, true, true, true, true, true, true, true] (by decide +kernel) (by repeat (first | exact PF.body | exact PF.round | apply PF.then | apply PF.inBlock | apply PF.jump)) ?_
  refine LtK.skip rfl rfl rfl ?_
  refine LtK.skip rfl rfl rfl ?_
  refine LtK.skip rfl rfl rfl ?_
  refine LtK.skip rfl rfl rfl ?_
  refine LtK.skip rfl rfl rfl ?_
  refine LtK.skip rfl rfl rfl ?_
  refine LtK.skip rfl rfl rfl ?_
  refine LtK.put rfl rfl rfl (Zw rfl rfl rfl) ?_
  refine LtK.put rfl rfl rfl (Zn rfl) ?_
  refine LtK.skip rfl rfl rfl ?_
  refine LtK.skip rfl rfl rfl ?_
  refine LtK.skip rfl rfl rfl ?_
  refine LtK.skip rfl rfl rfl ?_
  refine LtK.skip rfl rfl rfl ?_
  refine LtK.skip rfl rfl rfl ?_
  refine LtK.nil ?_
  refine Z7 [false, false, false, false, false, false, false, false, false, false, false, false, false, false, false, false, false, false, false, false, true] 20 ⟨by decide, by kernel_rfl, by kernel_rfl⟩ rfl rfl ?_
  try dsimp only [Z2]
  refine Yz rfl rfl rfl ?_
  refine Zg ?_
  refine Yf (Below.refl _ _) ?_
  refine Zm [false, false, false, false, false, false, false, false, false, false, false, false, false, false, false, false, false, false, false, false, false, true, true, true, true, true, true, true, true, true, true, true, true, true] (by decide +kernel) (by repeat (first | exact PF.body | exact PF.round | apply PF.then | apply PF.inBlock | apply PF.jump)) ?_
  refine LtK.skip rfl rfl rfl ?_
  refine LtK.put rfl rfl rfl (Zw rfl rfl rfl) ?_
  refine LtK.put rfl rfl rfl (Zn rfl) ?_
  refine LtK.skip rfl rfl rfl ?_
  refine LtK.skip rfl rfl rfl ?_
  refine LtK.skip rfl rfl rfl ?_
  refine LtK.skip rfl rfl rfl ?_
  refine LtK.skip rfl rfl rfl ?_
  refine LtK.skip rfl rfl rfl ?_
  refine LtK.skip rfl rfl rfl ?_
  refine LtK.skip rfl rfl rfl ?_
  refine LtK.skip rfl rfl rfl ?_
  refine LtK.put rfl rfl rfl (Zw rfl rfl rfl) ?_
  refine LtK.nil ?_
  refine Z8 (by kernel_rfl) ?_
  refine Zc hK58 ?_
  refine Zs rfl rfl ?_
  refine Zd (fun K hK59 => ?_)
  refine Zf ?_
  refine Zb 1 rfl ?_
  refine Zg ?_
  refine Zc hK59 ?_
  refine Zk ?_
  refine Zi ?_
  refine Zv ?_
  refine Zi ?_
  refine Zi ?_
  refine Zv ?_
  refine Zi ?_
  refine Zl rfl (RV.tmp rfl RV.nil) rfl ?_
  obtain rfl := Option.some.inj H
  replace hS := hS.cut 0
  exact ⟨rfl, hS⟩
 replace H := Zp H hb
 refine Zm [false, false, false, false, false, true, true, true, true, true, true, true, true, true] (by decide +kernel) (by repeat (first | exact PF.body | exact PF.round | apply PF.then | apply PF.inBlock | apply PF.jump)) ?_
 refine LtK.put rfl rfl rfl (Zn rfl) ?_
 refine LtK.put rfl rfl rfl (Zn rfl) ?_
 obtain ⟨e60, hi62, H⟩ := bind_some H
 obtain ⟨j61, A63, c64, hi62a, hi62b, hi62c⟩ := idxQ (q := q23) hq24 hi62
 refine LtK.put rfl rfl rfl (Xo Zam rfl rfl hi62a hi62c (Rd.el (hS.rd Xt) Vr hi62b)) ?_
 refine LtK.put rfl rfl rfl (Vc Zdp rfl (Rd.el (hS.rd Xt) Vr hi62b)) ?_
 refine LtK.put rfl rfl rfl (yx_ld Zx rfl (RW.below _) (Rd.el (hS.rd Xt) Vr hi62b) rfl) ?_
 refine LtK.put rfl rfl rfl (Zn rfl) ?_
 refine LtK.put rfl rfl rfl (Xk rfl rfl) ?_
 refine LtK.put rfl rfl rfl (Zz rfl rfl rfl) ?_
 refine LtK.put rfl rfl rfl (Zn rfl) ?_
 refine LtK.nil ?_
 refine Y8 59 rfl (fun hb => ?_) (fun hb => ?_)
 ·replace H := Zq H hb
  refine Zm [false, false, false, false, false, false, false, false, false, false, false, false, false, false, true, true, true, true, true, true] (by decide +kernel) (by repeat (first | exact PF.body | exact PF.round | apply PF.then | apply PF.inBlock | apply PF.jump)) ?_
  refine LtK.skip rfl rfl rfl ?_
  refine LtK.skip rfl rfl rfl ?_
  refine LtK.skip rfl rfl rfl ?_
  refine LtK.skip rfl rfl rfl ?_
  refine LtK.skip rfl rfl rfl ?_
  refine LtK.skip rfl rfl rfl ?_
  refine LtK.nil ?_
  refine Z7 [false, false, false, false, false, false, false, false, false, false, false, false, false, false, false, false, false, false, false, false, true] 20 ⟨by decide, by kernel_rfl, by kernel_rfl⟩ rfl rfl ?_
  try dsimp only [Z2]
  refine Yz rfl rfl rfl ?_
  refine Zg ?_
  refine Yf (Below.refl _ _) ?_
  refine Zm [false, false, false, false, false, false, false, false, false, false, false, false, false, false, false, false, false, false, false, false, false, true, true, true, true, true, true, true, true, true, true, true, true, true] (by decide +kernel) (by repeat (first | exact PF.body | exact PF.round | apply PF.then | apply PF.inBlock | apply PF.jump)) ?_
  refine LtK.skip rfl rfl rfl ?_
  refine LtK.put rfl rfl rfl (Zw rfl rfl rfl) ?_
  refine LtK.put rfl rfl rfl (Zn rfl) ?_
  refine LtK.skip rfl rfl rfl ?_
  refine LtK.skip rfl rfl rfl ?_
  refine LtK.skip rfl rfl rfl ?_
  refine LtK.skip rfl rfl rfl ?_
  refine LtK.skip rfl rfl rfl ?_
  refine LtK.skip rfl rfl rfl ?_
  refine LtK.skip rfl rfl rfl ?_
  refine LtK.skip rfl rfl rfl ?_
  refine LtK.skip rfl rfl rfl ?_
  refine LtK.put rfl rfl rfl (Zw rfl rfl rfl) ?_
  refine LtK.nil ?_
  refine Z8 (by kernel_rfl) ?_
  refine Zc hK58 ?_
  refine Zs rfl rfl ?_
  refine Zd (fun K hK65 => ?_)
  refine Zf ?_
  refine Zb 1 rfl ?_
  refine Zg ?_
  refine Zc hK65 ?_
  refine Zk ?_
  refine Zi ?_
  refine Zv ?_
  refine Zi ?_
  refine Zi ?_
  refine Zv ?_
  refine Zi ?_
  refine Zl rfl (RV.tmp rfl RV.nil) rfl ?_
  obtain rfl := Option.some.inj H
  replace hS := hS.cut 0
  exact ⟨rfl, hS⟩
 replace H := Zp H hb
 refine Zm [false, false, false, false, false, false, false, false, false, false, false, false, false, false, true, true, true, true, true, true] (by decide +kernel) (by repeat (first | exact PF.body | exact PF.round | apply PF.then | apply PF.inBlock | apply PF.jump)) ?_
 refine LtK.put rfl rfl rfl (Zn rfl) ?_
 refine LtK.put rfl rfl rfl (Zn rfl) ?_
 obtain ⟨e66, hi68, H⟩ := bind_some H
 obtain ⟨j67, A69, c70, hi68a, hi68b, hi68c⟩ := idxQ (q := q23) hq24 hi68
 refine LtK.put rfl rfl rfl (Xo Zam rfl rfl hi68a hi68c (Rd.el (hS.rd Xt) Vr hi68b)) ?_
 refine LtK.put rfl rfl rfl (Zei X7 rfl (RW.below _) (Rd.el (hS.rd Xt) Vr hi68b) Xj) ?_
 refine LtK.put rfl rfl rfl (Ze Vy rfl) ?_
 refine LtK.put rfl rfl rfl (Zh Zx rfl (RW.below _) hS hs3 trivial Vn) ?_
 refine LtK.nil ?_
 refine Z7 [false, false, false, false, false, false, false, false, false, false, false, false, false, false, false, false, false, false, false, false, true] 20 ⟨by decide, by kernel_rfl, by kernel_rfl⟩ rfl rfl ?_
 try dsimp only [Z2]
 obtain ⟨r71, hm72, H⟩ := bind_some H
 refine Zr rfl rfl rfl rfl (by kernel_rfl) rfl (c_ref20_Fine e66 x0.n A69 c70 _ (SlI.of_rd (okq25 _ (List.mem_of_getElem? hi68b)) (hS.rds_rd Vh hi68b) (hS.rds_blk Vh hi68b)) hm72) ?_
 rintro e w ⟨rfl, hN⟩; refine ⟨_, rfl, ?_⟩; have hB := hN.pure; have hS := hS.join hN; clear hN
 refine Zg ?_
 refine Yf hB ?_
 refine Zm [false, false, false, false, false, false, false, false, false, false, false, false, false, false, false, false, false, false, false, false, false, true, true, true] (by decide +kernel) (by repeat (first | exact PF.body | exact PF.round | apply PF.then | apply PF.inBlock | apply PF.jump)) ?_
 refine LtK.put rfl rfl rfl (Yt rfl) ?_
 refine LtK.put rfl rfl rfl (Zz rfl rfl rfl) ?_
 refine LtK.put rfl rfl rfl (Zn rfl) ?_
 refine LtK.nil ?_
 refine Y8 69 rfl (fun hb => ?_) (fun hb => ?_)
 ·replace H := Zq H hb
  refine Zm [false, false, false, false, false, false, false, false, false, false, false, false, false, false, false, false, false, false, false, false, false, false, false, false, true, true, true, true, true, true, true, true, true, true] (by decide +kernel) (by repeat (first | exact PF.body | exact PF.round | apply PF.then | apply PF.inBlock | apply PF.jump)) ?_
  refine LtK.skip rfl rfl rfl ?_
  refine LtK.skip rfl rfl rfl ?_
  refine LtK.skip rfl rfl rfl ?_
  refine LtK.skip rfl rfl rfl ?_
  refine LtK.skip rfl rfl rfl ?_
  refine LtK.skip rfl rfl rfl ?_
  refine LtK.skip rfl rfl rfl ?_
  refine LtK.skip rfl rfl rfl ?_
  refine LtK.skip rfl rfl rfl ?_
  refine LtK.put rfl rfl rfl (Zw rfl rfl rfl) ?_
  refine LtK.nil ?_
  refine Z8 (by kernel_rfl) ?_
  refine Zc hK58 ?_
  refine Zs rfl rfl ?_
  refine Zd (fun K hK73 => ?_)
  refine Zf ?_
  refine Zb 1 rfl ?_
  refine Zg ?_
  refine Zc hK73 ?_
  refine Zk ?_
  refine Zi ?_
  refine Zv ?_
  refine Zi ?_
  refine Zi ?_
  refine Zv ?_
  refine Zi ?_
  refine Zl rfl (RV.tmp rfl RV.nil) rfl ?_
  obtain rfl := Option.some.inj H
  replace hS := hS.cut 0
  exact ⟨rfl, hS⟩
 replace H := Zp H hb
 refine Zm [false, false, false, false, false, false, false, false, false, false, false, false, false, false, false, false, false, false, false, false, false, false, false, false, true, true, true, true, true, true, true, true, true, true] (by decide +kernel) (by repeat (first | exact PF.body | exact PF.round | apply PF.then | apply PF.inBlock | apply PF.jump)) ?_
 refine LtK.put rfl rfl rfl (Zn rfl) ?_
 refine LtK.put rfl rfl rfl (Zn rfl) ?_
 obtain ⟨e74, hi76, H⟩ := bind_some H
 obtain ⟨j75, A77, c78, hi76a, hi76b, hi76c⟩ := idxQ (q := q23) hq24 hi76
 refine LtK.put rfl rfl rfl (Xo Zam rfl rfl hi76a hi76c (Rd.el (hS.rd Xt) Vr hi76b)) ?_
 refine LtK.put rfl rfl rfl (Vc Za8 rfl (Rd.el (hS.rd Xt) Vr hi76b)) ?_
 refine LtK.put rfl rfl rfl (yx_ld Zx rfl (RW.below _) (Rd.el (hS.rd Xt) Vr hi76b) rfl) ?_
 refine LtK.put rfl rfl rfl (Ze Yu rfl) ?_
 refine LtK.put rfl rfl rfl (Ze Xs rfl) ?_
 refine LtK.put rfl rfl rfl (Zh Zx rfl (RW.below _) hS hs3 trivial V0) ?_
 refine LtK.put rfl rfl rfl (Xk rfl rfl) ?_
 refine LtK.put rfl rfl rfl (Zz rfl rfl rfl) ?_
 refine LtK.nil ?_
 refine Z8 (by kernel_rfl) ?_
 refine Zc hK58 ?_
 refine Z0 rfl (fun hb => ?_) (fun hb => ?_)
 ·replace H := Zq H hb
  refine Zd (fun K hK79 => ?_)
  refine Zf ?_
  refine Zb 1 rfl ?_
  refine Zg ?_
  refine Zc hK79 ?_
  refine Zk ?_
  refine Zi ?_
  refine Zv ?_
  refine Zi ?_
  refine Zi ?_
  refine Zv ?_
  refine Zi ?_
  refine Zl rfl (RV.tmp rfl RV.nil) rfl ?_
  obtain rfl := Option.some.inj H
  replace hS := hS.cut 0
  exact ⟨rfl, hS⟩
 replace H := Zp H hb
 refine Zu ?_
 refine Zc hK57 ?_
 refine Zd (fun K hK80 => ?_)
 refine Yo 12 [] (fun _ _ => True) ⟨by kernel_rfl, by kernel_rfl⟩ hS (fun w hS hB => ?_)
 refine Zm [true, true, true, true, true, true, true, true, true, true, true, true] (by decide +kernel) (by repeat (first | exact PF.body | exact PF.round | apply PF.then | apply PF.inBlock | apply PF.jump)) ?_
 refine LtK.put rfl rfl rfl (Ze Zao rfl) ?_
 refine LtK.put rfl rfl rfl (Zh V1 rfl (RW.below _) hS hs3 trivial Zdn) ?_
 refine LtK.put rfl rfl rfl (Zn rfl) ?_
 refine LtK.put rfl rfl rfl (Zct rfl rfl) ?_
 obtain ⟨e81, hi83, H⟩ := bind_some H
 obtain ⟨j82, hi83a, hi83b, hi83c⟩ := Y9 hi83
 refine LtK.put rfl rfl rfl (Xo Vd rfl rfl hi83a hi83c (Rd.el (hS.rd0 s2_.rd) Xd hi83b)) ?_
 refine LtK.put rfl rfl rfl (V4 Zx rfl (RW.below _) (Rd.el (hS.rd0 s2_.rd) Xd hi83b) rfl) ?_
 refine LtK.put rfl rfl rfl (Ze Yu rfl) ?_
 refine LtK.put rfl rfl rfl (Ze Yx rfl) ?_
 refine LtK.put rfl rfl rfl (Ze Z5 rfl) ?_
 refine LtK.put rfl rfl rfl (Zh Zx rfl (RW.below _) hS hs3 trivial Zeg) ?_
 refine LtK.put rfl rfl rfl (Za1 rfl rfl) ?_
 refine LtK.put rfl rfl rfl (Z4 rfl) ?_
 refine LtK.nil ?_
 refine Z8 (by kernel_rfl) ?_
 refine Zc hK80 ?_
 refine Zd (fun K hK84 => ?_)
 refine Zd (fun K hK85 => ?_)
 refine Yo 36 [] (fun _ _ => True) ⟨by kernel_rfl, by kernel_rfl⟩ hS (fun w hS hB => ?_)
 refine Zm [true, true, true, true, true, true, true, true, true] (by decide +kernel) (by repeat (first | exact PF.body | exact PF.round | apply PF.then | apply PF.inBlock | apply PF.jump)) ?_
 refine LtK.put rfl rfl rfl (Zn rfl) ?_
 refine LtK.put rfl rfl rfl (Zn rfl) ?_
 refine LtK.put rfl rfl rfl (Zn rfl) ?_
 obtain ⟨e86, hi88, H⟩ := bind_some H
 obtain ⟨j87, A89, c90, hi88a, hi88b, hi88c⟩ := idxQ (q := q23) hq24 hi88
 refine LtK.put rfl rfl rfl (Xo Zam rfl rfl hi88a hi88c (Rd.el (hS.rd Xt) Vr hi88b)) ?_
 refine LtK.put rfl rfl rfl (Vc Vf rfl (Rd.el (hS.rd Xt) Vr hi88b)) ?_
 refine LtK.put rfl rfl rfl (V4 Zai rfl (RW.below _) (Rd.el (hS.rd Xt) Vr hi88b) rfl) ?_
 refine LtK.put rfl rfl rfl (Yy rfl rfl) ?_
 refine LtK.put rfl rfl rfl (yv_neqB (by kernel_rfl) rfl rfl) ?_
 refine LtK.put rfl rfl rfl (Zn rfl) ?_
 refine LtK.nil ?_
 refine Y8 99 rfl (fun hb => ?_) (fun hb => ?_)
 ·replace H := Zq H hb
  refine Zm [false, false, false, false, false, false, false, false, false, true, true, true, true, true, true, true, true, true, true, true, true, true, true, true, true, true, true, true, true, true, true, true, true, true, true, true] (by decide +kernel) (by repeat (first | exact PF.body | exact PF.round | apply PF.then | apply PF.inBlock | apply PF.jump)) ?_
  refine LtK.skip rfl rfl rfl ?_
  refine LtK.skip rfl rfl rfl ?_
  refine LtK.skip rfl rfl rfl ?_
  refine LtK.skip rfl rfl rfl ?_
  refine LtK.skip rfl rfl rfl ?_
  refine LtK.skip rfl rfl rfl ?_
  refine LtK.skip rfl rfl rfl ?_
  refine LtK.skip rfl rfl rfl ?_
  refine LtK.skip rfl rfl rfl ?_
  refine LtK.skip rfl rfl rfl ?_
  refine LtK.skip rfl rfl rfl ?_
  refine LtK.skip rfl rfl rfl ?_
  refine LtK.skip rfl rfl rfl ?_
  refine LtK.skip rfl rfl rfl ?_
  refine LtK.skip rfl rfl rfl ?_
  refine LtK.skip rfl rfl rfl ?_
  refine LtK.skip rfl rfl rfl ?_
  refine LtK.skip rfl rfl rfl ?_
  refine LtK.skip rfl rfl rfl ?_
  refine LtK.skip rfl rfl rfl ?_
  refine LtK.skip rfl rfl rfl ?_
  refine LtK.skip rfl rfl rfl ?_
  refine LtK.skip rfl rfl rfl ?_
  refine LtK.skip rfl rfl rfl ?_
  refine LtK.skip rfl rfl rfl ?_
  refine LtK.skip rfl rfl rfl ?_
  refine LtK.put rfl rfl rfl (Zw rfl rfl rfl) ?_
  refine LtK.nil ?_
  refine Z8 (by kernel_rfl) ?_
  refine Zc hK85 ?_
  refine Zs rfl rfl ?_
  refine Zd (fun K hK91 => ?_)
  refine Zf ?_
  refine Zb 1 rfl ?_
  refine Zg ?_
  refine Zc hK91 ?_
  refine Zk ?_
  refine Zi ?_
  refine Zv ?_
  refine Zi ?_
  refine Zi ?_
  refine Zv ?_
  refine Zi ?_
  refine Zl rfl (RV.tmp rfl RV.nil) rfl ?_
  obtain rfl := Option.some.inj H
  replace hS := hS.cut 0
  exact ⟨rfl, hS⟩
 replace H := Zp H hb
 refine Zm [false, false, false, false, false, false, false, false, false, true, true] (by decide +kernel) (by repeat (first | exact PF.body | exact PF.round | apply PF.then | apply PF.inBlock | apply PF.jump)) ?_
 refine LtK.put rfl rfl rfl (Zn rfl) ?_
 refine LtK.put rfl rfl rfl (Zn rfl) ?_
 refine LtK.nil ?_
 refine Y8 101 rfl (fun hb => ?_) (fun hb => ?_)
 rotate_left
 ·replace H := Zp H hb
  refine Zm [false, false, false, false, false, false, false, false, false, false, false, true, true, true, true, true, true, true, true, true, true, true, true, true, true, true, true, true, true, true, true, true, true, true, true, true] (by decide +kernel) (by repeat (first | exact PF.body | exact PF.round | apply PF.then | apply PF.inBlock | apply PF.jump)) ?_
  refine LtK.skip rfl rfl rfl ?_
  refine LtK.skip rfl rfl rfl ?_
  refine LtK.skip rfl rfl rfl ?_
  refine LtK.skip rfl rfl rfl ?_
  refine LtK.skip rfl rfl rfl ?_
  refine LtK.skip rfl rfl rfl ?_
  refine LtK.skip rfl rfl rfl ?_
  refine LtK.skip rfl rfl rfl ?_
  refine LtK.skip rfl rfl rfl ?_
  refine LtK.skip rfl rfl rfl ?_
  refine LtK.skip rfl rfl rfl ?_
  refine LtK.skip rfl rfl rfl ?_
  refine LtK.skip rfl rfl rfl ?_
  refine LtK.skip rfl rfl rfl ?_
  refine LtK.skip rfl rfl rfl ?_
  refine LtK.skip rfl rfl rfl ?_
  refine LtK.skip rfl rfl rfl ?_
  refine LtK.skip rfl rfl rfl ?_
  refine LtK.skip rfl rfl rfl ?_
  refine LtK.skip rfl rfl rfl ?_
  refine LtK.skip rfl rfl rfl ?_
  refine LtK.skip rfl rfl rfl ?_
  refine LtK.skip rfl rfl rfl ?_
  refine LtK.put rfl rfl rfl (Zz rfl rfl rfl) ?_
  refine LtK.put rfl rfl rfl (Zz rfl rfl rfl) ?_
  refine LtK.nil ?_
  refine Z8 (by kernel_rfl) ?_
  refine Zc hK85 ?_
  refine Yq rfl rfl ?_
  refine Zu ?_
  refine Zc hK84 ?_
  refine Zd (fun K hK105 => ?_)
  refine Zd (fun K hK106 => ?_)
  refine Zf ?_
  refine Zb 1 rfl ?_
  refine Zg ?_
  refine Zc hK106 ?_
  refine Z0 rfl (fun hb => ?_) (fun hb => ?_)
  rotate_left
  ·replace H := Zp H hb
   refine Zu ?_
   refine Zc hK105 ?_
   refine Zf ?_
   refine Zb 1 rfl ?_
   refine Za rfl rfl rfl (X1 rfl rfl) ?_
   refine Zb 1 rfl ?_
   refine Zg ?_
   refine Z1 ?_
   refine Zc hK54 ?_
   refine Zf ?_
   refine Zb 1 rfl ?_
   refine Za rfl rfl rfl (X1 rfl rfl) ?_
   refine Zb 1 rfl ?_
   refine Zg ?_
   exact Vp (n, v48, (IntKind.wrap .i64 (v49 + 1)), v50, (IntKind.wrap .i64 (v51 + 1))) (by repeat (first | exact Sub.nil | refine Sub.cons rfl ?_)) ⟨hS, H⟩ (Nat.lt_succ_self _)
  replace H := Zq H hb
  refine Zf ?_
  refine Zb 1 rfl ?_
  refine Za rfl rfl rfl (X1 rfl rfl) ?_
  refine Zb 1 rfl ?_
  refine Zg ?_
  refine Zc hK105 ?_
  refine Zf ?_
  refine Zb 1 rfl ?_
  refine Za rfl rfl rfl (X1 rfl rfl) ?_
  refine Zb 1 rfl ?_
  refine Zg ?_
  refine Z1 ?_
  refine Zc hK54 ?_
  refine Zf ?_
  refine Zb 1 rfl ?_
  refine Za rfl rfl rfl (X1 rfl rfl) ?_
  refine Zb 1 rfl ?_
  refine Zg ?_
  exact Vp (n, v48, (IntKind.wrap .i64 (v49 + 1)), (IntKind.wrap .i64 (v50 + 1)), (IntKind.wrap .i64 (v51 + 1))) (by repeat (first | exact Sub.nil | refine Sub.cons rfl ?_)) ⟨hS, H⟩ (Nat.lt_succ_self _)
 replace H := Zq H hb
 refine Zm [false, false, false, false, false, false, false, false, false, false, false, true, true, true, true, true] (by decide +kernel) (by repeat (first | exact PF.body | exact PF.round | apply PF.then | apply PF.inBlock | apply PF.jump)) ?_
 refine LtK.put rfl rfl rfl (Zn rfl) ?_
 refine LtK.put rfl rfl rfl (Zn rfl) ?_
 refine LtK.put rfl rfl rfl (Y1 Vd rfl) ?_
 refine LtK.put rfl rfl rfl (Zbk rfl rfl) ?_
 refine LtK.put rfl rfl rfl (Zn rfl) ?_
 refine LtK.nil ?_
 refine Y8 106 rfl (fun hb => ?_) (fun hb => ?_)
 ·replace H := Zq H hb
  refine Zm [false, false, false, false, false, false, false, false, false, false, false, false, false, false, false, false, true, true, true, true, true, true, true, true, true, true, true, true, true, true, true, true, true, true, true, true] (by decide +kernel) (by repeat (first | exact PF.body | exact PF.round | apply PF.then | apply PF.inBlock | apply PF.jump)) ?_
  refine LtK.skip rfl rfl rfl ?_
  refine LtK.skip rfl rfl rfl ?_
  refine LtK.skip rfl rfl rfl ?_
  refine LtK.skip rfl rfl rfl ?_
  refine LtK.skip rfl rfl rfl ?_
  refine LtK.skip rfl rfl rfl ?_
  refine LtK.put rfl rfl rfl (Zw rfl rfl rfl) ?_
  refine LtK.put rfl rfl rfl (Zn rfl) ?_
  refine LtK.skip rfl rfl rfl ?_
  refine LtK.skip rfl rfl rfl ?_
  refine LtK.skip rfl rfl rfl ?_
  refine LtK.skip rfl rfl rfl ?_
  refine LtK.skip rfl rfl rfl ?_
  refine LtK.skip rfl rfl rfl ?_
  refine LtK.skip rfl rfl rfl ?_
  refine LtK.skip rfl rfl rfl ?_
  refine LtK.skip rfl rfl rfl ?_
  refine LtK.put rfl rfl rfl (Zw rfl rfl rfl) ?_
  refine LtK.put rfl rfl rfl (Zw rfl rfl rfl) ?_
  refine LtK.put rfl rfl rfl (Zz rfl rfl rfl) ?_
  refine LtK.nil ?_
  refine Z8 (by kernel_rfl) ?_
  refine Zc hK85 ?_
  refine Zs rfl rfl ?_
  refine Zd (fun K hK92 => ?_)
  refine Zf ?_
  refine Zb 1 rfl ?_
  refine Zg ?_
  refine Zc hK92 ?_
  refine Zk ?_
  refine Zi ?_
  refine Zv ?_
  refine Zi ?_
  refine Zi ?_
  refine Zv ?_
  refine Zi ?_
  refine Zl rfl (RV.tmp rfl RV.nil) rfl ?_
  obtain rfl := Option.some.inj H
  replace hS := hS.cut 0
  exact ⟨rfl, hS⟩
 replace H := Zp H hb
 refine Zm [false, false, false, false, false, false, false, false, false, false, false, false, false, false, false, false, true, true, true, true, true, true, true, true] (by decide +kernel) (by repeat (first | exact PF.body | exact PF.round | apply PF.then | apply PF.inBlock | apply PF.jump)) ?_
 refine LtK.put rfl rfl rfl (Zn rfl) ?_
 refine LtK.put rfl rfl rfl (Zn rfl) ?_
 obtain ⟨e93, hi95, H⟩ := bind_some H
 obtain ⟨j94, hi95a, hi95b, hi95c⟩ := Y9 hi95
 refine LtK.put rfl rfl rfl (Xo Vd rfl rfl hi95a hi95c (Rd.el (hS.row_rd hs0) Xd hi95b)) ?_
 refine LtK.put rfl rfl rfl (V4 Zx rfl (RW.below _) (Rd.el (hS.row_rd hs0) Xd hi95b) rfl) ?_
 refine LtK.put rfl rfl rfl (Zn rfl) ?_
 refine LtK.put rfl rfl rfl (Xk rfl rfl) ?_
 refine LtK.put rfl rfl rfl (Zz rfl rfl rfl) ?_
 refine LtK.put rfl rfl rfl (Zn rfl) ?_
 refine LtK.nil ?_
 refine Y8 114 rfl (fun hb => ?_) (fun hb => ?_)
 ·replace H := Zq H hb
  refine Zm [false, false, false, false, false, false, false, false, false, false, false, false, false, false, false, false, false, false, false, false, false, false, false, false, true, true, true, true, true, true, true, true, true, true, true, true] (by decide +kernel) (by repeat (first | exact PF.body | exact PF.round | apply PF.then | apply PF.inBlock | apply PF.jump)) ?_
  refine LtK.skip rfl rfl rfl ?_
  refine LtK.skip rfl rfl rfl ?_
  refine LtK.skip rfl rfl rfl ?_
  refine LtK.skip rfl rfl rfl ?_
  refine LtK.skip rfl rfl rfl ?_
  refine LtK.skip rfl rfl rfl ?_
  refine LtK.skip rfl rfl rfl ?_
  refine LtK.skip rfl rfl rfl ?_
  refine LtK.skip rfl rfl rfl ?_
  refine LtK.put rfl rfl rfl (Zw rfl rfl rfl) ?_
  refine LtK.put rfl rfl rfl (Zw rfl rfl rfl) ?_
  refine LtK.put rfl rfl rfl (Zz rfl rfl rfl) ?_
  refine LtK.nil ?_
  refine Z8 (by kernel_rfl) ?_
  refine Zc hK85 ?_
  refine Zs rfl rfl ?_
  refine Zd (fun K hK96 => ?_)
  refine Zf ?_
  refine Zb 1 rfl ?_
  refine Zg ?_
  refine Zc hK96 ?_
  refine Zk ?_
  refine Zi ?_
  refine Zv ?_
  refine Zi ?_
  refine Zi ?_
  refine Zv ?_
  refine Zi ?_
  refine Zl rfl (RV.tmp rfl RV.nil) rfl ?_
  obtain rfl := Option.some.inj H
  replace hS := hS.cut 0
  exact ⟨rfl, hS⟩
 replace H := Zp H hb
 refine Zm [false, false, false, false, false, false, false, false, false, false, false, false, false, false, false, false, false, false, false, false, false, false, false, false, true, true, true, true, true, true, true, true, true, true, true, true] (by decide +kernel) (by repeat (first | exact PF.body | exact PF.round | apply PF.then | apply PF.inBlock | apply PF.jump)) ?_
 refine LtK.put rfl rfl rfl (Zn rfl) ?_
 refine LtK.put rfl rfl rfl (Zn rfl) ?_
 obtain ⟨e97, hi99, H⟩ := bind_some H
 obtain ⟨j98, A100, c101, hi99a, hi99b, hi99c⟩ := idxQ (q := q23) hq24 hi99
 refine LtK.put rfl rfl rfl (Xo Zam rfl rfl hi99a hi99c (Rd.el (hS.rd Xt) Vr hi99b)) ?_
 refine LtK.put rfl rfl rfl (Vc Y3 rfl (Rd.el (hS.rd Xt) Vr hi99b)) ?_
 refine LtK.put rfl rfl rfl (yx_ldA Yn rfl (RW.below _) (Rd.el (hS.rd Xt) Vr hi99b) Ja) ?_
 refine LtK.put rfl rfl rfl (Ze Yu rfl) ?_
 refine LtK.put rfl rfl rfl (Ze Yx rfl) ?_
 refine LtK.put rfl rfl rfl (Zj Yn rfl (RW.below _) hS hs3 trivial sg4_5) ?_
 refine LtK.put rfl rfl rfl (yv_neqS (by kernel_rfl) rfl rfl (Jg _ _ _ _ _ _ _ _ _ _)) ?_
 refine LtK.put rfl rfl rfl (Zz rfl rfl rfl) ?_
 refine LtK.put rfl rfl rfl (Zw rfl rfl rfl) ?_
 refine LtK.put rfl rfl rfl (Zz rfl rfl rfl) ?_
 refine LtK.nil ?_
 refine Z8 (by kernel_rfl) ?_
 refine Zc hK85 ?_
 refine Z0 rfl (fun hb => ?_) (fun hb => ?_)
 ·replace H := Zq H hb
  refine Zd (fun K hK102 => ?_)
  refine Zf ?_
  refine Zb 1 rfl ?_
  refine Zg ?_
  refine Zc hK102 ?_
  refine Zk ?_
  refine Zi ?_
  refine Zv ?_
  refine Zi ?_
  refine Zi ?_
  refine Zv ?_
  refine Zi ?_
  refine Zl rfl (RV.tmp rfl RV.nil) rfl ?_
  obtain rfl := Option.some.inj H
  replace hS := hS.cut 0
  exact ⟨rfl, hS⟩
 replace H := Zp H hb
 refine Zu ?_
 refine Zc hK84 ?_
 refine Zd (fun K hK103 => ?_)
 refine Zd (fun K hK104 => ?_)
 refine Zf ?_
 refine Zb 1 rfl ?_
 refine Zg ?_
 refine Zc hK104 ?_
 refine Z0 rfl (fun hb => ?_) (fun hb => ?_)
 rotate_left
 ·replace H := Zp H hb
  refine Zu ?_
  refine Zc hK103 ?_
  refine Zf ?_
  refine Zb 1 rfl ?_
  refine Za rfl rfl rfl (X1 rfl rfl) ?_
  refine Zb 1 rfl ?_
  refine Zg ?_
  refine Z1 ?_
  refine Zc hK54 ?_
  refine Zf ?_
  refine Zb 1 rfl ?_
  refine Za rfl rfl rfl (X1 rfl rfl) ?_
  refine Zb 1 rfl ?_
  refine Zg ?_
  exact Vp (n, v48, (IntKind.wrap .i64 (v49 + 1)), v50, (IntKind.wrap .i64 (v51 + 1))) (by repeat (first | exact Sub.nil | refine Sub.cons rfl ?_)) ⟨hS, H⟩ (Nat.lt_succ_self _)
 replace H := Zq H hb
 refine Zf ?_
 refine Zb 1 rfl ?_
 refine Za rfl rfl rfl (X1 rfl rfl) ?_
 refine Zb 1 rfl ?_
 refine Zg ?_
 refine Zc hK103 ?_
 refine Zf ?_
 refine Zb 1 rfl ?_
 refine Za rfl rfl rfl (X1 rfl rfl) ?_
 refine Zb 1 rfl ?_
 refine Zg ?_
 refine Z1 ?_
 refine Zc hK54 ?_
 refine Zf ?_
 refine Zb 1 rfl ?_
 refine Za rfl rfl rfl (X1 rfl rfl) ?_
 refine Zb 1 rfl ?_
 refine Zg ?_
 exact Vp (n, v48, (IntKind.wrap .i64 (v49 + 1)), (IntKind.wrap .i64 (v50 + 1)), (IntKind.wrap .i64 (v51 + 1))) (by repeat (first | exact Sub.nil | refine Sub.cons rfl ?_)) ⟨hS, H⟩ (Nat.lt_succ_self _)
end Go.Proofs.Ytenagnncpaabdaa
