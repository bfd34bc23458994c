/- Texts of one claim put together. -/
import Derived.Test.YtamjlcaoieliaaaGreatMe1
import Derived.Test.YtamjlcaoieliaaaGreatMe2
import Derived.Test.YtamjlcaoieliaaaGreatMe5
namespace Go.Proofs.YtamjlcaoieliaaaGreat

section
open Go Go.RowKit
set_option maxRecDepth 100000
set_option maxHeartbeats 4000000
theorem Zek (x0 : Co) (x1 : Co) (A0_ : OA) (c0_ : Nat) (A1_ : OA) (c1_ : Nat) (A2_ : OA) (c2_ : Nat) (A3_ : OA) (c3_ : Nat) (A4_ : OA) (c4_ : Nat) (A5_ : OA) (c5_ : Nat) (A6_ : OA) (c6_ : Nat) (A7_ : OA) (c7_ : Nat) (A8_ : OA) (c8_ : Nat) (A9_ : OA) (c9_ : Nat) (w0 : World) (s0_ : SlI w0 V3 A0_ c0_ x0.tuple.log) (s1_ : SlI w0 enO A1_ c1_ x0.votes) (s2_ : SlI w0 X2 A2_ c2_ x0.next) (s3_ : SlI w0 X2 A3_ c3_ x0.mtch) (s4_ : SlI w0 X2 A4_ c4_ x0.caps) (s5_ : SlI w0 V3 A5_ c5_ x1.tuple.log) (s6_ : SlI w0 enO A6_ c6_ x1.votes) (s7_ : SlI w0 X2 A7_ c7_ x1.next) (s8_ : SlI w0 X2 A8_ c8_ x1.mtch) (s9_ : SlI w0 X2 A9_ c9_ x1.caps) {r : Bool} (H : Zat x0 x1 = some r) : Calls Tryz.prog 11 #[.agg #[.int .i64 x0.id, .int .i64 x0.n, .int .u8 x0.role, .int .i64 x0.binary, .int .i64 x0.tuple.snap.index, .int .i64 x0.tuple.snap.term, .int .i64 x0.tuple.snap.sum, .int .i64 x0.tuple.snap.level, .bool x0.tuple.snap.final, .slice A0_ x0.tuple.log.length c0_, .int .i64 x0.tuple.term, .int .i64 x0.tuple.vote, .int .i64 x0.commit, .int .i64 x0.applied.index, .int .i64 x0.applied.term, .int .i64 x0.applied.sum, .int .i64 x0.applied.level, .bool x0.applied.final, .slice A1_ x0.votes.length c1_, .slice A2_ x0.next.length c2_, .slice A3_ x0.mtch.length c3_, .slice A4_ x0.caps.length c4_], .agg #[.int .i64 x1.id, .int .i64 x1.n, .int .u8 x1.role, .int .i64 x1.binary, .int .i64 x1.tuple.snap.index, .int .i64 x1.tuple.snap.term, .int .i64 x1.tuple.snap.sum, .int .i64 x1.tuple.snap.level, .bool x1.tuple.snap.final, .slice A5_ x1.tuple.log.length c5_, .int .i64 x1.tuple.term, .int .i64 x1.tuple.vote, .int .i64 x1.commit, .int .i64 x1.applied.index, .int .i64 x1.applied.term, .int .i64 x1.applied.sum, .int .i64 x1.applied.level, .bool x1.applied.final, .slice A6_ x1.votes.length c6_, .slice A7_ x1.next.length c7_, .slice A8_ x1.mtch.length c8_, .slice A9_ x1.caps.length c9_]] w0 fun e w' => e = .returned (.bool r) ∧ St0 All w0 w' [] := by
 unfold Zat at H
 refine Ys Tryz.func11 rfl Tryz.ntmps11 rfl ?_
 have hS := St0.start All w0
 refine Zd (fun K hK1 => ?_)
 refine Zf ?_
 refine Z7 rfl rfl rfl CellsOf.agg hS (fun b2 w hS hB => ?_)
 refine Z7 rfl rfl rfl CellsOf.agg hS (fun b4 w hS hB => ?_)
 refine Zb 1 rfl ?_
 refine Zg ?_
 refine Zc hK1 ?_
 refine Zd (fun K hK6 => ?_)
 refine Zd (fun K hK7 => ?_)
 refine Zf ?_
 refine Za rfl rfl rfl (Ze Vo rfl) ?_
 refine Za rfl rfl rfl (Zh Z3 rfl (Zhe _) hS Y2 trivial Yx) ?_
 refine Za rfl rfl rfl (Ze Vo rfl) ?_
 refine Za rfl rfl rfl (Zh Z3 rfl (Zhe _) hS hs0 trivial Yx) ?_
 refine Za rfl rfl rfl (Xm rfl rfl) ?_
 refine Zb 1 rfl ?_
 refine Zq 11 rfl (fun hb => ?_) (fun hb => ?_)
 ·replace H := Zo H hb
  refine Zb 51 rfl ?_
  refine Zg ?_
  refine Zc hK7 ?_
  refine Zu rfl rfl ?_
  refine Zd (fun K hK8 => ?_)
  refine Zf ?_
  refine Zb 1 rfl ?_
  refine Zg ?_
  refine Zc hK8 ?_
  refine Zk ?_
  refine Zj ?_
  refine Zm rfl (RV.tmp rfl RV.nil) rfl ?_
  obtain rfl := QJ H
  replace hS := hS.cut 0
  exact ⟨rfl, hS⟩
 replace H := Zp H hb
 refine Za rfl rfl rfl (Ze Vf rfl) ?_
 refine Za rfl rfl rfl (Zh Z3 rfl (Zhe _) hS Y2 trivial Xu) ?_
 refine Za rfl rfl rfl (Ze Vf rfl) ?_
 refine Za rfl rfl rfl (Zh Z3 rfl (Zhe _) hS hs0 trivial Xu) ?_
 refine Za rfl rfl rfl (Xm rfl rfl) ?_
 refine Zb 2 rfl ?_
 refine Zq 18 rfl (fun hb => ?_) (fun hb => ?_)
 ·replace H := Zo H hb
  refine Zb 44 rfl ?_
  refine Zg ?_
  refine Zc hK7 ?_
  refine Zu rfl rfl ?_
  refine Zd (fun K hK9 => ?_)
  refine Zf ?_
  refine Zb 1 rfl ?_
  refine Zg ?_
  refine Zc hK9 ?_
  refine Zk ?_
  refine Zj ?_
  refine Zm rfl (RV.tmp rfl RV.nil) rfl ?_
  obtain rfl := QJ H
  replace hS := hS.cut 0
  exact ⟨rfl, hS⟩
 replace H := Zp H hb
 refine Za rfl rfl rfl (Ze Vv rfl) ?_
 refine Za rfl rfl rfl (Zh Zas rfl (Zhe _) hS Y2 trivial Jt) ?_
 refine Za rfl rfl rfl (Ze Vv rfl) ?_
 refine Za rfl rfl rfl (Zh Zas rfl (Zhe _) hS hs0 trivial Jt) ?_
 refine Za rfl rfl rfl (Xm rfl rfl) ?_
 refine Zb 2 rfl ?_
 refine Zq 25 rfl (fun hb => ?_) (fun hb => ?_)
 ·replace H := Zo H hb
  refine Zb 37 rfl ?_
  refine Zg ?_
  refine Zc hK7 ?_
  refine Zu rfl rfl ?_
  refine Zd (fun K hK10 => ?_)
  refine Zf ?_
  refine Zb 1 rfl ?_
  refine Zg ?_
  refine Zc hK10 ?_
  refine Zk ?_
  refine Zj ?_
  refine Zm rfl (RV.tmp rfl RV.nil) rfl ?_
  obtain rfl := QJ H
  replace hS := hS.cut 0
  exact ⟨rfl, hS⟩
 replace H := Zp H hb
 refine Za rfl rfl rfl (Ze Zdy rfl) ?_
 refine Za rfl rfl rfl (Zh Z3 rfl (Zhe _) hS Y2 trivial Jb) ?_
 refine Za rfl rfl rfl (Ze Zdy rfl) ?_
 refine Za rfl rfl rfl (Zh Z3 rfl (Zhe _) hS hs0 trivial Jb) ?_
 refine Za rfl rfl rfl (Xm rfl rfl) ?_
 refine Zb 2 rfl ?_
 refine Zq 32 rfl (fun hb => ?_) (fun hb => ?_)
 ·replace H := Zo H hb
  refine Zb 30 rfl ?_
  refine Zg ?_
  refine Zc hK7 ?_
  refine Zu rfl rfl ?_
  refine Zd (fun K hK11 => ?_)
  refine Zf ?_
  refine Zb 1 rfl ?_
  refine Zg ?_
  refine Zc hK11 ?_
  refine Zk ?_
  refine Zj ?_
  refine Zm rfl (RV.tmp rfl RV.nil) rfl ?_
  obtain rfl := QJ H
  replace hS := hS.cut 0
  exact ⟨rfl, hS⟩
 replace H := Zp H hb
 refine Za rfl rfl rfl (Ze Yq rfl) ?_
 refine Za rfl rfl rfl (Zi Yp rfl (Zhe _) hS Y2 trivial Zbt) ?_
 refine Za rfl rfl rfl (Ze Yq rfl) ?_
 refine Za rfl rfl rfl (Zi Yp rfl (Zhe _) hS hs0 trivial Zbt) ?_
 obtain ⟨r12, hm13, H⟩ := bind_some H
 refine Zn rfl rfl rfl rfl (by kernel_rfl) rfl (c_ref12_Same x0.tuple x1.tuple A0_ c0_ A5_ c5_ _ (Zhh s0_.k (hS.rd0 s0_.rd) (hS.blk0 s0_.blk)) (Zhh s5_.k (hS.rd0 s5_.rd) (hS.blk0 s5_.blk)) hm13) ?_
 rintro e w ⟨rfl, hN⟩; refine ⟨_, rfl, ?_⟩; obtain ⟨hB, hS⟩ := hS.jn hN
 refine Za rfl rfl rfl (Yo rfl) ?_
 refine Zb 2 rfl ?_
 refine Zq 40 rfl (fun hb => ?_) (fun hb => ?_)
 ·replace H := Zo H hb
  refine Zb 22 rfl ?_
  refine Zg ?_
  refine Zc hK7 ?_
  refine Zu rfl rfl ?_
  refine Zd (fun K hK14 => ?_)
  refine Zf ?_
  refine Zb 1 rfl ?_
  refine Zg ?_
  refine Zc hK14 ?_
  refine Zk ?_
  refine Zj ?_
  refine Zm rfl (RV.tmp rfl RV.nil) rfl ?_
  obtain rfl := QJ H
  replace hS := hS.cut 0
  exact ⟨rfl, hS⟩
 replace H := Zp H hb
 refine Za rfl rfl rfl (Ze fo_30_5 rfl) ?_
 refine Za rfl rfl rfl (Zh Z3 rfl (Zhe _) hS Y2 trivial sg12_1) ?_
 refine Za rfl rfl rfl (Ze fo_30_5 rfl) ?_
 refine Za rfl rfl rfl (Zh Z3 rfl (Zhe _) hS hs0 trivial sg12_1) ?_
 refine Za rfl rfl rfl (Xm rfl rfl) ?_
 refine Zb 2 rfl ?_
 refine Zq 47 rfl (fun hb => ?_) (fun hb => ?_)
 ·replace H := Zo H hb
  refine Zb 15 rfl ?_
  refine Zg ?_
  refine Zc hK7 ?_
  refine Zu rfl rfl ?_
  refine Zd (fun K hK15 => ?_)
  refine Zf ?_
  refine Zb 1 rfl ?_
  refine Zg ?_
  refine Zc hK15 ?_
  refine Zk ?_
  refine Zj ?_
  refine Zm rfl (RV.tmp rfl RV.nil) rfl ?_
  obtain rfl := QJ H
  replace hS := hS.cut 0
  exact ⟨rfl, hS⟩
 replace H := Zp H hb
 refine Za rfl rfl rfl (Ze fo_30_6 rfl) ?_
 refine Za rfl rfl rfl (Zi Y3 rfl (Zhe _) hS Y2 trivial sg13_5) ?_
 refine Za rfl rfl rfl (Ze fo_30_6 rfl) ?_
 refine Za rfl rfl rfl (Zi Y3 rfl (Zhe _) hS hs0 trivial sg13_5) ?_
 refine Za rfl rfl rfl (yv_neqS (by kernel_rfl) rfl rfl (Za8 _ _ _ _ _ _ _ _ _ _)) ?_
 refine Zb 2 rfl ?_
 refine Zq 54 rfl (fun hb => ?_) (fun hb => ?_)
 ·replace H := Zo H hb
  refine Zb 8 rfl ?_
  refine Zg ?_
  refine Zc hK7 ?_
  refine Zu rfl rfl ?_
  refine Zd (fun K hK16 => ?_)
  refine Zf ?_
  refine Zb 1 rfl ?_
  refine Zg ?_
  refine Zc hK16 ?_
  refine Zk ?_
  refine Zj ?_
  refine Zm rfl (RV.tmp rfl RV.nil) rfl ?_
  obtain rfl := QJ H
  replace hS := hS.cut 0
  exact ⟨rfl, hS⟩
 replace H := Zp H hb
 refine Za rfl rfl rfl (Ze Vd rfl) ?_
 refine Za rfl rfl rfl (Zh Zc1 rfl (Zhe _) hS Y2 trivial Zba) ?_
 refine Za rfl rfl rfl (Yz Zbs rfl) ?_
 refine Za rfl rfl rfl (Ze Vd rfl) ?_
 refine Za rfl rfl rfl (Zh Zc1 rfl (Zhe _) hS hs0 trivial Zba) ?_
 refine Za rfl rfl rfl (Yz Zbs rfl) ?_
 refine Za rfl rfl rfl (Xm rfl rfl) ?_
 refine Zb 1 rfl ?_
 refine Zg ?_
 refine Zc hK7 ?_
 refine Z1 rfl (fun hb => ?_) (fun hb => ?_)
 ·replace H := Zo H hb
  refine Zd (fun K hK17 => ?_)
  refine Zf ?_
  refine Zb 1 rfl ?_
  refine Zg ?_
  refine Zc hK17 ?_
  refine Zk ?_
  refine Zj ?_
  refine Zm rfl (RV.tmp rfl RV.nil) rfl ?_
  obtain rfl := QJ H
  replace hS := hS.cut 0
  exact ⟨rfl, hS⟩
 replace H := Zp H hb
 refine Zs ?_
 refine Zc hK6 ?_
 refine Zd (fun K hK18 => ?_)
 refine Zd (fun K hK19 => ?_)
 refine Zf ?_
 refine Zb 1 rfl ?_
 refine Zg ?_
 refine Zc hK19 ?_
 refine Yc ?_
 refine V7 (X := Nat × Bool × Int) (fun x => (2, .pointer (some ⟨b2, 0, none⟩)) :: (3, .pointer (some ⟨b4, 0, none⟩)) :: (4, .bool x.2.1) :: (5, .int .i64 x.2.2) :: []) (fun x w => St0 All w0 w (.box b4 [.int .i64 x1.id, .int .i64 x1.n, .int .u8 x1.role, .int .i64 x1.binary, .int .i64 x1.tuple.snap.index, .int .i64 x1.tuple.snap.term, .int .i64 x1.tuple.snap.sum, .int .i64 x1.tuple.snap.level, .bool x1.tuple.snap.final, .slice A5_ x1.tuple.log.length c5_, .int .i64 x1.tuple.term, .int .i64 x1.tuple.vote, .int .i64 x1.commit, .int .i64 x1.applied.index, .int .i64 x1.applied.term, .int .i64 x1.applied.sum, .int .i64 x1.applied.level, .bool x1.applied.final, .slice A6_ x1.votes.length c6_, .slice A7_ x1.next.length c7_, .slice A8_ x1.mtch.length c8_, .slice A9_ x1.caps.length c9_] 30 :: .box b2 [.int .i64 x0.id, .int .i64 x0.n, .int .u8 x0.role, .int .i64 x0.binary, .int .i64 x0.tuple.snap.index, .int .i64 x0.tuple.snap.term, .int .i64 x0.tuple.snap.sum, .int .i64 x0.tuple.snap.level, .bool x0.tuple.snap.final, .slice A0_ x0.tuple.log.length c0_, .int .i64 x0.tuple.term, .int .i64 x0.tuple.vote, .int .i64 x0.commit, .int .i64 x0.applied.index, .int .i64 x0.applied.term, .int .i64 x0.applied.sum, .int .i64 x0.applied.level, .bool x0.applied.final, .slice A1_ x0.votes.length c1_, .slice A2_ x0.next.length c2_, .slice A3_ x0.mtch.length c3_, .slice A4_ x0.caps.length c4_] 30 :: []) ∧ Zan x0 x1 x.1 x.2.1 x.2.2 = some r) (fun x => x.1) (Xw, false, 0) (by repeat (first | exact Sub.nil | refine Sub.cons rfl ?_)) ⟨hS, H⟩ ?_
 rintro ⟨n, v20, v21⟩ w ⟨hS, H⟩
 dsimp only at hS H ⊢
 obtain _ | n := n
 ·have H0 : none = some r := H
  cases H0
 rw [Zan] at H
 refine Zd (fun K hK22 => ?_)
 refine Zd (fun K hK23 => ?_)
 refine Zf ?_
 refine Zb 1 rfl ?_
 refine Za rfl rfl rfl (Ze Vd rfl) ?_
 refine Za rfl rfl rfl (Zh Zc1 rfl (Zhe _) hS Y2 trivial Zba) ?_
 refine Za rfl rfl rfl (Yz Zbs rfl) ?_
 refine Za rfl rfl rfl (Xk rfl rfl) ?_
 refine Zg ?_
 refine Zc hK23 ?_
 refine Z1 rfl (fun hb => ?_) (fun hb => ?_)
 ·replace H := Zo H hb
  refine Zs ?_
  refine Zc hK22 ?_
  refine Zd (fun K hK24 => ?_)
  refine Yc ?_
  refine Zd (fun K hK25 => ?_)
  refine Yn 11 [] (fun _ _ => True) ⟨by kernel_rfl, by kernel_rfl⟩ hS (fun w hS hB => ?_)
  refine Zr [true, true, true, true, true, true, true, true, true, true, true] (by decide +kernel) PFC.h ?_
  refine LtK.put rfl rfl rfl (Ze Vd rfl) ?_
  refine LtK.put rfl rfl rfl (Zh Zc1 rfl (Zhf _) hS Y2 trivial Zba) ?_
  refine LtK.put rfl rfl rfl (Zy rfl) ?_
  obtain ⟨e26, hi28, H⟩ := bind_some H
  obtain ⟨j27, hi28a, hi28b, hi28c⟩ := Y0 hi28
  refine LtK.put rfl rfl rfl (Xh Zbs rfl rfl hi28a hi28c (Rd.el (hS.rd0 s1_.rd) V5 hi28b)) ?_
  refine LtK.put rfl rfl rfl (Zap sc_4 rfl (Zhf _) (Rd.el (hS.rd0 s1_.rd) V5 hi28b) rfl) ?_
  refine LtK.put rfl rfl rfl (Ze Vd rfl) ?_
  refine LtK.put rfl rfl rfl (Zh Zc1 rfl (Zhf _) hS hs0 trivial Zba) ?_
  refine LtK.put rfl rfl rfl (Zy rfl) ?_
  obtain ⟨e29, hi31, H⟩ := bind_some H
  obtain ⟨j30, hi31a, hi31b, hi31c⟩ := Y0 hi31
  refine LtK.put rfl rfl rfl (Xh Zbs rfl rfl hi31a hi31c (Rd.el (hS.rd0 s6_.rd) V5 hi31b)) ?_
  refine LtK.put rfl rfl rfl (Zap sc_4 rfl (Zhf _) (Rd.el (hS.rd0 s6_.rd) V5 hi31b) rfl) ?_
  refine LtK.put rfl rfl rfl (yv_neqB (by kernel_rfl) rfl rfl) ?_
  refine LtK.nil ?_
  refine Ye (by kernel_rfl) ?_
  refine Zc hK25 ?_
  refine Z1 rfl (fun hb => ?_) (fun hb => ?_)
  rotate_left
  ·replace H := Zp H hb
   refine Zs ?_
   refine Z4 ?_
   refine Zc hK24 ?_
   refine Zf ?_
   refine Zb 1 rfl ?_
   refine Za rfl rfl rfl (X8 rfl rfl) ?_
   refine Zb 1 rfl ?_
   refine Zg ?_
   exact X9 (n, v20, (IntKind.wrap .i64 (v21 + 1))) (by repeat (first | exact Sub.nil | refine Sub.cons rfl ?_)) ⟨hS, H⟩ (Nat.lt_succ_self _)
  replace H := Zo H hb
  refine Zd (fun K hK32 => ?_)
  refine Zf ?_
  refine Zb 1 rfl ?_
  refine Zg ?_
  refine Zc hK32 ?_
  refine Zk ?_
  refine Zz ?_
  refine Zj ?_
  refine Zj ?_
  refine Zz ?_
  refine Zj ?_
  refine Zm rfl (RV.tmp rfl RV.nil) rfl ?_
  obtain rfl := QJ H
  replace hS := hS.cut 0
  exact ⟨rfl, hS⟩
 replace H := Zp H hb
 refine X0 ?_
 refine Z9 ?_
 refine Z9 ?_
 refine Yy ?_
 refine Zc hK18 ?_
 refine Zd (fun K hK33 => ?_)
 refine Zf ?_
 refine Za rfl rfl rfl (Ze Zce rfl) ?_
 refine Za rfl rfl rfl (Zh Vy rfl (Zhe _) hS Y2 trivial Zfm) ?_
 refine Za rfl rfl rfl (Ze Zce rfl) ?_
 refine Za rfl rfl rfl (Zh Vy rfl (Zhe _) hS hs0 trivial Zfm) ?_
 obtain ⟨r34, hm35, H⟩ := bind_some H
 refine Zn rfl rfl rfl rfl (by kernel_rfl) rfl (c_ref20_ints x0.next x1.next A2_ c2_ A7_ c7_ _ (Zhh s2_.k (hS.rd0 s2_.rd) (hS.blk0 s2_.blk)) (Zhh s7_.k (hS.rd0 s7_.rd) (hS.blk0 s7_.blk)) hm35) ?_
 rintro e w ⟨rfl, hN⟩; refine ⟨_, rfl, ?_⟩; obtain ⟨hB, hS⟩ := hS.jn hN
 refine Zb 1 rfl ?_
 refine Zq 86 rfl (fun hb => ?_) (fun hb => ?_)
 rotate_left
 ·replace H := Zp H hb
  refine Zb 14 rfl ?_
  refine Zg ?_
  refine Zc hK33 ?_
  refine Zk ?_
  refine Zm rfl (RV.tmp rfl RV.nil) rfl ?_
  obtain rfl := QJ H
  replace hS := hS.cut 0
  exact ⟨rfl, hS⟩
 replace H := Zo H hb
 refine Za rfl rfl rfl (Ze Zbf rfl) ?_
 refine Za rfl rfl rfl (Zh Vy rfl (Zhe _) hS Y2 trivial Zec) ?_
 refine Za rfl rfl rfl (Ze Zbf rfl) ?_
 refine Za rfl rfl rfl (Zh Vy rfl (Zhe _) hS hs0 trivial Zec) ?_
 obtain ⟨r36, hm37, H⟩ := bind_some H
 refine Zn rfl rfl rfl rfl (by kernel_rfl) rfl (c_ref20_ints x0.mtch x1.mtch A3_ c3_ A8_ c8_ _ (Zhh s3_.k (hS.rd0 s3_.rd) (hS.blk0 s3_.blk)) (Zhh s8_.k (hS.rd0 s8_.rd) (hS.blk0 s8_.blk)) hm37) ?_
 rintro e w ⟨rfl, hN⟩; refine ⟨_, rfl, ?_⟩; obtain ⟨hB, hS⟩ := hS.jn hN
 refine Zb 2 rfl ?_
 refine Zq 93 rfl (fun hb => ?_) (fun hb => ?_)
 rotate_left
 ·replace H := Zp H hb
  refine Zb 7 rfl ?_
  refine Zg ?_
  refine Zc hK33 ?_
  refine Zk ?_
  refine Zm rfl (RV.tmp rfl RV.nil) rfl ?_
  obtain rfl := QJ H
  replace hS := hS.cut 0
  exact ⟨rfl, hS⟩
 replace H := Zo H hb
 refine Za rfl rfl rfl (Ze V8 rfl) ?_
 refine Za rfl rfl rfl (Zh Vy rfl (Zhe _) hS Y2 trivial Zc7) ?_
 refine Za rfl rfl rfl (Ze V8 rfl) ?_
 refine Za rfl rfl rfl (Zh Vy rfl (Zhe _) hS hs0 trivial Zc7) ?_
 obtain ⟨r38, hm39, H⟩ := bind_some H
 refine Zn rfl rfl rfl rfl (by kernel_rfl) rfl (c_ref20_ints x0.caps x1.caps A4_ c4_ A9_ c9_ _ (Zhh s4_.k (hS.rd0 s4_.rd) (hS.blk0 s4_.blk)) (Zhh s9_.k (hS.rd0 s9_.rd) (hS.blk0 s9_.blk)) hm39) ?_
 rintro e w ⟨rfl, hN⟩; refine ⟨_, rfl, ?_⟩; obtain ⟨hB, hS⟩ := hS.jn hN
 refine Zb 2 rfl ?_
 refine Zg ?_
 refine Zc hK33 ?_
 refine Zk ?_
 refine Zm rfl (RV.tmp rfl RV.nil) rfl ?_
 obtain rfl := QJ H
 replace hS := hS.cut 0
 exact ⟨rfl, hS⟩
theorem c_ref20_Alike (x0 : Ms) (x1 : Ms) (A0_ : OA) (c0_ : Nat) (A1_ : OA) (c1_ : Nat) (w0 : World) (s0_ : SlI w0 V3 A0_ c0_ x0.entries) (s1_ : SlI w0 V3 A1_ c1_ x1.entries) {r : Bool} (H : Zdr x0 x1 = some r) : Calls Tryz.prog 31 #[.agg #[.int .u8 x0.kind, .int .i64 x0.frm, .int .i64 x0.dst, .int .i64 x0.term, .int .i64 x0.cap, .int .i64 x0.last, .int .i64 x0.lastTerm, .int .i64 x0.commit, .bool x0.okk, .slice A0_ x0.entries.length c0_, .int .i64 x0.snap.index, .int .i64 x0.snap.term, .int .i64 x0.snap.sum, .int .i64 x0.snap.level, .bool x0.snap.final], .agg #[.int .u8 x1.kind, .int .i64 x1.frm, .int .i64 x1.dst, .int .i64 x1.term, .int .i64 x1.cap, .int .i64 x1.last, .int .i64 x1.lastTerm, .int .i64 x1.commit, .bool x1.okk, .slice A1_ x1.entries.length c1_, .int .i64 x1.snap.index, .int .i64 x1.snap.term, .int .i64 x1.snap.sum, .int .i64 x1.snap.level, .bool x1.snap.final]] w0 fun e w' => e = .returned (.bool r) ∧ St0 All w0 w' [] := by
 unfold Zdr at H
 refine Ys Tryz.func31 rfl Tryz.ntmps31 rfl ?_
 have hS := St0.start All w0
 refine Zd (fun K hK1 => ?_)
 refine Zf ?_
 refine Z7 rfl rfl rfl CellsOf.agg hS (fun b2 w hS hB => ?_)
 refine Z7 rfl rfl rfl CellsOf.agg hS (fun b4 w hS hB => ?_)
 refine Zb 1 rfl ?_
 refine Zg ?_
 refine Zc hK1 ?_
 refine Zd (fun K hK6 => ?_)
 refine Zf ?_
 refine Za rfl rfl rfl (Ze Vc rfl) ?_
 refine Za rfl rfl rfl (Zh Zas rfl (Zhe _) hS Y2 trivial Yx) ?_
 refine Za rfl rfl rfl (Ze Vc rfl) ?_
 refine Za rfl rfl rfl (Zh Zas rfl (Zhe _) hS hs0 trivial Yx) ?_
 refine Za rfl rfl rfl (Yr rfl rfl) ?_
 refine Zb 1 rfl ?_
 refine Zq 10 rfl (fun hb => ?_) (fun hb => ?_)
 rotate_left
 ·replace H := Zp H hb
  refine Zb 70 rfl ?_
  refine Zg ?_
  refine Zc hK6 ?_
  refine Zk ?_
  refine Zm rfl (RV.tmp rfl RV.nil) rfl ?_
  obtain rfl := QJ H
  replace hS := hS.cut 0
  exact ⟨rfl, hS⟩
 replace H := Zo H hb
 refine Za rfl rfl rfl (Ze Zaf rfl) ?_
 refine Za rfl rfl rfl (Zh Z3 rfl (Zhe _) hS Y2 trivial Xu) ?_
 refine Za rfl rfl rfl (Ze Zaf rfl) ?_
 refine Za rfl rfl rfl (Zh Z3 rfl (Zhe _) hS hs0 trivial Xu) ?_
 refine Za rfl rfl rfl (Yr rfl rfl) ?_
 refine Zb 2 rfl ?_
 refine Zq 17 rfl (fun hb => ?_) (fun hb => ?_)
 rotate_left
 ·replace H := Zp H hb
  refine Zb 63 rfl ?_
  refine Zg ?_
  refine Zc hK6 ?_
  refine Zk ?_
  refine Zm rfl (RV.tmp rfl RV.nil) rfl ?_
  obtain rfl := QJ H
  replace hS := hS.cut 0
  exact ⟨rfl, hS⟩
 replace H := Zo H hb
 refine Za rfl rfl rfl (Ze Zdd rfl) ?_
 refine Za rfl rfl rfl (Zh Z3 rfl (Zhe _) hS Y2 trivial Jt) ?_
 refine Za rfl rfl rfl (Ze Zdd rfl) ?_
 refine Za rfl rfl rfl (Zh Z3 rfl (Zhe _) hS hs0 trivial Jt) ?_
 refine Za rfl rfl rfl (Yr rfl rfl) ?_
 refine Zb 2 rfl ?_
 refine Zq 24 rfl (fun hb => ?_) (fun hb => ?_)
 rotate_left
 ·replace H := Zp H hb
  refine Zb 56 rfl ?_
  refine Zg ?_
  refine Zc hK6 ?_
  refine Zk ?_
  refine Zm rfl (RV.tmp rfl RV.nil) rfl ?_
  obtain rfl := QJ H
  replace hS := hS.cut 0
  exact ⟨rfl, hS⟩
 replace H := Zo H hb
 refine Za rfl rfl rfl (Ze Js rfl) ?_
 refine Za rfl rfl rfl (Zh Z3 rfl (Zhe _) hS Y2 trivial Jb) ?_
 refine Za rfl rfl rfl (Ze Js rfl) ?_
 refine Za rfl rfl rfl (Zh Z3 rfl (Zhe _) hS hs0 trivial Jb) ?_
 refine Za rfl rfl rfl (Yr rfl rfl) ?_
 refine Zb 2 rfl ?_
 refine Zq 31 rfl (fun hb => ?_) (fun hb => ?_)
 rotate_left
 ·replace H := Zp H hb
  refine Zb 49 rfl ?_
  refine Zg ?_
  refine Zc hK6 ?_
  refine Zk ?_
  refine Zm rfl (RV.tmp rfl RV.nil) rfl ?_
  obtain rfl := QJ H
  replace hS := hS.cut 0
  exact ⟨rfl, hS⟩
 replace H := Zo H hb
 refine Za rfl rfl rfl (Ze Zfw rfl) ?_
 refine Za rfl rfl rfl (Zh Z3 rfl (Zhe _) hS Y2 trivial Zg7) ?_
 refine Za rfl rfl rfl (Ze Zfw rfl) ?_
 refine Za rfl rfl rfl (Zh Z3 rfl (Zhe _) hS hs0 trivial Zg7) ?_
 refine Za rfl rfl rfl (Yr rfl rfl) ?_
 refine Zb 2 rfl ?_
 refine Zq 38 rfl (fun hb => ?_) (fun hb => ?_)
 rotate_left
 ·replace H := Zp H hb
  refine Zb 42 rfl ?_
  refine Zg ?_
  refine Zc hK6 ?_
  refine Zk ?_
  refine Zm rfl (RV.tmp rfl RV.nil) rfl ?_
  obtain rfl := QJ H
  replace hS := hS.cut 0
  exact ⟨rfl, hS⟩
 replace H := Zo H hb
 refine Za rfl rfl rfl (Ze Zgl rfl) ?_
 refine Za rfl rfl rfl (Zh Z3 rfl (Zhe _) hS Y2 trivial Zcq) ?_
 refine Za rfl rfl rfl (Ze Zgl rfl) ?_
 refine Za rfl rfl rfl (Zh Z3 rfl (Zhe _) hS hs0 trivial Zcq) ?_
 refine Za rfl rfl rfl (Yr rfl rfl) ?_
 refine Zb 2 rfl ?_
 refine Zq 45 rfl (fun hb => ?_) (fun hb => ?_)
 rotate_left
 ·replace H := Zp H hb
  refine Zb 35 rfl ?_
  refine Zg ?_
  refine Zc hK6 ?_
  refine Zk ?_
  refine Zm rfl (RV.tmp rfl RV.nil) rfl ?_
  obtain rfl := QJ H
  replace hS := hS.cut 0
  exact ⟨rfl, hS⟩
 replace H := Zo H hb
 refine Za rfl rfl rfl (Ze Ze2 rfl) ?_
 refine Za rfl rfl rfl (Zh Z3 rfl (Zhe _) hS Y2 trivial Ze9) ?_
 refine Za rfl rfl rfl (Ze Ze2 rfl) ?_
 refine Za rfl rfl rfl (Zh Z3 rfl (Zhe _) hS hs0 trivial Ze9) ?_
 refine Za rfl rfl rfl (Yr rfl rfl) ?_
 refine Zb 2 rfl ?_
 refine Zq 52 rfl (fun hb => ?_) (fun hb => ?_)
 rotate_left
 ·replace H := Zp H hb
  refine Zb 28 rfl ?_
  refine Zg ?_
  refine Zc hK6 ?_
  refine Zk ?_
  refine Zm rfl (RV.tmp rfl RV.nil) rfl ?_
  obtain rfl := QJ H
  replace hS := hS.cut 0
  exact ⟨rfl, hS⟩
 replace H := Zo H hb
 refine Za rfl rfl rfl (Ze fo_32_7 rfl) ?_
 refine Za rfl rfl rfl (Zh Z3 rfl (Zhe _) hS Y2 trivial sg7_1) ?_
 refine Za rfl rfl rfl (Ze fo_32_7 rfl) ?_
 refine Za rfl rfl rfl (Zh Z3 rfl (Zhe _) hS hs0 trivial sg7_1) ?_
 refine Za rfl rfl rfl (Yr rfl rfl) ?_
 refine Zb 2 rfl ?_
 refine Zq 59 rfl (fun hb => ?_) (fun hb => ?_)
 rotate_left
 ·replace H := Zp H hb
  refine Zb 21 rfl ?_
  refine Zg ?_
  refine Zc hK6 ?_
  refine Zk ?_
  refine Zm rfl (RV.tmp rfl RV.nil) rfl ?_
  obtain rfl := QJ H
  replace hS := hS.cut 0
  exact ⟨rfl, hS⟩
 replace H := Zo H hb
 refine Za rfl rfl rfl (Ze Ze5 rfl) ?_
 refine Za rfl rfl rfl (Zh sc_4 rfl (Zhe _) hS Y2 trivial sg8_1) ?_
 refine Za rfl rfl rfl (Ze Ze5 rfl) ?_
 refine Za rfl rfl rfl (Zh sc_4 rfl (Zhe _) hS hs0 trivial sg8_1) ?_
 refine Za rfl rfl rfl (yv_eqlB (by kernel_rfl) rfl rfl) ?_
 refine Zb 2 rfl ?_
 refine Zq 66 rfl (fun hb => ?_) (fun hb => ?_)
 rotate_left
 ·replace H := Zp H hb
  refine Zb 14 rfl ?_
  refine Zg ?_
  refine Zc hK6 ?_
  refine Zk ?_
  refine Zm rfl (RV.tmp rfl RV.nil) rfl ?_
  obtain rfl := QJ H
  replace hS := hS.cut 0
  exact ⟨rfl, hS⟩
 replace H := Zo H hb
 refine Za rfl rfl rfl (Ze Xa rfl) ?_
 refine Za rfl rfl rfl (Zi Y3 rfl (Zhe _) hS Y2 trivial Zai) ?_
 refine Za rfl rfl rfl (Ze Xa rfl) ?_
 refine Za rfl rfl rfl (Zi Y3 rfl (Zhe _) hS hs0 trivial Zai) ?_
 refine Za rfl rfl rfl (Zal (by kernel_rfl) rfl rfl (Za8 _ _ _ _ _ _ _ _ _ _)) ?_
 refine Zb 2 rfl ?_
 refine Zq 73 rfl (fun hb => ?_) (fun hb => ?_)
 rotate_left
 ·replace H := Zp H hb
  refine Zb 7 rfl ?_
  refine Zg ?_
  refine Zc hK6 ?_
  refine Zk ?_
  refine Zm rfl (RV.tmp rfl RV.nil) rfl ?_
  obtain rfl := QJ H
  replace hS := hS.cut 0
  exact ⟨rfl, hS⟩
 replace H := Zo H hb
 refine Za rfl rfl rfl (Ze Zbg rfl) ?_
 refine Za rfl rfl rfl (Zh Vm rfl (Zhe _) hS Y2 trivial Zfr) ?_
 refine Za rfl rfl rfl (Ze Zbg rfl) ?_
 refine Za rfl rfl rfl (Zh Vm rfl (Zhe _) hS hs0 trivial Zfr) ?_
 obtain ⟨r7, hm8, H⟩ := bind_some H
 refine Zn rfl rfl rfl rfl (by kernel_rfl) rfl (c_ref06_Same x0.entries x1.entries A0_ c0_ A1_ c1_ _ (Zhh s0_.k (hS.rd0 s0_.rd) (hS.blk0 s0_.blk)) (Zhh s1_.k (hS.rd0 s1_.rd) (hS.blk0 s1_.blk)) hm8) ?_
 rintro e w ⟨rfl, hN⟩; refine ⟨_, rfl, ?_⟩; obtain ⟨hB, hS⟩ := hS.jn hN
 refine Zb 2 rfl ?_
 refine Zg ?_
 refine Zc hK6 ?_
 refine Zk ?_
 refine Zm rfl (RV.tmp rfl RV.nil) rfl ?_
 obtain rfl := QJ H
 replace hS := hS.cut 0
 exact ⟨rfl, hS⟩
theorem c_ref20_All (x0 : List Ms) (x1 : List Ms) (A0_ : OA) (c0_ : Nat) (q0_ : List Mq) (A1_ : OA) (c1_ : Nat) (q1_ : List Mq) (w0 : World) (s0_ : SlI w0 enQ A0_ c0_ q0_) (s0_q : q0_.map Mq.m = x0) (s0_n : ∀ y ∈ q0_, SlI w0 V3 y.A y.c y.m.entries) (s1_ : SlI w0 enQ A1_ c1_ q1_) (s1_q : q1_.map Mq.m = x1) (s1_n : ∀ y ∈ q1_, SlI w0 V3 y.A y.c y.m.entries) {r : Bool} (H : Zcu x0 x1 = some r) : Calls Tryz.prog 12 #[.slice A0_ x0.length c0_, .slice A1_ x1.length c1_] w0 fun e w' => e = .returned (.bool r) ∧ St0 All w0 w' [] := by
 unfold Zcu at H
 refine Ys Tryz.func12 rfl Tryz.ntmps12 rfl ?_
 have hS := St0.start All w0
 refine Zd (fun K hK1 => ?_)
 refine Zf ?_
 refine Zb 1 rfl ?_
 refine Zg ?_
 refine Zc hK1 ?_
 refine Zd (fun K hK2 => ?_)
 refine Zd (fun K hK3 => ?_)
 refine Zf ?_
 refine Zb 1 rfl ?_
 refine Za rfl rfl rfl (Yz Vk rfl) ?_
 refine Zb 1 rfl ?_
 refine Za rfl rfl rfl (Yz Vk rfl) ?_
 refine Za rfl rfl rfl (Xm rfl rfl) ?_
 refine Zg ?_
 refine Zc hK3 ?_
 refine Z1 rfl (fun hb => ?_) (fun hb => ?_)
 ·replace H := Zo H hb
  refine Zd (fun K hK4 => ?_)
  refine Zf ?_
  refine Zb 1 rfl ?_
  refine Zg ?_
  refine Zc hK4 ?_
  refine Zk ?_
  refine Zj ?_
  refine Zm rfl (RV.tmp rfl RV.nil) rfl ?_
  obtain rfl := QJ H
  replace hS := hS.cut 0
  exact ⟨rfl, hS⟩
 replace H := Zp H hb
 refine Zs ?_
 refine Zc hK2 ?_
 refine Zd (fun K hK5 => ?_)
 refine Zd (fun K hK6 => ?_)
 refine Zf ?_
 refine Zb 1 rfl ?_
 refine Zg ?_
 refine Zc hK6 ?_
 refine Yc ?_
 refine V7 (X := Nat × Bool × Int) (fun x => (0, .slice A0_ x0.length c0_) :: (1, .slice A1_ x1.length c1_) :: (4, .bool x.2.1) :: (5, .int .i64 x.2.2) :: []) (fun x w => St0 All w0 w ([]) ∧ Za5 x0 x1 x.1 x.2.1 x.2.2 = some r) (fun x => x.1) (Xw, false, 0) (by repeat (first | exact Sub.nil | refine Sub.cons rfl ?_)) ⟨hS, H⟩ ?_
 rintro ⟨n, v7, v8⟩ w ⟨hS, H⟩
 dsimp only at hS H ⊢
 obtain _ | n := n
 ·have H0 : none = some r := H
  cases H0
 rw [Za5] at H
 refine Zd (fun K hK9 => ?_)
 refine Zd (fun K hK10 => ?_)
 refine Zf ?_
 refine Zb 2 rfl ?_
 refine Za rfl rfl rfl (Yz Vk rfl) ?_
 refine Za rfl rfl rfl (Xk rfl rfl) ?_
 refine Zg ?_
 refine Zc hK10 ?_
 refine Z1 rfl (fun hb => ?_) (fun hb => ?_)
 rotate_left
 ·replace H := Zp H hb
  refine X0 ?_
  refine Z9 ?_
  refine Z9 ?_
  refine Yy ?_
  refine Zc hK5 ?_
  refine Zd (fun K hK26 => ?_)
  refine Zf ?_
  refine Zb 1 rfl ?_
  refine Zg ?_
  refine Zc hK26 ?_
  refine Zk ?_
  refine Zm rfl (RV.tmp rfl RV.nil) rfl ?_
  obtain rfl := QJ H
  replace hS := hS.cut 0
  exact ⟨rfl, hS⟩
 replace H := Zo H hb
 refine Zs ?_
 refine Zc hK9 ?_
 refine Zd (fun K hK11 => ?_)
 refine Yc ?_
 refine Zd (fun K hK12 => ?_)
 refine Yn 10 [] (fun _ _ => True) ⟨by kernel_rfl, by kernel_rfl⟩ hS (fun w hS hB => ?_)
 refine Zr [true, true, true, true, true, true, true, true] (by decide +kernel) PFC.h ?_
 refine LtK.put rfl rfl rfl (Zy rfl) ?_
 refine LtK.put rfl rfl rfl (Zy rfl) ?_
 obtain ⟨e13, hi15, H⟩ := bind_some H
 obtain ⟨j14, A16, c17, hi15a, hi15b, hi15c⟩ := idxQ (q := q0_) s0_q hi15
 refine LtK.put rfl rfl rfl (Xh Vk rfl rfl hi15a hi15c (Rd.el (hS.rd0 s0_.rd) Zd2 hi15b)) ?_
 refine LtK.put rfl rfl rfl (Zdz Va rfl (Zhf _) (Rd.el (hS.rd0 s0_.rd) Zd2 hi15b) Xg) ?_
 refine LtK.put rfl rfl rfl (Zy rfl) ?_
 refine LtK.put rfl rfl rfl (Zy rfl) ?_
 obtain ⟨e18, hi20, H⟩ := bind_some H
 obtain ⟨j19, A21, c22, hi20a, hi20b, hi20c⟩ := idxQ (q := q1_) s1_q hi20
 refine LtK.put rfl rfl rfl (Xh Vk rfl rfl hi20a hi20c (Rd.el (hS.rd0 s1_.rd) Zd2 hi20b)) ?_
 refine LtK.put rfl rfl rfl (Zdz Va rfl (Zhf _) (Rd.el (hS.rd0 s1_.rd) Zd2 hi20b) Xg) ?_
 refine LtK.nil ?_
 refine Z5 [false, false, false, false, false, false, false, false, true] 8 ⟨by decide, by kernel_rfl, by kernel_rfl⟩ rfl rfl ?_
 try dsimp only [Zw]
 obtain ⟨r23, hm24, H⟩ := bind_some H
 refine Zn rfl rfl rfl rfl (by kernel_rfl) rfl (c_ref20_Alike e13 e18 A16 c17 A21 c22 _ (Zhh ((s0_n _ (List.mem_of_getElem? hi15b)).k) (hS.rd0 (s0_n _ (List.mem_of_getElem? hi15b)).rd) (hS.blk0 (s0_n _ (List.mem_of_getElem? hi15b)).blk)) (Zhh ((s1_n _ (List.mem_of_getElem? hi20b)).k) (hS.rd0 (s1_n _ (List.mem_of_getElem? hi20b)).rd) (hS.blk0 (s1_n _ (List.mem_of_getElem? hi20b)).blk)) hm24) ?_
 rintro e w ⟨rfl, hN⟩; refine ⟨_, rfl, ?_⟩; obtain ⟨hB, hS⟩ := hS.jn hN
 refine Zg ?_
 refine Z6 hB ?_
 refine Zr [false, false, false, false, false, false, false, false, false, true] (by decide +kernel) PFC.h ?_
 refine LtK.put rfl rfl rfl (Yo rfl) ?_
 refine LtK.nil ?_
 refine Ye (by kernel_rfl) ?_
 refine Zc hK12 ?_
 refine Z1 rfl (fun hb => ?_) (fun hb => ?_)
 rotate_left
 ·replace H := Zp H hb
  refine Zs ?_
  refine Z4 ?_
  refine Zc hK11 ?_
  refine Zf ?_
  refine Zb 1 rfl ?_
  refine Za rfl rfl rfl (X8 rfl rfl) ?_
  refine Zb 1 rfl ?_
  refine Zg ?_
  exact X9 (n, v7, (IntKind.wrap .i64 (v8 + 1))) (by repeat (first | exact Sub.nil | refine Sub.cons rfl ?_)) ⟨hS, H⟩ (Nat.lt_succ_self _)
 replace H := Zo H hb
 refine Zd (fun K hK25 => ?_)
 refine Zf ?_
 refine Zb 1 rfl ?_
 refine Zg ?_
 refine Zc hK25 ?_
 refine Zk ?_
 refine Zz ?_
 refine Zj ?_
 refine Zj ?_
 refine Zz ?_
 refine Zj ?_
 refine Zm rfl (RV.tmp rfl RV.nil) rfl ?_
 obtain rfl := QJ H
 replace hS := hS.cut 0
 exact ⟨rfl, hS⟩
theorem Zf8 (x0 : Int) (w0 : World) {r : Bool} (H : Za4 x0 = some r) : Calls Tryz.prog 85 #[.int .i64 x0] w0 fun e w' => e = .returned (.bool r) ∧ St0 All w0 w' [] := by
 unfold Za4 at H
 refine Yh Tryz.func85 rfl Tryz.ntmps85 rfl ?_
 have hS := St0.start All w0
 refine Zd (fun K hK1 => ?_)
 refine Zf ?_
 refine Zb 1 rfl ?_
 refine Zg ?_
 refine Zc hK1 ?_
 refine Zd (fun K hK2 => ?_)
 refine Zf ?_
 refine Zb 1 rfl ?_
 refine Za rfl rfl rfl (Zcz rfl rfl) ?_
 refine Zb 1 rfl ?_
 refine Zq 5 rfl (fun hb => ?_) (fun hb => ?_)
 rotate_left
 ·replace H := Zp H hb
  refine Zb 4 rfl ?_
  refine Zg ?_
  refine Zc hK2 ?_
  refine Zk ?_
  refine Zm rfl (RV.tmp rfl RV.nil) rfl ?_
  obtain rfl := QJ H
  replace hS := hS.cut 0
  exact ⟨rfl, hS⟩
 replace H := Zo H hb
 refine Zb 1 rfl ?_
 refine Za rfl rfl rfl (Zdj rfl rfl) ?_
 refine Zb 2 rfl ?_
 refine Zg ?_
 refine Zc hK2 ?_
 refine Zk ?_
 refine Zm rfl (RV.tmp rfl RV.nil) rfl ?_
 obtain rfl := QJ H
 replace hS := hS.cut 0
 exact ⟨rfl, hS⟩
theorem c_ref20_entries (x0 : Ms) (A0_ : OA) (c0_ : Nat) (w0 : World) (s0_ : SlI w0 V3 A0_ c0_ x0.entries) {r : Bool} (H : Zcf x0 = some r) : Calls Tryz.prog 86 #[.agg #[.int .u8 x0.kind, .int .i64 x0.frm, .int .i64 x0.dst, .int .i64 x0.term, .int .i64 x0.cap, .int .i64 x0.last, .int .i64 x0.lastTerm, .int .i64 x0.commit, .bool x0.okk, .slice A0_ x0.entries.length c0_, .int .i64 x0.snap.index, .int .i64 x0.snap.term, .int .i64 x0.snap.sum, .int .i64 x0.snap.level, .bool x0.snap.final]] w0 fun e w' => e = .returned (.bool r) ∧ St0 All w0 w' [] := by
 unfold Zcf at H
 refine Yh Tryz.func86 rfl Tryz.ntmps86 rfl ?_
 have hS := St0.start All w0
 refine Zd (fun K hK1 => ?_)
 refine Zf ?_
 refine Z7 rfl rfl rfl CellsOf.agg hS (fun b2 w hS hB => ?_)
 refine Zb 1 rfl ?_
 refine Zg ?_
 refine Zc hK1 ?_
 refine Zd (fun K hK4 => ?_)
 refine Zf ?_
 refine Za rfl rfl rfl (Ze Ze2 rfl) ?_
 refine Za rfl rfl rfl (Zh Z3 rfl (Zhe _) hS hs0 trivial Ze9) ?_
 refine Zb 1 rfl ?_
 refine Zg ?_
 refine Zc hK4 ?_
 refine Zd (fun K hK5 => ?_)
 refine Zd (fun K hK6 => ?_)
 refine Zf ?_
 refine Zb 1 rfl ?_
 refine Zg ?_
 refine Zc hK6 ?_
 refine Yc ?_
 refine V7 (X := Nat × Bool × Int × Int) (fun x => (1, .pointer (some ⟨b2, 0, none⟩)) :: (2, .bool x.2.1) :: (3, .int .i64 x.2.2.1) :: (4, .int .i64 x.2.2.2) :: []) (fun x w => St0 All w0 w (.box b2 [.int .u8 x0.kind, .int .i64 x0.frm, .int .i64 x0.dst, .int .i64 x0.term, .int .i64 x0.cap, .int .i64 x0.last, .int .i64 x0.lastTerm, .int .i64 x0.commit, .bool x0.okk, .slice A0_ x0.entries.length c0_, .int .i64 x0.snap.index, .int .i64 x0.snap.term, .int .i64 x0.snap.sum, .int .i64 x0.snap.level, .bool x0.snap.final] 32 :: []) ∧ V4 x0 x.1 x.2.1 x.2.2.1 x.2.2.2 = some r) (fun x => x.1) (Xw, false, x0.lastTerm, 0) (by repeat (first | exact Sub.nil | refine Sub.cons rfl ?_)) ⟨hS, H⟩ ?_
 rintro ⟨n, v7, v8, v9⟩ w ⟨hS, H⟩
 dsimp only at hS H ⊢
 obtain _ | n := n
 ·have H0 : none = some r := H
  cases H0
 rw [V4] at H
 refine Zd (fun K hK10 => ?_)
 refine Zd (fun K hK11 => ?_)
 refine Zf ?_
 refine Zb 1 rfl ?_
 refine Za rfl rfl rfl (Ze Zbg rfl) ?_
 refine Za rfl rfl rfl (Zh Vm rfl (Zhe _) hS hs0 trivial Zfr) ?_
 refine Za rfl rfl rfl (Yz Xq rfl) ?_
 refine Za rfl rfl rfl (Xk rfl rfl) ?_
 refine Zg ?_
 refine Zc hK11 ?_
 refine Z1 rfl (fun hb => ?_) (fun hb => ?_)
 rotate_left
 ·replace H := Zp H hb
  refine X0 ?_
  refine Z9 ?_
  refine Z9 ?_
  refine Yy ?_
  refine Zc hK5 ?_
  refine Zd (fun K hK32 => ?_)
  refine Zf ?_
  refine Za rfl rfl rfl (Ze Zbg rfl) ?_
  refine Za rfl rfl rfl (Zh Vm rfl (Zhe _) hS hs0 trivial Zfr) ?_
  refine Za rfl rfl rfl (Yz Xq rfl) ?_
  refine Za rfl rfl rfl (Zdj rfl rfl) ?_
  refine Zb 1 rfl ?_
  refine Zg ?_
  refine Zc hK32 ?_
  refine Zk ?_
  refine Zm rfl (RV.tmp rfl RV.nil) rfl ?_
  obtain rfl := QJ H
  replace hS := hS.cut 0
  exact ⟨rfl, hS⟩
 replace H := Zo H hb
 refine Zs ?_
 refine Zc hK10 ?_
 refine Zd (fun K hK12 => ?_)
 refine Yc ?_
 refine Zd (fun K hK13 => ?_)
 refine Zd (fun K hK14 => ?_)
 refine Yn 28 [] (fun _ _ => True) ⟨by kernel_rfl, by kernel_rfl⟩ hS (fun w hS hB => ?_)
 refine Zr [true, true, true, true, true] (by decide +kernel) PFC.h ?_
 refine LtK.put rfl rfl rfl (Ze Zbg rfl) ?_
 refine LtK.put rfl rfl rfl (Zh Vm rfl (Zhf _) hS hs0 trivial Zfr) ?_
 refine LtK.put rfl rfl rfl (Zy rfl) ?_
 obtain ⟨e15, hi17, H⟩ := bind_some H
 obtain ⟨j16, hi17a, hi17b, hi17c⟩ := Y0 hi17
 refine LtK.put rfl rfl rfl (Xh Xq rfl rfl hi17a hi17c (Rd.el (hS.rd0 s0_.rd) Vj hi17b)) ?_
 refine LtK.put rfl rfl rfl (Zdz Zbw rfl (Zhf _) (Rd.el (hS.rd0 s0_.rd) Vj hi17b) Zep) ?_
 refine LtK.nil ?_
 refine Z5 [false, false, false, false, false, true] 5 ⟨by decide, by kernel_rfl, by kernel_rfl⟩ rfl rfl ?_
 try dsimp only [Zw]
 obtain ⟨r18, hm19, H⟩ := bind_some H
 refine Zn rfl rfl rfl rfl (by kernel_rfl) rfl (Zgx e15 _ hm19) ?_
 rintro e w ⟨rfl, hN⟩; refine ⟨_, rfl, ?_⟩; obtain ⟨hB, hS⟩ := hS.jn hN
 refine Zg ?_
 refine Z6 hB ?_
 refine Zr [false, false, false, false, false, false, true, true] (by decide +kernel) PFC.h ?_
 refine LtK.put rfl rfl rfl (Yo rfl) ?_
 refine LtK.put rfl rfl rfl (Zy rfl) ?_
 refine LtK.nil ?_
 refine Zc3 21 rfl (fun hb => ?_) (fun hb => ?_)
 ·replace H := Zo H hb
  refine Zr [false, false, false, false, false, false, false, false, true, true, true, true, true, true, true, true, true, true, true, true, true, true, true, true, true, true, true, true] (by decide +kernel) PFC.h ?_
  refine LtK.skip rfl rfl rfl ?_
  refine LtK.skip rfl rfl rfl ?_
  refine LtK.skip rfl rfl rfl ?_
  refine LtK.skip rfl rfl rfl ?_
  refine LtK.skip rfl rfl rfl ?_
  refine LtK.skip rfl rfl rfl ?_
  refine LtK.skip rfl rfl rfl ?_
  refine LtK.skip rfl rfl rfl ?_
  refine LtK.put rfl rfl rfl (Xf rfl rfl rfl) ?_
  refine LtK.put rfl rfl rfl (Zy rfl) ?_
  refine LtK.skip rfl rfl rfl ?_
  refine LtK.skip rfl rfl rfl ?_
  refine LtK.skip rfl rfl rfl ?_
  refine LtK.skip rfl rfl rfl ?_
  refine LtK.skip rfl rfl rfl ?_
  refine LtK.skip rfl rfl rfl ?_
  refine LtK.skip rfl rfl rfl ?_
  refine LtK.skip rfl rfl rfl ?_
  refine LtK.skip rfl rfl rfl ?_
  refine LtK.put rfl rfl rfl (Xf rfl rfl rfl) ?_
  refine LtK.nil ?_
  refine Ye (by kernel_rfl) ?_
  refine Zc hK14 ?_
  refine Zu rfl rfl ?_
  refine Zd (fun K hK20 => ?_)
  refine Zf ?_
  refine Zb 1 rfl ?_
  refine Zg ?_
  refine Zc hK20 ?_
  refine Zk ?_
  refine Zj ?_
  refine Zz ?_
  refine Zj ?_
  refine Zj ?_
  refine Zz ?_
  refine Zj ?_
  refine Zm rfl (RV.tmp rfl RV.nil) rfl ?_
  obtain rfl := QJ H
  replace hS := hS.cut 0
  exact ⟨rfl, hS⟩
 replace H := Zp H hb
 refine Zr [false, false, false, false, false, false, false, false, true, true, true, true, true, true, true, true, true, true] (by decide +kernel) PFC.h ?_
 refine LtK.put rfl rfl rfl (Ze Zbg rfl) ?_
 refine LtK.put rfl rfl rfl (Zh Vm rfl (Zhf _) hS hs0 trivial Zfr) ?_
 refine LtK.put rfl rfl rfl (Zy rfl) ?_
 obtain ⟨e21, hi23, H⟩ := bind_some H
 obtain ⟨j22, hi23a, hi23b, hi23c⟩ := Y0 hi23
 refine LtK.put rfl rfl rfl (Xh Xq rfl rfl hi23a hi23c (Rd.el (hS.rd0 s0_.rd) Vj hi23b)) ?_
 refine LtK.put rfl rfl rfl (Zb9 Zcp rfl (Rd.el (hS.rd0 s0_.rd) Vj hi23b)) ?_
 refine LtK.put rfl rfl rfl (Zap Z3 rfl (Zhf _) (Rd.el (hS.rd0 s0_.rd) Vj hi23b) rfl) ?_
 refine LtK.put rfl rfl rfl (Zy rfl) ?_
 refine LtK.put rfl rfl rfl (Xk rfl rfl) ?_
 refine LtK.put rfl rfl rfl (Xd rfl rfl rfl) ?_
 refine LtK.put rfl rfl rfl (Zy rfl) ?_
 refine LtK.nil ?_
 refine Zc3 31 rfl (fun hb => ?_) (fun hb => ?_)
 ·replace H := Zo H hb
  refine Zr [false, false, false, false, false, false, false, false, false, false, false, false, false, false, false, false, false, false, true, true, true, true, true, true, true, true, true, true] (by decide +kernel) PFC.h ?_
  refine LtK.skip rfl rfl rfl ?_
  refine LtK.skip rfl rfl rfl ?_
  refine LtK.skip rfl rfl rfl ?_
  refine LtK.skip rfl rfl rfl ?_
  refine LtK.skip rfl rfl rfl ?_
  refine LtK.skip rfl rfl rfl ?_
  refine LtK.skip rfl rfl rfl ?_
  refine LtK.skip rfl rfl rfl ?_
  refine LtK.skip rfl rfl rfl ?_
  refine LtK.put rfl rfl rfl (Xf rfl rfl rfl) ?_
  refine LtK.nil ?_
  refine Ye (by kernel_rfl) ?_
  refine Zc hK14 ?_
  refine Zu rfl rfl ?_
  refine Zd (fun K hK24 => ?_)
  refine Zf ?_
  refine Zb 1 rfl ?_
  refine Zg ?_
  refine Zc hK24 ?_
  refine Zk ?_
  refine Zj ?_
  refine Zz ?_
  refine Zj ?_
  refine Zj ?_
  refine Zz ?_
  refine Zj ?_
  refine Zm rfl (RV.tmp rfl RV.nil) rfl ?_
  obtain rfl := QJ H
  replace hS := hS.cut 0
  exact ⟨rfl, hS⟩
 replace H := Zp H hb
 refine Zr [false, false, false, false, false, false, false, false, false, false, false, false, false, false, false, false, false, false, true, true, true, true, true, true, true, true, true, true] (by decide +kernel) PFC.h ?_
 refine LtK.put rfl rfl rfl (Ze Zbg rfl) ?_
 refine LtK.put rfl rfl rfl (Zh Vm rfl (Zhf _) hS hs0 trivial Zfr) ?_
 refine LtK.put rfl rfl rfl (Zy rfl) ?_
 obtain ⟨e25, hi27, H⟩ := bind_some H
 obtain ⟨j26, hi27a, hi27b, hi27c⟩ := Y0 hi27
 refine LtK.put rfl rfl rfl (Xh Xq rfl rfl hi27a hi27c (Rd.el (hS.rd0 s0_.rd) Vj hi27b)) ?_
 refine LtK.put rfl rfl rfl (Zb9 Zcp rfl (Rd.el (hS.rd0 s0_.rd) Vj hi27b)) ?_
 refine LtK.put rfl rfl rfl (Zap Z3 rfl (Zhf _) (Rd.el (hS.rd0 s0_.rd) Vj hi27b) rfl) ?_
 refine LtK.put rfl rfl rfl (Ze Js rfl) ?_
 refine LtK.put rfl rfl rfl (Zh Z3 rfl (Zhf _) hS hs0 trivial Jb) ?_
 refine LtK.put rfl rfl rfl (Y7 rfl rfl) ?_
 refine LtK.put rfl rfl rfl (Xd rfl rfl rfl) ?_
 refine LtK.nil ?_
 refine Ye (by kernel_rfl) ?_
 refine Zc hK14 ?_
 refine Z1 rfl (fun hb => ?_) (fun hb => ?_)
 ·replace H := Zo H hb
  refine Zd (fun K hK28 => ?_)
  refine Zf ?_
  refine Zb 1 rfl ?_
  refine Zg ?_
  refine Zc hK28 ?_
  refine Zk ?_
  refine Zj ?_
  refine Zz ?_
  refine Zj ?_
  refine Zj ?_
  refine Zz ?_
  refine Zj ?_
  refine Zm rfl (RV.tmp rfl RV.nil) rfl ?_
  obtain rfl := QJ H
  replace hS := hS.cut 0
  exact ⟨rfl, hS⟩
 replace H := Zp H hb
 refine Zs ?_
 refine Zc hK13 ?_
 refine Zf ?_
 refine Za rfl rfl rfl (Ze Zbg rfl) ?_
 refine Za rfl rfl rfl (Zh Vm rfl (Zhe _) hS hs0 trivial Zfr) ?_
 refine Zb 1 rfl ?_
 obtain ⟨e29, hi31, H⟩ := bind_some H
 obtain ⟨j30, hi31a, hi31b, hi31c⟩ := Y0 hi31
 refine Za rfl rfl rfl (Xh Xq rfl rfl hi31a hi31c (Rd.el (hS.rd0 s0_.rd) Vj hi31b)) ?_
 refine Za rfl rfl rfl (Zb9 Zcp rfl (Rd.el (hS.rd0 s0_.rd) Vj hi31b)) ?_
 refine Za rfl rfl rfl (Zap Z3 rfl (Zhe _) (Rd.el (hS.rd0 s0_.rd) Vj hi31b) rfl) ?_
 refine Zb 1 rfl ?_
 refine Zg ?_
 refine Z4 ?_
 refine Zc hK12 ?_
 refine Zf ?_
 refine Zb 1 rfl ?_
 refine Za rfl rfl rfl (X8 rfl rfl) ?_
 refine Zb 1 rfl ?_
 refine Zg ?_
 exact X9 (n, v7, e29.term, (IntKind.wrap .i64 (v9 + 1))) (by repeat (first | exact Sub.nil | refine Sub.cons rfl ?_)) ⟨hS, H⟩ (Nat.lt_succ_self _)
theorem c_ref20_Fine (x0 : Ms) (x1 : Int) (A0_ : OA) (c0_ : Nat) (w0 : World) (s0_ : SlI w0 V3 A0_ c0_ x0.entries) {r : Bool} (H : Zda x0 x1 = some r) : Calls Tryz.prog 42 #[.agg #[.int .u8 x0.kind, .int .i64 x0.frm, .int .i64 x0.dst, .int .i64 x0.term, .int .i64 x0.cap, .int .i64 x0.last, .int .i64 x0.lastTerm, .int .i64 x0.commit, .bool x0.okk, .slice A0_ x0.entries.length c0_, .int .i64 x0.snap.index, .int .i64 x0.snap.term, .int .i64 x0.snap.sum, .int .i64 x0.snap.level, .bool x0.snap.final], .int .i64 x1] w0 fun e w' => e = .returned (.bool r) ∧ St0 All w0 w' [] := by
 unfold Zda at H
 refine Ys Tryz.func42 rfl Tryz.ntmps42 rfl ?_
 have hS := St0.start All w0
 refine Zd (fun K hK1 => ?_)
 refine Zf ?_
 refine Z7 rfl rfl rfl CellsOf.agg hS (fun b2 w hS hB => ?_)
 refine Zb 1 rfl ?_
 refine Zg ?_
 refine Zc hK1 ?_
 refine Zd (fun K hK4 => ?_)
 refine Zd (fun K hK5 => ?_)
 refine Zf ?_
 refine Zb 1 rfl ?_
 refine Za rfl rfl rfl (Xk rfl rfl) ?_
 refine Zb 1 rfl ?_
 refine Zq 7 rfl (fun hb => ?_) (fun hb => ?_)
 ·replace H := Zo H hb
  refine Zb 62 rfl ?_
  refine Zg ?_
  refine Zc hK5 ?_
  refine Zu rfl rfl ?_
  refine Zd (fun K hK6 => ?_)
  refine Zf ?_
  refine Zb 1 rfl ?_
  refine Zg ?_
  refine Zc hK6 ?_
  refine Zk ?_
  refine Zj ?_
  refine Zm rfl (RV.tmp rfl RV.nil) rfl ?_
  obtain rfl := QJ H
  replace hS := hS.cut 0
  exact ⟨rfl, hS⟩
 replace H := Zp H hb
 refine Zb 1 rfl ?_
 refine Za rfl rfl rfl (Y7 rfl rfl) ?_
 refine Zb 2 rfl ?_
 refine Zq 11 rfl (fun hb => ?_) (fun hb => ?_)
 ·replace H := Zo H hb
  refine Zb 58 rfl ?_
  refine Zg ?_
  refine Zc hK5 ?_
  refine Zu rfl rfl ?_
  refine Zd (fun K hK7 => ?_)
  refine Zf ?_
  refine Zb 1 rfl ?_
  refine Zg ?_
  refine Zc hK7 ?_
  refine Zk ?_
  refine Zj ?_
  refine Zm rfl (RV.tmp rfl RV.nil) rfl ?_
  obtain rfl := QJ H
  replace hS := hS.cut 0
  exact ⟨rfl, hS⟩
 replace H := Zp H hb
 refine Za rfl rfl rfl (Ze Zaf rfl) ?_
 refine Za rfl rfl rfl (Zh Z3 rfl (Zhe _) hS hs0 trivial Xu) ?_
 refine Za rfl rfl rfl (Xk rfl rfl) ?_
 refine Zb 2 rfl ?_
 refine Zq 16 rfl (fun hb => ?_) (fun hb => ?_)
 ·replace H := Zo H hb
  refine Zb 53 rfl ?_
  refine Zg ?_
  refine Zc hK5 ?_
  refine Zu rfl rfl ?_
  refine Zd (fun K hK8 => ?_)
  refine Zf ?_
  refine Zb 1 rfl ?_
  refine Zg ?_
  refine Zc hK8 ?_
  refine Zk ?_
  refine Zj ?_
  refine Zm rfl (RV.tmp rfl RV.nil) rfl ?_
  obtain rfl := QJ H
  replace hS := hS.cut 0
  exact ⟨rfl, hS⟩
 replace H := Zp H hb
 refine Za rfl rfl rfl (Ze Zaf rfl) ?_
 refine Za rfl rfl rfl (Zh Z3 rfl (Zhe _) hS hs0 trivial Xu) ?_
 refine Zb 1 rfl ?_
 refine Za rfl rfl rfl (Y7 rfl rfl) ?_
 refine Zb 2 rfl ?_
 refine Zq 22 rfl (fun hb => ?_) (fun hb => ?_)
 ·replace H := Zo H hb
  refine Zb 47 rfl ?_
  refine Zg ?_
  refine Zc hK5 ?_
  refine Zu rfl rfl ?_
  refine Zd (fun K hK9 => ?_)
  refine Zf ?_
  refine Zb 1 rfl ?_
  refine Zg ?_
  refine Zc hK9 ?_
  refine Zk ?_
  refine Zj ?_
  refine Zm rfl (RV.tmp rfl RV.nil) rfl ?_
  obtain rfl := QJ H
  replace hS := hS.cut 0
  exact ⟨rfl, hS⟩
 replace H := Zp H hb
 refine Za rfl rfl rfl (Ze Zdd rfl) ?_
 refine Za rfl rfl rfl (Zh Z3 rfl (Zhe _) hS hs0 trivial Jt) ?_
 refine Za rfl rfl rfl (Xk rfl rfl) ?_
 refine Zb 2 rfl ?_
 refine Zq 27 rfl (fun hb => ?_) (fun hb => ?_)
 ·replace H := Zo H hb
  refine Zb 42 rfl ?_
  refine Zg ?_
  refine Zc hK5 ?_
  refine Zu rfl rfl ?_
  refine Zd (fun K hK10 => ?_)
  refine Zf ?_
  refine Zb 1 rfl ?_
  refine Zg ?_
  refine Zc hK10 ?_
  refine Zk ?_
  refine Zj ?_
  refine Zm rfl (RV.tmp rfl RV.nil) rfl ?_
  obtain rfl := QJ H
  replace hS := hS.cut 0
  exact ⟨rfl, hS⟩
 replace H := Zp H hb
 refine Za rfl rfl rfl (Ze Zdd rfl) ?_
 refine Za rfl rfl rfl (Zh Z3 rfl (Zhe _) hS hs0 trivial Jt) ?_
 refine Zb 1 rfl ?_
 refine Za rfl rfl rfl (Y7 rfl rfl) ?_
 refine Zb 2 rfl ?_
 refine Zq 33 rfl (fun hb => ?_) (fun hb => ?_)
 ·replace H := Zo H hb
  refine Zb 36 rfl ?_
  refine Zg ?_
  refine Zc hK5 ?_
  refine Zu rfl rfl ?_
  refine Zd (fun K hK11 => ?_)
  refine Zf ?_
  refine Zb 1 rfl ?_
  refine Zg ?_
  refine Zc hK11 ?_
  refine Zk ?_
  refine Zj ?_
  refine Zm rfl (RV.tmp rfl RV.nil) rfl ?_
  obtain rfl := QJ H
  replace hS := hS.cut 0
  exact ⟨rfl, hS⟩
 replace H := Zp H hb
 refine Za rfl rfl rfl (Ze Zaf rfl) ?_
 refine Za rfl rfl rfl (Zh Z3 rfl (Zhe _) hS hs0 trivial Xu) ?_
 refine Za rfl rfl rfl (Ze Zdd rfl) ?_
 refine Za rfl rfl rfl (Zh Z3 rfl (Zhe _) hS hs0 trivial Jt) ?_
 refine Za rfl rfl rfl (Yr rfl rfl) ?_
 refine Zb 2 rfl ?_
 refine Zq 40 rfl (fun hb => ?_) (fun hb => ?_)
 ·replace H := Zo H hb
  refine Zb 29 rfl ?_
  refine Zg ?_
  refine Zc hK5 ?_
  refine Zu rfl rfl ?_
  refine Zd (fun K hK12 => ?_)
  refine Zf ?_
  refine Zb 1 rfl ?_
  refine Zg ?_
  refine Zc hK12 ?_
  refine Zk ?_
  refine Zj ?_
  refine Zm rfl (RV.tmp rfl RV.nil) rfl ?_
  obtain rfl := QJ H
  replace hS := hS.cut 0
  exact ⟨rfl, hS⟩
 replace H := Zp H hb
 refine Za rfl rfl rfl (Ze Vc rfl) ?_
 refine Za rfl rfl rfl (Zh Zas rfl (Zhe _) hS hs0 trivial Yx) ?_
 refine Za rfl rfl rfl (Xk rfl rfl) ?_
 refine Zb 2 rfl ?_
 refine Zq 45 rfl (fun hb => ?_) (fun hb => ?_)
 ·replace H := Zo H hb
  refine Zb 24 rfl ?_
  refine Zg ?_
  refine Zc hK5 ?_
  refine Zu rfl rfl ?_
  refine Zd (fun K hK13 => ?_)
  refine Zf ?_
  refine Zb 1 rfl ?_
  refine Zg ?_
  refine Zc hK13 ?_
  refine Zk ?_
  refine Zj ?_
  refine Zm rfl (RV.tmp rfl RV.nil) rfl ?_
  obtain rfl := QJ H
  replace hS := hS.cut 0
  exact ⟨rfl, hS⟩
 replace H := Zp H hb
 refine Za rfl rfl rfl (Ze Vc rfl) ?_
 refine Za rfl rfl rfl (Zh Zas rfl (Zhe _) hS hs0 trivial Yx) ?_
 refine Za rfl rfl rfl (Zcz rfl rfl) ?_
 refine Zb 2 rfl ?_
 refine Zq 50 rfl (fun hb => ?_) (fun hb => ?_)
 ·replace H := Zo H hb
  refine Zb 19 rfl ?_
  refine Zg ?_
  refine Zc hK5 ?_
  refine Zu rfl rfl ?_
  refine Zd (fun K hK14 => ?_)
  refine Zf ?_
  refine Zb 1 rfl ?_
  refine Zg ?_
  refine Zc hK14 ?_
  refine Zk ?_
  refine Zj ?_
  refine Zm rfl (RV.tmp rfl RV.nil) rfl ?_
  obtain rfl := QJ H
  replace hS := hS.cut 0
  exact ⟨rfl, hS⟩
 replace H := Zp H hb
 refine Za rfl rfl rfl (Ze Js rfl) ?_
 refine Za rfl rfl rfl (Zh Z3 rfl (Zhe _) hS hs0 trivial Jb) ?_
 refine Za rfl rfl rfl (Xk rfl rfl) ?_
 refine Zb 2 rfl ?_
 refine Zq 55 rfl (fun hb => ?_) (fun hb => ?_)
 ·replace H := Zo H hb
  refine Zb 14 rfl ?_
  refine Zg ?_
  refine Zc hK5 ?_
  refine Zu rfl rfl ?_
  refine Zd (fun K hK15 => ?_)
  refine Zf ?_
  refine Zb 1 rfl ?_
  refine Zg ?_
  refine Zc hK15 ?_
  refine Zk ?_
  refine Zj ?_
  refine Zm rfl (RV.tmp rfl RV.nil) rfl ?_
  obtain rfl := QJ H
  replace hS := hS.cut 0
  exact ⟨rfl, hS⟩
 replace H := Zp H hb
 refine Za rfl rfl rfl (Ze Js rfl) ?_
 refine Za rfl rfl rfl (Zh Z3 rfl (Zhe _) hS hs0 trivial Jb) ?_
 refine Za rfl rfl rfl (Y7 rfl rfl) ?_
 refine Zb 2 rfl ?_
 refine Zq 60 rfl (fun hb => ?_) (fun hb => ?_)
 ·replace H := Zo H hb
  refine Zb 9 rfl ?_
  refine Zg ?_
  refine Zc hK5 ?_
  refine Zu rfl rfl ?_
  refine Zd (fun K hK16 => ?_)
  refine Zf ?_
  refine Zb 1 rfl ?_
  refine Zg ?_
  refine Zc hK16 ?_
  refine Zk ?_
  refine Zj ?_
  refine Zm rfl (RV.tmp rfl RV.nil) rfl ?_
  obtain rfl := QJ H
  replace hS := hS.cut 0
  exact ⟨rfl, hS⟩
 replace H := Zp H hb
 refine Za rfl rfl rfl (Ze Zfw rfl) ?_
 refine Za rfl rfl rfl (Zh Z3 rfl (Zhe _) hS hs0 trivial Zg7) ?_
 refine Za rfl rfl rfl (Xk rfl rfl) ?_
 refine Zb 2 rfl ?_
 refine Zq 65 rfl (fun hb => ?_) (fun hb => ?_)
 ·replace H := Zo H hb
  refine Zb 4 rfl ?_
  refine Zg ?_
  refine Zc hK5 ?_
  refine Zu rfl rfl ?_
  refine Zd (fun K hK17 => ?_)
  refine Zf ?_
  refine Zb 1 rfl ?_
  refine Zg ?_
  refine Zc hK17 ?_
  refine Zk ?_
  refine Zj ?_
  refine Zm rfl (RV.tmp rfl RV.nil) rfl ?_
  obtain rfl := QJ H
  replace hS := hS.cut 0
  exact ⟨rfl, hS⟩
 replace H := Zp H hb
 refine Za rfl rfl rfl (Ze Zfw rfl) ?_
 refine Za rfl rfl rfl (Zh Z3 rfl (Zhe _) hS hs0 trivial Zg7) ?_
 refine Za rfl rfl rfl (Y7 rfl rfl) ?_
 refine Zb 1 rfl ?_
 refine Zg ?_
 refine Zc hK5 ?_
 refine Z1 rfl (fun hb => ?_) (fun hb => ?_)
 ·replace H := Zo H hb
  refine Zd (fun K hK18 => ?_)
  refine Zf ?_
  refine Zb 1 rfl ?_
  refine Zg ?_
  refine Zc hK18 ?_
  refine Zk ?_
  refine Zj ?_
  refine Zm rfl (RV.tmp rfl RV.nil) rfl ?_
  obtain rfl := QJ H
  replace hS := hS.cut 0
  exact ⟨rfl, hS⟩
 replace H := Zp H hb
 refine Zs ?_
 refine Zc hK4 ?_
 refine Zd (fun K hK19 => ?_)
 refine Zd (fun K hK20 => ?_)
 refine Zf ?_
 refine Za rfl rfl rfl (Ze Zgl rfl) ?_
 refine Za rfl rfl rfl (Zh Z3 rfl (Zhe _) hS hs0 trivial Zcq) ?_
 obtain ⟨r21, hm22, H⟩ := bind_some H
 refine Zn rfl rfl rfl rfl (by kernel_rfl) rfl (Zf8 x0.last _ hm22) ?_
 rintro e w ⟨rfl, hN⟩; refine ⟨_, rfl, ?_⟩; obtain ⟨hB, hS⟩ := hS.jn hN
 refine Za rfl rfl rfl (Yo rfl) ?_
 refine Zb 1 rfl ?_
 refine Zq 74 rfl (fun hb => ?_) (fun hb => ?_)
 ·replace H := Zo H hb
  refine Zb 16 rfl ?_
  refine Zg ?_
  refine Zc hK20 ?_
  refine Zu rfl rfl ?_
  refine Zd (fun K hK23 => ?_)
  refine Zf ?_
  refine Zb 1 rfl ?_
  refine Zg ?_
  refine Zc hK23 ?_
  refine Zk ?_
  refine Zj ?_
  refine Zm rfl (RV.tmp rfl RV.nil) rfl ?_
  obtain rfl := QJ H
  replace hS := hS.cut 0
  exact ⟨rfl, hS⟩
 replace H := Zp H hb
 refine Za rfl rfl rfl (Ze Ze2 rfl) ?_
 refine Za rfl rfl rfl (Zh Z3 rfl (Zhe _) hS hs0 trivial Ze9) ?_
 obtain ⟨r24, hm25, H⟩ := bind_some H
 refine Zn rfl rfl rfl rfl (by kernel_rfl) rfl (Zf8 x0.lastTerm _ hm25) ?_
 rintro e w ⟨rfl, hN⟩; refine ⟨_, rfl, ?_⟩; obtain ⟨hB, hS⟩ := hS.jn hN
 refine Za rfl rfl rfl (Yo rfl) ?_
 refine Zb 2 rfl ?_
 refine Zq 80 rfl (fun hb => ?_) (fun hb => ?_)
 ·replace H := Zo H hb
  refine Zb 10 rfl ?_
  refine Zg ?_
  refine Zc hK20 ?_
  refine Zu rfl rfl ?_
  refine Zd (fun K hK26 => ?_)
  refine Zf ?_
  refine Zb 1 rfl ?_
  refine Zg ?_
  refine Zc hK26 ?_
  refine Zk ?_
  refine Zj ?_
  refine Zm rfl (RV.tmp rfl RV.nil) rfl ?_
  obtain rfl := QJ H
  replace hS := hS.cut 0
  exact ⟨rfl, hS⟩
 replace H := Zp H hb
 refine Za rfl rfl rfl (Ze fo_32_7 rfl) ?_
 refine Za rfl rfl rfl (Zh Z3 rfl (Zhe _) hS hs0 trivial sg7_1) ?_
 obtain ⟨r27, hm28, H⟩ := bind_some H
 refine Zn rfl rfl rfl rfl (by kernel_rfl) rfl (Zf8 x0.commit _ hm28) ?_
 rintro e w ⟨rfl, hN⟩; refine ⟨_, rfl, ?_⟩; obtain ⟨hB, hS⟩ := hS.jn hN
 refine Za rfl rfl rfl (Yo rfl) ?_
 refine Zb 2 rfl ?_
 refine Zq 86 rfl (fun hb => ?_) (fun hb => ?_)
 ·replace H := Zo H hb
  refine Zb 4 rfl ?_
  refine Zg ?_
  refine Zc hK20 ?_
  refine Zu rfl rfl ?_
  refine Zd (fun K hK29 => ?_)
  refine Zf ?_
  refine Zb 1 rfl ?_
  refine Zg ?_
  refine Zc hK29 ?_
  refine Zk ?_
  refine Zj ?_
  refine Zm rfl (RV.tmp rfl RV.nil) rfl ?_
  obtain rfl := QJ H
  replace hS := hS.cut 0
  exact ⟨rfl, hS⟩
 replace H := Zp H hb
 refine Za rfl rfl rfl (Zi Va rfl (Zhe _) hS hs0 trivial Xg) ?_
 obtain ⟨r30, hm31, H⟩ := bind_some H
 refine Zn rfl rfl rfl rfl (by kernel_rfl) rfl (c_ref20_entries x0 A0_ c0_ _ (Zhh s0_.k (hS.rd0 s0_.rd) (hS.blk0 s0_.blk)) hm31) ?_
 rintro e w ⟨rfl, hN⟩; refine ⟨_, rfl, ?_⟩; obtain ⟨hB, hS⟩ := hS.jn hN
 refine Za rfl rfl rfl (Yo rfl) ?_
 refine Zb 1 rfl ?_
 refine Zg ?_
 refine Zc hK20 ?_
 refine Z1 rfl (fun hb => ?_) (fun hb => ?_)
 ·replace H := Zo H hb
  refine Zd (fun K hK32 => ?_)
  refine Zf ?_
  refine Zb 1 rfl ?_
  refine Zg ?_
  refine Zc hK32 ?_
  refine Zk ?_
  refine Zj ?_
  refine Zm rfl (RV.tmp rfl RV.nil) rfl ?_
  obtain rfl := QJ H
  replace hS := hS.cut 0
  exact ⟨rfl, hS⟩
 replace H := Zp H hb
 refine Zs ?_
 refine Zc hK19 ?_
 refine Zd (fun K hK33 => ?_)
 refine Zd (fun K hK34 => ?_)
 refine Zf ?_
 refine Za rfl rfl rfl (Ze Vc rfl) ?_
 refine Za rfl rfl rfl (Zh Zas rfl (Zhe _) hS hs0 trivial Yx) ?_
 refine Za rfl rfl rfl (Xm rfl rfl) ?_
 refine Zb 1 rfl ?_
 refine Zq 94 rfl (fun hb => ?_) (fun hb => ?_)
 rotate_left
 ·replace H := Zp H hb
  refine Zb 11 rfl ?_
  refine Za rfl rfl rfl (Ze Ze5 rfl) ?_
  refine Za rfl rfl rfl (Zh sc_4 rfl (Zhe _) hS hs0 trivial sg8_1) ?_
  refine Zb 1 rfl ?_
  refine Zq 108 rfl (fun hb => ?_) (fun hb => ?_)
  rotate_left
  ·replace H := Zp H hb
   refine Zb 10 rfl ?_
   refine Zg ?_
   refine Zc hK34 ?_
   refine Yg rfl rfl ?_
   refine Zs ?_
   refine Zc hK33 ?_
   refine Zd (fun K hK69 => ?_)
   refine Zd (fun K hK70 => ?_)
   refine Zf ?_
   refine Za rfl rfl rfl (Ze Vc rfl) ?_
   refine Za rfl rfl rfl (Zh Zas rfl (Zhe _) hS hs0 trivial Yx) ?_
   refine Za rfl rfl rfl (Yr rfl rfl) ?_
   refine Zg ?_
   refine Zc hK70 ?_
   refine Z1 rfl (fun hb => ?_) (fun hb => ?_)
   rotate_left
   ·replace H := Zp H hb
    refine Zs ?_
    refine Zc hK69 ?_
    refine Zd (fun K hK74 => ?_)
    refine Zf ?_
    refine Za rfl rfl rfl (Ze Xa rfl) ?_
    refine Za rfl rfl rfl (Zi Y3 rfl (Zhe _) hS hs0 trivial Zai) ?_
    refine Za rfl rfl rfl (Xn (cells := [.int .i64 0, .int .i64 0, .int .i64 0, .int .i64 0, .bool false]) rfl (by kernel_rfl)) ?_
    refine Za rfl rfl rfl (Zal (by kernel_rfl) rfl rfl (Za8 _ _ _ _ _ _ _ _ _ _)) ?_
    refine Zb 1 rfl ?_
    refine Zg ?_
    refine Zc hK74 ?_
    refine Zk ?_
    refine Zm rfl (RV.tmp rfl RV.nil) rfl ?_
    obtain rfl := QJ H
    replace hS := hS.cut 0
    exact ⟨rfl, hS⟩
   replace H := Zo H hb
   refine Zd (fun K hK71 => ?_)
   refine Zf ?_
   refine Za rfl rfl rfl (Ze Xa rfl) ?_
   refine Za rfl rfl rfl (Zi Y3 rfl (Zhe _) hS hs0 trivial Zai) ?_
   obtain ⟨r72, hm73, H⟩ := bind_some H
   refine Zn rfl rfl rfl rfl (by kernel_rfl) rfl (Zbd x0.snap _ hm73) ?_
   rintro e w ⟨rfl, hN⟩; refine ⟨_, rfl, ?_⟩; obtain ⟨hB, hS⟩ := hS.jn hN
   refine Zb 1 rfl ?_
   refine Zq 125 rfl (fun hb => ?_) (fun hb => ?_)
   rotate_left
   ·replace H := Zp H hb
    refine Zb 6 rfl ?_
    refine Zg ?_
    refine Zc hK71 ?_
    refine Zk ?_
    refine Zj ?_
    refine Zm rfl (RV.tmp rfl RV.nil) rfl ?_
    obtain rfl := QJ H
    replace hS := hS.cut 0
    exact ⟨rfl, hS⟩
   replace H := Zo H hb
   refine Za rfl rfl rfl (Ze Xa rfl) ?_
   refine Za rfl rfl rfl (Ze Yl rfl) ?_
   refine Za rfl rfl rfl (Zh Z3 rfl (Zhe _) hS hs0 trivial Vz) ?_
   refine Za rfl rfl rfl (Y7 rfl rfl) ?_
   refine Zb 2 rfl ?_
   refine Zg ?_
   refine Zc hK71 ?_
   refine Zk ?_
   refine Zj ?_
   refine Zm rfl (RV.tmp rfl RV.nil) rfl ?_
   obtain rfl := QJ H
   replace hS := hS.cut 0
   exact ⟨rfl, hS⟩
  replace H := Zo H hb
  refine Za rfl rfl rfl (Ze Vc rfl) ?_
  refine Za rfl rfl rfl (Zh Zas rfl (Zhe _) hS hs0 trivial Yx) ?_
  refine Za rfl rfl rfl (Xm rfl rfl) ?_
  refine Zb 2 rfl ?_
  refine Zq 113 rfl (fun hb => ?_) (fun hb => ?_)
  rotate_left
  ·replace H := Zp H hb
   refine Zb 5 rfl ?_
   refine Zg ?_
   refine Zc hK34 ?_
   refine Yg rfl rfl ?_
   refine Zs ?_
   refine Zc hK33 ?_
   refine Zd (fun K hK63 => ?_)
   refine Zd (fun K hK64 => ?_)
   refine Zf ?_
   refine Za rfl rfl rfl (Ze Vc rfl) ?_
   refine Za rfl rfl rfl (Zh Zas rfl (Zhe _) hS hs0 trivial Yx) ?_
   refine Za rfl rfl rfl (Yr rfl rfl) ?_
   refine Zg ?_
   refine Zc hK64 ?_
   refine Z1 rfl (fun hb => ?_) (fun hb => ?_)
   rotate_left
   ·replace H := Zp H hb
    refine Zs ?_
    refine Zc hK63 ?_
    refine Zd (fun K hK68 => ?_)
    refine Zf ?_
    refine Za rfl rfl rfl (Ze Xa rfl) ?_
    refine Za rfl rfl rfl (Zi Y3 rfl (Zhe _) hS hs0 trivial Zai) ?_
    refine Za rfl rfl rfl (Xn (cells := [.int .i64 0, .int .i64 0, .int .i64 0, .int .i64 0, .bool false]) rfl (by kernel_rfl)) ?_
    refine Za rfl rfl rfl (Zal (by kernel_rfl) rfl rfl (Za8 _ _ _ _ _ _ _ _ _ _)) ?_
    refine Zb 1 rfl ?_
    refine Zg ?_
    refine Zc hK68 ?_
    refine Zk ?_
    refine Zm rfl (RV.tmp rfl RV.nil) rfl ?_
    obtain rfl := QJ H
    replace hS := hS.cut 0
    exact ⟨rfl, hS⟩
   replace H := Zo H hb
   refine Zd (fun K hK65 => ?_)
   refine Zf ?_
   refine Za rfl rfl rfl (Ze Xa rfl) ?_
   refine Za rfl rfl rfl (Zi Y3 rfl (Zhe _) hS hs0 trivial Zai) ?_
   obtain ⟨r66, hm67, H⟩ := bind_some H
   refine Zn rfl rfl rfl rfl (by kernel_rfl) rfl (Zbd x0.snap _ hm67) ?_
   rintro e w ⟨rfl, hN⟩; refine ⟨_, rfl, ?_⟩; obtain ⟨hB, hS⟩ := hS.jn hN
   refine Zb 1 rfl ?_
   refine Zq 125 rfl (fun hb => ?_) (fun hb => ?_)
   rotate_left
   ·replace H := Zp H hb
    refine Zb 6 rfl ?_
    refine Zg ?_
    refine Zc hK65 ?_
    refine Zk ?_
    refine Zj ?_
    refine Zm rfl (RV.tmp rfl RV.nil) rfl ?_
    obtain rfl := QJ H
    replace hS := hS.cut 0
    exact ⟨rfl, hS⟩
   replace H := Zo H hb
   refine Za rfl rfl rfl (Ze Xa rfl) ?_
   refine Za rfl rfl rfl (Ze Yl rfl) ?_
   refine Za rfl rfl rfl (Zh Z3 rfl (Zhe _) hS hs0 trivial Vz) ?_
   refine Za rfl rfl rfl (Y7 rfl rfl) ?_
   refine Zb 2 rfl ?_
   refine Zg ?_
   refine Zc hK65 ?_
   refine Zk ?_
   refine Zj ?_
   refine Zm rfl (RV.tmp rfl RV.nil) rfl ?_
   obtain rfl := QJ H
   replace hS := hS.cut 0
   exact ⟨rfl, hS⟩
  replace H := Zo H hb
  refine Za rfl rfl rfl (Ze Vc rfl) ?_
  refine Za rfl rfl rfl (Zh Zas rfl (Zhe _) hS hs0 trivial Yx) ?_
  refine Za rfl rfl rfl (Xm rfl rfl) ?_
  refine Zb 2 rfl ?_
  refine Zg ?_
  refine Zc hK34 ?_
  refine Z1 rfl (fun hb => ?_) (fun hb => ?_)
  ·replace H := Zo H hb
   refine Zd (fun K hK56 => ?_)
   refine Zf ?_
   refine Zb 1 rfl ?_
   refine Zg ?_
   refine Zc hK56 ?_
   refine Zk ?_
   refine Zj ?_
   refine Zm rfl (RV.tmp rfl RV.nil) rfl ?_
   obtain rfl := QJ H
   replace hS := hS.cut 0
   exact ⟨rfl, hS⟩
  replace H := Zp H hb
  refine Zs ?_
  refine Zc hK33 ?_
  refine Zd (fun K hK57 => ?_)
  refine Zd (fun K hK58 => ?_)
  refine Zf ?_
  refine Za rfl rfl rfl (Ze Vc rfl) ?_
  refine Za rfl rfl rfl (Zh Zas rfl (Zhe _) hS hs0 trivial Yx) ?_
  refine Za rfl rfl rfl (Yr rfl rfl) ?_
  refine Zg ?_
  refine Zc hK58 ?_
  refine Z1 rfl (fun hb => ?_) (fun hb => ?_)
  rotate_left
  ·replace H := Zp H hb
   refine Zs ?_
   refine Zc hK57 ?_
   refine Zd (fun K hK62 => ?_)
   refine Zf ?_
   refine Za rfl rfl rfl (Ze Xa rfl) ?_
   refine Za rfl rfl rfl (Zi Y3 rfl (Zhe _) hS hs0 trivial Zai) ?_
   refine Za rfl rfl rfl (Xn (cells := [.int .i64 0, .int .i64 0, .int .i64 0, .int .i64 0, .bool false]) rfl (by kernel_rfl)) ?_
   refine Za rfl rfl rfl (Zal (by kernel_rfl) rfl rfl (Za8 _ _ _ _ _ _ _ _ _ _)) ?_
   refine Zb 1 rfl ?_
   refine Zg ?_
   refine Zc hK62 ?_
   refine Zk ?_
   refine Zm rfl (RV.tmp rfl RV.nil) rfl ?_
   obtain rfl := QJ H
   replace hS := hS.cut 0
   exact ⟨rfl, hS⟩
  replace H := Zo H hb
  refine Zd (fun K hK59 => ?_)
  refine Zf ?_
  refine Za rfl rfl rfl (Ze Xa rfl) ?_
  refine Za rfl rfl rfl (Zi Y3 rfl (Zhe _) hS hs0 trivial Zai) ?_
  obtain ⟨r60, hm61, H⟩ := bind_some H
  refine Zn rfl rfl rfl rfl (by kernel_rfl) rfl (Zbd x0.snap _ hm61) ?_
  rintro e w ⟨rfl, hN⟩; refine ⟨_, rfl, ?_⟩; obtain ⟨hB, hS⟩ := hS.jn hN
  refine Zb 1 rfl ?_
  refine Zq 125 rfl (fun hb => ?_) (fun hb => ?_)
  rotate_left
  ·replace H := Zp H hb
   refine Zb 6 rfl ?_
   refine Zg ?_
   refine Zc hK59 ?_
   refine Zk ?_
   refine Zj ?_
   refine Zm rfl (RV.tmp rfl RV.nil) rfl ?_
   obtain rfl := QJ H
   replace hS := hS.cut 0
   exact ⟨rfl, hS⟩
  replace H := Zo H hb
  refine Za rfl rfl rfl (Ze Xa rfl) ?_
  refine Za rfl rfl rfl (Ze Yl rfl) ?_
  refine Za rfl rfl rfl (Zh Z3 rfl (Zhe _) hS hs0 trivial Vz) ?_
  refine Za rfl rfl rfl (Y7 rfl rfl) ?_
  refine Zb 2 rfl ?_
  refine Zg ?_
  refine Zc hK59 ?_
  refine Zk ?_
  refine Zj ?_
  refine Zm rfl (RV.tmp rfl RV.nil) rfl ?_
  obtain rfl := QJ H
  replace hS := hS.cut 0
  exact ⟨rfl, hS⟩
 replace H := Zo H hb
 refine Za rfl rfl rfl (Ze Zbg rfl) ?_
 refine Za rfl rfl rfl (Zh Vm rfl (Zhe _) hS hs0 trivial Zfr) ?_
 refine Za rfl rfl rfl (Yz Xq rfl) ?_
 refine Za rfl rfl rfl (Y7 rfl rfl) ?_
 refine Zb 1 rfl ?_
 refine Zq 99 rfl (fun hb => ?_) (fun hb => ?_)
 ·replace H := Zo H hb
  refine Zb 19 rfl ?_
  refine Zg ?_
  refine Zc hK34 ?_
  refine Zu rfl rfl ?_
  refine Zd (fun K hK35 => ?_)
  refine Zf ?_
  refine Zb 1 rfl ?_
  refine Zg ?_
  refine Zc hK35 ?_
  refine Zk ?_
  refine Zj ?_
  refine Zm rfl (RV.tmp rfl RV.nil) rfl ?_
  obtain rfl := QJ H
  replace hS := hS.cut 0
  exact ⟨rfl, hS⟩
 replace H := Zp H hb
 refine Za rfl rfl rfl (Ze fo_32_7 rfl) ?_
 refine Za rfl rfl rfl (Zh Z3 rfl (Zhe _) hS hs0 trivial sg7_1) ?_
 refine Za rfl rfl rfl (Y7 rfl rfl) ?_
 refine Zb 3 rfl ?_
 refine Zq 105 rfl (fun hb => ?_) (fun hb => ?_)
 ·replace H := Zo H hb
  refine Zb 13 rfl ?_
  refine Zg ?_
  refine Zc hK34 ?_
  refine Zu rfl rfl ?_
  refine Zd (fun K hK36 => ?_)
  refine Zf ?_
  refine Zb 1 rfl ?_
  refine Zg ?_
  refine Zc hK36 ?_
  refine Zk ?_
  refine Zj ?_
  refine Zm rfl (RV.tmp rfl RV.nil) rfl ?_
  obtain rfl := QJ H
  replace hS := hS.cut 0
  exact ⟨rfl, hS⟩
 replace H := Zp H hb
 refine Za rfl rfl rfl (Ze Ze5 rfl) ?_
 refine Za rfl rfl rfl (Zh sc_4 rfl (Zhe _) hS hs0 trivial sg8_1) ?_
 refine Zb 1 rfl ?_
 refine Zq 108 rfl (fun hb => ?_) (fun hb => ?_)
 rotate_left
 ·replace H := Zp H hb
  refine Zb 10 rfl ?_
  refine Zg ?_
  refine Zc hK34 ?_
  refine Yg rfl rfl ?_
  refine Zs ?_
  refine Zc hK33 ?_
  refine Zd (fun K hK50 => ?_)
  refine Zd (fun K hK51 => ?_)
  refine Zf ?_
  refine Za rfl rfl rfl (Ze Vc rfl) ?_
  refine Za rfl rfl rfl (Zh Zas rfl (Zhe _) hS hs0 trivial Yx) ?_
  refine Za rfl rfl rfl (Yr rfl rfl) ?_
  refine Zg ?_
  refine Zc hK51 ?_
  refine Z1 rfl (fun hb => ?_) (fun hb => ?_)
  rotate_left
  ·replace H := Zp H hb
   refine Zs ?_
   refine Zc hK50 ?_
   refine Zd (fun K hK55 => ?_)
   refine Zf ?_
   refine Za rfl rfl rfl (Ze Xa rfl) ?_
   refine Za rfl rfl rfl (Zi Y3 rfl (Zhe _) hS hs0 trivial Zai) ?_
   refine Za rfl rfl rfl (Xn (cells := [.int .i64 0, .int .i64 0, .int .i64 0, .int .i64 0, .bool false]) rfl (by kernel_rfl)) ?_
   refine Za rfl rfl rfl (Zal (by kernel_rfl) rfl rfl (Za8 _ _ _ _ _ _ _ _ _ _)) ?_
   refine Zb 1 rfl ?_
   refine Zg ?_
   refine Zc hK55 ?_
   refine Zk ?_
   refine Zm rfl (RV.tmp rfl RV.nil) rfl ?_
   obtain rfl := QJ H
   replace hS := hS.cut 0
   exact ⟨rfl, hS⟩
  replace H := Zo H hb
  refine Zd (fun K hK52 => ?_)
  refine Zf ?_
  refine Za rfl rfl rfl (Ze Xa rfl) ?_
  refine Za rfl rfl rfl (Zi Y3 rfl (Zhe _) hS hs0 trivial Zai) ?_
  obtain ⟨r53, hm54, H⟩ := bind_some H
  refine Zn rfl rfl rfl rfl (by kernel_rfl) rfl (Zbd x0.snap _ hm54) ?_
  rintro e w ⟨rfl, hN⟩; refine ⟨_, rfl, ?_⟩; obtain ⟨hB, hS⟩ := hS.jn hN
  refine Zb 1 rfl ?_
  refine Zq 125 rfl (fun hb => ?_) (fun hb => ?_)
  rotate_left
  ·replace H := Zp H hb
   refine Zb 6 rfl ?_
   refine Zg ?_
   refine Zc hK52 ?_
   refine Zk ?_
   refine Zj ?_
   refine Zm rfl (RV.tmp rfl RV.nil) rfl ?_
   obtain rfl := QJ H
   replace hS := hS.cut 0
   exact ⟨rfl, hS⟩
  replace H := Zo H hb
  refine Za rfl rfl rfl (Ze Xa rfl) ?_
  refine Za rfl rfl rfl (Ze Yl rfl) ?_
  refine Za rfl rfl rfl (Zh Z3 rfl (Zhe _) hS hs0 trivial Vz) ?_
  refine Za rfl rfl rfl (Y7 rfl rfl) ?_
  refine Zb 2 rfl ?_
  refine Zg ?_
  refine Zc hK52 ?_
  refine Zk ?_
  refine Zj ?_
  refine Zm rfl (RV.tmp rfl RV.nil) rfl ?_
  obtain rfl := QJ H
  replace hS := hS.cut 0
  exact ⟨rfl, hS⟩
 replace H := Zo H hb
 refine Za rfl rfl rfl (Ze Vc rfl) ?_
 refine Za rfl rfl rfl (Zh Zas rfl (Zhe _) hS hs0 trivial Yx) ?_
 refine Za rfl rfl rfl (Xm rfl rfl) ?_
 refine Zb 2 rfl ?_
 refine Zq 113 rfl (fun hb => ?_) (fun hb => ?_)
 rotate_left
 ·replace H := Zp H hb
  refine Zb 5 rfl ?_
  refine Zg ?_
  refine Zc hK34 ?_
  refine Yg rfl rfl ?_
  refine Zs ?_
  refine Zc hK33 ?_
  refine Zd (fun K hK44 => ?_)
  refine Zd (fun K hK45 => ?_)
  refine Zf ?_
  refine Za rfl rfl rfl (Ze Vc rfl) ?_
  refine Za rfl rfl rfl (Zh Zas rfl (Zhe _) hS hs0 trivial Yx) ?_
  refine Za rfl rfl rfl (Yr rfl rfl) ?_
  refine Zg ?_
  refine Zc hK45 ?_
  refine Z1 rfl (fun hb => ?_) (fun hb => ?_)
  rotate_left
  ·replace H := Zp H hb
   refine Zs ?_
   refine Zc hK44 ?_
   refine Zd (fun K hK49 => ?_)
   refine Zf ?_
   refine Za rfl rfl rfl (Ze Xa rfl) ?_
   refine Za rfl rfl rfl (Zi Y3 rfl (Zhe _) hS hs0 trivial Zai) ?_
   refine Za rfl rfl rfl (Xn (cells := [.int .i64 0, .int .i64 0, .int .i64 0, .int .i64 0, .bool false]) rfl (by kernel_rfl)) ?_
   refine Za rfl rfl rfl (Zal (by kernel_rfl) rfl rfl (Za8 _ _ _ _ _ _ _ _ _ _)) ?_
   refine Zb 1 rfl ?_
   refine Zg ?_
   refine Zc hK49 ?_
   refine Zk ?_
   refine Zm rfl (RV.tmp rfl RV.nil) rfl ?_
   obtain rfl := QJ H
   replace hS := hS.cut 0
   exact ⟨rfl, hS⟩
  replace H := Zo H hb
  refine Zd (fun K hK46 => ?_)
  refine Zf ?_
  refine Za rfl rfl rfl (Ze Xa rfl) ?_
  refine Za rfl rfl rfl (Zi Y3 rfl (Zhe _) hS hs0 trivial Zai) ?_
  obtain ⟨r47, hm48, H⟩ := bind_some H
  refine Zn rfl rfl rfl rfl (by kernel_rfl) rfl (Zbd x0.snap _ hm48) ?_
  rintro e w ⟨rfl, hN⟩; refine ⟨_, rfl, ?_⟩; obtain ⟨hB, hS⟩ := hS.jn hN
  refine Zb 1 rfl ?_
  refine Zq 125 rfl (fun hb => ?_) (fun hb => ?_)
  rotate_left
  ·replace H := Zp H hb
   refine Zb 6 rfl ?_
   refine Zg ?_
   refine Zc hK46 ?_
   refine Zk ?_
   refine Zj ?_
   refine Zm rfl (RV.tmp rfl RV.nil) rfl ?_
   obtain rfl := QJ H
   replace hS := hS.cut 0
   exact ⟨rfl, hS⟩
  replace H := Zo H hb
  refine Za rfl rfl rfl (Ze Xa rfl) ?_
  refine Za rfl rfl rfl (Ze Yl rfl) ?_
  refine Za rfl rfl rfl (Zh Z3 rfl (Zhe _) hS hs0 trivial Vz) ?_
  refine Za rfl rfl rfl (Y7 rfl rfl) ?_
  refine Zb 2 rfl ?_
  refine Zg ?_
  refine Zc hK46 ?_
  refine Zk ?_
  refine Zj ?_
  refine Zm rfl (RV.tmp rfl RV.nil) rfl ?_
  obtain rfl := QJ H
  replace hS := hS.cut 0
  exact ⟨rfl, hS⟩
 replace H := Zo H hb
 refine Za rfl rfl rfl (Ze Vc rfl) ?_
 refine Za rfl rfl rfl (Zh Zas rfl (Zhe _) hS hs0 trivial Yx) ?_
 refine Za rfl rfl rfl (Xm rfl rfl) ?_
 refine Zb 2 rfl ?_
 refine Zg ?_
 refine Zc hK34 ?_
 refine Z1 rfl (fun hb => ?_) (fun hb => ?_)
 ·replace H := Zo H hb
  refine Zd (fun K hK37 => ?_)
  refine Zf ?_
  refine Zb 1 rfl ?_
  refine Zg ?_
  refine Zc hK37 ?_
  refine Zk ?_
  refine Zj ?_
  refine Zm rfl (RV.tmp rfl RV.nil) rfl ?_
  obtain rfl := QJ H
  replace hS := hS.cut 0
  exact ⟨rfl, hS⟩
 replace H := Zp H hb
 refine Zs ?_
 refine Zc hK33 ?_
 refine Zd (fun K hK38 => ?_)
 refine Zd (fun K hK39 => ?_)
 refine Zf ?_
 refine Za rfl rfl rfl (Ze Vc rfl) ?_
 refine Za rfl rfl rfl (Zh Zas rfl (Zhe _) hS hs0 trivial Yx) ?_
 refine Za rfl rfl rfl (Yr rfl rfl) ?_
 refine Zg ?_
 refine Zc hK39 ?_
 refine Z1 rfl (fun hb => ?_) (fun hb => ?_)
 rotate_left
 ·replace H := Zp H hb
  refine Zs ?_
  refine Zc hK38 ?_
  refine Zd (fun K hK43 => ?_)
  refine Zf ?_
  refine Za rfl rfl rfl (Ze Xa rfl) ?_
  refine Za rfl rfl rfl (Zi Y3 rfl (Zhe _) hS hs0 trivial Zai) ?_
  refine Za rfl rfl rfl (Xn (cells := [.int .i64 0, .int .i64 0, .int .i64 0, .int .i64 0, .bool false]) rfl (by kernel_rfl)) ?_
  refine Za rfl rfl rfl (Zal (by kernel_rfl) rfl rfl (Za8 _ _ _ _ _ _ _ _ _ _)) ?_
  refine Zb 1 rfl ?_
  refine Zg ?_
  refine Zc hK43 ?_
  refine Zk ?_
  refine Zm rfl (RV.tmp rfl RV.nil) rfl ?_
  obtain rfl := QJ H
  replace hS := hS.cut 0
  exact ⟨rfl, hS⟩
 replace H := Zo H hb
 refine Zd (fun K hK40 => ?_)
 refine Zf ?_
 refine Za rfl rfl rfl (Ze Xa rfl) ?_
 refine Za rfl rfl rfl (Zi Y3 rfl (Zhe _) hS hs0 trivial Zai) ?_
 obtain ⟨r41, hm42, H⟩ := bind_some H
 refine Zn rfl rfl rfl rfl (by kernel_rfl) rfl (Zbd x0.snap _ hm42) ?_
 rintro e w ⟨rfl, hN⟩; refine ⟨_, rfl, ?_⟩; obtain ⟨hB, hS⟩ := hS.jn hN
 refine Zb 1 rfl ?_
 refine Zq 125 rfl (fun hb => ?_) (fun hb => ?_)
 rotate_left
 ·replace H := Zp H hb
  refine Zb 6 rfl ?_
  refine Zg ?_
  refine Zc hK40 ?_
  refine Zk ?_
  refine Zj ?_
  refine Zm rfl (RV.tmp rfl RV.nil) rfl ?_
  obtain rfl := QJ H
  replace hS := hS.cut 0
  exact ⟨rfl, hS⟩
 replace H := Zo H hb
 refine Za rfl rfl rfl (Ze Xa rfl) ?_
 refine Za rfl rfl rfl (Ze Yl rfl) ?_
 refine Za rfl rfl rfl (Zh Z3 rfl (Zhe _) hS hs0 trivial Vz) ?_
 refine Za rfl rfl rfl (Y7 rfl rfl) ?_
 refine Zb 2 rfl ?_
 refine Zg ?_
 refine Zc hK40 ?_
 refine Zk ?_
 refine Zj ?_
 refine Zm rfl (RV.tmp rfl RV.nil) rfl ?_
 obtain rfl := QJ H
 replace hS := hS.cut 0
 exact ⟨rfl, hS⟩
theorem c_ref22_fits (x0 : Co) (x1 : Ms) (A0_ : OA) (c0_ : Nat) (A1_ : OA) (c1_ : Nat) (A2_ : OA) (c2_ : Nat) (A3_ : OA) (c3_ : Nat) (A4_ : OA) (c4_ : Nat) (A5_ : OA) (c5_ : Nat) (w0 : World) (s0_ : SlI w0 V3 A0_ c0_ x0.tuple.log) (s1_ : SlI w0 enO A1_ c1_ x0.votes) (s2_ : SlI w0 X2 A2_ c2_ x0.next) (s3_ : SlI w0 X2 A3_ c3_ x0.mtch) (s4_ : SlI w0 X2 A4_ c4_ x0.caps) (s5_ : SlI w0 V3 A5_ c5_ x1.entries) {r : Bool} (H : Zb8 x0 x1 = some r) : Calls Tryz.prog 62 #[.agg #[.int .i64 x0.id, .int .i64 x0.n, .int .u8 x0.role, .int .i64 x0.binary, .int .i64 x0.tuple.snap.index, .int .i64 x0.tuple.snap.term, .int .i64 x0.tuple.snap.sum, .int .i64 x0.tuple.snap.level, .bool x0.tuple.snap.final, .slice A0_ x0.tuple.log.length c0_, .int .i64 x0.tuple.term, .int .i64 x0.tuple.vote, .int .i64 x0.commit, .int .i64 x0.applied.index, .int .i64 x0.applied.term, .int .i64 x0.applied.sum, .int .i64 x0.applied.level, .bool x0.applied.final, .slice A1_ x0.votes.length c1_, .slice A2_ x0.next.length c2_, .slice A3_ x0.mtch.length c3_, .slice A4_ x0.caps.length c4_], .agg #[.int .u8 x1.kind, .int .i64 x1.frm, .int .i64 x1.dst, .int .i64 x1.term, .int .i64 x1.cap, .int .i64 x1.last, .int .i64 x1.lastTerm, .int .i64 x1.commit, .bool x1.okk, .slice A5_ x1.entries.length c5_, .int .i64 x1.snap.index, .int .i64 x1.snap.term, .int .i64 x1.snap.sum, .int .i64 x1.snap.level, .bool x1.snap.final]] w0 fun e w' => e = .returned (.bool r) ∧ St0 All w0 w' [] := by
 unfold Zb8 at H
 refine Ys Tryz.func62 rfl Tryz.ntmps62 rfl ?_
 have hS := St0.start All w0
 refine Zd (fun K hK1 => ?_)
 refine Zf ?_
 refine Z7 rfl rfl rfl CellsOf.agg hS (fun b2 w hS hB => ?_)
 refine Z7 rfl rfl rfl CellsOf.agg hS (fun b4 w hS hB => ?_)
 refine Zb 1 rfl ?_
 refine Zg ?_
 refine Zc hK1 ?_
 refine Zd (fun K hK6 => ?_)
 refine Zf ?_
 refine Za rfl rfl rfl (Zi Zx rfl (Zhe _) hS Y2 trivial Zv) ?_
 obtain ⟨r7, hm8, H⟩ := bind_some H
 refine Zn rfl rfl rfl rfl (by kernel_rfl) rfl (Zdu x0 A0_ c0_ A1_ c1_ A2_ c2_ A3_ c3_ A4_ c4_ _ (Zhh s0_.k (hS.rd0 s0_.rd) (hS.blk0 s0_.blk)) (Zhh s1_.k (hS.rd0 s1_.rd) (hS.blk0 s1_.blk)) (Zhh s2_.k (hS.rd0 s2_.rd) (hS.blk0 s2_.blk)) (Zhh s3_.k (hS.rd0 s3_.rd) (hS.blk0 s3_.blk)) (Zhh s4_.k (hS.rd0 s4_.rd) (hS.blk0 s4_.blk)) hm8) ?_
 rintro e w ⟨rfl, hN⟩; refine ⟨_, rfl, ?_⟩; obtain ⟨hB, hS⟩ := hS.jn hN
 refine Zb 1 rfl ?_
 refine Zq 7 rfl (fun hb => ?_) (fun hb => ?_)
 rotate_left
 ·replace H := Zp H hb
  refine Zb 13 rfl ?_
  refine Zg ?_
  refine Zc hK6 ?_
  refine Zk ?_
  refine Zm rfl (RV.tmp rfl RV.nil) rfl ?_
  obtain rfl := QJ H
  replace hS := hS.cut 0
  exact ⟨rfl, hS⟩
 replace H := Zo H hb
 refine Za rfl rfl rfl (Zi Va rfl (Zhe _) hS hs0 trivial Xg) ?_
 refine Za rfl rfl rfl (Ze Vf rfl) ?_
 refine Za rfl rfl rfl (Zh Z3 rfl (Zhe _) hS Y2 trivial Xu) ?_
 obtain ⟨r9, hm10, H⟩ := bind_some H
 refine Zn rfl rfl rfl rfl (by kernel_rfl) rfl (c_ref20_Fine x1 x0.n A5_ c5_ _ (Zhh s5_.k (hS.rd0 s5_.rd) (hS.blk0 s5_.blk)) hm10) ?_
 rintro e w ⟨rfl, hN⟩; refine ⟨_, rfl, ?_⟩; obtain ⟨hB, hS⟩ := hS.jn hN
 refine Zb 2 rfl ?_
 refine Zq 13 rfl (fun hb => ?_) (fun hb => ?_)
 rotate_left
 ·replace H := Zp H hb
  refine Zb 7 rfl ?_
  refine Zg ?_
  refine Zc hK6 ?_
  refine Zk ?_
  refine Zm rfl (RV.tmp rfl RV.nil) rfl ?_
  obtain rfl := QJ H
  replace hS := hS.cut 0
  exact ⟨rfl, hS⟩
 replace H := Zo H hb
 refine Za rfl rfl rfl (Ze Zdd rfl) ?_
 refine Za rfl rfl rfl (Zh Z3 rfl (Zhe _) hS hs0 trivial Jt) ?_
 refine Za rfl rfl rfl (Ze Vo rfl) ?_
 refine Za rfl rfl rfl (Zh Z3 rfl (Zhe _) hS Y2 trivial Yx) ?_
 refine Za rfl rfl rfl (Yr rfl rfl) ?_
 refine Zb 2 rfl ?_
 refine Zg ?_
 refine Zc hK6 ?_
 refine Zk ?_
 refine Zm rfl (RV.tmp rfl RV.nil) rfl ?_
 obtain rfl := QJ H
 replace hS := hS.cut 0
 exact ⟨rfl, hS⟩
theorem c_ref21_To (x0 : Co) (x1 : Ms) (A0_ : OA) (c0_ : Nat) (A1_ : OA) (c1_ : Nat) (A2_ : OA) (c2_ : Nat) (A3_ : OA) (c3_ : Nat) (A4_ : OA) (c4_ : Nat) (A5_ : OA) (c5_ : Nat) (w0 : World) (s0_ : SlI w0 V3 A0_ c0_ x0.tuple.log) (s1_ : SlI w0 enO A1_ c1_ x0.votes) (s2_ : SlI w0 X2 A2_ c2_ x0.next) (s3_ : SlI w0 X2 A3_ c3_ x0.mtch) (s4_ : SlI w0 X2 A4_ c4_ x0.caps) (s5_ : SlI w0 V3 A5_ c5_ x1.entries) {r : Bool} (H : m_ref21_To x0 x1 = some r) : Calls Tryz.prog 45 #[.agg #[.int .i64 x0.id, .int .i64 x0.n, .int .u8 x0.role, .int .i64 x0.binary, .int .i64 x0.tuple.snap.index, .int .i64 x0.tuple.snap.term, .int .i64 x0.tuple.snap.sum, .int .i64 x0.tuple.snap.level, .bool x0.tuple.snap.final, .slice A0_ x0.tuple.log.length c0_, .int .i64 x0.tuple.term, .int .i64 x0.tuple.vote, .int .i64 x0.commit, .int .i64 x0.applied.index, .int .i64 x0.applied.term, .int .i64 x0.applied.sum, .int .i64 x0.applied.level, .bool x0.applied.final, .slice A1_ x0.votes.length c1_, .slice A2_ x0.next.length c2_, .slice A3_ x0.mtch.length c3_, .slice A4_ x0.caps.length c4_], .agg #[.int .u8 x1.kind, .int .i64 x1.frm, .int .i64 x1.dst, .int .i64 x1.term, .int .i64 x1.cap, .int .i64 x1.last, .int .i64 x1.lastTerm, .int .i64 x1.commit, .bool x1.okk, .slice A5_ x1.entries.length c5_, .int .i64 x1.snap.index, .int .i64 x1.snap.term, .int .i64 x1.snap.sum, .int .i64 x1.snap.level, .bool x1.snap.final]] w0 fun e w' => e = .returned (.bool r) ∧ St0 All w0 w' [] := by
 unfold m_ref21_To at H
 refine Ys Tryz.func45 rfl Tryz.ntmps45 rfl ?_
 have hS := St0.start All w0
 refine Zd (fun K hK1 => ?_)
 refine Zf ?_
 refine Z7 rfl rfl rfl CellsOf.agg hS (fun b2 w hS hB => ?_)
 refine Z7 rfl rfl rfl CellsOf.agg hS (fun b4 w hS hB => ?_)
 refine Zb 1 rfl ?_
 refine Zg ?_
 refine Zc hK1 ?_
 refine Zd (fun K hK6 => ?_)
 refine Zf ?_
 refine Za rfl rfl rfl (Zi Zx rfl (Zhe _) hS Y2 trivial Zv) ?_
 obtain ⟨r7, hm8, H⟩ := bind_some H
 refine Zn rfl rfl rfl rfl (by kernel_rfl) rfl (Zdu x0 A0_ c0_ A1_ c1_ A2_ c2_ A3_ c3_ A4_ c4_ _ (Zhh s0_.k (hS.rd0 s0_.rd) (hS.blk0 s0_.blk)) (Zhh s1_.k (hS.rd0 s1_.rd) (hS.blk0 s1_.blk)) (Zhh s2_.k (hS.rd0 s2_.rd) (hS.blk0 s2_.blk)) (Zhh s3_.k (hS.rd0 s3_.rd) (hS.blk0 s3_.blk)) (Zhh s4_.k (hS.rd0 s4_.rd) (hS.blk0 s4_.blk)) hm8) ?_
 rintro e w ⟨rfl, hN⟩; refine ⟨_, rfl, ?_⟩; obtain ⟨hB, hS⟩ := hS.jn hN
 refine Zb 1 rfl ?_
 refine Zq 7 rfl (fun hb => ?_) (fun hb => ?_)
 rotate_left
 ·replace H := Zp H hb
  refine Zb 13 rfl ?_
  refine Zg ?_
  refine Zc hK6 ?_
  refine Zk ?_
  refine Zm rfl (RV.tmp rfl RV.nil) rfl ?_
  obtain rfl := QJ H
  replace hS := hS.cut 0
  exact ⟨rfl, hS⟩
 replace H := Zo H hb
 refine Za rfl rfl rfl (Zi Va rfl (Zhe _) hS hs0 trivial Xg) ?_
 refine Za rfl rfl rfl (Ze Vf rfl) ?_
 refine Za rfl rfl rfl (Zh Z3 rfl (Zhe _) hS Y2 trivial Xu) ?_
 obtain ⟨r9, hm10, H⟩ := bind_some H
 refine Zn rfl rfl rfl rfl (by kernel_rfl) rfl (c_ref20_Fine x1 x0.n A5_ c5_ _ (Zhh s5_.k (hS.rd0 s5_.rd) (hS.blk0 s5_.blk)) hm10) ?_
 rintro e w ⟨rfl, hN⟩; refine ⟨_, rfl, ?_⟩; obtain ⟨hB, hS⟩ := hS.jn hN
 refine Zb 2 rfl ?_
 refine Zq 13 rfl (fun hb => ?_) (fun hb => ?_)
 rotate_left
 ·replace H := Zp H hb
  refine Zb 7 rfl ?_
  refine Zg ?_
  refine Zc hK6 ?_
  refine Zk ?_
  refine Zm rfl (RV.tmp rfl RV.nil) rfl ?_
  obtain rfl := QJ H
  replace hS := hS.cut 0
  exact ⟨rfl, hS⟩
 replace H := Zo H hb
 refine Za rfl rfl rfl (Ze Zdd rfl) ?_
 refine Za rfl rfl rfl (Zh Z3 rfl (Zhe _) hS hs0 trivial Jt) ?_
 refine Za rfl rfl rfl (Ze Vo rfl) ?_
 refine Za rfl rfl rfl (Zh Z3 rfl (Zhe _) hS Y2 trivial Yx) ?_
 refine Za rfl rfl rfl (Yr rfl rfl) ?_
 refine Zb 2 rfl ?_
 refine Zg ?_
 refine Zc hK6 ?_
 refine Zk ?_
 refine Zm rfl (RV.tmp rfl RV.nil) rfl ?_
 obtain rfl := QJ H
 replace hS := hS.cut 0
 exact ⟨rfl, hS⟩
theorem c_ref21_Hear (x0 : Co) (x1 : Ms) (A0_ : OA) (c0_ : Nat) (A1_ : OA) (c1_ : Nat) (A2_ : OA) (c2_ : Nat) (A3_ : OA) (c3_ : Nat) (A4_ : OA) (c4_ : Nat) (A5_ : OA) (c5_ : Nat) (w0 : World) (s0_ : SlI w0 V3 A0_ c0_ x0.tuple.log) (s1_ : SlI w0 enO A1_ c1_ x0.votes) (s2_ : SlI w0 X2 A2_ c2_ x0.next) (s3_ : SlI w0 X2 A3_ c3_ x0.mtch) (s4_ : SlI w0 X2 A4_ c4_ x0.caps) (s5_ : SlI w0 V3 A5_ c5_ x1.entries) {r : Co} (H : Zeg x0 x1 = some r) : Calls Tryz.prog 65 #[.agg #[.int .i64 x0.id, .int .i64 x0.n, .int .u8 x0.role, .int .i64 x0.binary, .int .i64 x0.tuple.snap.index, .int .i64 x0.tuple.snap.term, .int .i64 x0.tuple.snap.sum, .int .i64 x0.tuple.snap.level, .bool x0.tuple.snap.final, .slice A0_ x0.tuple.log.length c0_, .int .i64 x0.tuple.term, .int .i64 x0.tuple.vote, .int .i64 x0.commit, .int .i64 x0.applied.index, .int .i64 x0.applied.term, .int .i64 x0.applied.sum, .int .i64 x0.applied.level, .bool x0.applied.final, .slice A1_ x0.votes.length c1_, .slice A2_ x0.next.length c2_, .slice A3_ x0.mtch.length c3_, .slice A4_ x0.caps.length c4_], .agg #[.int .u8 x1.kind, .int .i64 x1.frm, .int .i64 x1.dst, .int .i64 x1.term, .int .i64 x1.cap, .int .i64 x1.last, .int .i64 x1.lastTerm, .int .i64 x1.commit, .bool x1.okk, .slice A5_ x1.entries.length c5_, .int .i64 x1.snap.index, .int .i64 x1.snap.term, .int .i64 x1.snap.sum, .int .i64 x1.snap.level, .bool x1.snap.final]] w0 fun e w' => ∃ (A0 : OA) (c0 : Nat) (A1 : OA) (c1 : Nat) (A2 : OA) (c2 : Nat) (A3 : OA) (c3 : Nat) (A4 : OA) (c4 : Nat), e = .returned (.agg #[.int .i64 r.id, .int .i64 r.n, .int .u8 r.role, .int .i64 r.binary, .int .i64 r.tuple.snap.index, .int .i64 r.tuple.snap.term, .int .i64 r.tuple.snap.sum, .int .i64 r.tuple.snap.level, .bool r.tuple.snap.final, .slice A0 r.tuple.log.length c0, .int .i64 r.tuple.term, .int .i64 r.tuple.vote, .int .i64 r.commit, .int .i64 r.applied.index, .int .i64 r.applied.term, .int .i64 r.applied.sum, .int .i64 r.applied.level, .bool r.applied.final, .slice A1 r.votes.length c1, .slice A2 r.next.length c2, .slice A3 r.mtch.length c3, .slice A4 r.caps.length c4]) ∧ (r.tuple.log.length ≤ c0 ∧ c0 ≤ maxLen) ∧ (r.votes.length ≤ c1 ∧ c1 ≤ maxLen) ∧ (r.next.length ≤ c2 ∧ c2 ≤ maxLen) ∧ (r.mtch.length ≤ c3 ∧ c3 ≤ maxLen) ∧ (r.caps.length ≤ c4 ∧ c4 ≤ maxLen) ∧ St0 All w0 w' [.row (.slice A0 r.tuple.log.length c0) 53 3 r.tuple.log.length (Yf V3 r.tuple.log), .row (.slice A1 r.votes.length c1) 4 1 r.votes.length (Yf enO r.votes), .row (.slice A2 r.next.length c2) 3 1 r.next.length (Yf X2 r.next), .row (.slice A3 r.mtch.length c3) 3 1 r.mtch.length (Yf X2 r.mtch), .row (.slice A4 r.caps.length c4) 3 1 r.caps.length (Yf X2 r.caps)] := by
 unfold Zeg at H
 refine Ys Tryz.func65 rfl Tryz.ntmps65 rfl ?_
 have hS := St0.start All w0
 refine Zd (fun K hK1 => ?_)
 refine Zf ?_
 refine Z7 rfl rfl rfl CellsOf.agg hS (fun b2 w hS hB => ?_)
 refine Z7 rfl rfl rfl CellsOf.agg hS (fun b4 w hS hB => ?_)
 refine Yd rfl rfl Zbx hS (fun b6 w hS hB => ?_)
 refine Zg ?_
 refine Zc hK1 ?_
 refine Zd (fun K hK8 => ?_)
 refine Zf ?_
 refine Za rfl rfl rfl (Zi Zx rfl (Zhe _) hS Xi trivial Zv) ?_
 obtain ⟨r9, hm10, H⟩ := bind_some H
 refine Zn rfl rfl rfl rfl (by kernel_rfl) rfl (Zea x0 A0_ c0_ A1_ c1_ A2_ c2_ A3_ c3_ A4_ c4_ _ (Zhh s0_.k (hS.rd0 s0_.rd) (hS.blk0 s0_.blk)) (Zhh s1_.k (hS.rd0 s1_.rd) (hS.blk0 s1_.blk)) (Zhh s2_.k (hS.rd0 s2_.rd) (hS.blk0 s2_.blk)) (Zhh s3_.k (hS.rd0 s3_.rd) (hS.blk0 s3_.blk)) (Zhh s4_.k (hS.rd0 s4_.rd) (hS.blk0 s4_.blk)) hm10) ?_
 rintro e w ⟨A11, c12, A15, c16, A19, c20, A23, c24, A27, c28, rfl, k13, k17, k21, k25, k29, hN⟩; refine ⟨_, rfl, ?_⟩; obtain ⟨hB, hS⟩ := hS.jn hN
 refine Zl rfl rfl rfl CellsOf.agg hS ps7 Z8 (by kernel_rfl) rfl (fun w hS hB => ?_)
 refine Zg ?_
 refine Zc hK8 ?_
 refine Zd (fun K hK31 => ?_)
 refine Zd (fun K hK32 => ?_)
 refine Zf ?_
 refine Za rfl rfl rfl (Zi Zx rfl (Zhe _) hS hs7 trivial Zv) ?_
 refine Za rfl rfl rfl (Zi Va rfl (Zhe _) hS Jy trivial Xg) ?_
 obtain ⟨r33, hm34, H⟩ := bind_some H
 refine Zn rfl rfl rfl rfl (by kernel_rfl) rfl (c_ref21_To r9 x1 A11 c12 A15 c16 A19 c20 A23 c24 A27 c28 A5_ c5_ _ (Zhh k13 (hS.row_rd hs0) (hS.row_blk hs0)) (Zhh k17 (hS.row_rd Y2) (hS.row_blk Y2)) (Zhh k21 (hS.row_rd Xi) (hS.row_blk Xi)) (Zhh k25 (hS.row_rd hs3) (hS.row_blk hs3)) (Zhh k29 (hS.row_rd Jq) (hS.row_blk Jq)) (Zhh s5_.k (hS.rd0 s5_.rd) (hS.blk0 s5_.blk)) hm34) ?_
 rintro e w ⟨rfl, hN⟩; refine ⟨_, rfl, ?_⟩; obtain ⟨hB, hS⟩ := hS.jn hN
 refine Zg ?_
 refine Zc hK32 ?_
 refine Z1 rfl (fun hb => ?_) (fun hb => ?_)
 rotate_left
 ·replace H := Zp H hb
  refine Zs ?_
  refine Zc hK31 ?_
  refine Zd (fun K hK39 => ?_)
  refine Zf ?_
  refine Za rfl rfl rfl (Zi Zx rfl (Zhe _) hS hs7 trivial Zv) ?_
  refine Zl rfl rfl rfl CellsOf.agg hS ps5 Z8 (by kernel_rfl) rfl (fun w hS hB => ?_)
  refine Zg ?_
  refine Zc hK39 ?_
  refine Zk ?_
  refine Zm rfl (RV.cell rfl (Zt Zx hS hs5 Zv) RV.nil) rfl ?_
  obtain rfl := QJ H
  have hS := hS.front 4 rfl
  have hS := hS.front 4 rfl
  have hS := hS.front 4 rfl
  have hS := hS.front 4 rfl
  have hS := hS.front 4 rfl
  replace hS := hS.cut 5
  exact ⟨A11, c12, A15, c16, A19, c20, A23, c24, A27, c28, rfl, k13, k17, k21, k25, k29, hS⟩
 replace H := Zo H hb
 refine Zf ?_
 refine Za rfl rfl rfl (Ze V8 rfl) ?_
 refine Za rfl rfl rfl (Zh Vy rfl (Zhe _) hS hs7 trivial Zc7) ?_
 refine Za rfl rfl rfl (Ze Zaf rfl) ?_
 refine Za rfl rfl rfl (Zh Z3 rfl (Zhe _) hS Jy trivial Xu) ?_
 refine Za rfl rfl rfl (Zcn rfl rfl) ?_
 refine Za rfl rfl rfl (Ze Zfw rfl) ?_
 refine Za rfl rfl rfl (Zh Z3 rfl (Zhe _) hS Jy trivial Zg7) ?_
 obtain ⟨e35, hi37, H⟩ := bind_some H
 obtain ⟨j36, hi37a, hi37b, hi37c⟩ := Y0 hi37
 refine Za rfl rfl rfl (Xh Vh rfl rfl hi37a hi37c (Rd.el (hS.row_rd Jq) Y6 hi37b)) ?_
 refine Zcd (a' := x1.cap) (zs := (Vw r9.caps (IntKind.wrap .i64 (x1.frm - 1)) x1.cap)) Y6 rfl rfl rfl CellsOf.int hS ps4 (Rd.el (hS.row_rd Jq) Y6 hi37b) hi37a hi37b rfl Zeb (by kernel_rfl) rfl (fun w hS => ?_)
 refine Zg ?_
 refine Zc hK31 ?_
 refine Zd (fun K hK38 => ?_)
 refine Zf ?_
 refine Za rfl rfl rfl (Zi Zx rfl (Zhe _) hS hs7 trivial Zv) ?_
 refine Zl rfl rfl rfl CellsOf.agg hS ps5 Z8 (by kernel_rfl) rfl (fun w hS hB => ?_)
 refine Zg ?_
 refine Zc hK38 ?_
 refine Zk ?_
 refine Zm rfl (RV.cell rfl (Zt Zx hS hs5 Zv) RV.nil) rfl ?_
 obtain rfl := QJ H
 have hS := hS.front 4 rfl
 have hS := hS.front 4 rfl
 have hS := hS.front 4 rfl
 have hS := hS.front 4 rfl
 have hS := hS.front 4 rfl
 replace hS := hS.cut 5
 exact ⟨A11, c12, A15, c16, A19, c20, A23, c24, A27, c28, by rw [(Y8 rfl)]; rfl, k13, k17, k21, k25, (Za7 k29), hS.eqv (by rw [(Y8 rfl)]; rfl)⟩
theorem c_ref22_Meet (x0 : Co) (x1 : Ms) (A0_ : OA) (c0_ : Nat) (A1_ : OA) (c1_ : Nat) (A2_ : OA) (c2_ : Nat) (A3_ : OA) (c3_ : Nat) (A4_ : OA) (c4_ : Nat) (A5_ : OA) (c5_ : Nat) (w0 : World) (s0_ : SlI w0 V3 A0_ c0_ x0.tuple.log) (s1_ : SlI w0 enO A1_ c1_ x0.votes) (s2_ : SlI w0 X2 A2_ c2_ x0.next) (s3_ : SlI w0 X2 A3_ c3_ x0.mtch) (s4_ : SlI w0 X2 A4_ c4_ x0.caps) (s5_ : SlI w0 V3 A5_ c5_ x1.entries) {r : Co} (H : Zb3 x0 x1 = some r) : Calls Tryz.prog 18 #[.agg #[.int .i64 x0.id, .int .i64 x0.n, .int .u8 x0.role, .int .i64 x0.binary, .int .i64 x0.tuple.snap.index, .int .i64 x0.tuple.snap.term, .int .i64 x0.tuple.snap.sum, .int .i64 x0.tuple.snap.level, .bool x0.tuple.snap.final, .slice A0_ x0.tuple.log.length c0_, .int .i64 x0.tuple.term, .int .i64 x0.tuple.vote, .int .i64 x0.commit, .int .i64 x0.applied.index, .int .i64 x0.applied.term, .int .i64 x0.applied.sum, .int .i64 x0.applied.level, .bool x0.applied.final, .slice A1_ x0.votes.length c1_, .slice A2_ x0.next.length c2_, .slice A3_ x0.mtch.length c3_, .slice A4_ x0.caps.length c4_], .agg #[.int .u8 x1.kind, .int .i64 x1.frm, .int .i64 x1.dst, .int .i64 x1.term, .int .i64 x1.cap, .int .i64 x1.last, .int .i64 x1.lastTerm, .int .i64 x1.commit, .bool x1.okk, .slice A5_ x1.entries.length c5_, .int .i64 x1.snap.index, .int .i64 x1.snap.term, .int .i64 x1.snap.sum, .int .i64 x1.snap.level, .bool x1.snap.final]] w0 fun e w' => ∃ (A0 : OA) (c0 : Nat) (A1 : OA) (c1 : Nat) (A2 : OA) (c2 : Nat) (A3 : OA) (c3 : Nat) (A4 : OA) (c4 : Nat), e = .returned (.agg #[.int .i64 r.id, .int .i64 r.n, .int .u8 r.role, .int .i64 r.binary, .int .i64 r.tuple.snap.index, .int .i64 r.tuple.snap.term, .int .i64 r.tuple.snap.sum, .int .i64 r.tuple.snap.level, .bool r.tuple.snap.final, .slice A0 r.tuple.log.length c0, .int .i64 r.tuple.term, .int .i64 r.tuple.vote, .int .i64 r.commit, .int .i64 r.applied.index, .int .i64 r.applied.term, .int .i64 r.applied.sum, .int .i64 r.applied.level, .bool r.applied.final, .slice A1 r.votes.length c1, .slice A2 r.next.length c2, .slice A3 r.mtch.length c3, .slice A4 r.caps.length c4]) ∧ (r.tuple.log.length ≤ c0 ∧ c0 ≤ maxLen) ∧ (r.votes.length ≤ c1 ∧ c1 ≤ maxLen) ∧ (r.next.length ≤ c2 ∧ c2 ≤ maxLen) ∧ (r.mtch.length ≤ c3 ∧ c3 ≤ maxLen) ∧ (r.caps.length ≤ c4 ∧ c4 ≤ maxLen) ∧ St0 All w0 w' [.row (.slice A0 r.tuple.log.length c0) 53 3 r.tuple.log.length (Yf V3 r.tuple.log), .row (.slice A1 r.votes.length c1) 4 1 r.votes.length (Yf enO r.votes), .row (.slice A2 r.next.length c2) 3 1 r.next.length (Yf X2 r.next), .row (.slice A3 r.mtch.length c3) 3 1 r.mtch.length (Yf X2 r.mtch), .row (.slice A4 r.caps.length c4) 3 1 r.caps.length (Yf X2 r.caps)] := by
 unfold Zb3 at H
 refine Ys Tryz.func18 rfl Tryz.ntmps18 rfl ?_
 have hS := St0.start All w0
 refine Zd (fun K hK1 => ?_)
 refine Zf ?_
 refine Z7 rfl rfl rfl CellsOf.agg hS (fun b2 w hS hB => ?_)
 refine Z7 rfl rfl rfl CellsOf.agg hS (fun b4 w hS hB => ?_)
 refine Yd rfl rfl Zbx hS (fun b6 w hS hB => ?_)
 refine Zg ?_
 refine Zc hK1 ?_
 refine Zd (fun K hK8 => ?_)
 refine Zf ?_
 refine Za rfl rfl rfl (Zi Zx rfl (Zhe _) hS Xi trivial Zv) ?_
 obtain ⟨r9, hm10, H⟩ := bind_some H
 refine Zn rfl rfl rfl rfl (by kernel_rfl) rfl (Zea x0 A0_ c0_ A1_ c1_ A2_ c2_ A3_ c3_ A4_ c4_ _ (Zhh s0_.k (hS.rd0 s0_.rd) (hS.blk0 s0_.blk)) (Zhh s1_.k (hS.rd0 s1_.rd) (hS.blk0 s1_.blk)) (Zhh s2_.k (hS.rd0 s2_.rd) (hS.blk0 s2_.blk)) (Zhh s3_.k (hS.rd0 s3_.rd) (hS.blk0 s3_.blk)) (Zhh s4_.k (hS.rd0 s4_.rd) (hS.blk0 s4_.blk)) hm10) ?_
 rintro e w ⟨A11, c12, A15, c16, A19, c20, A23, c24, A27, c28, rfl, k13, k17, k21, k25, k29, hN⟩; refine ⟨_, rfl, ?_⟩; obtain ⟨hB, hS⟩ := hS.jn hN
 refine Zl rfl rfl rfl CellsOf.agg hS ps7 Z8 (by kernel_rfl) rfl (fun w hS hB => ?_)
 refine Zg ?_
 refine Zc hK8 ?_
 refine Zd (fun K hK31 => ?_)
 refine Zd (fun K hK32 => ?_)
 refine Zf ?_
 refine Za rfl rfl rfl (Zi Zx rfl (Zhe _) hS hs7 trivial Zv) ?_
 refine Za rfl rfl rfl (Zi Va rfl (Zhe _) hS Jy trivial Xg) ?_
 obtain ⟨r33, hm34, H⟩ := bind_some H
 refine Zn rfl rfl rfl rfl (by kernel_rfl) rfl (c_ref22_fits r9 x1 A11 c12 A15 c16 A19 c20 A23 c24 A27 c28 A5_ c5_ _ (Zhh k13 (hS.row_rd hs0) (hS.row_blk hs0)) (Zhh k17 (hS.row_rd Y2) (hS.row_blk Y2)) (Zhh k21 (hS.row_rd Xi) (hS.row_blk Xi)) (Zhh k25 (hS.row_rd hs3) (hS.row_blk hs3)) (Zhh k29 (hS.row_rd Jq) (hS.row_blk Jq)) (Zhh s5_.k (hS.rd0 s5_.rd) (hS.blk0 s5_.blk)) hm34) ?_
 rintro e w ⟨rfl, hN⟩; refine ⟨_, rfl, ?_⟩; obtain ⟨hB, hS⟩ := hS.jn hN
 refine Za rfl rfl rfl (Yo rfl) ?_
 refine Zg ?_
 refine Zc hK32 ?_
 refine Z1 rfl (fun hb => ?_) (fun hb => ?_)
 ·replace H := Zo H hb
  refine Zd (fun K hK35 => ?_)
  refine Zf ?_
  refine Za rfl rfl rfl (Zi Zx rfl (Zhe _) hS hs7 trivial Zv) ?_
  refine Zl rfl rfl rfl CellsOf.agg hS ps5 Z8 (by kernel_rfl) rfl (fun w hS hB => ?_)
  refine Zg ?_
  refine Zc hK35 ?_
  refine Zk ?_
  refine Zj ?_
  refine Zm rfl (RV.cell rfl (Zt Zx hS hs5 Zv) RV.nil) rfl ?_
  obtain rfl := QJ H
  have hS := hS.front 4 rfl
  have hS := hS.front 4 rfl
  have hS := hS.front 4 rfl
  have hS := hS.front 4 rfl
  have hS := hS.front 4 rfl
  replace hS := hS.cut 5
  exact ⟨A11, c12, A15, c16, A19, c20, A23, c24, A27, c28, rfl, k13, k17, k21, k25, k29, hS⟩
 replace H := Zp H hb
 refine Zs ?_
 refine Zc hK31 ?_
 refine Zd (fun K hK36 => ?_)
 refine Zf ?_
 refine Za rfl rfl rfl (Zi Zx rfl (Zhe _) hS hs7 trivial Zv) ?_
 refine Za rfl rfl rfl (Zi Va rfl (Zhe _) hS Jy trivial Xg) ?_
 obtain ⟨r37, hm38, H⟩ := bind_some H
 refine Zn rfl rfl rfl rfl (by kernel_rfl) rfl (c_ref21_Hear r9 x1 A11 c12 A15 c16 A19 c20 A23 c24 A27 c28 A5_ c5_ _ (Zhh k13 (hS.row_rd hs0) (hS.row_blk hs0)) (Zhh k17 (hS.row_rd Y2) (hS.row_blk Y2)) (Zhh k21 (hS.row_rd Xi) (hS.row_blk Xi)) (Zhh k25 (hS.row_rd hs3) (hS.row_blk hs3)) (Zhh k29 (hS.row_rd Jq) (hS.row_blk Jq)) (Zhh s5_.k (hS.rd0 s5_.rd) (hS.blk0 s5_.blk)) hm38) ?_
 rintro e w ⟨A39, c40, A43, c44, A47, c48, A51, c52, A55, c56, rfl, k41, k45, k49, k53, k57, hN⟩; refine ⟨_, rfl, ?_⟩; obtain ⟨hB, hS⟩ := hS.jn hN
 refine Zl rfl rfl rfl CellsOf.agg hS ps12 Z8 (by kernel_rfl) rfl (fun w hS hB => ?_)
 refine Zg ?_
 refine Zc hK36 ?_
 refine Zd (fun K hK59 => ?_)
 refine Zd (fun K hK60 => ?_)
 refine Zf ?_
 refine Za rfl rfl rfl (Ze Js rfl) ?_
 refine Za rfl rfl rfl (Zh Z3 rfl (Zhe _) hS Zbo trivial Jb) ?_
 refine Za rfl rfl rfl (Ze Yq rfl) ?_
 refine Za rfl rfl rfl (Ze Xl rfl) ?_
 refine Za rfl rfl rfl (Zh Z3 rfl (Zhe _) hS Jc trivial Vz) ?_
 refine Za rfl rfl rfl (Zdj rfl rfl) ?_
 refine Zg ?_
 refine Zc hK60 ?_
 refine Z1 rfl (fun hb => ?_) (fun hb => ?_)
 ·replace H := Zo H hb
  refine Zd (fun K hK61 => ?_)
  refine Zf ?_
  refine Za rfl rfl rfl (Zi Zx rfl (Zhe _) hS Jc trivial Zv) ?_
  refine Zl rfl rfl rfl CellsOf.agg hS ps10 Z8 (by kernel_rfl) rfl (fun w hS hB => ?_)
  refine Zg ?_
  refine Zc hK61 ?_
  refine Zk ?_
  refine Zj ?_
  refine Zm rfl (RV.cell rfl (Zt Zx hS hs10 Zv) RV.nil) rfl ?_
  obtain rfl := QJ H
  have hS := hS.front 4 rfl
  have hS := hS.front 4 rfl
  have hS := hS.front 4 rfl
  have hS := hS.front 4 rfl
  have hS := hS.front 4 rfl
  replace hS := hS.cut 5
  exact ⟨A39, c40, A43, c44, A47, c48, A51, c52, A55, c56, rfl, k41, k45, k49, k53, k57, hS⟩
 replace H := Zp H hb
 refine Zs ?_
 refine Zc hK59 ?_
 refine Zd (fun K hK62 => ?_)
 refine Zf ?_
 refine Za rfl rfl rfl (Ze Yq rfl) ?_
 refine Za rfl rfl rfl (Zi Yp rfl (Zhe _) hS Jc trivial Zbt) ?_
 refine Za rfl rfl rfl (Ze Js rfl) ?_
 refine Za rfl rfl rfl (Zh Z3 rfl (Zhe _) hS Zbo trivial Jb) ?_
 obtain ⟨r63, hm64, H⟩ := bind_some H
 refine Zn rfl rfl rfl rfl (by kernel_rfl) rfl (Zfv r37.tuple x1.term 0 A39 c40 _ (Zhh k41 (hS.row_rd hs0) (hS.row_blk hs0)) hm64) ?_
 rintro e w ⟨A65, c66, rfl, k67, hN⟩; refine ⟨_, rfl, ?_⟩; obtain ⟨hB, hS⟩ := hS.jn hN
 refine Zb 1 rfl ?_
 refine Za rfl rfl rfl (Z0 rfl rfl) ?_
 refine Za rfl rfl rfl (Z0 rfl rfl) ?_
 refine Za rfl rfl rfl (Ze Yq rfl) ?_
 refine Zl rfl rfl rfl CellsOf.agg hS ps13 st4_8 (by kernel_rfl) rfl (fun w hS hB => ?_)
 refine Zg ?_
 refine Zc hK62 ?_
 refine Zd (fun K hK69 => ?_)
 refine Zf ?_
 refine Za rfl rfl rfl (Ze Vv rfl) ?_
 refine Zl rfl rfl rfl CellsOf.int hS ps13 Zgz (by kernel_rfl) rfl (fun w hS hB => ?_)
 refine Zg ?_
 refine Zc hK69 ?_
 refine Zd (fun K hK70 => ?_)
 refine Zf ?_
 refine Za rfl rfl rfl (Ze Vf rfl) ?_
 refine Za rfl rfl rfl (Zh Z3 rfl (Zhe _) hS hs13 trivial Xu) ?_
 obtain ⟨l71, hm72, H⟩ := bind_some H
 refine Zg0 V5 em_27 rfl (by decide) rfl rfl rfl rfl hS hm72 (fun A73 c74 w k75 hS hB => ?_)
 refine Za rfl rfl rfl (Ze Vd rfl) ?_
 refine Zl rfl rfl rfl CellsOf.slice hS ps14 st18_1 (by kernel_rfl) rfl (fun w hS hB => ?_)
 refine Zg ?_
 refine Zc hK70 ?_
 refine Zd (fun K hK77 => ?_)
 refine Zf ?_
 refine Za rfl rfl rfl (Zi Zx rfl (Zhe _) hS hs14 trivial Zv) ?_
 refine Zl rfl rfl rfl CellsOf.agg hS ps12 Z8 (by kernel_rfl) rfl (fun w hS hB => ?_)
 refine Zg ?_
 refine Zc hK77 ?_
 refine Zk ?_
 refine Zm rfl (RV.cell rfl (Zt Zx hS Jc Zv) RV.nil) rfl ?_
 obtain rfl := QJ H
 have hS := hS.front 6 rfl
 have hS := hS.front 6 rfl
 have hS := hS.front 6 rfl
 have hS := hS.front 3 rfl
 have hS := hS.front 4 rfl
 replace hS := hS.cut 5
 exact ⟨A65, c66, A73, c74, A47, c48, A51, c52, A55, c56, rfl, k67, k75, k49, k53, k57, hS⟩
theorem Zgs (x0 : Co) (x1 : Int) (x2 : Int) (A0_ : OA) (c0_ : Nat) (A1_ : OA) (c1_ : Nat) (A2_ : OA) (c2_ : Nat) (A3_ : OA) (c3_ : Nat) (A4_ : OA) (c4_ : Nat) (w0 : World) (s0_ : SlI w0 V3 A0_ c0_ x0.tuple.log) (s1_ : SlI w0 enO A1_ c1_ x0.votes) (s2_ : SlI w0 X2 A2_ c2_ x0.next) (s3_ : SlI w0 X2 A3_ c3_ x0.mtch) (s4_ : SlI w0 X2 A4_ c4_ x0.caps) {r : Bool} (H : J7 x0 x1 x2 = some r) : Calls Tryz.prog 24 #[.agg #[.int .i64 x0.id, .int .i64 x0.n, .int .u8 x0.role, .int .i64 x0.binary, .int .i64 x0.tuple.snap.index, .int .i64 x0.tuple.snap.term, .int .i64 x0.tuple.snap.sum, .int .i64 x0.tuple.snap.level, .bool x0.tuple.snap.final, .slice A0_ x0.tuple.log.length c0_, .int .i64 x0.tuple.term, .int .i64 x0.tuple.vote, .int .i64 x0.commit, .int .i64 x0.applied.index, .int .i64 x0.applied.term, .int .i64 x0.applied.sum, .int .i64 x0.applied.level, .bool x0.applied.final, .slice A1_ x0.votes.length c1_, .slice A2_ x0.next.length c2_, .slice A3_ x0.mtch.length c3_, .slice A4_ x0.caps.length c4_], .int .i64 x1, .int .i64 x2] w0 fun e w' => e = .returned (.bool r) ∧ St0 All w0 w' [] := by
 unfold J7 at H
 refine Zaj Tryz.func24 rfl Tryz.ntmps24 rfl ?_
 have hS := St0.start All w0
 refine Zd (fun K hK1 => ?_)
 refine Zf ?_
 refine Z7 rfl rfl rfl CellsOf.agg hS (fun b2 w hS hB => ?_)
 refine Zb 1 rfl ?_
 refine Zg ?_
 refine Zc hK1 ?_
 refine Zd (fun K hK4 => ?_)
 refine Zd (fun K hK5 => ?_)
 refine Zf ?_
 refine Za rfl rfl rfl (Zi Zx rfl (Zhe _) hS hs0 trivial Zv) ?_
 obtain ⟨r6, hm7, H⟩ := bind_some H
 refine Zn rfl rfl rfl rfl (by kernel_rfl) rfl (Zdu x0 A0_ c0_ A1_ c1_ A2_ c2_ A3_ c3_ A4_ c4_ _ (Zhh s0_.k (hS.rd0 s0_.rd) (hS.blk0 s0_.blk)) (Zhh s1_.k (hS.rd0 s1_.rd) (hS.blk0 s1_.blk)) (Zhh s2_.k (hS.rd0 s2_.rd) (hS.blk0 s2_.blk)) (Zhh s3_.k (hS.rd0 s3_.rd) (hS.blk0 s3_.blk)) (Zhh s4_.k (hS.rd0 s4_.rd) (hS.blk0 s4_.blk)) hm7) ?_
 rintro e w ⟨rfl, hN⟩; refine ⟨_, rfl, ?_⟩; obtain ⟨hB, hS⟩ := hS.jn hN
 refine Za rfl rfl rfl (Yo rfl) ?_
 refine Zg ?_
 refine Zc hK5 ?_
 refine Z1 rfl (fun hb => ?_) (fun hb => ?_)
 ·replace H := Zo H hb
  refine Zd (fun K hK8 => ?_)
  refine Zf ?_
  refine Zb 1 rfl ?_
  refine Zg ?_
  refine Zc hK8 ?_
  refine Zk ?_
  refine Zj ?_
  refine Zm rfl (RV.tmp rfl RV.nil) rfl ?_
  obtain rfl := QJ H
  replace hS := hS.cut 0
  exact ⟨rfl, hS⟩
 replace H := Zp H hb
 refine Zs ?_
 refine Zc hK4 ?_
 refine Zd (fun K hK9 => ?_)
 refine Zf ?_
 refine Za rfl rfl rfl (Zi Zx rfl (Zhe _) hS hs0 trivial Zv) ?_
 obtain ⟨r10, hm11, H⟩ := bind_some H
 refine Zn rfl rfl rfl rfl (by kernel_rfl) rfl (Zg4 x0 A0_ c0_ A1_ c1_ A2_ c2_ A3_ c3_ A4_ c4_ _ (Zhh s0_.k (hS.rd0 s0_.rd) (hS.blk0 s0_.blk)) (Zhh s1_.k (hS.rd0 s1_.rd) (hS.blk0 s1_.blk)) (Zhh s2_.k (hS.rd0 s2_.rd) (hS.blk0 s2_.blk)) (Zhh s3_.k (hS.rd0 s3_.rd) (hS.blk0 s3_.blk)) (Zhh s4_.k (hS.rd0 s4_.rd) (hS.blk0 s4_.blk)) hm11) ?_
 rintro e w ⟨rfl, hN⟩; refine ⟨_, rfl, ?_⟩; obtain ⟨hB, hS⟩ := hS.jn hN
 refine Zb 1 rfl ?_
 refine Zg ?_
 refine Zc hK9 ?_
 refine Zd (fun K hK12 => ?_)
 refine Zf ?_
 refine Zb 2 rfl ?_
 refine Za rfl rfl rfl (Y7 rfl rfl) ?_
 refine Zb 1 rfl ?_
 refine Zq 16 rfl (fun hb => ?_) (fun hb => ?_)
 ·replace H := Zo H hb
  refine Zb 12 rfl ?_
  refine Zg ?_
  refine Zc hK12 ?_
  refine Zk ?_
  refine Zm rfl (RV.tmp rfl RV.nil) rfl ?_
  obtain rfl := QJ H
  replace hS := hS.cut 0
  exact ⟨rfl, hS⟩
 replace H := Zp H hb
 refine Zb 2 rfl ?_
 refine Za rfl rfl rfl (Yr rfl rfl) ?_
 refine Zb 1 rfl ?_
 refine Zq 20 rfl (fun hb => ?_) (fun hb => ?_)
 rotate_left
 ·replace H := Zp H hb
  refine Zb 8 rfl ?_
  refine Zg ?_
  refine Zc hK12 ?_
  refine Zk ?_
  refine Zm rfl (RV.tmp rfl RV.nil) rfl ?_
  obtain rfl := QJ H
  replace hS := hS.cut 0
  exact ⟨rfl, hS⟩
 replace H := Zo H hb
 refine Zb 1 rfl ?_
 refine Za rfl rfl rfl (Ze Yq rfl) ?_
 refine Za rfl rfl rfl (Zi Yp rfl (Zhe _) hS hs0 trivial Zbt) ?_
 obtain ⟨r13, hm14, H⟩ := bind_some H
 refine Zn rfl rfl rfl rfl (by kernel_rfl) rfl (Zaw x0.tuple A0_ c0_ _ (Zhh s0_.k (hS.rd0 s0_.rd) (hS.blk0 s0_.blk)) hm14) ?_
 rintro e w ⟨rfl, hN⟩; refine ⟨_, rfl, ?_⟩; obtain ⟨hB, hS⟩ := hS.jn hN
 refine Za rfl rfl rfl (Zcz rfl rfl) ?_
 refine Zb 3 rfl ?_
 refine Zg ?_
 refine Zc hK12 ?_
 refine Zk ?_
 refine Zm rfl (RV.tmp rfl RV.nil) rfl ?_
 obtain rfl := QJ H
 replace hS := hS.cut 0
 exact ⟨rfl, hS⟩
theorem Zbz (x0 : Co) (x1 : Ms) (x2 : Int) (x3 : Bool) (x4 : Int) (A0_ : OA) (c0_ : Nat) (A1_ : OA) (c1_ : Nat) (A2_ : OA) (c2_ : Nat) (A3_ : OA) (c3_ : Nat) (A4_ : OA) (c4_ : Nat) (A5_ : OA) (c5_ : Nat) (w0 : World) (s0_ : SlI w0 V3 A0_ c0_ x0.tuple.log) (s1_ : SlI w0 enO A1_ c1_ x0.votes) (s2_ : SlI w0 X2 A2_ c2_ x0.next) (s3_ : SlI w0 X2 A3_ c3_ x0.mtch) (s4_ : SlI w0 X2 A4_ c4_ x0.caps) (s5_ : SlI w0 V3 A5_ c5_ x1.entries) {r : Ms} (H : Jj x0 x1 x2 x3 x4 = some r) : Calls Tryz.prog 63 #[.agg #[.int .i64 x0.id, .int .i64 x0.n, .int .u8 x0.role, .int .i64 x0.binary, .int .i64 x0.tuple.snap.index, .int .i64 x0.tuple.snap.term, .int .i64 x0.tuple.snap.sum, .int .i64 x0.tuple.snap.level, .bool x0.tuple.snap.final, .slice A0_ x0.tuple.log.length c0_, .int .i64 x0.tuple.term, .int .i64 x0.tuple.vote, .int .i64 x0.commit, .int .i64 x0.applied.index, .int .i64 x0.applied.term, .int .i64 x0.applied.sum, .int .i64 x0.applied.level, .bool x0.applied.final, .slice A1_ x0.votes.length c1_, .slice A2_ x0.next.length c2_, .slice A3_ x0.mtch.length c3_, .slice A4_ x0.caps.length c4_], .agg #[.int .u8 x1.kind, .int .i64 x1.frm, .int .i64 x1.dst, .int .i64 x1.term, .int .i64 x1.cap, .int .i64 x1.last, .int .i64 x1.lastTerm, .int .i64 x1.commit, .bool x1.okk, .slice A5_ x1.entries.length c5_, .int .i64 x1.snap.index, .int .i64 x1.snap.term, .int .i64 x1.snap.sum, .int .i64 x1.snap.level, .bool x1.snap.final], .int .u8 x2, .bool x3, .int .i64 x4] w0 fun e w' => ∃ (A0 : OA) (c0 : Nat), e = .returned (.agg #[.int .u8 r.kind, .int .i64 r.frm, .int .i64 r.dst, .int .i64 r.term, .int .i64 r.cap, .int .i64 r.last, .int .i64 r.lastTerm, .int .i64 r.commit, .bool r.okk, .slice A0 r.entries.length c0, .int .i64 r.snap.index, .int .i64 r.snap.term, .int .i64 r.snap.sum, .int .i64 r.snap.level, .bool r.snap.final]) ∧ (r.entries.length ≤ c0 ∧ c0 ≤ maxLen) ∧ St0 All w0 w' [.rd A0 (Yf V3 r.entries)] := by
 unfold Jj at H
 refine Zha Tryz.func63 rfl Tryz.ntmps63 rfl ?_
 have hS := St0.start All w0
 refine Zd (fun K hK1 => ?_)
 refine Zf ?_
 refine Z7 rfl rfl rfl CellsOf.agg hS (fun b2 w hS hB => ?_)
 refine Z7 rfl rfl rfl CellsOf.agg hS (fun b4 w hS hB => ?_)
 refine Yd rfl rfl Jf hS (fun b6 w hS hB => ?_)
 refine Zg ?_
 refine Zc hK1 ?_
 refine Zd (fun K hK8 => ?_)
 refine Zf ?_
 refine Zb 1 rfl ?_
 refine Za rfl rfl rfl (Ze Vo rfl) ?_
 refine Za rfl rfl rfl (Zh Z3 rfl (Zhe _) hS Xi trivial Yx) ?_
 refine Za rfl rfl rfl (Ze Zaf rfl) ?_
 refine Za rfl rfl rfl (Zh Z3 rfl (Zhe _) hS Y2 trivial Xu) ?_
 refine Za rfl rfl rfl (Ze Yq rfl) ?_
 refine Za rfl rfl rfl (Ze Xl rfl) ?_
 refine Za rfl rfl rfl (Zh Z3 rfl (Zhe _) hS Xi trivial Vz) ?_
 refine Za rfl rfl rfl (Ze Zdy rfl) ?_
 refine Za rfl rfl rfl (Zh Z3 rfl (Zhe _) hS Xi trivial Jb) ?_
 refine Zb 2 rfl ?_
 refine Za rfl rfl rfl (Xn (cells := [.int .u8 x2, .int .i64 x0.id, .int .i64 x1.frm, .int .i64 x0.tuple.term, .int .i64 x0.binary, .int .i64 x4, .int .i64 0, .int .i64 0, .bool x3, .slice none 0 0, .int .i64 0, .int .i64 0, .int .i64 0, .int .i64 0, .bool false]) rfl (by kernel_rfl)) ?_
 refine Zl rfl rfl rfl CellsOf.agg hS ps0 st0_15 (by kernel_rfl) rfl (fun w hS hB => ?_)
 refine Zg ?_
 refine Zc hK8 ?_
 refine Zk ?_
 refine Zm rfl (RV.cell rfl (Zt Va hS hs0 Xg) RV.nil) rfl ?_
 obtain rfl := QJ H
 have hS := hS.nilRd
 replace hS := hS.cut 1
 exact ⟨none, 0, rfl, ⟨Nat.le_refl _, Nat.zero_le _⟩, hS⟩
theorem c_ref22_Vote (x0 : Co) (x1 : Ms) (A0_ : OA) (c0_ : Nat) (A1_ : OA) (c1_ : Nat) (A2_ : OA) (c2_ : Nat) (A3_ : OA) (c3_ : Nat) (A4_ : OA) (c4_ : Nat) (A5_ : OA) (c5_ : Nat) (w0 : World) (s0_ : SlI w0 V3 A0_ c0_ x0.tuple.log) (s1_ : SlI w0 enO A1_ c1_ x0.votes) (s2_ : SlI w0 X2 A2_ c2_ x0.next) (s3_ : SlI w0 X2 A3_ c3_ x0.mtch) (s4_ : SlI w0 X2 A4_ c4_ x0.caps) (s5_ : SlI w0 V3 A5_ c5_ x1.entries) {r : Co × List Ms} (H : Zcb x0 x1 = some r) : Calls Tryz.prog 14 #[.agg #[.int .i64 x0.id, .int .i64 x0.n, .int .u8 x0.role, .int .i64 x0.binary, .int .i64 x0.tuple.snap.index, .int .i64 x0.tuple.snap.term, .int .i64 x0.tuple.snap.sum, .int .i64 x0.tuple.snap.level, .bool x0.tuple.snap.final, .slice A0_ x0.tuple.log.length c0_, .int .i64 x0.tuple.term, .int .i64 x0.tuple.vote, .int .i64 x0.commit, .int .i64 x0.applied.index, .int .i64 x0.applied.term, .int .i64 x0.applied.sum, .int .i64 x0.applied.level, .bool x0.applied.final, .slice A1_ x0.votes.length c1_, .slice A2_ x0.next.length c2_, .slice A3_ x0.mtch.length c3_, .slice A4_ x0.caps.length c4_], .agg #[.int .u8 x1.kind, .int .i64 x1.frm, .int .i64 x1.dst, .int .i64 x1.term, .int .i64 x1.cap, .int .i64 x1.last, .int .i64 x1.lastTerm, .int .i64 x1.commit, .bool x1.okk, .slice A5_ x1.entries.length c5_, .int .i64 x1.snap.index, .int .i64 x1.snap.term, .int .i64 x1.snap.sum, .int .i64 x1.snap.level, .bool x1.snap.final]] w0 fun e w' => ∃ (A0 : OA) (c0 : Nat) (A1 : OA) (c1 : Nat) (A2 : OA) (c2 : Nat) (A3 : OA) (c3 : Nat) (A4 : OA) (c4 : Nat) (A5 : OA) (c5 : Nat) (q5 : List Mq), e = .returned (.tuple #[.agg #[.int .i64 r.1.id, .int .i64 r.1.n, .int .u8 r.1.role, .int .i64 r.1.binary, .int .i64 r.1.tuple.snap.index, .int .i64 r.1.tuple.snap.term, .int .i64 r.1.tuple.snap.sum, .int .i64 r.1.tuple.snap.level, .bool r.1.tuple.snap.final, .slice A0 r.1.tuple.log.length c0, .int .i64 r.1.tuple.term, .int .i64 r.1.tuple.vote, .int .i64 r.1.commit, .int .i64 r.1.applied.index, .int .i64 r.1.applied.term, .int .i64 r.1.applied.sum, .int .i64 r.1.applied.level, .bool r.1.applied.final, .slice A1 r.1.votes.length c1, .slice A2 r.1.next.length c2, .slice A3 r.1.mtch.length c3, .slice A4 r.1.caps.length c4], .slice A5 r.2.length c5]) ∧ (r.1.tuple.log.length ≤ c0 ∧ c0 ≤ maxLen) ∧ (r.1.votes.length ≤ c1 ∧ c1 ≤ maxLen) ∧ (r.1.next.length ≤ c2 ∧ c2 ≤ maxLen) ∧ (r.1.mtch.length ≤ c3 ∧ c3 ≤ maxLen) ∧ (r.1.caps.length ≤ c4 ∧ c4 ≤ maxLen) ∧ (r.2.length ≤ c5 ∧ c5 ≤ maxLen) ∧ q5.map Mq.m = r.2 ∧ (∀ y ∈ q5, okQ y) ∧ St0 All w0 w' [.row (.slice A0 r.1.tuple.log.length c0) 53 3 r.1.tuple.log.length (Yf V3 r.1.tuple.log), .row (.slice A1 r.1.votes.length c1) 4 1 r.1.votes.length (Yf enO r.1.votes), .row (.slice A2 r.1.next.length c2) 3 1 r.1.next.length (Yf X2 r.1.next), .row (.slice A3 r.1.mtch.length c3) 3 1 r.1.mtch.length (Yf X2 r.1.mtch), .row (.slice A4 r.1.caps.length c4) 3 1 r.1.caps.length (Yf X2 r.1.caps), .rd A5 (Yf enQ q5), .rds (q5.map subQ)] := by
 unfold Zcb at H
 refine Ys Tryz.func14 rfl Tryz.ntmps14 rfl ?_
 have hS := St0.start All w0
 refine Zd (fun K hK1 => ?_)
 refine Zf ?_
 refine Z7 rfl rfl rfl CellsOf.agg hS (fun b2 w hS hB => ?_)
 refine Z7 rfl rfl rfl CellsOf.agg hS (fun b4 w hS hB => ?_)
 refine Yd rfl rfl Zbx hS (fun b6 w hS hB => ?_)
 refine Zb 1 rfl ?_
 refine Zg ?_
 refine Zc hK1 ?_
 refine Zd (fun K hK8 => ?_)
 refine Zf ?_
 refine Za rfl rfl rfl (Zi Zx rfl (Zhe _) hS Xi trivial Zv) ?_
 obtain ⟨r9, hm10, H⟩ := bind_some H
 refine Zn rfl rfl rfl rfl (by kernel_rfl) rfl (Zea x0 A0_ c0_ A1_ c1_ A2_ c2_ A3_ c3_ A4_ c4_ _ (Zhh s0_.k (hS.rd0 s0_.rd) (hS.blk0 s0_.blk)) (Zhh s1_.k (hS.rd0 s1_.rd) (hS.blk0 s1_.blk)) (Zhh s2_.k (hS.rd0 s2_.rd) (hS.blk0 s2_.blk)) (Zhh s3_.k (hS.rd0 s3_.rd) (hS.blk0 s3_.blk)) (Zhh s4_.k (hS.rd0 s4_.rd) (hS.blk0 s4_.blk)) hm10) ?_
 rintro e w ⟨A11, c12, A15, c16, A19, c20, A23, c24, A27, c28, rfl, k13, k17, k21, k25, k29, hN⟩; refine ⟨_, rfl, ?_⟩; obtain ⟨hB, hS⟩ := hS.jn hN
 refine Zl rfl rfl rfl CellsOf.agg hS ps7 Z8 (by kernel_rfl) rfl (fun w hS hB => ?_)
 refine Zg ?_
 refine Zc hK8 ?_
 refine Zd (fun K hK31 => ?_)
 refine Zd (fun K hK32 => ?_)
 refine Zf ?_
 refine Za rfl rfl rfl (Zi Zx rfl (Zhe _) hS hs7 trivial Zv) ?_
 refine Za rfl rfl rfl (Zi Va rfl (Zhe _) hS Jy trivial Xg) ?_
 obtain ⟨r33, hm34, H⟩ := bind_some H
 refine Zn rfl rfl rfl rfl (by kernel_rfl) rfl (c_ref22_fits r9 x1 A11 c12 A15 c16 A19 c20 A23 c24 A27 c28 A5_ c5_ _ (Zhh k13 (hS.row_rd hs0) (hS.row_blk hs0)) (Zhh k17 (hS.row_rd Y2) (hS.row_blk Y2)) (Zhh k21 (hS.row_rd Xi) (hS.row_blk Xi)) (Zhh k25 (hS.row_rd hs3) (hS.row_blk hs3)) (Zhh k29 (hS.row_rd Jq) (hS.row_blk Jq)) (Zhh s5_.k (hS.rd0 s5_.rd) (hS.blk0 s5_.blk)) hm34) ?_
 rintro e w ⟨rfl, hN⟩; refine ⟨_, rfl, ?_⟩; obtain ⟨hB, hS⟩ := hS.jn hN
 refine Za rfl rfl rfl (Yo rfl) ?_
 refine Zb 1 rfl ?_
 refine Zq 13 rfl (fun hb => ?_) (fun hb => ?_)
 ·replace H := Zo H hb
  refine Zb 4 rfl ?_
  refine Zg ?_
  refine Zc hK32 ?_
  refine Zu rfl rfl ?_
  refine Zd (fun K hK35 => ?_)
  refine Zf ?_
  refine Za rfl rfl rfl (Zi Zx rfl (Zhe _) hS hs7 trivial Zv) ?_
  refine Zl rfl rfl rfl CellsOf.agg hS ps5 Z8 (by kernel_rfl) rfl (fun w hS hB => ?_)
  refine Zb 1 rfl ?_
  refine Zg ?_
  refine Zc hK35 ?_
  refine Zk ?_
  refine Zj ?_
  refine Zm rfl (RV.cell rfl (Zt Zx hS hs5 Zv) (RV.tmp rfl RV.nil)) rfl ?_
  obtain rfl := QJ H
  have hS := hS.nilRds
  replace hS := hS.nilRd
  have hS := hS.front 6 rfl
  have hS := hS.front 6 rfl
  have hS := hS.front 6 rfl
  have hS := hS.front 6 rfl
  have hS := hS.front 6 rfl
  replace hS := hS.cut 7
  exact ⟨A11, c12, A15, c16, A19, c20, A23, c24, A27, c28, none, 0, ([] : List Mq), rfl, k13, k17, k21, k25, k29, ⟨Nat.le_refl _, Nat.zero_le _⟩, rfl, Yu, hS⟩
 replace H := Zp H hb
 refine Za rfl rfl rfl (Ze Vc rfl) ?_
 refine Za rfl rfl rfl (Zh Zas rfl (Zhe _) hS Jy trivial Yx) ?_
 refine Za rfl rfl rfl (Xm rfl rfl) ?_
 refine Zb 1 rfl ?_
 refine Zg ?_
 refine Zc hK32 ?_
 refine Z1 rfl (fun hb => ?_) (fun hb => ?_)
 ·replace H := Zo H hb
  refine Zd (fun K hK36 => ?_)
  refine Zf ?_
  refine Za rfl rfl rfl (Zi Zx rfl (Zhe _) hS hs7 trivial Zv) ?_
  refine Zl rfl rfl rfl CellsOf.agg hS ps5 Z8 (by kernel_rfl) rfl (fun w hS hB => ?_)
  refine Zb 1 rfl ?_
  refine Zg ?_
  refine Zc hK36 ?_
  refine Zk ?_
  refine Zj ?_
  refine Zm rfl (RV.cell rfl (Zt Zx hS hs5 Zv) (RV.tmp rfl RV.nil)) rfl ?_
  obtain rfl := QJ H
  have hS := hS.nilRds
  replace hS := hS.nilRd
  have hS := hS.front 6 rfl
  have hS := hS.front 6 rfl
  have hS := hS.front 6 rfl
  have hS := hS.front 6 rfl
  have hS := hS.front 6 rfl
  replace hS := hS.cut 7
  exact ⟨A11, c12, A15, c16, A19, c20, A23, c24, A27, c28, none, 0, ([] : List Mq), rfl, k13, k17, k21, k25, k29, ⟨Nat.le_refl _, Nat.zero_le _⟩, rfl, Yu, hS⟩
 replace H := Zp H hb
 refine Zs ?_
 refine Zc hK31 ?_
 refine Zd (fun K hK37 => ?_)
 refine Zf ?_
 refine Za rfl rfl rfl (Zi Zx rfl (Zhe _) hS hs7 trivial Zv) ?_
 refine Za rfl rfl rfl (Zi Va rfl (Zhe _) hS Jy trivial Xg) ?_
 obtain ⟨r38, hm39, H⟩ := bind_some H
 refine Zn rfl rfl rfl rfl (by kernel_rfl) rfl (c_ref22_Meet r9 x1 A11 c12 A15 c16 A19 c20 A23 c24 A27 c28 A5_ c5_ _ (Zhh k13 (hS.row_rd hs0) (hS.row_blk hs0)) (Zhh k17 (hS.row_rd Y2) (hS.row_blk Y2)) (Zhh k21 (hS.row_rd Xi) (hS.row_blk Xi)) (Zhh k25 (hS.row_rd hs3) (hS.row_blk hs3)) (Zhh k29 (hS.row_rd Jq) (hS.row_blk Jq)) (Zhh s5_.k (hS.rd0 s5_.rd) (hS.blk0 s5_.blk)) hm39) ?_
 rintro e w ⟨A40, c41, A44, c45, A48, c49, A52, c53, A56, c57, rfl, k42, k46, k50, k54, k58, hN⟩; refine ⟨_, rfl, ?_⟩; obtain ⟨hB, hS⟩ := hS.jn hN
 refine Zl rfl rfl rfl CellsOf.agg hS ps12 Z8 (by kernel_rfl) rfl (fun w hS hB => ?_)
 refine Zg ?_
 refine Zc hK37 ?_
 refine Zd (fun K hK60 => ?_)
 refine Zf ?_
 refine Za rfl rfl rfl (Ze Js rfl) ?_
 refine Za rfl rfl rfl (Zh Z3 rfl (Zhe _) hS Zbo trivial Jb) ?_
 refine Za rfl rfl rfl (Ze Yq rfl) ?_
 refine Za rfl rfl rfl (Ze Xl rfl) ?_
 refine Za rfl rfl rfl (Zh Z3 rfl (Zhe _) hS Jc trivial Vz) ?_
 refine Za rfl rfl rfl (Yr rfl rfl) ?_
 refine Zb 1 rfl ?_
 refine Zq 28 rfl (fun hb => ?_) (fun hb => ?_)
 rotate_left
 ·replace H := Zp H hb
  refine Zb 27 rfl ?_
  refine Zg ?_
  refine Zc hK60 ?_
  refine Zd (fun K hK139 => ?_)
  refine Zd (fun K hK140 => ?_)
  refine Zf ?_
  refine Zb 1 rfl ?_
  refine Zg ?_
  refine Zc hK140 ?_
  refine Yg rfl rfl ?_
  refine Zs ?_
  refine Zc hK139 ?_
  refine Zd (fun K hK141 => ?_)
  refine Yn 8 [6] (fun i b => (i = 6 → b ≠ b6)) ⟨by kernel_rfl, by kernel_rfl⟩ hS (fun w hS hB => ?_)
  refine Zr [true] (by decide +kernel) PFC.h ?_
  refine LtK.put rfl rfl rfl (Zi Zx rfl (Zhf _) hS Jc trivial Zv) ?_
  refine LtK.nil ?_
  refine Y1 [false, true, true, true] [6] (fun b => b ≠ b6) (by decide +kernel) (by intro j hj b hb; simp only [List.mem_cons, List.not_mem_nil, or_false] at hj; (try rcases hj with rfl | rfl | rfl | rfl | rfl) <;> first | (simp [hb]; done) | simp_all) PFC.h ?_
  refine LtK.put rfl rfl rfl (Zi Zx rfl (Zhg _ _) hS Jc (hS.ne 12 10 rfl rfl rfl) Zv) ?_
  refine LtK.put rfl rfl rfl (Zi Va rfl (Zhg _ _) hS Zbo (hS.ne 11 10 rfl rfl rfl) Xg) ?_
  refine LtK.put rfl rfl rfl (Zy rfl) ?_
  refine LtK.nil ?_
  refine Z5 [false, false, false, false, true] 4 ⟨by decide, by kernel_rfl, by kernel_rfl⟩ rfl rfl ?_
  try dsimp only [Zw]
  obtain ⟨r142, hm143, H⟩ := bind_some H
  refine Zn rfl rfl rfl rfl (by kernel_rfl) rfl (Zbz r38 x1 2 false 0 A40 c41 A44 c45 A48 c49 A52 c53 A56 c57 A5_ c5_ _ (Zhh k42 (hS.row_rd hs0) (hS.row_blk hs0)) (Zhh k46 (hS.row_rd Y2) (hS.row_blk Y2)) (Zhh k50 (hS.row_rd Xi) (hS.row_blk Xi)) (Zhh k54 (hS.row_rd hs3) (hS.row_blk hs3)) (Zhh k58 (hS.row_rd Jq) (hS.row_blk Jq)) (Zhh s5_.k (hS.rd0 s5_.rd) (hS.blk0 s5_.blk)) hm143) ?_
  rintro e w ⟨A144, c145, rfl, k146, hN⟩; refine ⟨_, rfl, ?_⟩; obtain ⟨hB, hS⟩ := hS.jn hN
  refine Zg ?_
  refine Z6 hB ?_
  refine Jv [5, 6] ⟨by decide, by kernel_rfl⟩ rfl (.call [false, false, false, false, false, true] 5 rfl rfl rfl ?_ (.put [false, false, false, false, false, false, true] 6 rfl rfl rfl ?_ .nil))
  ·try dsimp only [Zw]
   refine Ym (ps := [(0, .tmp 71)]) [.int .u8 r142.kind, .int .i64 r142.frm, .int .i64 r142.dst, .int .i64 r142.term, .int .i64 r142.cap, .int .i64 r142.last, .int .i64 r142.lastTerm, .int .i64 r142.commit, .bool r142.okk, .slice A144 r142.entries.length c145, .int .i64 r142.snap.index, .int .i64 r142.snap.term, .int .i64 r142.snap.sum, .int .i64 r142.snap.level, .bool r142.snap.final] Vk Jf rfl rfl rfl rfl rfl (by kernel_rfl) hS (fun b148 w hS hB => ?_)
   refine Zg ?_
   refine Z6 hB ?_
   refine Yk [false, false, false, false, false, false, true] 6 ⟨by decide, by kernel_rfl, by kernel_rfl⟩ rfl rfl ?_
   try dsimp only [Zw]
   refine Zl rfl rfl rfl CellsOf.agg hS ps12 Z8 (by kernel_rfl) rfl (fun w hS hB => ?_)
   refine Zg ?_
   refine Yb (hB.sub (fun _ _ h => by simpa using h)) ?_
   refine Zr [false, false, false, false, false, false, false, true] (by decide +kernel) PFC.h ?_
   refine LtK.put rfl rfl rfl (Z2 rfl) ?_
   refine LtK.nil ?_
   refine Ye (by kernel_rfl) ?_
   refine Zc hK141 ?_
   refine Zk ?_
   refine Zm rfl (RV.cell rfl (Zt Zx hS Jc Zv) (RV.tmp rfl RV.nil)) rfl ?_
   obtain rfl := QJ H
   have hS := hS.nilRds
   replace hS := hS.front 2 rfl
   replace hS := hS.absorbQ ⟨r142, A144, c145⟩
   replace hS := hS.front 1 rfl
   replace hS := hS.weak Weak.boxRd
   have hS := hS.front 6 rfl
   have hS := hS.front 6 rfl
   have hS := hS.front 6 rfl
   have hS := hS.front 6 rfl
   have hS := hS.front 6 rfl
   replace hS := hS.cut 7
   exact ⟨A40, c41, A44, c45, A48, c49, A52, c53, A56, c57, (some ⟨b148, 0, none⟩), 1, ([⟨r142, A144, c145⟩] : List Mq), rfl, k42, k46, k50, k54, k58, ⟨Nat.le_refl 1, by decide⟩, rfl, (Xp k146 Yu), hS⟩
  ·try dsimp only [Zw]
   refine Zl rfl rfl rfl CellsOf.agg hS ps11 Z8 (by kernel_rfl) rfl (fun w hS hB => ?_)
   refine Zg ?_
   refine Yb (hB.sub (fun _ _ h => by simpa using h)) ?_
   refine Z5 [false, false, false, false, false, true] 5 ⟨by decide, by kernel_rfl, by kernel_rfl⟩ rfl rfl ?_
   try dsimp only [Zw]
   refine Ym (ps := [(0, .tmp 71)]) [.int .u8 r142.kind, .int .i64 r142.frm, .int .i64 r142.dst, .int .i64 r142.term, .int .i64 r142.cap, .int .i64 r142.last, .int .i64 r142.lastTerm, .int .i64 r142.commit, .bool r142.okk, .slice A144 r142.entries.length c145, .int .i64 r142.snap.index, .int .i64 r142.snap.term, .int .i64 r142.snap.sum, .int .i64 r142.snap.level, .bool r142.snap.final] Vk Jf rfl rfl rfl rfl rfl (by kernel_rfl) hS (fun b148 w hS hB => ?_)
   refine Zg ?_
   refine Z6 hB ?_
   refine Zr [false, false, false, false, false, false, false, true] (by decide +kernel) PFC.h ?_
   refine LtK.put rfl rfl rfl (Z2 rfl) ?_
   refine LtK.nil ?_
   refine Ye (by kernel_rfl) ?_
   refine Zc hK141 ?_
   refine Zk ?_
   refine Zm rfl (RV.cell rfl (Zt Zx hS Jc Zv) (RV.tmp rfl RV.nil)) rfl ?_
   obtain rfl := QJ H
   have hS := hS.nilRds
   replace hS := hS.front 2 rfl
   replace hS := hS.absorbQ ⟨r142, A144, c145⟩
   replace hS := hS.front 1 rfl
   replace hS := hS.weak Weak.boxRd
   have hS := hS.front 6 rfl
   have hS := hS.front 6 rfl
   have hS := hS.front 6 rfl
   have hS := hS.front 6 rfl
   have hS := hS.front 6 rfl
   replace hS := hS.cut 7
   exact ⟨A40, c41, A44, c45, A48, c49, A52, c53, A56, c57, (some ⟨b148, 0, none⟩), 1, ([⟨r142, A144, c145⟩] : List Mq), rfl, k42, k46, k50, k54, k58, ⟨Nat.le_refl 1, by decide⟩, rfl, (Xp k146 Yu), hS⟩
 replace H := Zo H hb
 refine Za rfl rfl rfl (Ze Vv rfl) ?_
 refine Za rfl rfl rfl (Zh Zas rfl (Zhe _) hS Jc trivial Jt) ?_
 refine Za rfl rfl rfl (Yr rfl rfl) ?_
 refine Zb 2 rfl ?_
 refine Zq 33 rfl (fun hb => ?_) (fun hb => ?_)
 rotate_left
 ·replace H := Zp H hb
  refine Zb 22 rfl ?_
  refine Zg ?_
  refine Zc hK60 ?_
  refine Zd (fun K hK128 => ?_)
  refine Zd (fun K hK129 => ?_)
  refine Zf ?_
  refine Zb 1 rfl ?_
  refine Zg ?_
  refine Zc hK129 ?_
  refine Yg rfl rfl ?_
  refine Zs ?_
  refine Zc hK128 ?_
  refine Zd (fun K hK130 => ?_)
  refine Yn 8 [6] (fun i b => (i = 6 → b ≠ b6)) ⟨by kernel_rfl, by kernel_rfl⟩ hS (fun w hS hB => ?_)
  refine Zr [true] (by decide +kernel) PFC.h ?_
  refine LtK.put rfl rfl rfl (Zi Zx rfl (Zhf _) hS Jc trivial Zv) ?_
  refine LtK.nil ?_
  refine Y1 [false, true, true, true] [6] (fun b => b ≠ b6) (by decide +kernel) (by intro j hj b hb; simp only [List.mem_cons, List.not_mem_nil, or_false] at hj; (try rcases hj with rfl | rfl | rfl | rfl | rfl) <;> first | (simp [hb]; done) | simp_all) PFC.h ?_
  refine LtK.put rfl rfl rfl (Zi Zx rfl (Zhg _ _) hS Jc (hS.ne 12 10 rfl rfl rfl) Zv) ?_
  refine LtK.put rfl rfl rfl (Zi Va rfl (Zhg _ _) hS Zbo (hS.ne 11 10 rfl rfl rfl) Xg) ?_
  refine LtK.put rfl rfl rfl (Zy rfl) ?_
  refine LtK.nil ?_
  refine Z5 [false, false, false, false, true] 4 ⟨by decide, by kernel_rfl, by kernel_rfl⟩ rfl rfl ?_
  try dsimp only [Zw]
  obtain ⟨r131, hm132, H⟩ := bind_some H
  refine Zn rfl rfl rfl rfl (by kernel_rfl) rfl (Zbz r38 x1 2 false 0 A40 c41 A44 c45 A48 c49 A52 c53 A56 c57 A5_ c5_ _ (Zhh k42 (hS.row_rd hs0) (hS.row_blk hs0)) (Zhh k46 (hS.row_rd Y2) (hS.row_blk Y2)) (Zhh k50 (hS.row_rd Xi) (hS.row_blk Xi)) (Zhh k54 (hS.row_rd hs3) (hS.row_blk hs3)) (Zhh k58 (hS.row_rd Jq) (hS.row_blk Jq)) (Zhh s5_.k (hS.rd0 s5_.rd) (hS.blk0 s5_.blk)) hm132) ?_
  rintro e w ⟨A133, c134, rfl, k135, hN⟩; refine ⟨_, rfl, ?_⟩; obtain ⟨hB, hS⟩ := hS.jn hN
  refine Zg ?_
  refine Z6 hB ?_
  refine Jv [5, 6] ⟨by decide, by kernel_rfl⟩ rfl (.call [false, false, false, false, false, true] 5 rfl rfl rfl ?_ (.put [false, false, false, false, false, false, true] 6 rfl rfl rfl ?_ .nil))
  ·try dsimp only [Zw]
   refine Ym (ps := [(0, .tmp 71)]) [.int .u8 r131.kind, .int .i64 r131.frm, .int .i64 r131.dst, .int .i64 r131.term, .int .i64 r131.cap, .int .i64 r131.last, .int .i64 r131.lastTerm, .int .i64 r131.commit, .bool r131.okk, .slice A133 r131.entries.length c134, .int .i64 r131.snap.index, .int .i64 r131.snap.term, .int .i64 r131.snap.sum, .int .i64 r131.snap.level, .bool r131.snap.final] Vk Jf rfl rfl rfl rfl rfl (by kernel_rfl) hS (fun b137 w hS hB => ?_)
   refine Zg ?_
   refine Z6 hB ?_
   refine Yk [false, false, false, false, false, false, true] 6 ⟨by decide, by kernel_rfl, by kernel_rfl⟩ rfl rfl ?_
   try dsimp only [Zw]
   refine Zl rfl rfl rfl CellsOf.agg hS ps12 Z8 (by kernel_rfl) rfl (fun w hS hB => ?_)
   refine Zg ?_
   refine Yb (hB.sub (fun _ _ h => by simpa using h)) ?_
   refine Zr [false, false, false, false, false, false, false, true] (by decide +kernel) PFC.h ?_
   refine LtK.put rfl rfl rfl (Z2 rfl) ?_
   refine LtK.nil ?_
   refine Ye (by kernel_rfl) ?_
   refine Zc hK130 ?_
   refine Zk ?_
   refine Zm rfl (RV.cell rfl (Zt Zx hS Jc Zv) (RV.tmp rfl RV.nil)) rfl ?_
   obtain rfl := QJ H
   have hS := hS.nilRds
   replace hS := hS.front 2 rfl
   replace hS := hS.absorbQ ⟨r131, A133, c134⟩
   replace hS := hS.front 1 rfl
   replace hS := hS.weak Weak.boxRd
   have hS := hS.front 6 rfl
   have hS := hS.front 6 rfl
   have hS := hS.front 6 rfl
   have hS := hS.front 6 rfl
   have hS := hS.front 6 rfl
   replace hS := hS.cut 7
   exact ⟨A40, c41, A44, c45, A48, c49, A52, c53, A56, c57, (some ⟨b137, 0, none⟩), 1, ([⟨r131, A133, c134⟩] : List Mq), rfl, k42, k46, k50, k54, k58, ⟨Nat.le_refl 1, by decide⟩, rfl, (Xp k135 Yu), hS⟩
  ·try dsimp only [Zw]
   refine Zl rfl rfl rfl CellsOf.agg hS ps11 Z8 (by kernel_rfl) rfl (fun w hS hB => ?_)
   refine Zg ?_
   refine Yb (hB.sub (fun _ _ h => by simpa using h)) ?_
   refine Z5 [false, false, false, false, false, true] 5 ⟨by decide, by kernel_rfl, by kernel_rfl⟩ rfl rfl ?_
   try dsimp only [Zw]
   refine Ym (ps := [(0, .tmp 71)]) [.int .u8 r131.kind, .int .i64 r131.frm, .int .i64 r131.dst, .int .i64 r131.term, .int .i64 r131.cap, .int .i64 r131.last, .int .i64 r131.lastTerm, .int .i64 r131.commit, .bool r131.okk, .slice A133 r131.entries.length c134, .int .i64 r131.snap.index, .int .i64 r131.snap.term, .int .i64 r131.snap.sum, .int .i64 r131.snap.level, .bool r131.snap.final] Vk Jf rfl rfl rfl rfl rfl (by kernel_rfl) hS (fun b137 w hS hB => ?_)
   refine Zg ?_
   refine Z6 hB ?_
   refine Zr [false, false, false, false, false, false, false, true] (by decide +kernel) PFC.h ?_
   refine LtK.put rfl rfl rfl (Z2 rfl) ?_
   refine LtK.nil ?_
   refine Ye (by kernel_rfl) ?_
   refine Zc hK130 ?_
   refine Zk ?_
   refine Zm rfl (RV.cell rfl (Zt Zx hS Jc Zv) (RV.tmp rfl RV.nil)) rfl ?_
   obtain rfl := QJ H
   have hS := hS.nilRds
   replace hS := hS.front 2 rfl
   replace hS := hS.absorbQ ⟨r131, A133, c134⟩
   replace hS := hS.front 1 rfl
   replace hS := hS.weak Weak.boxRd
   have hS := hS.front 6 rfl
   have hS := hS.front 6 rfl
   have hS := hS.front 6 rfl
   have hS := hS.front 6 rfl
   have hS := hS.front 6 rfl
   replace hS := hS.cut 7
   exact ⟨A40, c41, A44, c45, A48, c49, A52, c53, A56, c57, (some ⟨b137, 0, none⟩), 1, ([⟨r131, A133, c134⟩] : List Mq), rfl, k42, k46, k50, k54, k58, ⟨Nat.le_refl 1, by decide⟩, rfl, (Xp k135 Yu), hS⟩
 replace H := Zo H hb
 refine Za rfl rfl rfl (Ze Yq rfl) ?_
 refine Za rfl rfl rfl (Ze Vp rfl) ?_
 refine Za rfl rfl rfl (Zh Z3 rfl (Zhe _) hS Jc trivial sg11_1) ?_
 refine Za rfl rfl rfl (Yr rfl rfl) ?_
 refine Zb 1 rfl ?_
 refine Zq 38 rfl (fun hb => ?_) (fun hb => ?_)
 ·replace H := Zo H hb
  refine Zb 9 rfl ?_
  refine Za rfl rfl rfl (Zi Zx rfl (Zhe _) hS Jc trivial Zv) ?_
  refine Za rfl rfl rfl (Ze Ze2 rfl) ?_
  refine Za rfl rfl rfl (Zh Z3 rfl (Zhe _) hS Zbo trivial Ze9) ?_
  refine Za rfl rfl rfl (Ze Zgl rfl) ?_
  refine Za rfl rfl rfl (Zh Z3 rfl (Zhe _) hS Zbo trivial Zcq) ?_
  obtain ⟨r61, hm62, H⟩ := bind_some H
  refine Zn rfl rfl rfl rfl (by kernel_rfl) rfl (Zgs r38 x1.lastTerm x1.last A40 c41 A44 c45 A48 c49 A52 c53 A56 c57 _ (Zhh k42 (hS.row_rd hs0) (hS.row_blk hs0)) (Zhh k46 (hS.row_rd Y2) (hS.row_blk Y2)) (Zhh k50 (hS.row_rd Xi) (hS.row_blk Xi)) (Zhh k54 (hS.row_rd hs3) (hS.row_blk hs3)) (Zhh k58 (hS.row_rd Jq) (hS.row_blk Jq)) hm62) ?_
  rintro e w ⟨rfl, hN⟩; refine ⟨_, rfl, ?_⟩; obtain ⟨hB, hS⟩ := hS.jn hN
  refine Zb 2 rfl ?_
  refine Zg ?_
  refine Zc hK60 ?_
  refine Zd (fun K hK63 => ?_)
  refine Zd (fun K hK64 => ?_)
  refine Zf ?_
  refine Zb 1 rfl ?_
  refine Zg ?_
  refine Zc hK64 ?_
  refine Z1 rfl (fun hb => ?_) (fun hb => ?_)
  rotate_left
  ·replace H := Zp H hb
   refine Zs ?_
   refine Zc hK63 ?_
   refine Zd (fun K hK80 => ?_)
   refine Yn 8 [6] (fun i b => (i = 6 → b ≠ b6)) ⟨by kernel_rfl, by kernel_rfl⟩ hS (fun w hS hB => ?_)
   refine Zr [true] (by decide +kernel) PFC.h ?_
   refine LtK.put rfl rfl rfl (Zi Zx rfl (Zhf _) hS Jc trivial Zv) ?_
   refine LtK.nil ?_
   refine Y1 [false, true, true, true] [6] (fun b => b ≠ b6) (by decide +kernel) (by intro j hj b hb; simp only [List.mem_cons, List.not_mem_nil, or_false] at hj; (try rcases hj with rfl | rfl | rfl | rfl | rfl) <;> first | (simp [hb]; done) | simp_all) PFC.h ?_
   refine LtK.put rfl rfl rfl (Zi Zx rfl (Zhg _ _) hS Jc (hS.ne 12 10 rfl rfl rfl) Zv) ?_
   refine LtK.put rfl rfl rfl (Zi Va rfl (Zhg _ _) hS Zbo (hS.ne 11 10 rfl rfl rfl) Xg) ?_
   refine LtK.put rfl rfl rfl (Zy rfl) ?_
   refine LtK.nil ?_
   refine Z5 [false, false, false, false, true] 4 ⟨by decide, by kernel_rfl, by kernel_rfl⟩ rfl rfl ?_
   try dsimp only [Zw]
   obtain ⟨r81, hm82, H⟩ := bind_some H
   refine Zn rfl rfl rfl rfl (by kernel_rfl) rfl (Zbz r38 x1 2 r61 0 A40 c41 A44 c45 A48 c49 A52 c53 A56 c57 A5_ c5_ _ (Zhh k42 (hS.row_rd hs0) (hS.row_blk hs0)) (Zhh k46 (hS.row_rd Y2) (hS.row_blk Y2)) (Zhh k50 (hS.row_rd Xi) (hS.row_blk Xi)) (Zhh k54 (hS.row_rd hs3) (hS.row_blk hs3)) (Zhh k58 (hS.row_rd Jq) (hS.row_blk Jq)) (Zhh s5_.k (hS.rd0 s5_.rd) (hS.blk0 s5_.blk)) hm82) ?_
   rintro e w ⟨A83, c84, rfl, k85, hN⟩; refine ⟨_, rfl, ?_⟩; obtain ⟨hB, hS⟩ := hS.jn hN
   refine Zg ?_
   refine Z6 hB ?_
   refine Jv [5, 6] ⟨by decide, by kernel_rfl⟩ rfl (.call [false, false, false, false, false, true] 5 rfl rfl rfl ?_ (.put [false, false, false, false, false, false, true] 6 rfl rfl rfl ?_ .nil))
   ·try dsimp only [Zw]
    refine Ym (ps := [(0, .tmp 71)]) [.int .u8 r81.kind, .int .i64 r81.frm, .int .i64 r81.dst, .int .i64 r81.term, .int .i64 r81.cap, .int .i64 r81.last, .int .i64 r81.lastTerm, .int .i64 r81.commit, .bool r81.okk, .slice A83 r81.entries.length c84, .int .i64 r81.snap.index, .int .i64 r81.snap.term, .int .i64 r81.snap.sum, .int .i64 r81.snap.level, .bool r81.snap.final] Vk Jf rfl rfl rfl rfl rfl (by kernel_rfl) hS (fun b87 w hS hB => ?_)
    refine Zg ?_
    refine Z6 hB ?_
    refine Yk [false, false, false, false, false, false, true] 6 ⟨by decide, by kernel_rfl, by kernel_rfl⟩ rfl rfl ?_
    try dsimp only [Zw]
    refine Zl rfl rfl rfl CellsOf.agg hS ps12 Z8 (by kernel_rfl) rfl (fun w hS hB => ?_)
    refine Zg ?_
    refine Yb (hB.sub (fun _ _ h => by simpa using h)) ?_
    refine Zr [false, false, false, false, false, false, false, true] (by decide +kernel) PFC.h ?_
    refine LtK.put rfl rfl rfl (Z2 rfl) ?_
    refine LtK.nil ?_
    refine Ye (by kernel_rfl) ?_
    refine Zc hK80 ?_
    refine Zk ?_
    refine Zm rfl (RV.cell rfl (Zt Zx hS Jc Zv) (RV.tmp rfl RV.nil)) rfl ?_
    obtain rfl := QJ H
    have hS := hS.nilRds
    replace hS := hS.front 2 rfl
    replace hS := hS.absorbQ ⟨r81, A83, c84⟩
    replace hS := hS.front 1 rfl
    replace hS := hS.weak Weak.boxRd
    have hS := hS.front 6 rfl
    have hS := hS.front 6 rfl
    have hS := hS.front 6 rfl
    have hS := hS.front 6 rfl
    have hS := hS.front 6 rfl
    replace hS := hS.cut 7
    exact ⟨A40, c41, A44, c45, A48, c49, A52, c53, A56, c57, (some ⟨b87, 0, none⟩), 1, ([⟨r81, A83, c84⟩] : List Mq), rfl, k42, k46, k50, k54, k58, ⟨Nat.le_refl 1, by decide⟩, rfl, (Xp k85 Yu), hS⟩
   ·try dsimp only [Zw]
    refine Zl rfl rfl rfl CellsOf.agg hS ps11 Z8 (by kernel_rfl) rfl (fun w hS hB => ?_)
    refine Zg ?_
    refine Yb (hB.sub (fun _ _ h => by simpa using h)) ?_
    refine Z5 [false, false, false, false, false, true] 5 ⟨by decide, by kernel_rfl, by kernel_rfl⟩ rfl rfl ?_
    try dsimp only [Zw]
    refine Ym (ps := [(0, .tmp 71)]) [.int .u8 r81.kind, .int .i64 r81.frm, .int .i64 r81.dst, .int .i64 r81.term, .int .i64 r81.cap, .int .i64 r81.last, .int .i64 r81.lastTerm, .int .i64 r81.commit, .bool r81.okk, .slice A83 r81.entries.length c84, .int .i64 r81.snap.index, .int .i64 r81.snap.term, .int .i64 r81.snap.sum, .int .i64 r81.snap.level, .bool r81.snap.final] Vk Jf rfl rfl rfl rfl rfl (by kernel_rfl) hS (fun b87 w hS hB => ?_)
    refine Zg ?_
    refine Z6 hB ?_
    refine Zr [false, false, false, false, false, false, false, true] (by decide +kernel) PFC.h ?_
    refine LtK.put rfl rfl rfl (Z2 rfl) ?_
    refine LtK.nil ?_
    refine Ye (by kernel_rfl) ?_
    refine Zc hK80 ?_
    refine Zk ?_
    refine Zm rfl (RV.cell rfl (Zt Zx hS Jc Zv) (RV.tmp rfl RV.nil)) rfl ?_
    obtain rfl := QJ H
    have hS := hS.nilRds
    replace hS := hS.front 2 rfl
    replace hS := hS.absorbQ ⟨r81, A83, c84⟩
    replace hS := hS.front 1 rfl
    replace hS := hS.weak Weak.boxRd
    have hS := hS.front 6 rfl
    have hS := hS.front 6 rfl
    have hS := hS.front 6 rfl
    have hS := hS.front 6 rfl
    have hS := hS.front 6 rfl
    replace hS := hS.cut 7
    exact ⟨A40, c41, A44, c45, A48, c49, A52, c53, A56, c57, (some ⟨b87, 0, none⟩), 1, ([⟨r81, A83, c84⟩] : List Mq), rfl, k42, k46, k50, k54, k58, ⟨Nat.le_refl 1, by decide⟩, rfl, (Xp k85 Yu), hS⟩
  replace H := Zo H hb
  refine Zf ?_
  refine Za rfl rfl rfl (Ze Yq rfl) ?_
  refine Za rfl rfl rfl (Zi Yp rfl (Zhe _) hS Jc trivial Zbt) ?_
  refine Za rfl rfl rfl (Ze Js rfl) ?_
  refine Za rfl rfl rfl (Zh Z3 rfl (Zhe _) hS Zbo trivial Jb) ?_
  refine Za rfl rfl rfl (Ze Zaf rfl) ?_
  refine Za rfl rfl rfl (Zh Z3 rfl (Zhe _) hS Zbo trivial Xu) ?_
  obtain ⟨r65, hm66, H⟩ := bind_some H
  refine Zn rfl rfl rfl rfl (by kernel_rfl) rfl (Zfv r38.tuple x1.term x1.frm A40 c41 _ (Zhh k42 (hS.row_rd hs0) (hS.row_blk hs0)) hm66) ?_
  rintro e w ⟨A67, c68, rfl, k69, hN⟩; refine ⟨_, rfl, ?_⟩; obtain ⟨hB, hS⟩ := hS.jn hN
  refine Zb 1 rfl ?_
  refine Za rfl rfl rfl (Z0 rfl rfl) ?_
  refine Za rfl rfl rfl (Z0 rfl rfl) ?_
  refine Za rfl rfl rfl (Ze Yq rfl) ?_
  refine Zl rfl rfl rfl CellsOf.agg hS ps13 st4_8 (by kernel_rfl) rfl (fun w hS hB => ?_)
  refine Zg ?_
  refine Zc hK63 ?_
  refine Zd (fun K hK71 => ?_)
  refine Yn 8 [6] (fun i b => (i = 6 → b ≠ b6)) ⟨by kernel_rfl, by kernel_rfl⟩ hS (fun w hS hB => ?_)
  refine Zr [true] (by decide +kernel) PFC.h ?_
  refine LtK.put rfl rfl rfl (Zi Zx rfl (Zhf _) hS hs13 trivial Zv) ?_
  refine LtK.nil ?_
  refine Y1 [false, true, true, true] [6] (fun b => b ≠ b6) (by decide +kernel) (by intro j hj b hb; simp only [List.mem_cons, List.not_mem_nil, or_false] at hj; (try rcases hj with rfl | rfl | rfl | rfl | rfl) <;> first | (simp [hb]; done) | simp_all) PFC.h ?_
  refine LtK.put rfl rfl rfl (Zi Zx rfl (Zhg _ _) hS hs13 (hS.ne 13 11 rfl rfl rfl) Zv) ?_
  refine LtK.put rfl rfl rfl (Zi Va rfl (Zhg _ _) hS Jc (hS.ne 12 11 rfl rfl rfl) Xg) ?_
  refine LtK.put rfl rfl rfl (Zy rfl) ?_
  refine LtK.nil ?_
  refine Z5 [false, false, false, false, true] 4 ⟨by decide, by kernel_rfl, by kernel_rfl⟩ rfl rfl ?_
  try dsimp only [Zw]
  obtain ⟨r72, hm73, H⟩ := bind_some H
  refine Zn rfl rfl rfl rfl (by kernel_rfl) rfl (Zbz (⟨r38.id, r38.n, r38.role, r38.binary, r65.1, r38.commit, r38.applied, r38.votes, r38.next, r38.mtch, r38.caps⟩ : Co) x1 2 r61 0 A67 c68 A44 c45 A48 c49 A52 c53 A56 c57 A5_ c5_ _ (Zhh k69 (hS.row_rd hs0) (hS.row_blk hs0)) (Zhh k46 (hS.row_rd Xi) (hS.row_blk Xi)) (Zhh k50 (hS.row_rd hs3) (hS.row_blk hs3)) (Zhh k54 (hS.row_rd Jq) (hS.row_blk Jq)) (Zhh k58 (hS.row_rd hs5) (hS.row_blk hs5)) (Zhh s5_.k (hS.rd0 s5_.rd) (hS.blk0 s5_.blk)) hm73) ?_
  rintro e w ⟨A74, c75, rfl, k76, hN⟩; refine ⟨_, rfl, ?_⟩; obtain ⟨hB, hS⟩ := hS.jn hN
  refine Zg ?_
  refine Z6 hB ?_
  refine Jv [5, 6] ⟨by decide, by kernel_rfl⟩ rfl (.call [false, false, false, false, false, true] 5 rfl rfl rfl ?_ (.put [false, false, false, false, false, false, true] 6 rfl rfl rfl ?_ .nil))
  ·try dsimp only [Zw]
   refine Ym (ps := [(0, .tmp 71)]) [.int .u8 r72.kind, .int .i64 r72.frm, .int .i64 r72.dst, .int .i64 r72.term, .int .i64 r72.cap, .int .i64 r72.last, .int .i64 r72.lastTerm, .int .i64 r72.commit, .bool r72.okk, .slice A74 r72.entries.length c75, .int .i64 r72.snap.index, .int .i64 r72.snap.term, .int .i64 r72.snap.sum, .int .i64 r72.snap.level, .bool r72.snap.final] Vk Jf rfl rfl rfl rfl rfl (by kernel_rfl) hS (fun b78 w hS hB => ?_)
   refine Zg ?_
   refine Z6 hB ?_
   refine Yk [false, false, false, false, false, false, true] 6 ⟨by decide, by kernel_rfl, by kernel_rfl⟩ rfl rfl ?_
   try dsimp only [Zw]
   refine Zl rfl rfl rfl CellsOf.agg hS ps13 Z8 (by kernel_rfl) rfl (fun w hS hB => ?_)
   refine Zg ?_
   refine Yb (hB.sub (fun _ _ h => by simpa using h)) ?_
   refine Zr [false, false, false, false, false, false, false, true] (by decide +kernel) PFC.h ?_
   refine LtK.put rfl rfl rfl (Z2 rfl) ?_
   refine LtK.nil ?_
   refine Ye (by kernel_rfl) ?_
   refine Zc hK71 ?_
   refine Zk ?_
   refine Zm rfl (RV.cell rfl (Zt Zx hS hs13 Zv) (RV.tmp rfl RV.nil)) rfl ?_
   obtain rfl := QJ H
   have hS := hS.nilRds
   replace hS := hS.front 2 rfl
   replace hS := hS.absorbQ ⟨r72, A74, c75⟩
   replace hS := hS.front 1 rfl
   replace hS := hS.weak Weak.boxRd
   have hS := hS.front 7 rfl
   have hS := hS.front 7 rfl
   have hS := hS.front 7 rfl
   have hS := hS.front 7 rfl
   have hS := hS.front 6 rfl
   replace hS := hS.cut 7
   exact ⟨A67, c68, A44, c45, A48, c49, A52, c53, A56, c57, (some ⟨b78, 0, none⟩), 1, ([⟨r72, A74, c75⟩] : List Mq), rfl, k69, k46, k50, k54, k58, ⟨Nat.le_refl 1, by decide⟩, rfl, (Xp k76 Yu), hS⟩
  ·try dsimp only [Zw]
   refine Zl rfl rfl rfl CellsOf.agg hS ps12 Z8 (by kernel_rfl) rfl (fun w hS hB => ?_)
   refine Zg ?_
   refine Yb (hB.sub (fun _ _ h => by simpa using h)) ?_
   refine Z5 [false, false, false, false, false, true] 5 ⟨by decide, by kernel_rfl, by kernel_rfl⟩ rfl rfl ?_
   try dsimp only [Zw]
   refine Ym (ps := [(0, .tmp 71)]) [.int .u8 r72.kind, .int .i64 r72.frm, .int .i64 r72.dst, .int .i64 r72.term, .int .i64 r72.cap, .int .i64 r72.last, .int .i64 r72.lastTerm, .int .i64 r72.commit, .bool r72.okk, .slice A74 r72.entries.length c75, .int .i64 r72.snap.index, .int .i64 r72.snap.term, .int .i64 r72.snap.sum, .int .i64 r72.snap.level, .bool r72.snap.final] Vk Jf rfl rfl rfl rfl rfl (by kernel_rfl) hS (fun b78 w hS hB => ?_)
   refine Zg ?_
   refine Z6 hB ?_
   refine Zr [false, false, false, false, false, false, false, true] (by decide +kernel) PFC.h ?_
   refine LtK.put rfl rfl rfl (Z2 rfl) ?_
   refine LtK.nil ?_
   refine Ye (by kernel_rfl) ?_
   refine Zc hK71 ?_
   refine Zk ?_
   refine Zm rfl (RV.cell rfl (Zt Zx hS hs13 Zv) (RV.tmp rfl RV.nil)) rfl ?_
   obtain rfl := QJ H
   have hS := hS.nilRds
   replace hS := hS.front 2 rfl
   replace hS := hS.absorbQ ⟨r72, A74, c75⟩
   replace hS := hS.front 1 rfl
   replace hS := hS.weak Weak.boxRd
   have hS := hS.front 7 rfl
   have hS := hS.front 7 rfl
   have hS := hS.front 7 rfl
   have hS := hS.front 7 rfl
   have hS := hS.front 6 rfl
   replace hS := hS.cut 7
   exact ⟨A67, c68, A44, c45, A48, c49, A52, c53, A56, c57, (some ⟨b78, 0, none⟩), 1, ([⟨r72, A74, c75⟩] : List Mq), rfl, k69, k46, k50, k54, k58, ⟨Nat.le_refl 1, by decide⟩, rfl, (Xp k76 Yu), hS⟩
 replace H := Zp H hb
 refine Za rfl rfl rfl (Ze Yq rfl) ?_
 refine Za rfl rfl rfl (Ze Vp rfl) ?_
 refine Za rfl rfl rfl (Zh Z3 rfl (Zhe _) hS Jc trivial sg11_1) ?_
 refine Za rfl rfl rfl (Ze Zaf rfl) ?_
 refine Za rfl rfl rfl (Zh Z3 rfl (Zhe _) hS Zbo trivial Xu) ?_
 refine Za rfl rfl rfl (Yr rfl rfl) ?_
 refine Zb 3 rfl ?_
 refine Zq 47 rfl (fun hb => ?_) (fun hb => ?_)
 rotate_left
 ·replace H := Zp H hb
  refine Zb 8 rfl ?_
  refine Zg ?_
  refine Zc hK60 ?_
  refine Zd (fun K hK117 => ?_)
  refine Zd (fun K hK118 => ?_)
  refine Zf ?_
  refine Zb 1 rfl ?_
  refine Zg ?_
  refine Zc hK118 ?_
  refine Yg rfl rfl ?_
  refine Zs ?_
  refine Zc hK117 ?_
  refine Zd (fun K hK119 => ?_)
  refine Yn 8 [6] (fun i b => (i = 6 → b ≠ b6)) ⟨by kernel_rfl, by kernel_rfl⟩ hS (fun w hS hB => ?_)
  refine Zr [true] (by decide +kernel) PFC.h ?_
  refine LtK.put rfl rfl rfl (Zi Zx rfl (Zhf _) hS Jc trivial Zv) ?_
  refine LtK.nil ?_
  refine Y1 [false, true, true, true] [6] (fun b => b ≠ b6) (by decide +kernel) (by intro j hj b hb; simp only [List.mem_cons, List.not_mem_nil, or_false] at hj; (try rcases hj with rfl | rfl | rfl | rfl | rfl) <;> first | (simp [hb]; done) | simp_all) PFC.h ?_
  refine LtK.put rfl rfl rfl (Zi Zx rfl (Zhg _ _) hS Jc (hS.ne 12 10 rfl rfl rfl) Zv) ?_
  refine LtK.put rfl rfl rfl (Zi Va rfl (Zhg _ _) hS Zbo (hS.ne 11 10 rfl rfl rfl) Xg) ?_
  refine LtK.put rfl rfl rfl (Zy rfl) ?_
  refine LtK.nil ?_
  refine Z5 [false, false, false, false, true] 4 ⟨by decide, by kernel_rfl, by kernel_rfl⟩ rfl rfl ?_
  try dsimp only [Zw]
  obtain ⟨r120, hm121, H⟩ := bind_some H
  refine Zn rfl rfl rfl rfl (by kernel_rfl) rfl (Zbz r38 x1 2 false 0 A40 c41 A44 c45 A48 c49 A52 c53 A56 c57 A5_ c5_ _ (Zhh k42 (hS.row_rd hs0) (hS.row_blk hs0)) (Zhh k46 (hS.row_rd Y2) (hS.row_blk Y2)) (Zhh k50 (hS.row_rd Xi) (hS.row_blk Xi)) (Zhh k54 (hS.row_rd hs3) (hS.row_blk hs3)) (Zhh k58 (hS.row_rd Jq) (hS.row_blk Jq)) (Zhh s5_.k (hS.rd0 s5_.rd) (hS.blk0 s5_.blk)) hm121) ?_
  rintro e w ⟨A122, c123, rfl, k124, hN⟩; refine ⟨_, rfl, ?_⟩; obtain ⟨hB, hS⟩ := hS.jn hN
  refine Zg ?_
  refine Z6 hB ?_
  refine Jv [5, 6] ⟨by decide, by kernel_rfl⟩ rfl (.call [false, false, false, false, false, true] 5 rfl rfl rfl ?_ (.put [false, false, false, false, false, false, true] 6 rfl rfl rfl ?_ .nil))
  ·try dsimp only [Zw]
   refine Ym (ps := [(0, .tmp 71)]) [.int .u8 r120.kind, .int .i64 r120.frm, .int .i64 r120.dst, .int .i64 r120.term, .int .i64 r120.cap, .int .i64 r120.last, .int .i64 r120.lastTerm, .int .i64 r120.commit, .bool r120.okk, .slice A122 r120.entries.length c123, .int .i64 r120.snap.index, .int .i64 r120.snap.term, .int .i64 r120.snap.sum, .int .i64 r120.snap.level, .bool r120.snap.final] Vk Jf rfl rfl rfl rfl rfl (by kernel_rfl) hS (fun b126 w hS hB => ?_)
   refine Zg ?_
   refine Z6 hB ?_
   refine Yk [false, false, false, false, false, false, true] 6 ⟨by decide, by kernel_rfl, by kernel_rfl⟩ rfl rfl ?_
   try dsimp only [Zw]
   refine Zl rfl rfl rfl CellsOf.agg hS ps12 Z8 (by kernel_rfl) rfl (fun w hS hB => ?_)
   refine Zg ?_
   refine Yb (hB.sub (fun _ _ h => by simpa using h)) ?_
   refine Zr [false, false, false, false, false, false, false, true] (by decide +kernel) PFC.h ?_
   refine LtK.put rfl rfl rfl (Z2 rfl) ?_
   refine LtK.nil ?_
   refine Ye (by kernel_rfl) ?_
   refine Zc hK119 ?_
   refine Zk ?_
   refine Zm rfl (RV.cell rfl (Zt Zx hS Jc Zv) (RV.tmp rfl RV.nil)) rfl ?_
   obtain rfl := QJ H
   have hS := hS.nilRds
   replace hS := hS.front 2 rfl
   replace hS := hS.absorbQ ⟨r120, A122, c123⟩
   replace hS := hS.front 1 rfl
   replace hS := hS.weak Weak.boxRd
   have hS := hS.front 6 rfl
   have hS := hS.front 6 rfl
   have hS := hS.front 6 rfl
   have hS := hS.front 6 rfl
   have hS := hS.front 6 rfl
   replace hS := hS.cut 7
   exact ⟨A40, c41, A44, c45, A48, c49, A52, c53, A56, c57, (some ⟨b126, 0, none⟩), 1, ([⟨r120, A122, c123⟩] : List Mq), rfl, k42, k46, k50, k54, k58, ⟨Nat.le_refl 1, by decide⟩, rfl, (Xp k124 Yu), hS⟩
  ·try dsimp only [Zw]
   refine Zl rfl rfl rfl CellsOf.agg hS ps11 Z8 (by kernel_rfl) rfl (fun w hS hB => ?_)
   refine Zg ?_
   refine Yb (hB.sub (fun _ _ h => by simpa using h)) ?_
   refine Z5 [false, false, false, false, false, true] 5 ⟨by decide, by kernel_rfl, by kernel_rfl⟩ rfl rfl ?_
   try dsimp only [Zw]
   refine Ym (ps := [(0, .tmp 71)]) [.int .u8 r120.kind, .int .i64 r120.frm, .int .i64 r120.dst, .int .i64 r120.term, .int .i64 r120.cap, .int .i64 r120.last, .int .i64 r120.lastTerm, .int .i64 r120.commit, .bool r120.okk, .slice A122 r120.entries.length c123, .int .i64 r120.snap.index, .int .i64 r120.snap.term, .int .i64 r120.snap.sum, .int .i64 r120.snap.level, .bool r120.snap.final] Vk Jf rfl rfl rfl rfl rfl (by kernel_rfl) hS (fun b126 w hS hB => ?_)
   refine Zg ?_
   refine Z6 hB ?_
   refine Zr [false, false, false, false, false, false, false, true] (by decide +kernel) PFC.h ?_
   refine LtK.put rfl rfl rfl (Z2 rfl) ?_
   refine LtK.nil ?_
   refine Ye (by kernel_rfl) ?_
   refine Zc hK119 ?_
   refine Zk ?_
   refine Zm rfl (RV.cell rfl (Zt Zx hS Jc Zv) (RV.tmp rfl RV.nil)) rfl ?_
   obtain rfl := QJ H
   have hS := hS.nilRds
   replace hS := hS.front 2 rfl
   replace hS := hS.absorbQ ⟨r120, A122, c123⟩
   replace hS := hS.front 1 rfl
   replace hS := hS.weak Weak.boxRd
   have hS := hS.front 6 rfl
   have hS := hS.front 6 rfl
   have hS := hS.front 6 rfl
   have hS := hS.front 6 rfl
   have hS := hS.front 6 rfl
   replace hS := hS.cut 7
   exact ⟨A40, c41, A44, c45, A48, c49, A52, c53, A56, c57, (some ⟨b126, 0, none⟩), 1, ([⟨r120, A122, c123⟩] : List Mq), rfl, k42, k46, k50, k54, k58, ⟨Nat.le_refl 1, by decide⟩, rfl, (Xp k124 Yu), hS⟩
 replace H := Zo H hb
 refine Za rfl rfl rfl (Zi Zx rfl (Zhe _) hS Jc trivial Zv) ?_
 refine Za rfl rfl rfl (Ze Ze2 rfl) ?_
 refine Za rfl rfl rfl (Zh Z3 rfl (Zhe _) hS Zbo trivial Ze9) ?_
 refine Za rfl rfl rfl (Ze Zgl rfl) ?_
 refine Za rfl rfl rfl (Zh Z3 rfl (Zhe _) hS Zbo trivial Zcq) ?_
 obtain ⟨r89, hm90, H⟩ := bind_some H
 refine Zn rfl rfl rfl rfl (by kernel_rfl) rfl (Zgs r38 x1.lastTerm x1.last A40 c41 A44 c45 A48 c49 A52 c53 A56 c57 _ (Zhh k42 (hS.row_rd hs0) (hS.row_blk hs0)) (Zhh k46 (hS.row_rd Y2) (hS.row_blk Y2)) (Zhh k50 (hS.row_rd Xi) (hS.row_blk Xi)) (Zhh k54 (hS.row_rd hs3) (hS.row_blk hs3)) (Zhh k58 (hS.row_rd Jq) (hS.row_blk Jq)) hm90) ?_
 rintro e w ⟨rfl, hN⟩; refine ⟨_, rfl, ?_⟩; obtain ⟨hB, hS⟩ := hS.jn hN
 refine Zb 2 rfl ?_
 refine Zg ?_
 refine Zc hK60 ?_
 refine Zd (fun K hK91 => ?_)
 refine Zd (fun K hK92 => ?_)
 refine Zf ?_
 refine Zb 1 rfl ?_
 refine Zg ?_
 refine Zc hK92 ?_
 refine Z1 rfl (fun hb => ?_) (fun hb => ?_)
 rotate_left
 ·replace H := Zp H hb
  refine Zs ?_
  refine Zc hK91 ?_
  refine Zd (fun K hK108 => ?_)
  refine Yn 8 [6] (fun i b => (i = 6 → b ≠ b6)) ⟨by kernel_rfl, by kernel_rfl⟩ hS (fun w hS hB => ?_)
  refine Zr [true] (by decide +kernel) PFC.h ?_
  refine LtK.put rfl rfl rfl (Zi Zx rfl (Zhf _) hS Jc trivial Zv) ?_
  refine LtK.nil ?_
  refine Y1 [false, true, true, true] [6] (fun b => b ≠ b6) (by decide +kernel) (by intro j hj b hb; simp only [List.mem_cons, List.not_mem_nil, or_false] at hj; (try rcases hj with rfl | rfl | rfl | rfl | rfl) <;> first | (simp [hb]; done) | simp_all) PFC.h ?_
  refine LtK.put rfl rfl rfl (Zi Zx rfl (Zhg _ _) hS Jc (hS.ne 12 10 rfl rfl rfl) Zv) ?_
  refine LtK.put rfl rfl rfl (Zi Va rfl (Zhg _ _) hS Zbo (hS.ne 11 10 rfl rfl rfl) Xg) ?_
  refine LtK.put rfl rfl rfl (Zy rfl) ?_
  refine LtK.nil ?_
  refine Z5 [false, false, false, false, true] 4 ⟨by decide, by kernel_rfl, by kernel_rfl⟩ rfl rfl ?_
  try dsimp only [Zw]
  obtain ⟨r109, hm110, H⟩ := bind_some H
  refine Zn rfl rfl rfl rfl (by kernel_rfl) rfl (Zbz r38 x1 2 r89 0 A40 c41 A44 c45 A48 c49 A52 c53 A56 c57 A5_ c5_ _ (Zhh k42 (hS.row_rd hs0) (hS.row_blk hs0)) (Zhh k46 (hS.row_rd Y2) (hS.row_blk Y2)) (Zhh k50 (hS.row_rd Xi) (hS.row_blk Xi)) (Zhh k54 (hS.row_rd hs3) (hS.row_blk hs3)) (Zhh k58 (hS.row_rd Jq) (hS.row_blk Jq)) (Zhh s5_.k (hS.rd0 s5_.rd) (hS.blk0 s5_.blk)) hm110) ?_
  rintro e w ⟨A111, c112, rfl, k113, hN⟩; refine ⟨_, rfl, ?_⟩; obtain ⟨hB, hS⟩ := hS.jn hN
  refine Zg ?_
  refine Z6 hB ?_
  refine Jv [5, 6] ⟨by decide, by kernel_rfl⟩ rfl (.call [false, false, false, false, false, true] 5 rfl rfl rfl ?_ (.put [false, false, false, false, false, false, true] 6 rfl rfl rfl ?_ .nil))
  ·try dsimp only [Zw]
   refine Ym (ps := [(0, .tmp 71)]) [.int .u8 r109.kind, .int .i64 r109.frm, .int .i64 r109.dst, .int .i64 r109.term, .int .i64 r109.cap, .int .i64 r109.last, .int .i64 r109.lastTerm, .int .i64 r109.commit, .bool r109.okk, .slice A111 r109.entries.length c112, .int .i64 r109.snap.index, .int .i64 r109.snap.term, .int .i64 r109.snap.sum, .int .i64 r109.snap.level, .bool r109.snap.final] Vk Jf rfl rfl rfl rfl rfl (by kernel_rfl) hS (fun b115 w hS hB => ?_)
   refine Zg ?_
   refine Z6 hB ?_
   refine Yk [false, false, false, false, false, false, true] 6 ⟨by decide, by kernel_rfl, by kernel_rfl⟩ rfl rfl ?_
   try dsimp only [Zw]
   refine Zl rfl rfl rfl CellsOf.agg hS ps12 Z8 (by kernel_rfl) rfl (fun w hS hB => ?_)
   refine Zg ?_
   refine Yb (hB.sub (fun _ _ h => by simpa using h)) ?_
   refine Zr [false, false, false, false, false, false, false, true] (by decide +kernel) PFC.h ?_
   refine LtK.put rfl rfl rfl (Z2 rfl) ?_
   refine LtK.nil ?_
   refine Ye (by kernel_rfl) ?_
   refine Zc hK108 ?_
   refine Zk ?_
   refine Zm rfl (RV.cell rfl (Zt Zx hS Jc Zv) (RV.tmp rfl RV.nil)) rfl ?_
   obtain rfl := QJ H
   have hS := hS.nilRds
   replace hS := hS.front 2 rfl
   replace hS := hS.absorbQ ⟨r109, A111, c112⟩
   replace hS := hS.front 1 rfl
   replace hS := hS.weak Weak.boxRd
   have hS := hS.front 6 rfl
   have hS := hS.front 6 rfl
   have hS := hS.front 6 rfl
   have hS := hS.front 6 rfl
   have hS := hS.front 6 rfl
   replace hS := hS.cut 7
   exact ⟨A40, c41, A44, c45, A48, c49, A52, c53, A56, c57, (some ⟨b115, 0, none⟩), 1, ([⟨r109, A111, c112⟩] : List Mq), rfl, k42, k46, k50, k54, k58, ⟨Nat.le_refl 1, by decide⟩, rfl, (Xp k113 Yu), hS⟩
  ·try dsimp only [Zw]
   refine Zl rfl rfl rfl CellsOf.agg hS ps11 Z8 (by kernel_rfl) rfl (fun w hS hB => ?_)
   refine Zg ?_
   refine Yb (hB.sub (fun _ _ h => by simpa using h)) ?_
   refine Z5 [false, false, false, false, false, true] 5 ⟨by decide, by kernel_rfl, by kernel_rfl⟩ rfl rfl ?_
   try dsimp only [Zw]
   refine Ym (ps := [(0, .tmp 71)]) [.int .u8 r109.kind, .int .i64 r109.frm, .int .i64 r109.dst, .int .i64 r109.term, .int .i64 r109.cap, .int .i64 r109.last, .int .i64 r109.lastTerm, .int .i64 r109.commit, .bool r109.okk, .slice A111 r109.entries.length c112, .int .i64 r109.snap.index, .int .i64 r109.snap.term, .int .i64 r109.snap.sum, .int .i64 r109.snap.level, .bool r109.snap.final] Vk Jf rfl rfl rfl rfl rfl (by kernel_rfl) hS (fun b115 w hS hB => ?_)
   refine Zg ?_
   refine Z6 hB ?_
   refine Zr [false, false, false, false, false, false, false, true] (by decide +kernel) PFC.h ?_
   refine LtK.put rfl rfl rfl (Z2 rfl) ?_
   refine LtK.nil ?_
   refine Ye (by kernel_rfl) ?_
   refine Zc hK108 ?_
   refine Zk ?_
   refine Zm rfl (RV.cell rfl (Zt Zx hS Jc Zv) (RV.tmp rfl RV.nil)) rfl ?_
   obtain rfl := QJ H
   have hS := hS.nilRds
   replace hS := hS.front 2 rfl
   replace hS := hS.absorbQ ⟨r109, A111, c112⟩
   replace hS := hS.front 1 rfl
   replace hS := hS.weak Weak.boxRd
   have hS := hS.front 6 rfl
   have hS := hS.front 6 rfl
   have hS := hS.front 6 rfl
   have hS := hS.front 6 rfl
   have hS := hS.front 6 rfl
   replace hS := hS.cut 7
   exact ⟨A40, c41, A44, c45, A48, c49, A52, c53, A56, c57, (some ⟨b115, 0, none⟩), 1, ([⟨r109, A111, c112⟩] : List Mq), rfl, k42, k46, k50, k54, k58, ⟨Nat.le_refl 1, by decide⟩, rfl, (Xp k113 Yu), hS⟩
 replace H := Zo H hb
 refine Zf ?_
 refine Za rfl rfl rfl (Ze Yq rfl) ?_
 refine Za rfl rfl rfl (Zi Yp rfl (Zhe _) hS Jc trivial Zbt) ?_
 refine Za rfl rfl rfl (Ze Js rfl) ?_
 refine Za rfl rfl rfl (Zh Z3 rfl (Zhe _) hS Zbo trivial Jb) ?_
 refine Za rfl rfl rfl (Ze Zaf rfl) ?_
 refine Za rfl rfl rfl (Zh Z3 rfl (Zhe _) hS Zbo trivial Xu) ?_
 obtain ⟨r93, hm94, H⟩ := bind_some H
 refine Zn rfl rfl rfl rfl (by kernel_rfl) rfl (Zfv r38.tuple x1.term x1.frm A40 c41 _ (Zhh k42 (hS.row_rd hs0) (hS.row_blk hs0)) hm94) ?_
 rintro e w ⟨A95, c96, rfl, k97, hN⟩; refine ⟨_, rfl, ?_⟩; obtain ⟨hB, hS⟩ := hS.jn hN
 refine Zb 1 rfl ?_
 refine Za rfl rfl rfl (Z0 rfl rfl) ?_
 refine Za rfl rfl rfl (Z0 rfl rfl) ?_
 refine Za rfl rfl rfl (Ze Yq rfl) ?_
 refine Zl rfl rfl rfl CellsOf.agg hS ps13 st4_8 (by kernel_rfl) rfl (fun w hS hB => ?_)
 refine Zg ?_
 refine Zc hK91 ?_
 refine Zd (fun K hK99 => ?_)
 refine Yn 8 [6] (fun i b => (i = 6 → b ≠ b6)) ⟨by kernel_rfl, by kernel_rfl⟩ hS (fun w hS hB => ?_)
 refine Zr [true] (by decide +kernel) PFC.h ?_
 refine LtK.put rfl rfl rfl (Zi Zx rfl (Zhf _) hS hs13 trivial Zv) ?_
 refine LtK.nil ?_
 refine Y1 [false, true, true, true] [6] (fun b => b ≠ b6) (by decide +kernel) (by intro j hj b hb; simp only [List.mem_cons, List.not_mem_nil, or_false] at hj; (try rcases hj with rfl | rfl | rfl | rfl | rfl) <;> first | (simp [hb]; done) | simp_all) PFC.h ?_
 refine LtK.put rfl rfl rfl (Zi Zx rfl (Zhg _ _) hS hs13 (hS.ne 13 11 rfl rfl rfl) Zv) ?_
 refine LtK.put rfl rfl rfl (Zi Va rfl (Zhg _ _) hS Jc (hS.ne 12 11 rfl rfl rfl) Xg) ?_
 refine LtK.put rfl rfl rfl (Zy rfl) ?_
 refine LtK.nil ?_
 refine Z5 [false, false, false, false, true] 4 ⟨by decide, by kernel_rfl, by kernel_rfl⟩ rfl rfl ?_
 try dsimp only [Zw]
 obtain ⟨r100, hm101, H⟩ := bind_some H
 refine Zn rfl rfl rfl rfl (by kernel_rfl) rfl (Zbz (⟨r38.id, r38.n, r38.role, r38.binary, r93.1, r38.commit, r38.applied, r38.votes, r38.next, r38.mtch, r38.caps⟩ : Co) x1 2 r89 0 A95 c96 A44 c45 A48 c49 A52 c53 A56 c57 A5_ c5_ _ (Zhh k97 (hS.row_rd hs0) (hS.row_blk hs0)) (Zhh k46 (hS.row_rd Xi) (hS.row_blk Xi)) (Zhh k50 (hS.row_rd hs3) (hS.row_blk hs3)) (Zhh k54 (hS.row_rd Jq) (hS.row_blk Jq)) (Zhh k58 (hS.row_rd hs5) (hS.row_blk hs5)) (Zhh s5_.k (hS.rd0 s5_.rd) (hS.blk0 s5_.blk)) hm101) ?_
 rintro e w ⟨A102, c103, rfl, k104, hN⟩; refine ⟨_, rfl, ?_⟩; obtain ⟨hB, hS⟩ := hS.jn hN
 refine Zg ?_
 refine Z6 hB ?_
 refine Jv [5, 6] ⟨by decide, by kernel_rfl⟩ rfl (.call [false, false, false, false, false, true] 5 rfl rfl rfl ?_ (.put [false, false, false, false, false, false, true] 6 rfl rfl rfl ?_ .nil))
 ·try dsimp only [Zw]
  refine Ym (ps := [(0, .tmp 71)]) [.int .u8 r100.kind, .int .i64 r100.frm, .int .i64 r100.dst, .int .i64 r100.term, .int .i64 r100.cap, .int .i64 r100.last, .int .i64 r100.lastTerm, .int .i64 r100.commit, .bool r100.okk, .slice A102 r100.entries.length c103, .int .i64 r100.snap.index, .int .i64 r100.snap.term, .int .i64 r100.snap.sum, .int .i64 r100.snap.level, .bool r100.snap.final] Vk Jf rfl rfl rfl rfl rfl (by kernel_rfl) hS (fun b106 w hS hB => ?_)
  refine Zg ?_
  refine Z6 hB ?_
  refine Yk [false, false, false, false, false, false, true] 6 ⟨by decide, by kernel_rfl, by kernel_rfl⟩ rfl rfl ?_
  try dsimp only [Zw]
  refine Zl rfl rfl rfl CellsOf.agg hS ps13 Z8 (by kernel_rfl) rfl (fun w hS hB => ?_)
  refine Zg ?_
  refine Yb (hB.sub (fun _ _ h => by simpa using h)) ?_
  refine Zr [false, false, false, false, false, false, false, true] (by decide +kernel) PFC.h ?_
  refine LtK.put rfl rfl rfl (Z2 rfl) ?_
  refine LtK.nil ?_
  refine Ye (by kernel_rfl) ?_
  refine Zc hK99 ?_
  refine Zk ?_
  refine Zm rfl (RV.cell rfl (Zt Zx hS hs13 Zv) (RV.tmp rfl RV.nil)) rfl ?_
  obtain rfl := QJ H
  have hS := hS.nilRds
  replace hS := hS.front 2 rfl
  replace hS := hS.absorbQ ⟨r100, A102, c103⟩
  replace hS := hS.front 1 rfl
  replace hS := hS.weak Weak.boxRd
  have hS := hS.front 7 rfl
  have hS := hS.front 7 rfl
  have hS := hS.front 7 rfl
  have hS := hS.front 7 rfl
  have hS := hS.front 6 rfl
  replace hS := hS.cut 7
  exact ⟨A95, c96, A44, c45, A48, c49, A52, c53, A56, c57, (some ⟨b106, 0, none⟩), 1, ([⟨r100, A102, c103⟩] : List Mq), rfl, k97, k46, k50, k54, k58, ⟨Nat.le_refl 1, by decide⟩, rfl, (Xp k104 Yu), hS⟩
 ·try dsimp only [Zw]
  refine Zl rfl rfl rfl CellsOf.agg hS ps12 Z8 (by kernel_rfl) rfl (fun w hS hB => ?_)
  refine Zg ?_
  refine Yb (hB.sub (fun _ _ h => by simpa using h)) ?_
  refine Z5 [false, false, false, false, false, true] 5 ⟨by decide, by kernel_rfl, by kernel_rfl⟩ rfl rfl ?_
  try dsimp only [Zw]
  refine Ym (ps := [(0, .tmp 71)]) [.int .u8 r100.kind, .int .i64 r100.frm, .int .i64 r100.dst, .int .i64 r100.term, .int .i64 r100.cap, .int .i64 r100.last, .int .i64 r100.lastTerm, .int .i64 r100.commit, .bool r100.okk, .slice A102 r100.entries.length c103, .int .i64 r100.snap.index, .int .i64 r100.snap.term, .int .i64 r100.snap.sum, .int .i64 r100.snap.level, .bool r100.snap.final] Vk Jf rfl rfl rfl rfl rfl (by kernel_rfl) hS (fun b106 w hS hB => ?_)
  refine Zg ?_
  refine Z6 hB ?_
  refine Zr [false, false, false, false, false, false, false, true] (by decide +kernel) PFC.h ?_
  refine LtK.put rfl rfl rfl (Z2 rfl) ?_
  refine LtK.nil ?_
  refine Ye (by kernel_rfl) ?_
  refine Zc hK99 ?_
  refine Zk ?_
  refine Zm rfl (RV.cell rfl (Zt Zx hS hs13 Zv) (RV.tmp rfl RV.nil)) rfl ?_
  obtain rfl := QJ H
  have hS := hS.nilRds
  replace hS := hS.front 2 rfl
  replace hS := hS.absorbQ ⟨r100, A102, c103⟩
  replace hS := hS.front 1 rfl
  replace hS := hS.weak Weak.boxRd
  have hS := hS.front 7 rfl
  have hS := hS.front 7 rfl
  have hS := hS.front 7 rfl
  have hS := hS.front 7 rfl
  have hS := hS.front 6 rfl
  replace hS := hS.cut 7
  exact ⟨A95, c96, A44, c45, A48, c49, A52, c53, A56, c57, (some ⟨b106, 0, none⟩), 1, ([⟨r100, A102, c103⟩] : List Mq), rfl, k97, k46, k50, k54, k58, ⟨Nat.le_refl 1, by decide⟩, rfl, (Xp k104 Yu), hS⟩
theorem c_ref22_Voted (x0 : Co) (x1 : Ms) (A0_ : OA) (c0_ : Nat) (A1_ : OA) (c1_ : Nat) (A2_ : OA) (c2_ : Nat) (A3_ : OA) (c3_ : Nat) (A4_ : OA) (c4_ : Nat) (A5_ : OA) (c5_ : Nat) (w0 : World) (s0_ : SlI w0 V3 A0_ c0_ x0.tuple.log) (s1_ : SlI w0 enO A1_ c1_ x0.votes) (s2_ : SlI w0 X2 A2_ c2_ x0.next) (s3_ : SlI w0 X2 A3_ c3_ x0.mtch) (s4_ : SlI w0 X2 A4_ c4_ x0.caps) (s5_ : SlI w0 V3 A5_ c5_ x1.entries) {r : Co × List Ms} (H : Zaz x0 x1 = some r) : Calls Tryz.prog 16 #[.agg #[.int .i64 x0.id, .int .i64 x0.n, .int .u8 x0.role, .int .i64 x0.binary, .int .i64 x0.tuple.snap.index, .int .i64 x0.tuple.snap.term, .int .i64 x0.tuple.snap.sum, .int .i64 x0.tuple.snap.level, .bool x0.tuple.snap.final, .slice A0_ x0.tuple.log.length c0_, .int .i64 x0.tuple.term, .int .i64 x0.tuple.vote, .int .i64 x0.commit, .int .i64 x0.applied.index, .int .i64 x0.applied.term, .int .i64 x0.applied.sum, .int .i64 x0.applied.level, .bool x0.applied.final, .slice A1_ x0.votes.length c1_, .slice A2_ x0.next.length c2_, .slice A3_ x0.mtch.length c3_, .slice A4_ x0.caps.length c4_], .agg #[.int .u8 x1.kind, .int .i64 x1.frm, .int .i64 x1.dst, .int .i64 x1.term, .int .i64 x1.cap, .int .i64 x1.last, .int .i64 x1.lastTerm, .int .i64 x1.commit, .bool x1.okk, .slice A5_ x1.entries.length c5_, .int .i64 x1.snap.index, .int .i64 x1.snap.term, .int .i64 x1.snap.sum, .int .i64 x1.snap.level, .bool x1.snap.final]] w0 fun e w' => ∃ (A0 : OA) (c0 : Nat) (A1 : OA) (c1 : Nat) (A2 : OA) (c2 : Nat) (A3 : OA) (c3 : Nat) (A4 : OA) (c4 : Nat) (A5 : OA) (c5 : Nat) (q5 : List Mq), e = .returned (.tuple #[.agg #[.int .i64 r.1.id, .int .i64 r.1.n, .int .u8 r.1.role, .int .i64 r.1.binary, .int .i64 r.1.tuple.snap.index, .int .i64 r.1.tuple.snap.term, .int .i64 r.1.tuple.snap.sum, .int .i64 r.1.tuple.snap.level, .bool r.1.tuple.snap.final, .slice A0 r.1.tuple.log.length c0, .int .i64 r.1.tuple.term, .int .i64 r.1.tuple.vote, .int .i64 r.1.commit, .int .i64 r.1.applied.index, .int .i64 r.1.applied.term, .int .i64 r.1.applied.sum, .int .i64 r.1.applied.level, .bool r.1.applied.final, .slice A1 r.1.votes.length c1, .slice A2 r.1.next.length c2, .slice A3 r.1.mtch.length c3, .slice A4 r.1.caps.length c4], .slice A5 r.2.length c5]) ∧ (r.1.tuple.log.length ≤ c0 ∧ c0 ≤ maxLen) ∧ (r.1.votes.length ≤ c1 ∧ c1 ≤ maxLen) ∧ (r.1.next.length ≤ c2 ∧ c2 ≤ maxLen) ∧ (r.1.mtch.length ≤ c3 ∧ c3 ≤ maxLen) ∧ (r.1.caps.length ≤ c4 ∧ c4 ≤ maxLen) ∧ (r.2.length ≤ c5 ∧ c5 ≤ maxLen) ∧ q5.map Mq.m = r.2 ∧ (∀ y ∈ q5, okQ y) ∧ St0 All w0 w' [.row (.slice A0 r.1.tuple.log.length c0) 53 3 r.1.tuple.log.length (Yf V3 r.1.tuple.log), .row (.slice A1 r.1.votes.length c1) 4 1 r.1.votes.length (Yf enO r.1.votes), .row (.slice A2 r.1.next.length c2) 3 1 r.1.next.length (Yf X2 r.1.next), .row (.slice A3 r.1.mtch.length c3) 3 1 r.1.mtch.length (Yf X2 r.1.mtch), .row (.slice A4 r.1.caps.length c4) 3 1 r.1.caps.length (Yf X2 r.1.caps), .rd A5 (Yf enQ q5), .rds (q5.map subQ)] := by
 unfold Zaz at H
 refine Ys Tryz.func16 rfl Tryz.ntmps16 rfl ?_
 have hS := St0.start All w0
 refine Zd (fun K hK1 => ?_)
 refine Zf ?_
 refine Z7 rfl rfl rfl CellsOf.agg hS (fun b2 w hS hB => ?_)
 refine Z7 rfl rfl rfl CellsOf.agg hS (fun b4 w hS hB => ?_)
 refine Yd rfl rfl Zbx hS (fun b6 w hS hB => ?_)
 refine Zb 1 rfl ?_
 refine Zg ?_
 refine Zc hK1 ?_
 refine Zd (fun K hK8 => ?_)
 refine Zf ?_
 refine Za rfl rfl rfl (Zi Zx rfl (Zhe _) hS Xi trivial Zv) ?_
 obtain ⟨r9, hm10, H⟩ := bind_some H
 refine Zn rfl rfl rfl rfl (by kernel_rfl) rfl (Zea x0 A0_ c0_ A1_ c1_ A2_ c2_ A3_ c3_ A4_ c4_ _ (Zhh s0_.k (hS.rd0 s0_.rd) (hS.blk0 s0_.blk)) (Zhh s1_.k (hS.rd0 s1_.rd) (hS.blk0 s1_.blk)) (Zhh s2_.k (hS.rd0 s2_.rd) (hS.blk0 s2_.blk)) (Zhh s3_.k (hS.rd0 s3_.rd) (hS.blk0 s3_.blk)) (Zhh s4_.k (hS.rd0 s4_.rd) (hS.blk0 s4_.blk)) hm10) ?_
 rintro e w ⟨A11, c12, A15, c16, A19, c20, A23, c24, A27, c28, rfl, k13, k17, k21, k25, k29, hN⟩; refine ⟨_, rfl, ?_⟩; obtain ⟨hB, hS⟩ := hS.jn hN
 refine Zl rfl rfl rfl CellsOf.agg hS ps7 Z8 (by kernel_rfl) rfl (fun w hS hB => ?_)
 refine Zg ?_
 refine Zc hK8 ?_
 refine Zd (fun K hK31 => ?_)
 refine Zd (fun K hK32 => ?_)
 refine Zf ?_
 refine Za rfl rfl rfl (Zi Zx rfl (Zhe _) hS hs7 trivial Zv) ?_
 refine Za rfl rfl rfl (Zi Va rfl (Zhe _) hS Jy trivial Xg) ?_
 obtain ⟨r33, hm34, H⟩ := bind_some H
 refine Zn rfl rfl rfl rfl (by kernel_rfl) rfl (c_ref22_fits r9 x1 A11 c12 A15 c16 A19 c20 A23 c24 A27 c28 A5_ c5_ _ (Zhh k13 (hS.row_rd hs0) (hS.row_blk hs0)) (Zhh k17 (hS.row_rd Y2) (hS.row_blk Y2)) (Zhh k21 (hS.row_rd Xi) (hS.row_blk Xi)) (Zhh k25 (hS.row_rd hs3) (hS.row_blk hs3)) (Zhh k29 (hS.row_rd Jq) (hS.row_blk Jq)) (Zhh s5_.k (hS.rd0 s5_.rd) (hS.blk0 s5_.blk)) hm34) ?_
 rintro e w ⟨rfl, hN⟩; refine ⟨_, rfl, ?_⟩; obtain ⟨hB, hS⟩ := hS.jn hN
 refine Za rfl rfl rfl (Yo rfl) ?_
 refine Zb 1 rfl ?_
 refine Zq 12 rfl (fun hb => ?_) (fun hb => ?_)
 ·replace H := Zo H hb
  refine Zb 4 rfl ?_
  refine Zg ?_
  refine Zc hK32 ?_
  refine Zu rfl rfl ?_
  refine Zd (fun K hK35 => ?_)
  refine Zf ?_
  refine Za rfl rfl rfl (Zi Zx rfl (Zhe _) hS hs7 trivial Zv) ?_
  refine Zl rfl rfl rfl CellsOf.agg hS ps5 Z8 (by kernel_rfl) rfl (fun w hS hB => ?_)
  refine Zb 1 rfl ?_
  refine Zg ?_
  refine Zc hK35 ?_
  refine Zk ?_
  refine Zj ?_
  refine Zm rfl (RV.cell rfl (Zt Zx hS hs5 Zv) (RV.tmp rfl RV.nil)) rfl ?_
  obtain rfl := QJ H
  have hS := hS.nilRds
  replace hS := hS.nilRd
  have hS := hS.front 6 rfl
  have hS := hS.front 6 rfl
  have hS := hS.front 6 rfl
  have hS := hS.front 6 rfl
  have hS := hS.front 6 rfl
  replace hS := hS.cut 7
  exact ⟨A11, c12, A15, c16, A19, c20, A23, c24, A27, c28, none, 0, ([] : List Mq), rfl, k13, k17, k21, k25, k29, ⟨Nat.le_refl _, Nat.zero_le _⟩, rfl, Yu, hS⟩
 replace H := Zp H hb
 refine Za rfl rfl rfl (Ze Vc rfl) ?_
 refine Za rfl rfl rfl (Zh Zas rfl (Zhe _) hS Jy trivial Yx) ?_
 refine Za rfl rfl rfl (Xm rfl rfl) ?_
 refine Zb 1 rfl ?_
 refine Zg ?_
 refine Zc hK32 ?_
 refine Z1 rfl (fun hb => ?_) (fun hb => ?_)
 ·replace H := Zo H hb
  refine Zd (fun K hK36 => ?_)
  refine Zf ?_
  refine Za rfl rfl rfl (Zi Zx rfl (Zhe _) hS hs7 trivial Zv) ?_
  refine Zl rfl rfl rfl CellsOf.agg hS ps5 Z8 (by kernel_rfl) rfl (fun w hS hB => ?_)
  refine Zb 1 rfl ?_
  refine Zg ?_
  refine Zc hK36 ?_
  refine Zk ?_
  refine Zj ?_
  refine Zm rfl (RV.cell rfl (Zt Zx hS hs5 Zv) (RV.tmp rfl RV.nil)) rfl ?_
  obtain rfl := QJ H
  have hS := hS.nilRds
  replace hS := hS.nilRd
  have hS := hS.front 6 rfl
  have hS := hS.front 6 rfl
  have hS := hS.front 6 rfl
  have hS := hS.front 6 rfl
  have hS := hS.front 6 rfl
  replace hS := hS.cut 7
  exact ⟨A11, c12, A15, c16, A19, c20, A23, c24, A27, c28, none, 0, ([] : List Mq), rfl, k13, k17, k21, k25, k29, ⟨Nat.le_refl _, Nat.zero_le _⟩, rfl, Yu, hS⟩
 replace H := Zp H hb
 refine Zs ?_
 refine Zc hK31 ?_
 refine Zd (fun K hK37 => ?_)
 refine Zf ?_
 refine Za rfl rfl rfl (Zi Zx rfl (Zhe _) hS hs7 trivial Zv) ?_
 refine Za rfl rfl rfl (Zi Va rfl (Zhe _) hS Jy trivial Xg) ?_
 obtain ⟨r38, hm39, H⟩ := bind_some H
 refine Zn rfl rfl rfl rfl (by kernel_rfl) rfl (c_ref22_Meet r9 x1 A11 c12 A15 c16 A19 c20 A23 c24 A27 c28 A5_ c5_ _ (Zhh k13 (hS.row_rd hs0) (hS.row_blk hs0)) (Zhh k17 (hS.row_rd Y2) (hS.row_blk Y2)) (Zhh k21 (hS.row_rd Xi) (hS.row_blk Xi)) (Zhh k25 (hS.row_rd hs3) (hS.row_blk hs3)) (Zhh k29 (hS.row_rd Jq) (hS.row_blk Jq)) (Zhh s5_.k (hS.rd0 s5_.rd) (hS.blk0 s5_.blk)) hm39) ?_
 rintro e w ⟨A40, c41, A44, c45, A48, c49, A52, c53, A56, c57, rfl, k42, k46, k50, k54, k58, hN⟩; refine ⟨_, rfl, ?_⟩; obtain ⟨hB, hS⟩ := hS.jn hN
 refine Zl rfl rfl rfl CellsOf.agg hS ps12 Z8 (by kernel_rfl) rfl (fun w hS hB => ?_)
 refine Zg ?_
 refine Zc hK37 ?_
 refine Zd (fun K hK60 => ?_)
 refine Zd (fun K hK61 => ?_)
 refine Zf ?_
 refine Za rfl rfl rfl (Ze Vv rfl) ?_
 refine Za rfl rfl rfl (Zh Zas rfl (Zhe _) hS Jc trivial Jt) ?_
 refine Za rfl rfl rfl (Xm rfl rfl) ?_
 refine Zb 1 rfl ?_
 refine Zq 24 rfl (fun hb => ?_) (fun hb => ?_)
 ·replace H := Zo H hb
  refine Zb 12 rfl ?_
  refine Zg ?_
  refine Zc hK61 ?_
  refine Zu rfl rfl ?_
  refine Zd (fun K hK62 => ?_)
  refine Zf ?_
  refine Za rfl rfl rfl (Zi Zx rfl (Zhe _) hS Jc trivial Zv) ?_
  refine Zl rfl rfl rfl CellsOf.agg hS ps10 Z8 (by kernel_rfl) rfl (fun w hS hB => ?_)
  refine Zb 1 rfl ?_
  refine Zg ?_
  refine Zc hK62 ?_
  refine Zk ?_
  refine Zj ?_
  refine Zm rfl (RV.cell rfl (Zt Zx hS hs10 Zv) (RV.tmp rfl RV.nil)) rfl ?_
  obtain rfl := QJ H
  have hS := hS.nilRds
  replace hS := hS.nilRd
  have hS := hS.front 6 rfl
  have hS := hS.front 6 rfl
  have hS := hS.front 6 rfl
  have hS := hS.front 6 rfl
  have hS := hS.front 6 rfl
  replace hS := hS.cut 7
  exact ⟨A40, c41, A44, c45, A48, c49, A52, c53, A56, c57, none, 0, ([] : List Mq), rfl, k42, k46, k50, k54, k58, ⟨Nat.le_refl _, Nat.zero_le _⟩, rfl, Yu, hS⟩
 replace H := Zp H hb
 refine Za rfl rfl rfl (Ze Js rfl) ?_
 refine Za rfl rfl rfl (Zh Z3 rfl (Zhe _) hS Zbo trivial Jb) ?_
 refine Za rfl rfl rfl (Ze Yq rfl) ?_
 refine Za rfl rfl rfl (Ze Xl rfl) ?_
 refine Za rfl rfl rfl (Zh Z3 rfl (Zhe _) hS Jc trivial Vz) ?_
 refine Za rfl rfl rfl (Xm rfl rfl) ?_
 refine Zb 2 rfl ?_
 refine Zq 32 rfl (fun hb => ?_) (fun hb => ?_)
 ·replace H := Zo H hb
  refine Zb 4 rfl ?_
  refine Zg ?_
  refine Zc hK61 ?_
  refine Zu rfl rfl ?_
  refine Zd (fun K hK63 => ?_)
  refine Zf ?_
  refine Za rfl rfl rfl (Zi Zx rfl (Zhe _) hS Jc trivial Zv) ?_
  refine Zl rfl rfl rfl CellsOf.agg hS ps10 Z8 (by kernel_rfl) rfl (fun w hS hB => ?_)
  refine Zb 1 rfl ?_
  refine Zg ?_
  refine Zc hK63 ?_
  refine Zk ?_
  refine Zj ?_
  refine Zm rfl (RV.cell rfl (Zt Zx hS hs10 Zv) (RV.tmp rfl RV.nil)) rfl ?_
  obtain rfl := QJ H
  have hS := hS.nilRds
  replace hS := hS.nilRd
  have hS := hS.front 6 rfl
  have hS := hS.front 6 rfl
  have hS := hS.front 6 rfl
  have hS := hS.front 6 rfl
  have hS := hS.front 6 rfl
  replace hS := hS.cut 7
  exact ⟨A40, c41, A44, c45, A48, c49, A52, c53, A56, c57, none, 0, ([] : List Mq), rfl, k42, k46, k50, k54, k58, ⟨Nat.le_refl _, Nat.zero_le _⟩, rfl, Yu, hS⟩
 replace H := Zp H hb
 refine Za rfl rfl rfl (Ze Ze5 rfl) ?_
 refine Za rfl rfl rfl (Zh sc_4 rfl (Zhe _) hS Zbo trivial sg8_1) ?_
 refine Za rfl rfl rfl (Yo rfl) ?_
 refine Zb 1 rfl ?_
 refine Zg ?_
 refine Zc hK61 ?_
 refine Z1 rfl (fun hb => ?_) (fun hb => ?_)
 ·replace H := Zo H hb
  refine Zd (fun K hK64 => ?_)
  refine Zf ?_
  refine Za rfl rfl rfl (Zi Zx rfl (Zhe _) hS Jc trivial Zv) ?_
  refine Zl rfl rfl rfl CellsOf.agg hS ps10 Z8 (by kernel_rfl) rfl (fun w hS hB => ?_)
  refine Zb 1 rfl ?_
  refine Zg ?_
  refine Zc hK64 ?_
  refine Zk ?_
  refine Zj ?_
  refine Zm rfl (RV.cell rfl (Zt Zx hS hs10 Zv) (RV.tmp rfl RV.nil)) rfl ?_
  obtain rfl := QJ H
  have hS := hS.nilRds
  replace hS := hS.nilRd
  have hS := hS.front 6 rfl
  have hS := hS.front 6 rfl
  have hS := hS.front 6 rfl
  have hS := hS.front 6 rfl
  have hS := hS.front 6 rfl
  replace hS := hS.cut 7
  exact ⟨A40, c41, A44, c45, A48, c49, A52, c53, A56, c57, none, 0, ([] : List Mq), rfl, k42, k46, k50, k54, k58, ⟨Nat.le_refl _, Nat.zero_le _⟩, rfl, Yu, hS⟩
 replace H := Zp H hb
 refine Zs ?_
 refine Zc hK60 ?_
 refine Zd (fun K hK65 => ?_)
 refine Zf ?_
 refine Za rfl rfl rfl (Ze Vd rfl) ?_
 refine Za rfl rfl rfl (Zh Zc1 rfl (Zhe _) hS Jc trivial Zba) ?_
 refine Za rfl rfl rfl (Ze Zaf rfl) ?_
 refine Za rfl rfl rfl (Zh Z3 rfl (Zhe _) hS Zbo trivial Xu) ?_
 refine Za rfl rfl rfl (Zcn rfl rfl) ?_
 obtain ⟨e66, hi68, H⟩ := bind_some H
 obtain ⟨j67, hi68a, hi68b, hi68c⟩ := Y0 hi68
 refine Za rfl rfl rfl (Xh Zbs rfl rfl hi68a hi68c (Rd.el (hS.row_rd Y2) V5 hi68b)) ?_
 refine Zcd (a' := true) (zs := (Vw r38.votes (IntKind.wrap .i64 (x1.frm - 1)) true)) V5 rfl rfl rfl CellsOf.bool hS ps1 (Rd.el (hS.row_rd Y2) V5 hi68b) hi68a hi68b rfl Zeb (by kernel_rfl) rfl (fun w hS => ?_)
 refine Zg ?_
 refine Zc hK65 ?_
 refine Zd (fun K hK69 => ?_)
 refine Zd (fun K hK70 => ?_)
 refine Zf ?_
 refine Za rfl rfl rfl (Ze Vd rfl) ?_
 refine Za rfl rfl rfl (Zh Zc1 rfl (Zhe _) hS Jc trivial Zba) ?_
 obtain ⟨r71, hm72, H⟩ := bind_some H
 refine Zn rfl rfl rfl rfl (by kernel_rfl) (by rw [(Y8 rfl)]; rfl) (c_ref22_Half (Vw r38.votes (IntKind.wrap .i64 (x1.frm - 1)) true) A44 c45 _ (Zhh (Za7 k46) (hS.row_rd Y2) (hS.row_blk Y2)) hm72) ?_
 rintro e w ⟨rfl, hN⟩; refine ⟨_, rfl, ?_⟩; obtain ⟨hB, hS⟩ := hS.jn hN
 refine Zg ?_
 refine Zc hK70 ?_
 refine Z1 rfl (fun hb => ?_) (fun hb => ?_)
 rotate_left
 ·replace H := Zp H hb
  refine Zs ?_
  refine Zc hK69 ?_
  refine Zd (fun K hK96 => ?_)
  refine Zf ?_
  refine Za rfl rfl rfl (Zi Zx rfl (Zhe _) hS Jc trivial Zv) ?_
  refine Zl rfl rfl rfl CellsOf.agg hS ps10 Z8 (by kernel_rfl) rfl (fun w hS hB => ?_)
  refine Zb 1 rfl ?_
  refine Zg ?_
  refine Zc hK96 ?_
  refine Zk ?_
  refine Zm rfl (RV.cell rfl (Zt Zx hS hs10 Zv) (RV.tmp rfl RV.nil)) rfl ?_
  obtain rfl := QJ H
  have hS := hS.nilRds
  replace hS := hS.nilRd
  have hS := hS.front 6 rfl
  have hS := hS.front 6 rfl
  have hS := hS.front 6 rfl
  have hS := hS.front 6 rfl
  have hS := hS.front 6 rfl
  replace hS := hS.cut 7
  exact ⟨A40, c41, A44, c45, A48, c49, A52, c53, A56, c57, none, 0, ([] : List Mq), by rw [(Y8 rfl)]; rfl, k42, (Za7 k46), k50, k54, k58, ⟨Nat.le_refl _, Nat.zero_le _⟩, rfl, Yu, hS.eqv (by rw [(Y8 rfl)]; rfl)⟩
 replace H := Zo H hb
 refine Zd (fun K hK73 => ?_)
 refine Zf ?_
 refine Za rfl rfl rfl (Zi Zx rfl (Zhe _) hS Jc trivial Zv) ?_
 obtain ⟨r74, hm75, H⟩ := bind_some H
 refine Zn rfl rfl rfl rfl (by kernel_rfl) (by rw [(Y8 rfl)]; rfl) (c_ref22_Lead (⟨r38.id, r38.n, r38.role, r38.binary, r38.tuple, r38.commit, r38.applied, (Vw r38.votes (IntKind.wrap .i64 (x1.frm - 1)) true), r38.next, r38.mtch, r38.caps⟩ : Co) A40 c41 A44 c45 A48 c49 A52 c53 A56 c57 _ (Zhh k42 (hS.row_rd hs0) (hS.row_blk hs0)) (Zhh (Za7 k46) (hS.row_rd Y2) (hS.row_blk Y2)) (Zhh k50 (hS.row_rd Xi) (hS.row_blk Xi)) (Zhh k54 (hS.row_rd hs3) (hS.row_blk hs3)) (Zhh k58 (hS.row_rd Jq) (hS.row_blk Jq)) hm75) ?_
 rintro e w ⟨A76, c77, A80, c81, A84, c85, A88, c89, A92, c93, rfl, k78, k82, k86, k90, k94, hN⟩; refine ⟨_, rfl, ?_⟩; obtain ⟨hB, hS⟩ := hS.jn hN
 refine Zl rfl rfl rfl CellsOf.agg hS ps15 Z8 (by kernel_rfl) rfl (fun w hS hB => ?_)
 refine Zb 1 rfl ?_
 refine Zg ?_
 refine Zc hK73 ?_
 refine Zk ?_
 refine Zj ?_
 refine Zm rfl (RV.cell rfl (Zt Zx hS hs15 Zv) (RV.tmp rfl RV.nil)) rfl ?_
 obtain rfl := QJ H
 have hS := hS.nilRds
 replace hS := hS.nilRd
 have hS := hS.front 6 rfl
 have hS := hS.front 6 rfl
 have hS := hS.front 6 rfl
 have hS := hS.front 6 rfl
 have hS := hS.front 6 rfl
 replace hS := hS.cut 7
 exact ⟨A76, c77, A80, c81, A84, c85, A88, c89, A92, c93, none, 0, ([] : List Mq), rfl, k78, k82, k86, k90, k94, ⟨Nat.le_refl _, Nat.zero_le _⟩, rfl, Yu, hS⟩
end
section
open Go Go.RowKit
set_option maxRecDepth 100000
set_option maxHeartbeats 4000000
theorem c_law22_ElectTells (x0 : Co) (x1 : Ms) (x2 : Int) (x3 : Int) (x4 : List Bool) (A0_ : OA) (c0_ : Nat) (A1_ : OA) (c1_ : Nat) (A2_ : OA) (c2_ : Nat) (A3_ : OA) (c3_ : Nat) (A4_ : OA) (c4_ : Nat) (A5_ : OA) (c5_ : Nat) (A6_ : OA) (c6_ : Nat) (w0 : World) (s0_ : SlI w0 V3 A0_ c0_ x0.tuple.log) (s1_ : SlI w0 enO A1_ c1_ x0.votes) (s2_ : SlI w0 X2 A2_ c2_ x0.next) (s3_ : SlI w0 X2 A3_ c3_ x0.mtch) (s4_ : SlI w0 X2 A4_ c4_ x0.caps) (s5_ : SlI w0 V3 A5_ c5_ x1.entries) (s6_ : SlI w0 enO A6_ c6_ x4) {r : Bool} (H : Zcc x0 x1 x2 x3 x4 = some r) : Calls Tryz.prog 3 #[.agg #[.int .i64 x0.id, .int .i64 x0.n, .int .u8 x0.role, .int .i64 x0.binary, .int .i64 x0.tuple.snap.index, .int .i64 x0.tuple.snap.term, .int .i64 x0.tuple.snap.sum, .int .i64 x0.tuple.snap.level, .bool x0.tuple.snap.final, .slice A0_ x0.tuple.log.length c0_, .int .i64 x0.tuple.term, .int .i64 x0.tuple.vote, .int .i64 x0.commit, .int .i64 x0.applied.index, .int .i64 x0.applied.term, .int .i64 x0.applied.sum, .int .i64 x0.applied.level, .bool x0.applied.final, .slice A1_ x0.votes.length c1_, .slice A2_ x0.next.length c2_, .slice A3_ x0.mtch.length c3_, .slice A4_ x0.caps.length c4_], .agg #[.int .u8 x1.kind, .int .i64 x1.frm, .int .i64 x1.dst, .int .i64 x1.term, .int .i64 x1.cap, .int .i64 x1.last, .int .i64 x1.lastTerm, .int .i64 x1.commit, .bool x1.okk, .slice A5_ x1.entries.length c5_, .int .i64 x1.snap.index, .int .i64 x1.snap.term, .int .i64 x1.snap.sum, .int .i64 x1.snap.level, .bool x1.snap.final], .int .i64 x2, .int .i64 x3, .slice A6_ x4.length c6_] w0 fun e w' => e = .returned (.bool r) ∧ St0 All w0 w' [] := by
 unfold Zcc at H
 refine Zha Tryz.func3 rfl Tryz.ntmps3 rfl ?_
 have hS := St0.start All w0
 refine Zd (fun K hK1 => ?_)
 refine Zf ?_
 refine Z7 rfl rfl rfl CellsOf.agg hS (fun b2 w hS hB => ?_)
 refine Z7 rfl rfl rfl CellsOf.agg hS (fun b4 w hS hB => ?_)
 refine Zb 1 rfl ?_
 refine Zg ?_
 refine Zc hK1 ?_
 refine Zd (fun K hK6 => ?_)
 refine Zd (fun K hK7 => ?_)
 refine Zf ?_
 refine Za rfl rfl rfl (Zi Zx rfl (Zhe _) hS Y2 trivial Zv) ?_
 obtain ⟨r8, hm9, H⟩ := bind_some H
 refine Zn rfl rfl rfl rfl (by kernel_rfl) rfl (c_ref20_Great x0 A0_ c0_ A1_ c1_ A2_ c2_ A3_ c3_ A4_ c4_ _ (Zhh s0_.k (hS.rd0 s0_.rd) (hS.blk0 s0_.blk)) (Zhh s1_.k (hS.rd0 s1_.rd) (hS.blk0 s1_.blk)) (Zhh s2_.k (hS.rd0 s2_.rd) (hS.blk0 s2_.blk)) (Zhh s3_.k (hS.rd0 s3_.rd) (hS.blk0 s3_.blk)) (Zhh s4_.k (hS.rd0 s4_.rd) (hS.blk0 s4_.blk)) hm9) ?_
 rintro e w ⟨rfl, hN⟩; refine ⟨_, rfl, ?_⟩; obtain ⟨hB, hS⟩ := hS.jn hN
 refine Zb 1 rfl ?_
 refine Zq 17 rfl (fun hb => ?_) (fun hb => ?_)
 ·replace H := Zo H hb
  refine Zb 20 rfl ?_
  refine Zg ?_
  refine Zc hK7 ?_
  refine Zu rfl rfl ?_
  refine Zd (fun K hK10 => ?_)
  refine Zf ?_
  obtain ⟨r11, hm12, H⟩ := bind_some H
  refine Zn rfl rfl rfl rfl (by kernel_rfl) rfl (Zcl _ hm12) ?_
  rintro e w ⟨rfl, hN⟩; refine ⟨_, rfl, ?_⟩; obtain ⟨hB, hS⟩ := hS.jn hN
  refine Zb 1 rfl ?_
  refine Zg ?_
  refine Zc hK10 ?_
  refine Zk ?_
  refine Zj ?_
  refine Zm rfl (RV.tmp rfl RV.nil) rfl ?_
  obtain rfl := QJ H
  replace hS := hS.cut 0
  exact ⟨rfl, hS⟩
 replace H := Zp H hb
 refine Za rfl rfl rfl (Ze Zbg rfl) ?_
 refine Za rfl rfl rfl (Zh Vm rfl (Zhe _) hS hs0 trivial Zfr) ?_
 refine Za rfl rfl rfl (Yz Xq rfl) ?_
 refine Za rfl rfl rfl (Y7 rfl rfl) ?_
 refine Zb 2 rfl ?_
 refine Zq 23 rfl (fun hb => ?_) (fun hb => ?_)
 ·replace H := Zo H hb
  refine Zb 14 rfl ?_
  refine Zg ?_
  refine Zc hK7 ?_
  refine Zu rfl rfl ?_
  refine Zd (fun K hK13 => ?_)
  refine Zf ?_
  obtain ⟨r14, hm15, H⟩ := bind_some H
  refine Zn rfl rfl rfl rfl (by kernel_rfl) rfl (Zcl _ hm15) ?_
  rintro e w ⟨rfl, hN⟩; refine ⟨_, rfl, ?_⟩; obtain ⟨hB, hS⟩ := hS.jn hN
  refine Zb 1 rfl ?_
  refine Zg ?_
  refine Zc hK13 ?_
  refine Zk ?_
  refine Zj ?_
  refine Zm rfl (RV.tmp rfl RV.nil) rfl ?_
  obtain rfl := QJ H
  replace hS := hS.cut 0
  exact ⟨rfl, hS⟩
 replace H := Zp H hb
 refine Zb 1 rfl ?_
 refine Za rfl rfl rfl (Yz Zbs rfl) ?_
 refine Za rfl rfl rfl (Y7 rfl rfl) ?_
 refine Zb 2 rfl ?_
 refine Zq 28 rfl (fun hb => ?_) (fun hb => ?_)
 ·replace H := Zo H hb
  refine Zb 9 rfl ?_
  refine Zg ?_
  refine Zc hK7 ?_
  refine Zu rfl rfl ?_
  refine Zd (fun K hK16 => ?_)
  refine Zf ?_
  obtain ⟨r17, hm18, H⟩ := bind_some H
  refine Zn rfl rfl rfl rfl (by kernel_rfl) rfl (Zcl _ hm18) ?_
  rintro e w ⟨rfl, hN⟩; refine ⟨_, rfl, ?_⟩; obtain ⟨hB, hS⟩ := hS.jn hN
  refine Zb 1 rfl ?_
  refine Zg ?_
  refine Zc hK16 ?_
  refine Zk ?_
  refine Zj ?_
  refine Zm rfl (RV.tmp rfl RV.nil) rfl ?_
  obtain rfl := QJ H
  replace hS := hS.cut 0
  exact ⟨rfl, hS⟩
 replace H := Zp H hb
 refine Za rfl rfl rfl (Ze fo_30_5 rfl) ?_
 refine Za rfl rfl rfl (Zh Z3 rfl (Zhe _) hS Y2 trivial sg12_1) ?_
 refine Za rfl rfl rfl (Y7 rfl rfl) ?_
 refine Zb 2 rfl ?_
 refine Zq 33 rfl (fun hb => ?_) (fun hb => ?_)
 ·replace H := Zo H hb
  refine Zb 4 rfl ?_
  refine Zg ?_
  refine Zc hK7 ?_
  refine Zu rfl rfl ?_
  refine Zd (fun K hK19 => ?_)
  refine Zf ?_
  obtain ⟨r20, hm21, H⟩ := bind_some H
  refine Zn rfl rfl rfl rfl (by kernel_rfl) rfl (Zcl _ hm21) ?_
  rintro e w ⟨rfl, hN⟩; refine ⟨_, rfl, ?_⟩; obtain ⟨hB, hS⟩ := hS.jn hN
  refine Zb 1 rfl ?_
  refine Zg ?_
  refine Zc hK19 ?_
  refine Zk ?_
  refine Zj ?_
  refine Zm rfl (RV.tmp rfl RV.nil) rfl ?_
  obtain rfl := QJ H
  replace hS := hS.cut 0
  exact ⟨rfl, hS⟩
 replace H := Zp H hb
 refine Za rfl rfl rfl (Ze fo_30_5 rfl) ?_
 refine Za rfl rfl rfl (Zh Z3 rfl (Zhe _) hS Y2 trivial sg12_1) ?_
 refine Za rfl rfl rfl (Xk rfl rfl) ?_
 refine Zb 1 rfl ?_
 refine Zg ?_
 refine Zc hK7 ?_
 refine Z1 rfl (fun hb => ?_) (fun hb => ?_)
 ·replace H := Zo H hb
  refine Zd (fun K hK22 => ?_)
  refine Zf ?_
  obtain ⟨r23, hm24, H⟩ := bind_some H
  refine Zn rfl rfl rfl rfl (by kernel_rfl) rfl (Zcl _ hm24) ?_
  rintro e w ⟨rfl, hN⟩; refine ⟨_, rfl, ?_⟩; obtain ⟨hB, hS⟩ := hS.jn hN
  refine Zb 1 rfl ?_
  refine Zg ?_
  refine Zc hK22 ?_
  refine Zk ?_
  refine Zj ?_
  refine Zm rfl (RV.tmp rfl RV.nil) rfl ?_
  obtain rfl := QJ H
  replace hS := hS.cut 0
  exact ⟨rfl, hS⟩
 replace H := Zp H hb
 refine Zs ?_
 refine Zc hK6 ?_
 refine Zd (fun K hK25 => ?_)
 refine Zf ?_
 refine Za rfl rfl rfl (Zi Zx rfl (Zhe _) hS Y2 trivial Zv) ?_
 obtain ⟨r26, hm27, H⟩ := bind_some H
 refine Zn rfl rfl rfl rfl (by kernel_rfl) rfl (Zfk x0 A0_ c0_ A1_ c1_ A2_ c2_ A3_ c3_ A4_ c4_ _ (Zhh s0_.k (hS.rd0 s0_.rd) (hS.blk0 s0_.blk)) (Zhh s1_.k (hS.rd0 s1_.rd) (hS.blk0 s1_.blk)) (Zhh s2_.k (hS.rd0 s2_.rd) (hS.blk0 s2_.blk)) (Zhh s3_.k (hS.rd0 s3_.rd) (hS.blk0 s3_.blk)) (Zhh s4_.k (hS.rd0 s4_.rd) (hS.blk0 s4_.blk)) hm27) ?_
 rintro e w ⟨A28, c29, A32, c33, A36, c37, A40, c41, A44, c45, A48, c49, q52, rfl, k30, k34, k38, k42, k46, k50, hq53, okq54, hN⟩; refine ⟨_, rfl, ?_⟩; obtain ⟨hB, hS⟩ := hS.jn hN
 refine Zb 1 rfl ?_
 refine Za rfl rfl rfl (Z0 rfl rfl) ?_
 refine Za rfl rfl rfl (Z0 rfl rfl) ?_
 refine Yd rfl rfl Zbx hS (fun b56 w hS hB => ?_)
 refine Zl rfl rfl rfl CellsOf.agg hS ps0 Z8 (by kernel_rfl) rfl (fun w hS hB => ?_)
 refine Zb 1 rfl ?_
 refine Zg ?_
 refine Zc hK25 ?_
 refine Zd (fun K hK58 => ?_)
 refine Zf ?_
 refine Za rfl rfl rfl (Zi Zx rfl (Zhe _) hS hs9 trivial Zv) ?_
 obtain ⟨r59, hm60, H⟩ := bind_some H
 refine Zn rfl rfl rfl rfl (by kernel_rfl) rfl (c_ref22_Timeout x0 A0_ c0_ A1_ c1_ A2_ c2_ A3_ c3_ A4_ c4_ _ (Zhh s0_.k (hS.rd0 s0_.rd) (hS.blk0 s0_.blk)) (Zhh s1_.k (hS.rd0 s1_.rd) (hS.blk0 s1_.blk)) (Zhh s2_.k (hS.rd0 s2_.rd) (hS.blk0 s2_.blk)) (Zhh s3_.k (hS.rd0 s3_.rd) (hS.blk0 s3_.blk)) (Zhh s4_.k (hS.rd0 s4_.rd) (hS.blk0 s4_.blk)) hm60) ?_
 rintro e w ⟨A61, c62, A65, c66, A69, c70, A73, c74, A77, c78, A81, c82, q85, rfl, k63, k67, k71, k75, k79, k83, hq86, okq87, hN⟩; refine ⟨_, rfl, ?_⟩; obtain ⟨hB, hS⟩ := hS.jn hN
 refine Zb 1 rfl ?_
 refine Za rfl rfl rfl (Z0 rfl rfl) ?_
 refine Za rfl rfl rfl (Z0 rfl rfl) ?_
 refine Yd rfl rfl Zbx hS (fun b89 w hS hB => ?_)
 refine Zl rfl rfl rfl CellsOf.agg hS ps0 Z8 (by kernel_rfl) rfl (fun w hS hB => ?_)
 refine Zb 1 rfl ?_
 refine Zg ?_
 refine Zc hK58 ?_
 refine Zd (fun K hK91 => ?_)
 refine Zd (fun K hK92 => ?_)
 refine Zf ?_
 refine Za rfl rfl rfl (Zi Zx rfl (Zhe _) hS hs8 trivial Zv) ?_
 refine Za rfl rfl rfl (Zi Zx rfl (Zhe _) hS hs0 trivial Zv) ?_
 obtain ⟨r93, hm94, H⟩ := bind_some H
 refine Zn rfl rfl rfl rfl (by kernel_rfl) rfl (Zek r26.1 r59.1 A28 c29 A32 c33 A36 c37 A40 c41 A44 c45 A61 c62 A65 c66 A69 c70 A73 c74 A77 c78 _ (Zhh k30 (hS.rd hs9) (hS.rd_blk hs9)) (Zhh k34 (hS.row_rd hs10) (hS.row_blk hs10)) (Zhh k38 (hS.row_rd Zbo) (hS.row_blk Zbo)) (Zhh k42 (hS.row_rd Jc) (hS.row_blk Jc)) (Zhh k46 (hS.row_rd hs13) (hS.row_blk hs13)) (Zhh k63 (hS.row_rd Y2) (hS.row_blk Y2)) (Zhh k67 (hS.row_rd Xi) (hS.row_blk Xi)) (Zhh k71 (hS.row_rd hs3) (hS.row_blk hs3)) (Zhh k75 (hS.row_rd Jq) (hS.row_blk Jq)) (Zhh k79 (hS.row_rd hs5) (hS.row_blk hs5)) hm94) ?_
 rintro e w ⟨rfl, hN⟩; refine ⟨_, rfl, ?_⟩; obtain ⟨hB, hS⟩ := hS.jn hN
 refine Za rfl rfl rfl (Yo rfl) ?_
 refine Zb 1 rfl ?_
 refine Zq 53 rfl (fun hb => ?_) (fun hb => ?_)
 ·replace H := Zo H hb
  refine Zb 5 rfl ?_
  refine Zg ?_
  refine Zc hK92 ?_
  refine Zu rfl rfl ?_
  refine Zd (fun K hK95 => ?_)
  refine Zf ?_
  refine Zb 1 rfl ?_
  refine Zg ?_
  refine Zc hK95 ?_
  refine Zk ?_
  refine Zj ?_
  refine Zm rfl (RV.tmp rfl RV.nil) rfl ?_
  obtain rfl := QJ H
  replace hS := hS.cut 0
  exact ⟨rfl, hS⟩
 replace H := Zp H hb
 refine Zb 2 rfl ?_
 obtain ⟨r96, hm97, H⟩ := bind_some H
 refine Zn rfl rfl rfl rfl (by kernel_rfl) rfl (c_ref20_All r26.2 r59.2 A48 c49 q52 A81 c82 q85 _ (Zhh (k_q hq53 k50) (hS.rd hs14) (hS.rd_blk hs14)) hq53 (hS.rds_sl hs15 okq54) (Zhh (k_q hq86 k83) (hS.rd Jy) (hS.rd_blk Jy)) hq86 (hS.rds_sl hs7 okq87) hm97) ?_
 rintro e w ⟨rfl, hN⟩; refine ⟨_, rfl, ?_⟩; obtain ⟨hB, hS⟩ := hS.jn hN
 refine Za rfl rfl rfl (Yo rfl) ?_
 refine Zb 1 rfl ?_
 refine Zg ?_
 refine Zc hK92 ?_
 refine Z1 rfl (fun hb => ?_) (fun hb => ?_)
 ·replace H := Zo H hb
  refine Zd (fun K hK98 => ?_)
  refine Zf ?_
  refine Zb 1 rfl ?_
  refine Zg ?_
  refine Zc hK98 ?_
  refine Zk ?_
  refine Zj ?_
  refine Zm rfl (RV.tmp rfl RV.nil) rfl ?_
  obtain rfl := QJ H
  replace hS := hS.cut 0
  exact ⟨rfl, hS⟩
 replace H := Zp H hb
 refine Zs ?_
 refine Zc hK91 ?_
 refine Zd (fun K hK99 => ?_)
 refine Zf ?_
 refine Za rfl rfl rfl (Zi Zx rfl (Zhe _) hS hs17 trivial Zv) ?_
 refine Za rfl rfl rfl (Zi Va rfl (Zhe _) hS hs16 trivial Xg) ?_
 obtain ⟨r100, hm101, H⟩ := bind_some H
 refine Zn rfl rfl rfl rfl (by kernel_rfl) rfl (c_elect_Vote x0 x1 A0_ c0_ A1_ c1_ A2_ c2_ A3_ c3_ A4_ c4_ A5_ c5_ _ (Zhh s0_.k (hS.rd0 s0_.rd) (hS.blk0 s0_.blk)) (Zhh s1_.k (hS.rd0 s1_.rd) (hS.blk0 s1_.blk)) (Zhh s2_.k (hS.rd0 s2_.rd) (hS.blk0 s2_.blk)) (Zhh s3_.k (hS.rd0 s3_.rd) (hS.blk0 s3_.blk)) (Zhh s4_.k (hS.rd0 s4_.rd) (hS.blk0 s4_.blk)) (Zhh s5_.k (hS.rd0 s5_.rd) (hS.blk0 s5_.blk)) hm101) ?_
 rintro e w ⟨A102, c103, A106, c107, A110, c111, A114, c115, A118, c119, A122, c123, q126, rfl, k104, k108, k112, k116, k120, k124, hq127, okq128, hN⟩; refine ⟨_, rfl, ?_⟩; obtain ⟨hB, hS⟩ := hS.jn hN
 refine Zb 1 rfl ?_
 refine Za rfl rfl rfl (Z0 rfl rfl) ?_
 refine Za rfl rfl rfl (Z0 rfl rfl) ?_
 refine Zl rfl rfl rfl CellsOf.agg hS ps15 Z8 (by kernel_rfl) rfl (fun w hS hB => ?_)
 refine Zb 1 rfl ?_
 refine Zg ?_
 refine Zc hK99 ?_
 refine Zd (fun K hK130 => ?_)
 refine Zf ?_
 refine Za rfl rfl rfl (Zi Zx rfl (Zhe _) hS hs24 trivial Zv) ?_
 refine Za rfl rfl rfl (Zi Va rfl (Zhe _) hS hs23 trivial Xg) ?_
 obtain ⟨r131, hm132, H⟩ := bind_some H
 refine Zn rfl rfl rfl rfl (by kernel_rfl) rfl (c_ref22_Vote x0 x1 A0_ c0_ A1_ c1_ A2_ c2_ A3_ c3_ A4_ c4_ A5_ c5_ _ (Zhh s0_.k (hS.rd0 s0_.rd) (hS.blk0 s0_.blk)) (Zhh s1_.k (hS.rd0 s1_.rd) (hS.blk0 s1_.blk)) (Zhh s2_.k (hS.rd0 s2_.rd) (hS.blk0 s2_.blk)) (Zhh s3_.k (hS.rd0 s3_.rd) (hS.blk0 s3_.blk)) (Zhh s4_.k (hS.rd0 s4_.rd) (hS.blk0 s4_.blk)) (Zhh s5_.k (hS.rd0 s5_.rd) (hS.blk0 s5_.blk)) hm132) ?_
 rintro e w ⟨A133, c134, A137, c138, A141, c142, A145, c146, A149, c150, A153, c154, q157, rfl, k135, k139, k143, k147, k151, k155, hq158, okq159, hN⟩; refine ⟨_, rfl, ?_⟩; obtain ⟨hB, hS⟩ := hS.jn hN
 refine Zb 1 rfl ?_
 refine Za rfl rfl rfl (Z0 rfl rfl) ?_
 refine Za rfl rfl rfl (Z0 rfl rfl) ?_
 refine Zl rfl rfl rfl CellsOf.agg hS ps14 Z8 (by kernel_rfl) rfl (fun w hS hB => ?_)
 refine Zb 1 rfl ?_
 refine Zg ?_
 refine Zc hK130 ?_
 refine Zd (fun K hK161 => ?_)
 refine Zd (fun K hK162 => ?_)
 refine Zf ?_
 refine Za rfl rfl rfl (Zi Zx rfl (Zhe _) hS hs22 trivial Zv) ?_
 refine Za rfl rfl rfl (Zi Zx rfl (Zhe _) hS hs14 trivial Zv) ?_
 obtain ⟨r163, hm164, H⟩ := bind_some H
 refine Zn rfl rfl rfl rfl (by kernel_rfl) rfl (Zek r100.1 r131.1 A102 c103 A106 c107 A110 c111 A114 c115 A118 c119 A133 c134 A137 c138 A141 c142 A145 c146 A149 c150 _ (Zhh k104 (hS.rd hs7) (hS.rd_blk hs7)) (Zhh k108 (hS.row_rd hs8) (hS.row_blk hs8)) (Zhh k112 (hS.row_rd hs9) (hS.row_blk hs9)) (Zhh k116 (hS.row_rd hs10) (hS.row_blk hs10)) (Zhh k120 (hS.row_rd Zbo) (hS.row_blk Zbo)) (Zhh k135 (hS.row_rd hs0) (hS.row_blk hs0)) (Zhh k139 (hS.row_rd Y2) (hS.row_blk Y2)) (Zhh k143 (hS.row_rd Xi) (hS.row_blk Xi)) (Zhh k147 (hS.row_rd hs3) (hS.row_blk hs3)) (Zhh k151 (hS.row_rd Jq) (hS.row_blk Jq)) hm164) ?_
 rintro e w ⟨rfl, hN⟩; refine ⟨_, rfl, ?_⟩; obtain ⟨hB, hS⟩ := hS.jn hN
 refine Za rfl rfl rfl (Yo rfl) ?_
 refine Zb 1 rfl ?_
 refine Zq 75 rfl (fun hb => ?_) (fun hb => ?_)
 ·replace H := Zo H hb
  refine Zb 5 rfl ?_
  refine Zg ?_
  refine Zc hK162 ?_
  refine Zu rfl rfl ?_
  refine Zd (fun K hK165 => ?_)
  refine Zf ?_
  refine Zb 1 rfl ?_
  refine Zg ?_
  refine Zc hK165 ?_
  refine Zk ?_
  refine Zj ?_
  refine Zm rfl (RV.tmp rfl RV.nil) rfl ?_
  obtain rfl := QJ H
  replace hS := hS.cut 0
  exact ⟨rfl, hS⟩
 replace H := Zp H hb
 refine Zb 2 rfl ?_
 obtain ⟨r166, hm167, H⟩ := bind_some H
 refine Zn rfl rfl rfl rfl (by kernel_rfl) rfl (c_ref20_All r100.2 r131.2 A122 c123 q126 A153 c154 q157 _ (Zhh (k_q hq127 k124) (hS.rd Jc) (hS.rd_blk Jc)) hq127 (hS.rds_sl hs13 okq128) (Zhh (k_q hq158 k155) (hS.rd hs5) (hS.rd_blk hs5)) hq158 (hS.rds_sl Jy okq159) hm167) ?_
 rintro e w ⟨rfl, hN⟩; refine ⟨_, rfl, ?_⟩; obtain ⟨hB, hS⟩ := hS.jn hN
 refine Za rfl rfl rfl (Yo rfl) ?_
 refine Zb 1 rfl ?_
 refine Zg ?_
 refine Zc hK162 ?_
 refine Z1 rfl (fun hb => ?_) (fun hb => ?_)
 ·replace H := Zo H hb
  refine Zd (fun K hK168 => ?_)
  refine Zf ?_
  refine Zb 1 rfl ?_
  refine Zg ?_
  refine Zc hK168 ?_
  refine Zk ?_
  refine Zj ?_
  refine Zm rfl (RV.tmp rfl RV.nil) rfl ?_
  obtain rfl := QJ H
  replace hS := hS.cut 0
  exact ⟨rfl, hS⟩
 replace H := Zp H hb
 refine Zs ?_
 refine Zc hK161 ?_
 refine Zd (fun K hK169 => ?_)
 refine Zf ?_
 refine Za rfl rfl rfl (Zi Zx rfl (Zhe _) hS hs31 trivial Zv) ?_
 refine Za rfl rfl rfl (Zi Va rfl (Zhe _) hS hs30 trivial Xg) ?_
 obtain ⟨r170, hm171, H⟩ := bind_some H
 refine Zn rfl rfl rfl rfl (by kernel_rfl) rfl (c_elect_Voted x0 x1 A0_ c0_ A1_ c1_ A2_ c2_ A3_ c3_ A4_ c4_ A5_ c5_ _ (Zhh s0_.k (hS.rd0 s0_.rd) (hS.blk0 s0_.blk)) (Zhh s1_.k (hS.rd0 s1_.rd) (hS.blk0 s1_.blk)) (Zhh s2_.k (hS.rd0 s2_.rd) (hS.blk0 s2_.blk)) (Zhh s3_.k (hS.rd0 s3_.rd) (hS.blk0 s3_.blk)) (Zhh s4_.k (hS.rd0 s4_.rd) (hS.blk0 s4_.blk)) (Zhh s5_.k (hS.rd0 s5_.rd) (hS.blk0 s5_.blk)) hm171) ?_
 rintro e w ⟨A172, c173, A176, c177, A180, c181, A184, c185, A188, c189, A192, c193, q196, rfl, k174, k178, k182, k186, k190, k194, hq197, okq198, hN⟩; refine ⟨_, rfl, ?_⟩; obtain ⟨hB, hS⟩ := hS.jn hN
 refine Zb 1 rfl ?_
 refine Za rfl rfl rfl (Z0 rfl rfl) ?_
 refine Za rfl rfl rfl (Z0 rfl rfl) ?_
 refine Zl rfl rfl rfl CellsOf.agg hS ps29 Z8 (by kernel_rfl) rfl (fun w hS hB => ?_)
 refine Zb 1 rfl ?_
 refine Zg ?_
 refine Zc hK169 ?_
 refine Zd (fun K hK200 => ?_)
 refine Zf ?_
 refine Za rfl rfl rfl (Zi Zx rfl (Zhe _) hS hs38 trivial Zv) ?_
 refine Za rfl rfl rfl (Zi Va rfl (Zhe _) hS hs37 trivial Xg) ?_
 obtain ⟨r201, hm202, H⟩ := bind_some H
 refine Zn rfl rfl rfl rfl (by kernel_rfl) rfl (c_ref22_Voted x0 x1 A0_ c0_ A1_ c1_ A2_ c2_ A3_ c3_ A4_ c4_ A5_ c5_ _ (Zhh s0_.k (hS.rd0 s0_.rd) (hS.blk0 s0_.blk)) (Zhh s1_.k (hS.rd0 s1_.rd) (hS.blk0 s1_.blk)) (Zhh s2_.k (hS.rd0 s2_.rd) (hS.blk0 s2_.blk)) (Zhh s3_.k (hS.rd0 s3_.rd) (hS.blk0 s3_.blk)) (Zhh s4_.k (hS.rd0 s4_.rd) (hS.blk0 s4_.blk)) (Zhh s5_.k (hS.rd0 s5_.rd) (hS.blk0 s5_.blk)) hm202) ?_
 rintro e w ⟨A203, c204, A207, c208, A211, c212, A215, c216, A219, c220, A223, c224, q227, rfl, k205, k209, k213, k217, k221, k225, hq228, okq229, hN⟩; refine ⟨_, rfl, ?_⟩; obtain ⟨hB, hS⟩ := hS.jn hN
 refine Zb 1 rfl ?_
 refine Za rfl rfl rfl (Z0 rfl rfl) ?_
 refine Za rfl rfl rfl (Z0 rfl rfl) ?_
 refine Zl rfl rfl rfl CellsOf.agg hS ps28 Z8 (by kernel_rfl) rfl (fun w hS hB => ?_)
 refine Zb 1 rfl ?_
 refine Zg ?_
 refine Zc hK200 ?_
 refine Zd (fun K hK231 => ?_)
 refine Zd (fun K hK232 => ?_)
 refine Zf ?_
 refine Za rfl rfl rfl (Zi Zx rfl (Zhe _) hS hs36 trivial Zv) ?_
 refine Za rfl rfl rfl (Zi Zx rfl (Zhe _) hS hs28 trivial Zv) ?_
 obtain ⟨r233, hm234, H⟩ := bind_some H
 refine Zn rfl rfl rfl rfl (by kernel_rfl) rfl (Zek r170.1 r201.1 A172 c173 A176 c177 A180 c181 A184 c185 A188 c189 A203 c204 A207 c208 A211 c212 A215 c216 A219 c220 _ (Zhh k174 (hS.rd hs7) (hS.rd_blk hs7)) (Zhh k178 (hS.row_rd hs8) (hS.row_blk hs8)) (Zhh k182 (hS.row_rd hs9) (hS.row_blk hs9)) (Zhh k186 (hS.row_rd hs10) (hS.row_blk hs10)) (Zhh k190 (hS.row_rd Zbo) (hS.row_blk Zbo)) (Zhh k205 (hS.row_rd hs0) (hS.row_blk hs0)) (Zhh k209 (hS.row_rd Y2) (hS.row_blk Y2)) (Zhh k213 (hS.row_rd Xi) (hS.row_blk Xi)) (Zhh k217 (hS.row_rd hs3) (hS.row_blk hs3)) (Zhh k221 (hS.row_rd Jq) (hS.row_blk Jq)) hm234) ?_
 rintro e w ⟨rfl, hN⟩; refine ⟨_, rfl, ?_⟩; obtain ⟨hB, hS⟩ := hS.jn hN
 refine Za rfl rfl rfl (Yo rfl) ?_
 refine Zb 1 rfl ?_
 refine Zq 97 rfl (fun hb => ?_) (fun hb => ?_)
 ·replace H := Zo H hb
  refine Zb 5 rfl ?_
  refine Zg ?_
  refine Zc hK232 ?_
  refine Zu rfl rfl ?_
  refine Zd (fun K hK235 => ?_)
  refine Zf ?_
  refine Zb 1 rfl ?_
  refine Zg ?_
  refine Zc hK235 ?_
  refine Zk ?_
  refine Zj ?_
  refine Zm rfl (RV.tmp rfl RV.nil) rfl ?_
  obtain rfl := QJ H
  replace hS := hS.cut 0
  exact ⟨rfl, hS⟩
 replace H := Zp H hb
 refine Zb 2 rfl ?_
 obtain ⟨r236, hm237, H⟩ := bind_some H
 refine Zn rfl rfl rfl rfl (by kernel_rfl) rfl (c_ref20_All r170.2 r201.2 A192 c193 q196 A223 c224 q227 _ (Zhh (k_q hq197 k194) (hS.rd Jc) (hS.rd_blk Jc)) hq197 (hS.rds_sl hs13 okq198) (Zhh (k_q hq228 k225) (hS.rd hs5) (hS.rd_blk hs5)) hq228 (hS.rds_sl Jy okq229) hm237) ?_
 rintro e w ⟨rfl, hN⟩; refine ⟨_, rfl, ?_⟩; obtain ⟨hB, hS⟩ := hS.jn hN
 refine Za rfl rfl rfl (Yo rfl) ?_
 refine Zb 1 rfl ?_
 refine Zg ?_
 refine Zc hK232 ?_
 refine Z1 rfl (fun hb => ?_) (fun hb => ?_)
 ·replace H := Zo H hb
  refine Zd (fun K hK238 => ?_)
  refine Zf ?_
  refine Zb 1 rfl ?_
  refine Zg ?_
  refine Zc hK238 ?_
  refine Zk ?_
  refine Zj ?_
  refine Zm rfl (RV.tmp rfl RV.nil) rfl ?_
  obtain rfl := QJ H
  replace hS := hS.cut 0
  exact ⟨rfl, hS⟩
 replace H := Zp H hb
 refine Zs ?_
 refine Zc hK231 ?_
 refine Zd (fun K hK239 => ?_)
 refine Yn 36 [] (fun _ _ => True) ⟨by kernel_rfl, by kernel_rfl⟩ hS (fun w hS hB => ?_)
 refine Zr [true, true, false, true, true] (by decide +kernel) PFC.h ?_
 refine LtK.put rfl rfl rfl (Zi Zx rfl (Zhf _) hS hs45 trivial Zv) ?_
 refine LtK.put rfl rfl rfl (Zi Va rfl (Zhf _) hS hs44 trivial Xg) ?_
 refine LtK.put rfl rfl rfl (Zi Zx rfl (Zhf _) hS hs45 trivial Zv) ?_
 refine LtK.put rfl rfl rfl (Zi Va rfl (Zhf _) hS hs44 trivial Xg) ?_
 refine LtK.nil ?_
 refine Z5 [false, false, true] 2 ⟨by decide, by kernel_rfl, by kernel_rfl⟩ rfl rfl ?_
 try dsimp only [Zw]
 obtain ⟨r240, hm241, H⟩ := bind_some H
 refine Zn rfl rfl rfl rfl (by kernel_rfl) rfl (c_elect_Meet x0 x1 A0_ c0_ A1_ c1_ A2_ c2_ A3_ c3_ A4_ c4_ A5_ c5_ _ (Zhh s0_.k (hS.rd0 s0_.rd) (hS.blk0 s0_.blk)) (Zhh s1_.k (hS.rd0 s1_.rd) (hS.blk0 s1_.blk)) (Zhh s2_.k (hS.rd0 s2_.rd) (hS.blk0 s2_.blk)) (Zhh s3_.k (hS.rd0 s3_.rd) (hS.blk0 s3_.blk)) (Zhh s4_.k (hS.rd0 s4_.rd) (hS.blk0 s4_.blk)) (Zhh s5_.k (hS.rd0 s5_.rd) (hS.blk0 s5_.blk)) hm241) ?_
 rintro e w ⟨A242, c243, A246, c247, A250, c251, A254, c255, A258, c259, rfl, k244, k248, k252, k256, k260, hN⟩; refine ⟨_, rfl, ?_⟩; obtain ⟨hB, hS⟩ := hS.jn hN
 refine Zg ?_
 refine Z6 hB ?_
 refine Z5 [false, false, false, false, false, true] 5 ⟨by decide, by kernel_rfl, by kernel_rfl⟩ rfl rfl ?_
 try dsimp only [Zw]
 obtain ⟨r262, hm263, H⟩ := bind_some H
 refine Zn rfl rfl rfl rfl (by kernel_rfl) rfl (c_ref22_Meet x0 x1 A0_ c0_ A1_ c1_ A2_ c2_ A3_ c3_ A4_ c4_ A5_ c5_ _ (Zhh s0_.k (hS.rd0 s0_.rd) (hS.blk0 s0_.blk)) (Zhh s1_.k (hS.rd0 s1_.rd) (hS.blk0 s1_.blk)) (Zhh s2_.k (hS.rd0 s2_.rd) (hS.blk0 s2_.blk)) (Zhh s3_.k (hS.rd0 s3_.rd) (hS.blk0 s3_.blk)) (Zhh s4_.k (hS.rd0 s4_.rd) (hS.blk0 s4_.blk)) (Zhh s5_.k (hS.rd0 s5_.rd) (hS.blk0 s5_.blk)) hm263) ?_
 rintro e w ⟨A264, c265, A268, c269, A272, c273, A276, c277, A280, c281, rfl, k266, k270, k274, k278, k282, hN⟩; refine ⟨_, rfl, ?_⟩; obtain ⟨hB, hS⟩ := hS.jn hN
 refine Zg ?_
 refine Z6 hB ?_
 refine Z5 [false, false, false, false, false, false, true] 6 ⟨by decide, by kernel_rfl, by kernel_rfl⟩ rfl rfl ?_
 try dsimp only [Zw]
 obtain ⟨r284, hm285, H⟩ := bind_some H
 refine Zn rfl rfl rfl rfl (by kernel_rfl) rfl (Zek r240 r262 A242 c243 A246 c247 A250 c251 A254 c255 A258 c259 A264 c265 A268 c269 A272 c273 A276 c277 A280 c281 _ (Zhh k244 (hS.rd hs5) (hS.rd_blk hs5)) (Zhh k248 (hS.row_rd Jy) (hS.row_blk Jy)) (Zhh k252 (hS.row_rd hs7) (hS.row_blk hs7)) (Zhh k256 (hS.row_rd hs8) (hS.row_blk hs8)) (Zhh k260 (hS.row_rd hs9) (hS.row_blk hs9)) (Zhh k266 (hS.row_rd hs0) (hS.row_blk hs0)) (Zhh k270 (hS.row_rd Y2) (hS.row_blk Y2)) (Zhh k274 (hS.row_rd Xi) (hS.row_blk Xi)) (Zhh k278 (hS.row_rd hs3) (hS.row_blk hs3)) (Zhh k282 (hS.row_rd Jq) (hS.row_blk Jq)) hm285) ?_
 rintro e w ⟨rfl, hN⟩; refine ⟨_, rfl, ?_⟩; obtain ⟨hB, hS⟩ := hS.jn hN
 refine Zg ?_
 refine Z6 hB ?_
 refine Zr [false, false, false, false, false, false, false, true] (by decide +kernel) PFC.h ?_
 refine LtK.put rfl rfl rfl (Zy rfl) ?_
 refine LtK.nil ?_
 refine Zc3 110 rfl (fun hb => ?_) (fun hb => ?_)
 rotate_left
 ·replace H := Zp H hb
  refine Zr [false, false, false, false, false, false, false, false, true, false, true] (by decide +kernel) PFC.h ?_
  refine LtK.skip rfl rfl rfl ?_
  refine LtK.skip rfl rfl rfl ?_
  refine LtK.nil ?_
  refine Z5 [false, false, false, false, false, false, false, false, false, true] 9 ⟨by decide, by kernel_rfl, by kernel_rfl⟩ rfl rfl ?_
  try dsimp only [Zw]
  refine Xr rfl rfl rfl ?_
  refine Zg ?_
  refine Z6 (Below.refl _ _) ?_
  refine Z5 [false, false, false, false, false, false, false, false, false, false, false, true] 11 ⟨by decide, by kernel_rfl, by kernel_rfl⟩ rfl rfl ?_
  try dsimp only [Zw]
  refine Xr rfl rfl rfl ?_
  refine Zg ?_
  refine Z6 (Below.refl _ _) ?_
  refine Z5 [false, false, false, false, false, false, false, false, false, false, false, false, true] 12 ⟨by decide, by kernel_rfl, by kernel_rfl⟩ rfl rfl ?_
  try dsimp only [Zw]
  refine Xr rfl rfl rfl ?_
  refine Zg ?_
  refine Z6 (Below.refl _ _) ?_
  refine Zr [false, false, false, false, false, false, false, false, false, false, false, false, false, true, true, true, false, true] (by decide +kernel) PFC.h ?_
  refine LtK.put rfl rfl rfl (Xd rfl rfl rfl) ?_
  refine LtK.put rfl rfl rfl (Zy rfl) ?_
  refine LtK.skip rfl rfl rfl ?_
  refine LtK.skip rfl rfl rfl ?_
  refine LtK.nil ?_
  refine Z5 [false, false, false, false, false, false, false, false, false, false, false, false, false, false, false, false, true] 16 ⟨by decide, by kernel_rfl, by kernel_rfl⟩ rfl rfl ?_
  try dsimp only [Zw]
  refine Xr rfl rfl rfl ?_
  refine Zg ?_
  refine Z6 (Below.refl _ _) ?_
  refine Z5 [false, false, false, false, false, false, false, false, false, false, false, false, false, false, false, false, false, false, true] 18 ⟨by decide, by kernel_rfl, by kernel_rfl⟩ rfl rfl ?_
  try dsimp only [Zw]
  refine Xr rfl rfl rfl ?_
  refine Zg ?_
  refine Z6 (Below.refl _ _) ?_
  refine Zr [false, false, false, false, false, false, false, false, false, false, false, false, false, false, false, false, false, false, false, true, true, true, true, true, true, false, true, true, true] (by decide +kernel) PFC.h ?_
  refine LtK.skip rfl rfl rfl ?_
  refine LtK.put rfl rfl rfl (Xd rfl rfl rfl) ?_
  refine LtK.put rfl rfl rfl (Zy rfl) ?_
  refine LtK.skip rfl rfl rfl ?_
  refine LtK.skip rfl rfl rfl ?_
  refine LtK.skip rfl rfl rfl ?_
  refine LtK.skip rfl rfl rfl ?_
  refine LtK.skip rfl rfl rfl ?_
  refine LtK.skip rfl rfl rfl ?_
  refine LtK.nil ?_
  refine Z5 [false, false, false, false, false, false, false, false, false, false, false, false, false, false, false, false, false, false, false, false, false, false, false, false, false, true] 25 ⟨by decide, by kernel_rfl, by kernel_rfl⟩ rfl rfl ?_
  try dsimp only [Zw]
  refine Xr rfl rfl rfl ?_
  refine Zg ?_
  refine Z6 (Below.refl _ _) ?_
  refine Z5 [false, false, false, false, false, false, false, false, false, false, false, false, false, false, false, false, false, false, false, false, false, false, false, false, false, false, false, false, false, true] 29 ⟨by decide, by kernel_rfl, by kernel_rfl⟩ rfl rfl ?_
  try dsimp only [Zw]
  refine Xr rfl rfl rfl ?_
  refine Zg ?_
  refine Z6 (Below.refl _ _) ?_
  refine Zr [false, false, false, false, false, false, false, false, false, false, false, false, false, false, false, false, false, false, false, false, false, false, false, false, false, false, false, false, false, false, true, true, true] (by decide +kernel) PFC.h ?_
  refine LtK.skip rfl rfl rfl ?_
  refine LtK.put rfl rfl rfl (Xd rfl rfl rfl) ?_
  refine LtK.put rfl rfl rfl (Zy rfl) ?_
  refine LtK.nil ?_
  refine Z5 [false, false, false, false, false, false, false, false, false, false, false, false, false, false, false, false, false, false, false, false, false, false, false, false, false, false, false, false, false, false, false, false, false, true] 33 ⟨by decide, by kernel_rfl, by kernel_rfl⟩ rfl rfl ?_
  try dsimp only [Zw]
  refine Xr rfl rfl rfl ?_
  refine Zg ?_
  refine Z6 (Below.refl _ _) ?_
  refine Zr [false, false, false, false, false, false, false, false, false, false, false, false, false, false, false, false, false, false, false, false, false, false, false, false, false, false, false, false, false, false, false, false, false, false, true, true] (by decide +kernel) PFC.h ?_
  refine LtK.put rfl rfl rfl (Xd rfl rfl rfl) ?_
  refine LtK.put rfl rfl rfl (Z2 rfl) ?_
  refine LtK.nil ?_
  refine Ye (by kernel_rfl) ?_
  refine Zc hK239 ?_
  refine Zk ?_
  refine Zm rfl (RV.tmp rfl RV.nil) rfl ?_
  obtain rfl := QJ H
  replace hS := hS.cut 0
  exact ⟨rfl, hS⟩
 replace H := Zo H hb
 refine Zr [false, false, false, false, false, false, false, false, true, false, true] (by decide +kernel) PFC.h ?_
 refine LtK.put rfl rfl rfl (Zi Zx rfl (Zhf _) hS hs55 trivial Zv) ?_
 refine LtK.put rfl rfl rfl (Zi Zx rfl (Zhf _) hS hs55 trivial Zv) ?_
 refine LtK.nil ?_
 refine Z5 [false, false, false, false, false, false, false, false, false, true] 9 ⟨by decide, by kernel_rfl, by kernel_rfl⟩ rfl rfl ?_
 try dsimp only [Zw]
 obtain ⟨r286, hm287, H⟩ := bind_some H
 refine Zn rfl rfl rfl rfl (by kernel_rfl) rfl (Zf0 x0 A0_ c0_ A1_ c1_ A2_ c2_ A3_ c3_ A4_ c4_ _ (Zhh s0_.k (hS.rd0 s0_.rd) (hS.blk0 s0_.blk)) (Zhh s1_.k (hS.rd0 s1_.rd) (hS.blk0 s1_.blk)) (Zhh s2_.k (hS.rd0 s2_.rd) (hS.blk0 s2_.blk)) (Zhh s3_.k (hS.rd0 s3_.rd) (hS.blk0 s3_.blk)) (Zhh s4_.k (hS.rd0 s4_.rd) (hS.blk0 s4_.blk)) hm287) ?_
 rintro e w ⟨A288, c289, A292, c293, A296, c297, A300, c301, A304, c305, rfl, k290, k294, k298, k302, k306, hN⟩; refine ⟨_, rfl, ?_⟩; obtain ⟨hB, hS⟩ := hS.jn hN
 refine Zg ?_
 refine Z6 hB ?_
 refine Z5 [false, false, false, false, false, false, false, false, false, false, false, true] 11 ⟨by decide, by kernel_rfl, by kernel_rfl⟩ rfl rfl ?_
 try dsimp only [Zw]
 obtain ⟨r308, hm309, H⟩ := bind_some H
 refine Zn rfl rfl rfl rfl (by kernel_rfl) rfl (c_ref22_Lead x0 A0_ c0_ A1_ c1_ A2_ c2_ A3_ c3_ A4_ c4_ _ (Zhh s0_.k (hS.rd0 s0_.rd) (hS.blk0 s0_.blk)) (Zhh s1_.k (hS.rd0 s1_.rd) (hS.blk0 s1_.blk)) (Zhh s2_.k (hS.rd0 s2_.rd) (hS.blk0 s2_.blk)) (Zhh s3_.k (hS.rd0 s3_.rd) (hS.blk0 s3_.blk)) (Zhh s4_.k (hS.rd0 s4_.rd) (hS.blk0 s4_.blk)) hm309) ?_
 rintro e w ⟨A310, c311, A314, c315, A318, c319, A322, c323, A326, c327, rfl, k312, k316, k320, k324, k328, hN⟩; refine ⟨_, rfl, ?_⟩; obtain ⟨hB, hS⟩ := hS.jn hN
 refine Zg ?_
 refine Z6 hB ?_
 refine Z5 [false, false, false, false, false, false, false, false, false, false, false, false, true] 12 ⟨by decide, by kernel_rfl, by kernel_rfl⟩ rfl rfl ?_
 try dsimp only [Zw]
 obtain ⟨r330, hm331, H⟩ := bind_some H
 refine Zn rfl rfl rfl rfl (by kernel_rfl) rfl (Zek r286 r308 A288 c289 A292 c293 A296 c297 A300 c301 A304 c305 A310 c311 A314 c315 A318 c319 A322 c323 A326 c327 _ (Zhh k290 (hS.rd hs5) (hS.rd_blk hs5)) (Zhh k294 (hS.row_rd Jy) (hS.row_blk Jy)) (Zhh k298 (hS.row_rd hs7) (hS.row_blk hs7)) (Zhh k302 (hS.row_rd hs8) (hS.row_blk hs8)) (Zhh k306 (hS.row_rd hs9) (hS.row_blk hs9)) (Zhh k312 (hS.row_rd hs0) (hS.row_blk hs0)) (Zhh k316 (hS.row_rd Y2) (hS.row_blk Y2)) (Zhh k320 (hS.row_rd Xi) (hS.row_blk Xi)) (Zhh k324 (hS.row_rd hs3) (hS.row_blk hs3)) (Zhh k328 (hS.row_rd Jq) (hS.row_blk Jq)) hm331) ?_
 rintro e w ⟨rfl, hN⟩; refine ⟨_, rfl, ?_⟩; obtain ⟨hB, hS⟩ := hS.jn hN
 refine Zg ?_
 refine Z6 hB ?_
 refine Zr [false, false, false, false, false, false, false, false, false, false, false, false, false, true, true] (by decide +kernel) PFC.h ?_
 refine LtK.put rfl rfl rfl (Xf rfl rfl rfl) ?_
 refine LtK.put rfl rfl rfl (Zy rfl) ?_
 refine LtK.nil ?_
 refine Zc3 117 rfl (fun hb => ?_) (fun hb => ?_)
 rotate_left
 ·replace H := Zp H hb
  refine Zr [false, false, false, false, false, false, false, false, false, false, false, false, false, false, false, true, false, true] (by decide +kernel) PFC.h ?_
  refine LtK.skip rfl rfl rfl ?_
  refine LtK.skip rfl rfl rfl ?_
  refine LtK.nil ?_
  refine Z5 [false, false, false, false, false, false, false, false, false, false, false, false, false, false, false, false, true] 16 ⟨by decide, by kernel_rfl, by kernel_rfl⟩ rfl rfl ?_
  try dsimp only [Zw]
  refine Xr rfl rfl rfl ?_
  refine Zg ?_
  refine Z6 (Below.refl _ _) ?_
  refine Z5 [false, false, false, false, false, false, false, false, false, false, false, false, false, false, false, false, false, false, true] 18 ⟨by decide, by kernel_rfl, by kernel_rfl⟩ rfl rfl ?_
  try dsimp only [Zw]
  refine Xr rfl rfl rfl ?_
  refine Zg ?_
  refine Z6 (Below.refl _ _) ?_
  refine Zr [false, false, false, false, false, false, false, false, false, false, false, false, false, false, false, false, false, false, false, true, true, true, true, true, true, false, true, true, true] (by decide +kernel) PFC.h ?_
  refine LtK.skip rfl rfl rfl ?_
  refine LtK.put rfl rfl rfl (Xd rfl rfl rfl) ?_
  refine LtK.put rfl rfl rfl (Zy rfl) ?_
  refine LtK.skip rfl rfl rfl ?_
  refine LtK.skip rfl rfl rfl ?_
  refine LtK.skip rfl rfl rfl ?_
  refine LtK.skip rfl rfl rfl ?_
  refine LtK.skip rfl rfl rfl ?_
  refine LtK.skip rfl rfl rfl ?_
  refine LtK.nil ?_
  refine Z5 [false, false, false, false, false, false, false, false, false, false, false, false, false, false, false, false, false, false, false, false, false, false, false, false, false, true] 25 ⟨by decide, by kernel_rfl, by kernel_rfl⟩ rfl rfl ?_
  try dsimp only [Zw]
  refine Xr rfl rfl rfl ?_
  refine Zg ?_
  refine Z6 (Below.refl _ _) ?_
  refine Z5 [false, false, false, false, false, false, false, false, false, false, false, false, false, false, false, false, false, false, false, false, false, false, false, false, false, false, false, false, false, true] 29 ⟨by decide, by kernel_rfl, by kernel_rfl⟩ rfl rfl ?_
  try dsimp only [Zw]
  refine Xr rfl rfl rfl ?_
  refine Zg ?_
  refine Z6 (Below.refl _ _) ?_
  refine Zr [false, false, false, false, false, false, false, false, false, false, false, false, false, false, false, false, false, false, false, false, false, false, false, false, false, false, false, false, false, false, true, true, true] (by decide +kernel) PFC.h ?_
  refine LtK.skip rfl rfl rfl ?_
  refine LtK.put rfl rfl rfl (Xd rfl rfl rfl) ?_
  refine LtK.put rfl rfl rfl (Zy rfl) ?_
  refine LtK.nil ?_
  refine Z5 [false, false, false, false, false, false, false, false, false, false, false, false, false, false, false, false, false, false, false, false, false, false, false, false, false, false, false, false, false, false, false, false, false, true] 33 ⟨by decide, by kernel_rfl, by kernel_rfl⟩ rfl rfl ?_
  try dsimp only [Zw]
  refine Xr rfl rfl rfl ?_
  refine Zg ?_
  refine Z6 (Below.refl _ _) ?_
  refine Zr [false, false, false, false, false, false, false, false, false, false, false, false, false, false, false, false, false, false, false, false, false, false, false, false, false, false, false, false, false, false, false, false, false, false, true, true] (by decide +kernel) PFC.h ?_
  refine LtK.put rfl rfl rfl (Xd rfl rfl rfl) ?_
  refine LtK.put rfl rfl rfl (Z2 rfl) ?_
  refine LtK.nil ?_
  refine Ye (by kernel_rfl) ?_
  refine Zc hK239 ?_
  refine Zk ?_
  refine Zm rfl (RV.tmp rfl RV.nil) rfl ?_
  obtain rfl := QJ H
  replace hS := hS.cut 0
  exact ⟨rfl, hS⟩
 replace H := Zo H hb
 refine Zr [false, false, false, false, false, false, false, false, false, false, false, false, false, false, false, true, false, true] (by decide +kernel) PFC.h ?_
 refine LtK.put rfl rfl rfl (Zy rfl) ?_
 refine LtK.put rfl rfl rfl (Zy rfl) ?_
 refine LtK.nil ?_
 refine Z5 [false, false, false, false, false, false, false, false, false, false, false, false, false, false, false, false, true] 16 ⟨by decide, by kernel_rfl, by kernel_rfl⟩ rfl rfl ?_
 try dsimp only [Zw]
 obtain ⟨r332, hm333, H⟩ := bind_some H
 refine Zn rfl rfl rfl rfl (by kernel_rfl) rfl (Zc9 x4 A6_ c6_ _ (Zhh s6_.k (hS.rd0 s6_.rd) (hS.blk0 s6_.blk)) hm333) ?_
 rintro e w ⟨rfl, hN⟩; refine ⟨_, rfl, ?_⟩; obtain ⟨hB, hS⟩ := hS.jn hN
 refine Zg ?_
 refine Z6 hB ?_
 refine Z5 [false, false, false, false, false, false, false, false, false, false, false, false, false, false, false, false, false, false, true] 18 ⟨by decide, by kernel_rfl, by kernel_rfl⟩ rfl rfl ?_
 try dsimp only [Zw]
 obtain ⟨r334, hm335, H⟩ := bind_some H
 refine Zn rfl rfl rfl rfl (by kernel_rfl) rfl (c_ref22_Half x4 A6_ c6_ _ (Zhh s6_.k (hS.rd0 s6_.rd) (hS.blk0 s6_.blk)) hm335) ?_
 rintro e w ⟨rfl, hN⟩; refine ⟨_, rfl, ?_⟩; obtain ⟨hB, hS⟩ := hS.jn hN
 refine Zg ?_
 refine Z6 hB ?_
 refine Zr [false, false, false, false, false, false, false, false, false, false, false, false, false, false, false, false, false, false, false, true, true, true] (by decide +kernel) PFC.h ?_
 refine LtK.put rfl rfl rfl (yv_eqlB (by kernel_rfl) rfl rfl) ?_
 refine LtK.put rfl rfl rfl (Xf rfl rfl rfl) ?_
 refine LtK.put rfl rfl rfl (Zy rfl) ?_
 refine LtK.nil ?_
 refine Zc3 124 rfl (fun hb => ?_) (fun hb => ?_)
 rotate_left
 ·replace H := Zp H hb
  refine Zr [false, false, false, false, false, false, false, false, false, false, false, false, false, false, false, false, false, false, false, false, false, false, true, true, true, false, true, true, true] (by decide +kernel) PFC.h ?_
  refine LtK.skip rfl rfl rfl ?_
  refine LtK.skip rfl rfl rfl ?_
  refine LtK.skip rfl rfl rfl ?_
  refine LtK.skip rfl rfl rfl ?_
  refine LtK.skip rfl rfl rfl ?_
  refine LtK.skip rfl rfl rfl ?_
  refine LtK.nil ?_
  refine Z5 [false, false, false, false, false, false, false, false, false, false, false, false, false, false, false, false, false, false, false, false, false, false, false, false, false, true] 25 ⟨by decide, by kernel_rfl, by kernel_rfl⟩ rfl rfl ?_
  try dsimp only [Zw]
  refine Xr rfl rfl rfl ?_
  refine Zg ?_
  refine Z6 (Below.refl _ _) ?_
  refine Z5 [false, false, false, false, false, false, false, false, false, false, false, false, false, false, false, false, false, false, false, false, false, false, false, false, false, false, false, false, false, true] 29 ⟨by decide, by kernel_rfl, by kernel_rfl⟩ rfl rfl ?_
  try dsimp only [Zw]
  refine Xr rfl rfl rfl ?_
  refine Zg ?_
  refine Z6 (Below.refl _ _) ?_
  refine Zr [false, false, false, false, false, false, false, false, false, false, false, false, false, false, false, false, false, false, false, false, false, false, false, false, false, false, false, false, false, false, true, true, true] (by decide +kernel) PFC.h ?_
  refine LtK.skip rfl rfl rfl ?_
  refine LtK.put rfl rfl rfl (Xd rfl rfl rfl) ?_
  refine LtK.put rfl rfl rfl (Zy rfl) ?_
  refine LtK.nil ?_
  refine Z5 [false, false, false, false, false, false, false, false, false, false, false, false, false, false, false, false, false, false, false, false, false, false, false, false, false, false, false, false, false, false, false, false, false, true] 33 ⟨by decide, by kernel_rfl, by kernel_rfl⟩ rfl rfl ?_
  try dsimp only [Zw]
  refine Xr rfl rfl rfl ?_
  refine Zg ?_
  refine Z6 (Below.refl _ _) ?_
  refine Zr [false, false, false, false, false, false, false, false, false, false, false, false, false, false, false, false, false, false, false, false, false, false, false, false, false, false, false, false, false, false, false, false, false, false, true, true] (by decide +kernel) PFC.h ?_
  refine LtK.put rfl rfl rfl (Xd rfl rfl rfl) ?_
  refine LtK.put rfl rfl rfl (Z2 rfl) ?_
  refine LtK.nil ?_
  refine Ye (by kernel_rfl) ?_
  refine Zc hK239 ?_
  refine Zk ?_
  refine Zm rfl (RV.tmp rfl RV.nil) rfl ?_
  obtain rfl := QJ H
  replace hS := hS.cut 0
  exact ⟨rfl, hS⟩
 replace H := Zo H hb
 refine Zr [false, false, false, false, false, false, false, false, false, false, false, false, false, false, false, false, false, false, false, false, false, false, true, true, true, false, true, true, true] (by decide +kernel) PFC.h ?_
 refine LtK.put rfl rfl rfl (Zi Zx rfl (Zhf _) hS hs65 trivial Zv) ?_
 refine LtK.put rfl rfl rfl (Zy rfl) ?_
 refine LtK.put rfl rfl rfl (Zy rfl) ?_
 refine LtK.put rfl rfl rfl (Zi Zx rfl (Zhf _) hS hs65 trivial Zv) ?_
 refine LtK.put rfl rfl rfl (Zy rfl) ?_
 refine LtK.put rfl rfl rfl (Zy rfl) ?_
 refine LtK.nil ?_
 refine Z5 [false, false, false, false, false, false, false, false, false, false, false, false, false, false, false, false, false, false, false, false, false, false, false, false, false, true] 25 ⟨by decide, by kernel_rfl, by kernel_rfl⟩ rfl rfl ?_
 try dsimp only [Zw]
 obtain ⟨r336, hm337, H⟩ := bind_some H
 refine Zn rfl rfl rfl rfl (by kernel_rfl) rfl (Zdt x0 x2 x3 A0_ c0_ A1_ c1_ A2_ c2_ A3_ c3_ A4_ c4_ _ (Zhh s0_.k (hS.rd0 s0_.rd) (hS.blk0 s0_.blk)) (Zhh s1_.k (hS.rd0 s1_.rd) (hS.blk0 s1_.blk)) (Zhh s2_.k (hS.rd0 s2_.rd) (hS.blk0 s2_.blk)) (Zhh s3_.k (hS.rd0 s3_.rd) (hS.blk0 s3_.blk)) (Zhh s4_.k (hS.rd0 s4_.rd) (hS.blk0 s4_.blk)) hm337) ?_
 rintro e w ⟨rfl, hN⟩; refine ⟨_, rfl, ?_⟩; obtain ⟨hB, hS⟩ := hS.jn hN
 refine Zg ?_
 refine Z6 hB ?_
 refine Z5 [false, false, false, false, false, false, false, false, false, false, false, false, false, false, false, false, false, false, false, false, false, false, false, false, false, false, false, false, false, true] 29 ⟨by decide, by kernel_rfl, by kernel_rfl⟩ rfl rfl ?_
 try dsimp only [Zw]
 obtain ⟨r338, hm339, H⟩ := bind_some H
 refine Zn rfl rfl rfl rfl (by kernel_rfl) rfl (Zgs x0 x2 x3 A0_ c0_ A1_ c1_ A2_ c2_ A3_ c3_ A4_ c4_ _ (Zhh s0_.k (hS.rd0 s0_.rd) (hS.blk0 s0_.blk)) (Zhh s1_.k (hS.rd0 s1_.rd) (hS.blk0 s1_.blk)) (Zhh s2_.k (hS.rd0 s2_.rd) (hS.blk0 s2_.blk)) (Zhh s3_.k (hS.rd0 s3_.rd) (hS.blk0 s3_.blk)) (Zhh s4_.k (hS.rd0 s4_.rd) (hS.blk0 s4_.blk)) hm339) ?_
 rintro e w ⟨rfl, hN⟩; refine ⟨_, rfl, ?_⟩; obtain ⟨hB, hS⟩ := hS.jn hN
 refine Zg ?_
 refine Z6 hB ?_
 refine Zr [false, false, false, false, false, false, false, false, false, false, false, false, false, false, false, false, false, false, false, false, false, false, false, false, false, false, false, false, false, false, true, true, true] (by decide +kernel) PFC.h ?_
 refine LtK.put rfl rfl rfl (yv_eqlB (by kernel_rfl) rfl rfl) ?_
 refine LtK.put rfl rfl rfl (Xf rfl rfl rfl) ?_
 refine LtK.put rfl rfl rfl (Zy rfl) ?_
 refine LtK.nil ?_
 refine Zc3 135 rfl (fun hb => ?_) (fun hb => ?_)
 rotate_left
 ·replace H := Zp H hb
  refine Z5 [false, false, false, false, false, false, false, false, false, false, false, false, false, false, false, false, false, false, false, false, false, false, false, false, false, false, false, false, false, false, false, false, false, true] 33 ⟨by decide, by kernel_rfl, by kernel_rfl⟩ rfl rfl ?_
  try dsimp only [Zw]
  refine Xr rfl rfl rfl ?_
  refine Zg ?_
  refine Z6 (Below.refl _ _) ?_
  refine Zr [false, false, false, false, false, false, false, false, false, false, false, false, false, false, false, false, false, false, false, false, false, false, false, false, false, false, false, false, false, false, false, false, false, false, true, true] (by decide +kernel) PFC.h ?_
  refine LtK.put rfl rfl rfl (Xd rfl rfl rfl) ?_
  refine LtK.put rfl rfl rfl (Z2 rfl) ?_
  refine LtK.nil ?_
  refine Ye (by kernel_rfl) ?_
  refine Zc hK239 ?_
  refine Zk ?_
  refine Zm rfl (RV.tmp rfl RV.nil) rfl ?_
  obtain rfl := QJ H
  replace hS := hS.cut 0
  exact ⟨rfl, hS⟩
 replace H := Zo H hb
 refine Z5 [false, false, false, false, false, false, false, false, false, false, false, false, false, false, false, false, false, false, false, false, false, false, false, false, false, false, false, false, false, false, false, false, false, true] 33 ⟨by decide, by kernel_rfl, by kernel_rfl⟩ rfl rfl ?_
 try dsimp only [Zw]
 obtain ⟨r340, hm341, H⟩ := bind_some H
 refine Zn rfl rfl rfl rfl (by kernel_rfl) rfl (Zcl _ hm341) ?_
 rintro e w ⟨rfl, hN⟩; refine ⟨_, rfl, ?_⟩; obtain ⟨hB, hS⟩ := hS.jn hN
 refine Zg ?_
 refine Z6 hB ?_
 refine Zr [false, false, false, false, false, false, false, false, false, false, false, false, false, false, false, false, false, false, false, false, false, false, false, false, false, false, false, false, false, false, false, false, false, false, true, true] (by decide +kernel) PFC.h ?_
 refine LtK.put rfl rfl rfl (Xf rfl rfl rfl) ?_
 refine LtK.put rfl rfl rfl (Z2 rfl) ?_
 refine LtK.nil ?_
 refine Ye (by kernel_rfl) ?_
 refine Zc hK239 ?_
 refine Zk ?_
 refine Zm rfl (RV.tmp rfl RV.nil) rfl ?_
 obtain rfl := QJ H
 replace hS := hS.cut 0
 exact ⟨rfl, hS⟩
end
section
open Go Go.RowKit
set_option maxRecDepth 100000
theorem lastT_mono (t : Int) (l : List En) (h : Zfs t l = true) : t ≤ Zfd t l := by
 induction l generalizing t with
 | nil => exact Int.le_refl _
 | cons e l ih =>
  simp only [Zfs, Bool.and_eq_true, decide_eq_true_eq] at h
  exact Int.le_trans h.1.2 (ih _ h.2)
theorem Zcs (t : Tu) : Zad t = true ↔ FineP t.snap ∧ (t.snap.index ≤ 1073740824 ∧ t.log.length ≤ 200 ∧ 0 ≤ t.vote ∧ t.vote ≤ 5 ∧ t.term ≤ 1073741824) ∧ Zfs t.snap.term t.log = true ∧ Zfd t.snap.term t.log ≤ t.term := by
 unfold Zad
 simp only [Bool.and_eq_true, decide_eq_true_eq, Zdb, and_assoc]
theorem chg_yes (x y : Tu) (res : Option Tu) (hx : Zad x = true) (h : res = some y) (hy : Zad y = true) : Zc6 x res = y ∧ chgE x res = 0 := by
 have : Zc0 x res = some y := by unfold Zc0; rw [if_pos hx, h]; exact if_pos hy
 unfold Zc6 chgE
 rw [this]
 exact ⟨rfl, rfl⟩
theorem termAt_log (x : Tu) (k : Nat) (hk : k ≤ x.log.length) : termAt x (x.snap.index + k) = some (Zfd x.snap.term (x.log.take k)) := by
 unfold termAt Tu.last
 cases k with
 | zero => rw [if_pos (by simp)]; rfl
 | succ k =>
  rw [if_neg (by omega), if_pos (by omega)]
  have : (x.snap.index + ((k + 1 : Nat) : Int) - x.snap.index - 1).toNat = k := by omega
  rw [this, List.getElem?_eq_getElem (by omega), List.take_add_one, List.getElem?_eq_getElem (by omega)]
  show _ = some (Zfd _ (_ ++ [x.log[k]]))
  rw [lastT_snoc]; rfl
end
section
open Go Go.RowKit
set_option maxRecDepth 100000
theorem p_number (x : Int) : Je x = some (numB x) := by
 unfold Je numB
 by_cases h : 0 ≤ x <;> simp [h]
theorem p_Fine (x : St) : V0 x = some (Zbn x) := by
 obtain ⟨i, t, s, l, f⟩ := x
 simp only [V0, Za2, p_number, Option.bind_some, Zbn, firstS, numB, St.mk.injEq, Bool.cond_not, Bool.cond_decide]
 cases f <;> (repeat' split) <;> simp_all <;> omega
theorem p_Right (x : En) : Zbi x = some (Jl x) := by
 obtain ⟨t, k, v⟩ := x
 simp only [Zbi, p_number, Option.bind_some, Jl, numB, Bool.cond_not, Bool.cond_decide]
 (repeat' split) <;> (refine congrArg some ?_; rw [Bool.eq_iff_iff]; simp only [decide_eq_true_eq, true_iff, Bool.false_eq_true, false_iff]; omega)
theorem p_Right12_l1 (x : Tu) (hl : x.log.length ≤ 1000000) : ∀ (m k n : Nat) (b : Bool) (t : Int), m = x.log.length - k → k ≤ x.log.length → m < n →
  J4 x n b t k = some (Zfs t (x.log.drop k) && decide (Zfd t (x.log.drop k) ≤ x.term ∧ 0 ≤ x.term ∧ x.term ≤ 1073741824)) := by
 intro m
 induction m with
 | zero =>
  intro k n b t hm hk hn
  obtain ⟨n, rfl⟩ : ∃ n', n = n' + 1 := ⟨n - 1, by omega⟩
  have hkl : k = x.log.length := by omega
  have hd : x.log.drop k = [] := List.drop_eq_nil_of_le (by omega)
  rw [J4, hd]
  simp only [Zfs, Bool.cond_decide, if_neg (show ¬ ((k : Int) < (x.log.length : Int)) by omega), Bool.true_and]
  (repeat' split) <;> (refine congrArg some ?_; rw [Bool.eq_iff_iff]; simp only [decide_eq_true_eq, true_iff, Bool.false_eq_true, false_iff]; simp only [Zfd]; omega)
 | succ m ih =>
  intro k n b t hm hk hn
  obtain ⟨n, rfl⟩ : ∃ n', n = n' + 1 := ⟨n - 1, by omega⟩
  obtain ⟨e, he, hd⟩ := Xo (show k < x.log.length by omega)
  have hi := ih (k + 1) n b e.term (by omega) (by omega) (by omega)
  rw [J4, hd]
  simp only [Bool.cond_decide, if_pos (show ((k : Int) < (x.log.length : Int)) by omega), J5, he, Option.bind_some, p_Right, Bool.cond_not, Zfs, Zfd]
  rw [Zb7 (by omega), show ((k : Int) + 1) = ((k + 1 : Nat) : Int) by omega, hi]
  cases hr : Jl e with
  | false => rfl
  | true =>
   simp only [cond_true, Bool.true_and]
   by_cases h : e.term < t
   ·rw [if_pos h, decide_eq_false (show ¬ (t ≤ e.term) by omega)]; rfl
   ·rw [if_neg h, decide_eq_true (show t ≤ e.term by omega)]; rfl
theorem p_Right12 (x : Tu) : Vg x = some (Zad x) := by
 have key : Zad x = (Zbn x.snap && decide (x.snap.index ≤ 1073740824 ∧ x.log.length ≤ 200 ∧ 0 ≤ x.vote ∧ x.vote ≤ 5) && (Zfs x.snap.term x.log && decide (Zfd x.snap.term x.log ≤ x.term ∧ 0 ≤ x.term ∧ x.term ≤ 1073741824))) := by
  rw [Bool.eq_iff_iff]
  unfold Zad
  simp only [Bool.and_eq_true, decide_eq_true_eq]
  constructor
  ·rintro ⟨⟨⟨h1, h2⟩, h3⟩, h4⟩
   have h5 := lastT_mono _ _ h3
   have h6 : 0 ≤ x.snap.term := by
    rcases (Zdb _).1 h1 with h | h
    ·rw [h]; decide
    ·omega
   exact ⟨⟨h1, by omega⟩, h3, by omega⟩
  ·rintro ⟨⟨h1, h2⟩, h3, h4⟩
   exact ⟨⟨⟨h1, by omega⟩, h3⟩, by omega⟩
 rw [key]
 simp only [Vg, p_Fine, Option.bind_some, Bool.cond_not, Bool.cond_decide]
 cases hf : Zbn x.snap with
 | false => rfl
 | true =>
  simp only [cond_true, Bool.true_and]
  by_cases h1 : x.snap.index ≤ 1073740824 ∧ x.log.length ≤ 200 ∧ 0 ≤ x.vote ∧ x.vote ≤ 5
  ·rw [if_neg (by omega), if_neg (by omega), if_neg (by omega), if_neg (by omega), decide_eq_true h1, Bool.true_and]
   have := p_Right12_l1 x (by omega) x.log.length 0 Xw false x.snap.term (by omega) (by omega) (by unfold Xw; omega)
   exact this
  ·rw [decide_eq_false h1, Bool.false_and]
   (repeat' split) <;> first | rfl | (exfalso; omega)
theorem p_Same_l1 (a b : List En) (hl : a.length ≤ 1000000) (hab : a.length = b.length) : ∀ (m k n : Nat) (v : Bool), m = a.length - k → k ≤ a.length → m < n → Zam a b n v k = some (decide (a.drop k = b.drop k)) := by
 intro m
 induction m with
 | zero =>
  intro k n v hm hk hn
  obtain ⟨n, rfl⟩ : ∃ n', n = n' + 1 := ⟨n - 1, by omega⟩
  rw [Zam, List.drop_eq_nil_of_le (by omega), List.drop_eq_nil_of_le (by omega)]
  simp only [Bool.cond_decide, if_neg (show ¬ ((k : Int) < (a.length : Int)) by omega)]
  rfl
 | succ m ih =>
  intro k n v hm hk hn
  obtain ⟨n, rfl⟩ : ∃ n', n = n' + 1 := ⟨n - 1, by omega⟩
  obtain ⟨e, he, hd⟩ := Xo (show k < a.length by omega)
  obtain ⟨f, hf, hd2⟩ := Xo (show k < b.length by omega)
  rw [Zam, hd, hd2]
  simp only [Bool.cond_decide, if_pos (show ((k : Int) < (a.length : Int)) by omega), J5, he, hf, Option.bind_some, en_eq, Bool.cond_not]
  rw [Zb7 (by omega), show ((k : Int) + 1) = ((k + 1 : Nat) : Int) by omega, ih (k + 1) n v (by omega) (by omega) (by omega)]
  by_cases h : e = f
  ·subst h; rw [if_pos rfl]; congr 1; rw [Bool.eq_iff_iff]; simp
  ·rw [if_neg h]; congr 1; rw [Bool.eq_iff_iff]; simp [h]
theorem p_Same (a b : List En) (hl : a.length ≤ 1000000) : Zdg a b = some (decide (a = b)) := by
 unfold Zdg
 by_cases h : a.length = b.length
 ·simp only [Bool.cond_decide, if_neg (show ¬ ((a.length : Int) ≠ (b.length : Int)) by omega)]
  have := p_Same_l1 a b hl h a.length 0 Xw false (by omega) (by omega) (by unfold Xw; omega)
  simpa using this
 ·simp only [Bool.cond_decide, if_pos (show ((a.length : Int) ≠ (b.length : Int)) by omega)]
  rw [decide_eq_false (fun h' => h (by rw [h']))]
theorem p_Same12 (x y : Tu) (hl : x.log.length ≤ 1000000) : Zeh x y = some (decide (x = y)) := by
 obtain ⟨s, l, t, v⟩ := x; obtain ⟨s2, l2, t2, v2⟩ := y
 simp only [Zeh, snap_eq, p_Same l l2 hl, Option.bind_some, Bool.cond_decide, Tu.mk.injEq]
 by_cases h1 : s = s2 <;> by_cases h2 : t = t2 <;> by_cases h3 : v = v2 <;> simp [h1, h2, h3]
def bdT (x : Tu) : Prop := x.log.length ≤ 1000000 ∧ -2000000000000 ≤ x.snap.index ∧ x.snap.index ≤ 2000000000000
theorem q_Right (x : Tu) (h : bdT x) : Zdn x = some (Zad x) := by unfold Zdn; rw [okT_iff.2 h]; rfl
theorem q_State_yes (x : Tu) (k : Nat) (h : bdT x) (hk : k ≤ x.log.length) : Zab x (x.snap.index + k) = some (allS x.snap (x.log.take k), true) := by
 unfold Zab
 rw [okT_iff.2 h, decide_eq_true (by omega)]
 have : (x.snap.index + (k : Int) - x.snap.index).toNat = k := by omega
 rw [this]; rfl
theorem q_State_no (x : Tu) (i : Int) (h : bdT x) (hi : i < x.snap.index ∨ x.snap.index + x.log.length < i) : Zab x i = some (⟨0, 0, 0, 0, false⟩, false) := by
 unfold Zab
 rw [okT_iff.2 h, decide_eq_false (by omega)]; rfl
theorem p_tLast (x : Tu) (h : bdT x) : Zbh x = some x.last := by unfold Zbh Tu.last; obtain ⟨h1, h2, h3⟩ := h; rw [Zb7 (by omega)]
theorem p_Own12 (x : Tu) (h : x.log.length ≤ 1000000) : X1 x = some x := by
 unfold X1
 rw [List.nil_append, Zb5 _ (by omega)]; rfl
theorem p_Last12 (x : Tu) (h : bdT x) : Vq x = some x.last := p_tLast x h
theorem p_Next (s : St) (e : En) : Zdf s e = some (Zbr s e) := by
 simp only [Zdf, p_Right, p_Fine, Option.bind_some]
 by_cases hc : Jl e = true ∧ Zbn s = true ∧ s.index < 1073741824
 ·obtain ⟨hr, hf, hi⟩ := hc
  have hn : Zbr s e = Zee e.kind e.value { s with index := s.index + 1, term := e.term } := by unfold Zbr; rw [if_pos ⟨hr, hf, hi⟩]
  have hb : 0 ≤ s.index ∧ 0 ≤ s.sum ∧ s.sum ≤ 1073741824 := by
   rcases (Zdb s).1 hf with h | h
   ·rw [h]; decide
   ·omega
  have hv : 0 ≤ e.value ∧ e.value ≤ 1073741824 := by
   unfold Jl at hr; simp only [decide_eq_true_eq] at hr; omega
  have w0 : IntKind.wrap .i64 (s.index + 1) = s.index + 1 := Zb7 (by omega)
  have w1 : IntKind.wrap .i64 (31 * s.sum) = 31 * s.sum := Zb7 (by omega)
  have w2 : IntKind.wrap .i64 (31 * s.sum + e.value) = 31 * s.sum + e.value := Zb7 (by omega)
  have w3 : IntKind.wrap .i64 (31 * s.sum + e.value + 1) = 31 * s.sum + e.value + 1 := Zb7 (by omega)
  rw [hn, hr, hf, w0, w1, w2, w3, Int.tmod_eq_emod_of_nonneg (by omega), decide_eq_false (show ¬ (1073741824 ≤ s.index) by omega)]
  simp only [Bool.not_true, cond_false, Bool.cond_decide]
  unfold Zee
  by_cases k1 : e.kind = 1
  ·rw [if_pos k1, if_pos k1]
  ·rw [if_neg k1, if_neg k1]
   by_cases k2 : e.kind = 2
   ·rw [if_pos k2, if_pos k2]
   ·rw [if_neg k2, if_neg k2]
    by_cases k3 : e.kind = 3
    ·rw [if_pos k3, if_pos k3]
     cases hF : s.final <;> rfl
    ·rw [if_neg k3, if_neg k3]
     by_cases k4 : e.kind = 4
     ·rw [if_pos k4, if_pos k4]
     ·rw [if_neg k4, if_neg k4]
 ·have hn : Zbr s e = s := by unfold Zbr; rw [if_neg hc]
  rw [hn]
  cases hr : Jl e with
  | false => rfl
  | true =>
   cases hf : Zbn s with
   | false => rfl
   | true =>
    rw [decide_eq_true (show 1073741824 ≤ s.index by
     have : ¬ (s.index < 1073741824) := fun h => hc ⟨hr, hf, h⟩
     omega)]
    rfl
theorem p_All_l1 (l : List En) (hl : l.length ≤ 1000000) : ∀ (m k n : Nat) (s : St), m = l.length - k → k ≤ l.length → m < n → Za3 l n k s.index s.term s.sum s.level s.final = some (allS s (l.drop k)) := by
 intro m
 induction m with
 | zero =>
  intro k n s hm hk hn
  obtain ⟨n, rfl⟩ : ∃ n', n = n' + 1 := ⟨n - 1, by omega⟩
  rw [Za3, List.drop_eq_nil_of_le (by omega)]
  simp only [Bool.cond_decide, if_neg (show ¬ ((k : Int) < (l.length : Int)) by omega)]
  rfl
 | succ m ih =>
  intro k n s hm hk hn
  obtain ⟨n, rfl⟩ : ∃ n', n = n' + 1 := ⟨n - 1, by omega⟩
  obtain ⟨e, he, hd⟩ := Xo (show k < l.length by omega)
  rw [Za3, hd]
  simp only [Bool.cond_decide, if_pos (show ((k : Int) < (l.length : Int)) by omega), J5, he, Option.bind_some]
  have : Zdf ⟨s.index, s.term, s.sum, s.level, s.final⟩ e = some (Zbr s e) := p_Next s e
  rw [this, Option.bind_some, Zb7 (by omega), show ((k : Int) + 1) = ((k + 1 : Nat) : Int) by omega, ih (k + 1) n (Zbr s e) (by omega) (by omega) (by omega)]
  rfl
theorem p_All (s : St) (l : List En) (hl : l.length ≤ 1000000) : Zgk s l = some (allS s l) := p_All_l1 l hl l.length 0 Xw s (by omega) (by omega) (by unfold Xw; omega)
theorem p_State12 (x : Tu) (i : Int) (h : bdT x) : Zck x i = Zab x i := by
 have h1 := h.1
 have h2 := h.2
 unfold Zck
 rw [p_Last12 x h]
 simp only [Option.bind_some, Bool.cond_decide, Tu.last]
 by_cases h3 : i < x.snap.index
 ·rw [if_pos h3, q_State_no x i h (.inl h3)]
 ·rw [if_neg h3]
  by_cases h4 : x.snap.index + (x.log.length : Int) < i
  ·rw [if_pos h4, q_State_no x i h (.inr h4)]
  ·rw [if_neg h4]
   obtain ⟨k, hk⟩ : ∃ k : Nat, i = x.snap.index + (k : Int) := ⟨(i - x.snap.index).toNat, by omega⟩
   have w1 : IntKind.wrap .i64 (i - x.snap.index) = (k : Int) := by rw [Zb7 (by omega)]; omega
   rw [w1, takeI_nat _ _ (by omega), Option.bind_some, p_All _ _ (by rw [List.length_take]; omega), hk, q_State_yes x k h (by omega)]
   rfl
end

end Go.Proofs.YtamjlcaoieliaaaGreat
