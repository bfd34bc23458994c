/- Texts of one claim put together. -/
import Derived.Test.YtamjlcaoieliaaaMs1
import Derived.Test.YtamjlcaoieliaaaMs2
import Derived.Test.YtamjlcaoieliaaaMs5
namespace Go.Proofs.Ytamjlcaoieliaaa
open Go Go.RowKit
set_option maxRecDepth 100000
set_option maxHeartbeats 4000000
theorem c_law23_ReplFit (x0 : Co) (A0_ : OA) (c0_ : Nat) (A1_ : OA) (c1_ : Nat) (A2_ : OA) (c2_ : Nat) (A3_ : OA) (c3_ : Nat) (A4_ : OA) (c4_ : Nat) (w0 : World) (s0_ : SlI w0 Jv A0_ c0_ x0.tuple.log) (s1_ : SlI w0 enO A1_ c1_ x0.votes) (s2_ : SlI w0 V9 A2_ c2_ x0.next) (s3_ : SlI w0 V9 A3_ c3_ x0.mtch) (s4_ : SlI w0 V9 A4_ c4_ x0.caps) {r : Bool} (H : Zc2 x0 = some r) : Calls Try.prog 8 #[.agg #[.int .i64 x0.id, .int .i64 x0.n, .int .u8 x0.role, .int .i64 x0.binary, .int .i64 x0.tuple.snap.index, .int .i64 x0.tuple.snap.term, .int .i64 x0.tuple.snap.sum, .int .i64 x0.tuple.snap.level, .bool x0.tuple.snap.final, .slice A0_ x0.tuple.log.length c0_, .int .i64 x0.tuple.term, .int .i64 x0.tuple.vote, .int .i64 x0.commit, .int .i64 x0.applied.index, .int .i64 x0.applied.term, .int .i64 x0.applied.sum, .int .i64 x0.applied.level, .bool x0.applied.final, .slice A1_ x0.votes.length c1_, .slice A2_ x0.next.length c2_, .slice A3_ x0.mtch.length c3_, .slice A4_ x0.caps.length c4_]] w0 fun e w' => e = .returned (.bool r) ∧ St0 All w0 w' [] := by
 unfold Zc2 at H
 refine Yn Try.func8 rfl Try.ntmps8 rfl ?_
 have hS := St0.start All w0
 refine Zd (fun K hK1 => ?_)
 refine Zf ?_
 refine Yd rfl rfl rfl CellsOf.agg hS (fun b2 w hS hB => ?_)
 refine Zc 1 rfl ?_
 refine Zg ?_
 refine Zb hK1 ?_
 refine Zd (fun K hK4 => ?_)
 refine Zd (fun K hK5 => ?_)
 refine Zf ?_
 refine Za rfl rfl rfl (Zi Yh rfl (Zgy _) hS hs0 trivial Z8) ?_
 obtain ⟨r6, hm7, H⟩ := bind_some H
 refine Zo rfl rfl rfl rfl (by kernel_rfl) rfl (c_ref20_Great x0 A0_ c0_ A1_ c1_ A2_ c2_ A3_ c3_ A4_ c4_ _ (Zg1 s0_.k (hS.rd0 s0_.rd) (hS.blk0 s0_.blk)) (Zg1 s1_.k (hS.rd0 s1_.rd) (hS.blk0 s1_.blk)) (Zg1 s2_.k (hS.rd0 s2_.rd) (hS.blk0 s2_.blk)) (Zg1 s3_.k (hS.rd0 s3_.rd) (hS.blk0 s3_.blk)) (Zg1 s4_.k (hS.rd0 s4_.rd) (hS.blk0 s4_.blk)) hm7) ?_
 rintro e w ⟨rfl, hN⟩; refine ⟨_, rfl, ?_⟩; obtain ⟨hB, hS⟩ := hS.jn hN
 refine Zg ?_
 refine Zb hK5 ?_
 refine Zz rfl (fun hb => ?_) (fun hb => ?_)
 ·replace H := Zq H hb
  refine Zd (fun K hK8 => ?_)
  refine Zf ?_
  obtain ⟨r9, hm10, H⟩ := bind_some H
  refine Zo rfl rfl rfl rfl (by kernel_rfl) rfl (Vg _ hm10) ?_
  rintro e w ⟨rfl, hN⟩; refine ⟨_, rfl, ?_⟩; obtain ⟨hB, hS⟩ := hS.jn hN
  refine Zc 1 rfl ?_
  refine Zg ?_
  refine Zb hK8 ?_
  refine Zk ?_
  refine Zj ?_
  refine Zl rfl (RV.tmp rfl RV.nil) rfl ?_
  obtain rfl := QJ H
  replace hS := hS.cut 0
  exact ⟨rfl, hS⟩
 replace H := Zp H hb
 refine Zt ?_
 refine Zb hK4 ?_
 refine Zd (fun K hK11 => ?_)
 refine Zf ?_
 refine Za rfl rfl rfl (Zi Yh rfl (Zgy _) hS hs0 trivial Z8) ?_
 obtain ⟨r12, hm13, H⟩ := bind_some H
 refine Zo rfl rfl rfl rfl (by kernel_rfl) rfl (Zbr x0 A0_ c0_ A1_ c1_ A2_ c2_ A3_ c3_ A4_ c4_ _ (Zg1 s0_.k (hS.rd0 s0_.rd) (hS.blk0 s0_.blk)) (Zg1 s1_.k (hS.rd0 s1_.rd) (hS.blk0 s1_.blk)) (Zg1 s2_.k (hS.rd0 s2_.rd) (hS.blk0 s2_.blk)) (Zg1 s3_.k (hS.rd0 s3_.rd) (hS.blk0 s3_.blk)) (Zg1 s4_.k (hS.rd0 s4_.rd) (hS.blk0 s4_.blk)) hm13) ?_
 rintro e w ⟨A14, c15, A18, c19, A22, c23, A26, c27, A30, c31, rfl, k16, k20, k24, k28, k32, hN⟩; refine ⟨_, rfl, ?_⟩; obtain ⟨hB, hS⟩ := hS.jn hN
 refine Yb rfl rfl Zex hS (fun b34 w hS hB => ?_)
 refine Zm rfl rfl rfl CellsOf.agg hS ps0 Yy (by kernel_rfl) rfl (fun w hS hB => ?_)
 refine Zg ?_
 refine Zb hK11 ?_
 refine Zd (fun K hK36 => ?_)
 refine Zf ?_
 refine Za rfl rfl rfl (Ze Yz rfl) ?_
 refine Za rfl rfl rfl (Zi Yr rfl (Zgy _) hS hs6 trivial Jw) ?_
 obtain ⟨r37, hm38, H⟩ := bind_some H
 refine Zo rfl rfl rfl rfl (by kernel_rfl) rfl (Zag x0.tuple A0_ c0_ _ (Zg1 s0_.k (hS.rd0 s0_.rd) (hS.blk0 s0_.blk)) hm38) ?_
 rintro e w ⟨rfl, hN⟩; refine ⟨_, rfl, ?_⟩; obtain ⟨hB, hS⟩ := hS.jn hN
 refine Zc 1 rfl ?_
 refine Zg ?_
 refine Zb hK36 ?_
 refine Zd (fun K hK39 => ?_)
 refine Zd (fun K hK40 => ?_)
 refine Yg 23 [] (fun _ _ => True) ⟨by kernel_rfl, by kernel_rfl⟩ hS (fun w hS hB => ?_)
 refine Zn [true, true, true, true, true, true, true, true] (by decide +kernel) PFC.h ?_
 refine LtK.put rfl rfl rfl (Ze Vm rfl) ?_
 refine LtK.put rfl rfl rfl (Zh Xt rfl (Zgz _) hS hs0 trivial Jz) ?_
 refine LtK.put rfl rfl rfl (Yu Xm rfl) ?_
 refine LtK.put rfl rfl rfl (Ze Vm rfl) ?_
 refine LtK.put rfl rfl rfl (Zh Xt rfl (Zgz _) hS hs6 trivial Jz) ?_
 refine LtK.put rfl rfl rfl (Yu Xm rfl) ?_
 refine LtK.put rfl rfl rfl (Y5 rfl rfl) ?_
 refine LtK.put rfl rfl rfl (Zs rfl) ?_
 refine LtK.nil ?_
 refine Xl 22 rfl (fun hb => ?_) (fun hb => ?_)
 ·replace H := Zq H hb
  refine Zn [false, false, false, false, false, false, false, false, true, true, true, true, true, true, true, true, true, true, false, true] (by decide +kernel) PFC.h ?_
  refine LtK.skip rfl rfl rfl ?_
  refine LtK.skip rfl rfl rfl ?_
  refine LtK.skip rfl rfl rfl ?_
  refine LtK.skip rfl rfl rfl ?_
  refine LtK.skip rfl rfl rfl ?_
  refine LtK.skip rfl rfl rfl ?_
  refine LtK.skip rfl rfl rfl ?_
  refine LtK.put rfl rfl rfl (Z3 rfl rfl rfl) ?_
  refine LtK.put rfl rfl rfl (Zs rfl) ?_
  refine LtK.skip rfl rfl rfl ?_
  refine LtK.skip rfl rfl rfl ?_
  refine LtK.nil ?_
  refine Z4 [false, false, false, false, false, false, false, false, false, false, false, false, false, false, false, false, false, false, true] 18 ⟨by decide, by kernel_rfl, by kernel_rfl⟩ rfl rfl ?_
  try dsimp only [Zw]
  refine Xc rfl rfl rfl ?_
  refine Zg ?_
  refine Z7 (Below.refl _ _) ?_
  refine Z4 [false, false, false, false, false, false, false, false, false, false, false, false, false, false, false, false, false, false, false, false, true] 20 ⟨by decide, by kernel_rfl, by kernel_rfl⟩ rfl rfl ?_
  try dsimp only [Zw]
  refine Xc rfl rfl rfl ?_
  refine Zg ?_
  refine Z7 (Below.refl _ _) ?_
  refine Zn [false, false, false, false, false, false, false, false, false, false, false, false, false, false, false, false, false, false, false, false, false, true, true] (by decide +kernel) PFC.h ?_
  refine LtK.skip rfl rfl rfl ?_
  refine LtK.put rfl rfl rfl (Z3 rfl rfl rfl) ?_
  refine LtK.nil ?_
  refine Z6 (by kernel_rfl) ?_
  refine Zb hK40 ?_
  refine Zr rfl rfl ?_
  refine Zd (fun K hK41 => ?_)
  refine Zf ?_
  refine Zc 1 rfl ?_
  refine Zg ?_
  refine Zb hK41 ?_
  refine Zk ?_
  refine Zj ?_
  refine Zl rfl (RV.tmp rfl RV.nil) rfl ?_
  obtain rfl := QJ H
  replace hS := hS.cut 0
  exact ⟨rfl, hS⟩
 replace H := Zp H hb
 refine Zn [false, false, false, false, false, false, false, false, true, true, true, true, true, true, true, true, true] (by decide +kernel) PFC.h ?_
 refine LtK.put rfl rfl rfl (Ze V3 rfl) ?_
 refine LtK.put rfl rfl rfl (Zh Xt rfl (Zgz _) hS hs0 trivial Zat) ?_
 refine LtK.put rfl rfl rfl (Yu Xm rfl) ?_
 refine LtK.put rfl rfl rfl (Ze V3 rfl) ?_
 refine LtK.put rfl rfl rfl (Zh Xt rfl (Zgz _) hS hs6 trivial Zat) ?_
 refine LtK.put rfl rfl rfl (Yu Xm rfl) ?_
 refine LtK.put rfl rfl rfl (Y5 rfl rfl) ?_
 refine LtK.put rfl rfl rfl (Yj rfl rfl rfl) ?_
 refine LtK.put rfl rfl rfl (Zs rfl) ?_
 refine LtK.nil ?_
 refine Xl 31 rfl (fun hb => ?_) (fun hb => ?_)
 ·replace H := Zq H hb
  refine Zn [false, false, false, false, false, false, false, false, false, false, false, false, false, false, false, false, false, true, false, true] (by decide +kernel) PFC.h ?_
  refine LtK.skip rfl rfl rfl ?_
  refine LtK.skip rfl rfl rfl ?_
  refine LtK.nil ?_
  refine Z4 [false, false, false, false, false, false, false, false, false, false, false, false, false, false, false, false, false, false, true] 18 ⟨by decide, by kernel_rfl, by kernel_rfl⟩ rfl rfl ?_
  try dsimp only [Zw]
  refine Xc rfl rfl rfl ?_
  refine Zg ?_
  refine Z7 (Below.refl _ _) ?_
  refine Z4 [false, false, false, false, false, false, false, false, false, false, false, false, false, false, false, false, false, false, false, false, true] 20 ⟨by decide, by kernel_rfl, by kernel_rfl⟩ rfl rfl ?_
  try dsimp only [Zw]
  refine Xc rfl rfl rfl ?_
  refine Zg ?_
  refine Z7 (Below.refl _ _) ?_
  refine Zn [false, false, false, false, false, false, false, false, false, false, false, false, false, false, false, false, false, false, false, false, false, true, true] (by decide +kernel) PFC.h ?_
  refine LtK.skip rfl rfl rfl ?_
  refine LtK.put rfl rfl rfl (Z3 rfl rfl rfl) ?_
  refine LtK.nil ?_
  refine Z6 (by kernel_rfl) ?_
  refine Zb hK40 ?_
  refine Zr rfl rfl ?_
  refine Zd (fun K hK42 => ?_)
  refine Zf ?_
  refine Zc 1 rfl ?_
  refine Zg ?_
  refine Zb hK42 ?_
  refine Zk ?_
  refine Zj ?_
  refine Zl rfl (RV.tmp rfl RV.nil) rfl ?_
  obtain rfl := QJ H
  replace hS := hS.cut 0
  exact ⟨rfl, hS⟩
 replace H := Zp H hb
 refine Zn [false, false, false, false, false, false, false, false, false, false, false, false, false, false, false, false, false, true, false, true] (by decide +kernel) PFC.h ?_
 refine LtK.put rfl rfl rfl (Zi Yh rfl (Zgz _) hS hs0 trivial Z8) ?_
 refine LtK.put rfl rfl rfl (Zi Yh rfl (Zgz _) hS hs0 trivial Z8) ?_
 refine LtK.nil ?_
 refine Z4 [false, false, false, false, false, false, false, false, false, false, false, false, false, false, false, false, false, false, true] 18 ⟨by decide, by kernel_rfl, by kernel_rfl⟩ rfl rfl ?_
 try dsimp only [Zw]
 obtain ⟨r43, hm44, H⟩ := bind_some H
 refine Zo rfl rfl rfl rfl (by kernel_rfl) rfl (Zbr r12 A14 c15 A18 c19 A22 c23 A26 c27 A30 c31 _ (Zg1 k16 (hS.row_rd Xr) (hS.row_blk Xr)) (Zg1 k20 (hS.row_rd X0) (hS.row_blk X0)) (Zg1 k24 (hS.row_rd hs3) (hS.row_blk hs3)) (Zg1 k28 (hS.row_rd hs4) (hS.row_blk hs4)) (Zg1 k32 (hS.row_rd hs5) (hS.row_blk hs5)) hm44) ?_
 rintro e w ⟨A45, c46, A49, c50, A53, c54, A57, c58, A61, c62, rfl, k47, k51, k55, k59, k63, hN⟩; refine ⟨_, rfl, ?_⟩; obtain ⟨hB, hS⟩ := hS.jn hN
 refine Zg ?_
 refine Z7 hB ?_
 refine Z4 [false, false, false, false, false, false, false, false, false, false, false, false, false, false, false, false, false, false, false, false, true] 20 ⟨by decide, by kernel_rfl, by kernel_rfl⟩ rfl rfl ?_
 try dsimp only [Zw]
 obtain ⟨r65, hm66, H⟩ := bind_some H
 refine Zo rfl rfl rfl rfl (by kernel_rfl) rfl (c_ref20_Same r43 r12 A45 c46 A49 c50 A53 c54 A57 c58 A61 c62 A14 c15 A18 c19 A22 c23 A26 c27 A30 c31 _ (Zg1 k47 (hS.row_rd hs0) (hS.row_blk hs0)) (Zg1 k51 (hS.row_rd Xr) (hS.row_blk Xr)) (Zg1 k55 (hS.row_rd X0) (hS.row_blk X0)) (Zg1 k59 (hS.row_rd hs3) (hS.row_blk hs3)) (Zg1 k63 (hS.row_rd hs4) (hS.row_blk hs4)) (Zg1 k16 (hS.row_rd hs6) (hS.row_blk hs6)) (Zg1 k20 (hS.row_rd hs7) (hS.row_blk hs7)) (Zg1 k24 (hS.row_rd hs8) (hS.row_blk hs8)) (Zg1 k28 (hS.row_rd hs9) (hS.row_blk hs9)) (Zg1 k32 (hS.row_rd Zei) (hS.row_blk Zei)) hm66) ?_
 rintro e w ⟨rfl, hN⟩; refine ⟨_, rfl, ?_⟩; obtain ⟨hB, hS⟩ := hS.jn hN
 refine Zg ?_
 refine Z7 hB ?_
 refine Zn [false, false, false, false, false, false, false, false, false, false, false, false, false, false, false, false, false, false, false, false, false, true, true] (by decide +kernel) PFC.h ?_
 refine LtK.put rfl rfl rfl (Yt rfl) ?_
 refine LtK.put rfl rfl rfl (Yj rfl rfl rfl) ?_
 refine LtK.nil ?_
 refine Z6 (by kernel_rfl) ?_
 refine Zb hK40 ?_
 refine Zz rfl (fun hb => ?_) (fun hb => ?_)
 ·replace H := Zq H hb
  refine Zd (fun K hK67 => ?_)
  refine Zf ?_
  refine Zc 1 rfl ?_
  refine Zg ?_
  refine Zb hK67 ?_
  refine Zk ?_
  refine Zj ?_
  refine Zl rfl (RV.tmp rfl RV.nil) rfl ?_
  obtain rfl := QJ H
  replace hS := hS.cut 0
  exact ⟨rfl, hS⟩
 replace H := Zp H hb
 refine Zt ?_
 refine Zb hK39 ?_
 refine Zd (fun K hK68 => ?_)
 refine Zd (fun K hK69 => ?_)
 refine Zf ?_
 refine Zc 1 rfl ?_
 refine Zg ?_
 refine Zb hK69 ?_
 refine Yc ?_
 refine V0 (X := Nat × Bool × Int) (fun x => (1, .pointer (some ⟨b2, 0, none⟩)) :: (2, .bool x.2.1) :: (3, .pointer (some ⟨b34, 0, none⟩)) :: (4, .int .i64 r37) :: (5, .int .i64 x.2.2) :: []) (fun x w => St0 All w0 w (.row (.slice A45 r43.tuple.log.length c46) 56 3 r43.tuple.log.length (Yf Jv r43.tuple.log) :: .row (.slice A49 r43.votes.length c50) 4 1 r43.votes.length (Yf enO r43.votes) :: .row (.slice A53 r43.next.length c54) 3 1 r43.next.length (Yf V9 r43.next) :: .row (.slice A57 r43.mtch.length c58) 3 1 r43.mtch.length (Yf V9 r43.mtch) :: .row (.slice A61 r43.caps.length c62) 3 1 r43.caps.length (Yf V9 r43.caps) :: .box b34 [.int .i64 r12.id, .int .i64 r12.n, .int .u8 r12.role, .int .i64 r12.binary, .int .i64 r12.tuple.snap.index, .int .i64 r12.tuple.snap.term, .int .i64 r12.tuple.snap.sum, .int .i64 r12.tuple.snap.level, .bool r12.tuple.snap.final, .slice A14 r12.tuple.log.length c15, .int .i64 r12.tuple.term, .int .i64 r12.tuple.vote, .int .i64 r12.commit, .int .i64 r12.applied.index, .int .i64 r12.applied.term, .int .i64 r12.applied.sum, .int .i64 r12.applied.level, .bool r12.applied.final, .slice A18 r12.votes.length c19, .slice A22 r12.next.length c23, .slice A26 r12.mtch.length c27, .slice A30 r12.caps.length c31] 30 :: .row (.slice A14 r12.tuple.log.length c15) 56 3 r12.tuple.log.length (Yf Jv r12.tuple.log) :: .row (.slice A18 r12.votes.length c19) 4 1 r12.votes.length (Yf enO r12.votes) :: .row (.slice A22 r12.next.length c23) 3 1 r12.next.length (Yf V9 r12.next) :: .row (.slice A26 r12.mtch.length c27) 3 1 r12.mtch.length (Yf V9 r12.mtch) :: .row (.slice A30 r12.caps.length c31) 3 1 r12.caps.length (Yf V9 r12.caps) :: .box b2 [.int .i64 x0.id, .int .i64 x0.n, .int .u8 x0.role, .int .i64 x0.binary, .int .i64 x0.tuple.snap.index, .int .i64 x0.tuple.snap.term, .int .i64 x0.tuple.snap.sum, .int .i64 x0.tuple.snap.level, .bool x0.tuple.snap.final, .slice A0_ x0.tuple.log.length c0_, .int .i64 x0.tuple.term, .int .i64 x0.tuple.vote, .int .i64 x0.commit, .int .i64 x0.applied.index, .int .i64 x0.applied.term, .int .i64 x0.applied.sum, .int .i64 x0.applied.level, .bool x0.applied.final, .slice A1_ x0.votes.length c1_, .slice A2_ x0.next.length c2_, .slice A3_ x0.mtch.length c3_, .slice A4_ x0.caps.length c4_] 30 :: []) ∧ Vu x0 r12 r37 x.1 x.2.1 x.2.2 = some r) (fun x => x.1) (Xn, false, 0) (by repeat (first | exact Sub.nil | refine Sub.cons rfl ?_)) ⟨hS, H⟩ ?_
 rintro ⟨n, v70, v71⟩ w ⟨hS, H⟩
 dsimp only at hS H ⊢
 obtain _ | n := n
 ·have H0 : none = some r := H
  cases H0
 rw [Vu] at H
 refine Zd (fun K hK72 => ?_)
 refine Zd (fun K hK73 => ?_)
 refine Zf ?_
 refine Zc 1 rfl ?_
 refine Za rfl rfl rfl (Ze Vm rfl) ?_
 refine Za rfl rfl rfl (Zh Xt rfl (Zgy _) hS hs11 trivial Jz) ?_
 refine Za rfl rfl rfl (Yu Xm rfl) ?_
 refine Za rfl rfl rfl (Xh rfl rfl) ?_
 refine Zg ?_
 refine Zb hK73 ?_
 refine Zz rfl (fun hb => ?_) (fun hb => ?_)
 ·replace H := Zq H hb
  refine Zt ?_
  refine Zb hK72 ?_
  refine Zd (fun K hK74 => ?_)
  refine Yc ?_
  refine Zd (fun K hK75 => ?_)
  refine Yg 44 [] (fun _ _ => True) ⟨by kernel_rfl, by kernel_rfl⟩ hS (fun w hS hB => ?_)
  refine Zn [true, true, true, true, true, true, true, true, true] (by decide +kernel) PFC.h ?_
  refine LtK.put rfl rfl rfl (Ze Vm rfl) ?_
  refine LtK.put rfl rfl rfl (Zh Xt rfl (Zgz _) hS hs5 trivial Jz) ?_
  refine LtK.put rfl rfl rfl (Zs rfl) ?_
  obtain ⟨e76, hi78, H⟩ := bind_some H
  obtain ⟨j77, hi78a, hi78b, hi78c⟩ := Yw hi78
  refine LtK.put rfl rfl rfl (Y8 Xm rfl rfl hi78a hi78c (Rd.el (hS.row_rd hs8) Yl hi78b)) ?_
  refine LtK.put rfl rfl rfl (X1 Z0 rfl (Zgz _) (Rd.el (hS.row_rd hs8) Yl hi78b) rfl) ?_
  refine LtK.put rfl rfl rfl (Zs rfl) ?_
  refine LtK.put rfl rfl rfl (Xf rfl rfl) ?_
  refine LtK.put rfl rfl rfl (Xa rfl rfl) ?_
  refine LtK.put rfl rfl rfl (Zs rfl) ?_
  refine LtK.nil ?_
  refine Xl 53 rfl (fun hb => ?_) (fun hb => ?_)
  ·replace H := Zq H hb
   refine Zn [false, false, false, false, false, false, false, false, false, true, true, true, true, true, true, true, true, true, true, true, true, true, true, true, true, true, true, true, true, true, true, true, true, true, true, true, true, true, true, true, true, true, true, true] (by decide +kernel) PFC.h ?_
   refine LtK.skip rfl rfl rfl ?_
   refine LtK.skip rfl rfl rfl ?_
   refine LtK.skip rfl rfl rfl ?_
   refine LtK.skip rfl rfl rfl ?_
   refine LtK.skip rfl rfl rfl ?_
   refine LtK.skip rfl rfl rfl ?_
   refine LtK.skip rfl rfl rfl ?_
   refine LtK.skip rfl rfl rfl ?_
   refine LtK.skip rfl rfl rfl ?_
   refine LtK.skip rfl rfl rfl ?_
   refine LtK.skip rfl rfl rfl ?_
   refine LtK.put rfl rfl rfl (Z3 rfl rfl rfl) ?_
   refine LtK.put rfl rfl rfl (Zs rfl) ?_
   refine LtK.skip rfl rfl rfl ?_
   refine LtK.skip rfl rfl rfl ?_
   refine LtK.skip rfl rfl rfl ?_
   refine LtK.skip rfl rfl rfl ?_
   refine LtK.skip rfl rfl rfl ?_
   refine LtK.skip rfl rfl rfl ?_
   refine LtK.skip rfl rfl rfl ?_
   refine LtK.skip rfl rfl rfl ?_
   refine LtK.skip rfl rfl rfl ?_
   refine LtK.skip rfl rfl rfl ?_
   refine LtK.skip rfl rfl rfl ?_
   refine LtK.skip rfl rfl rfl ?_
   refine LtK.skip rfl rfl rfl ?_
   refine LtK.skip rfl rfl rfl ?_
   refine LtK.skip rfl rfl rfl ?_
   refine LtK.skip rfl rfl rfl ?_
   refine LtK.skip rfl rfl rfl ?_
   refine LtK.skip rfl rfl rfl ?_
   refine LtK.skip rfl rfl rfl ?_
   refine LtK.skip rfl rfl rfl ?_
   refine LtK.skip rfl rfl rfl ?_
   refine LtK.put rfl rfl rfl (Z3 rfl rfl rfl) ?_
   refine LtK.nil ?_
   refine Z6 (by kernel_rfl) ?_
   refine Zb hK75 ?_
   refine Zr rfl rfl ?_
   refine Zd (fun K hK79 => ?_)
   refine Zf ?_
   refine Zc 1 rfl ?_
   refine Zg ?_
   refine Zb hK79 ?_
   refine Zk ?_
   refine Zv ?_
   refine Zj ?_
   refine Zj ?_
   refine Zv ?_
   refine Zj ?_
   refine Zl rfl (RV.tmp rfl RV.nil) rfl ?_
   obtain rfl := QJ H
   replace hS := hS.cut 0
   exact ⟨rfl, hS⟩
  replace H := Zp H hb
  refine Zn [false, false, false, false, false, false, false, false, false, true, true, true, true, true, true, true, true, true, true, true, true, true] (by decide +kernel) PFC.h ?_
  refine LtK.put rfl rfl rfl (Ze Vm rfl) ?_
  refine LtK.put rfl rfl rfl (Zh Xt rfl (Zgz _) hS hs5 trivial Jz) ?_
  refine LtK.put rfl rfl rfl (Zs rfl) ?_
  obtain ⟨e80, hi82, H⟩ := bind_some H
  obtain ⟨j81, hi82a, hi82b, hi82c⟩ := Yw hi82
  refine LtK.put rfl rfl rfl (Y8 Xm rfl rfl hi82a hi82c (Rd.el (hS.row_rd hs8) Yl hi82b)) ?_
  refine LtK.put rfl rfl rfl (X1 Z0 rfl (Zgz _) (Rd.el (hS.row_rd hs8) Yl hi82b) rfl) ?_
  refine LtK.put rfl rfl rfl (Ze Vm rfl) ?_
  refine LtK.put rfl rfl rfl (Zh Xt rfl (Zgz _) hS hs11 trivial Jz) ?_
  refine LtK.put rfl rfl rfl (Zs rfl) ?_
  obtain ⟨e83, hi85, H⟩ := bind_some H
  obtain ⟨j84, hi85a, hi85b, hi85c⟩ := Yw hi85
  refine LtK.put rfl rfl rfl (Y8 Xm rfl rfl hi85a hi85c (Rd.el (hS.rd0 s2_.rd) Yl hi85b)) ?_
  refine LtK.put rfl rfl rfl (X1 Z0 rfl (Zgz _) (Rd.el (hS.rd0 s2_.rd) Yl hi85b) rfl) ?_
  refine LtK.put rfl rfl rfl (Xa rfl rfl) ?_
  refine LtK.put rfl rfl rfl (Yj rfl rfl rfl) ?_
  refine LtK.put rfl rfl rfl (Zs rfl) ?_
  refine LtK.nil ?_
  refine Xl 66 rfl (fun hb => ?_) (fun hb => ?_)
  ·replace H := Zq H hb
   refine Zn [false, false, false, false, false, false, false, false, false, false, false, false, false, false, false, false, false, false, false, false, false, false, true, true, true, true, true, true, true, true, true, true, true, true, true, true, true, true, true, true, true, true, true, true] (by decide +kernel) PFC.h ?_
   refine LtK.skip rfl rfl rfl ?_
   refine LtK.skip rfl rfl rfl ?_
   refine LtK.skip rfl rfl rfl ?_
   refine LtK.skip rfl rfl rfl ?_
   refine LtK.skip rfl rfl rfl ?_
   refine LtK.skip rfl rfl rfl ?_
   refine LtK.skip rfl rfl rfl ?_
   refine LtK.skip rfl rfl rfl ?_
   refine LtK.skip rfl rfl rfl ?_
   refine LtK.skip rfl rfl rfl ?_
   refine LtK.skip rfl rfl rfl ?_
   refine LtK.skip rfl rfl rfl ?_
   refine LtK.skip rfl rfl rfl ?_
   refine LtK.skip rfl rfl rfl ?_
   refine LtK.skip rfl rfl rfl ?_
   refine LtK.skip rfl rfl rfl ?_
   refine LtK.skip rfl rfl rfl ?_
   refine LtK.skip rfl rfl rfl ?_
   refine LtK.skip rfl rfl rfl ?_
   refine LtK.skip rfl rfl rfl ?_
   refine LtK.skip rfl rfl rfl ?_
   refine LtK.put rfl rfl rfl (Z3 rfl rfl rfl) ?_
   refine LtK.nil ?_
   refine Z6 (by kernel_rfl) ?_
   refine Zb hK75 ?_
   refine Zr rfl rfl ?_
   refine Zd (fun K hK86 => ?_)
   refine Zf ?_
   refine Zc 1 rfl ?_
   refine Zg ?_
   refine Zb hK86 ?_
   refine Zk ?_
   refine Zv ?_
   refine Zj ?_
   refine Zj ?_
   refine Zv ?_
   refine Zj ?_
   refine Zl rfl (RV.tmp rfl RV.nil) rfl ?_
   obtain rfl := QJ H
   replace hS := hS.cut 0
   exact ⟨rfl, hS⟩
  replace H := Zp H hb
  refine Zn [false, false, false, false, false, false, false, false, false, false, false, false, false, false, false, false, false, false, false, false, false, false, true, true, true, true, true, true, true, true, true] (by decide +kernel) PFC.h ?_
  refine LtK.put rfl rfl rfl (Ze Vm rfl) ?_
  refine LtK.put rfl rfl rfl (Zh Xt rfl (Zgz _) hS hs11 trivial Jz) ?_
  refine LtK.put rfl rfl rfl (Zs rfl) ?_
  obtain ⟨e87, hi89, H⟩ := bind_some H
  obtain ⟨j88, hi89a, hi89b, hi89c⟩ := Yw hi89
  refine LtK.put rfl rfl rfl (Y8 Xm rfl rfl hi89a hi89c (Rd.el (hS.rd0 s2_.rd) Yl hi89b)) ?_
  refine LtK.put rfl rfl rfl (X1 Z0 rfl (Zgz _) (Rd.el (hS.rd0 s2_.rd) Yl hi89b) rfl) ?_
  refine LtK.put rfl rfl rfl (Zs rfl) ?_
  refine LtK.put rfl rfl rfl (Xf rfl rfl) ?_
  refine LtK.put rfl rfl rfl (Zah rfl rfl) ?_
  refine LtK.put rfl rfl rfl (Zs rfl) ?_
  refine LtK.nil ?_
  refine Xl 75 rfl (fun hb => ?_) (fun hb => ?_)
  rotate_left
  ·replace H := Zp H hb
   refine Zn [false, false, false, false, false, false, false, false, false, false, false, false, false, false, false, false, false, false, false, false, false, false, false, false, false, false, false, false, false, false, false, true, true, true, true, true, true, true, true, true, true, true, true, true] (by decide +kernel) PFC.h ?_
   refine LtK.skip rfl rfl rfl ?_
   refine LtK.skip rfl rfl rfl ?_
   refine LtK.skip rfl rfl rfl ?_
   refine LtK.skip rfl rfl rfl ?_
   refine LtK.skip rfl rfl rfl ?_
   refine LtK.skip rfl rfl rfl ?_
   refine LtK.skip rfl rfl rfl ?_
   refine LtK.skip rfl rfl rfl ?_
   refine LtK.skip rfl rfl rfl ?_
   refine LtK.skip rfl rfl rfl ?_
   refine LtK.skip rfl rfl rfl ?_
   refine LtK.put rfl rfl rfl (Yj rfl rfl rfl) ?_
   refine LtK.put rfl rfl rfl (Yj rfl rfl rfl) ?_
   refine LtK.nil ?_
   refine Z6 (by kernel_rfl) ?_
   refine Zb hK75 ?_
   refine Yo rfl rfl ?_
   refine Zt ?_
   refine Z2 ?_
   refine Zb hK74 ?_
   refine Zf ?_
   refine Zc 1 rfl ?_
   refine Za rfl rfl rfl (Xf rfl rfl) ?_
   refine Zc 1 rfl ?_
   refine Zg ?_
   exact Va (n, v70, (IntKind.wrap .i64 (v71 + 1))) (by repeat (first | exact Sub.nil | refine Sub.cons rfl ?_)) ⟨hS, H⟩ (Nat.lt_succ_self _)
  replace H := Zq H hb
  refine Zn [false, false, false, false, false, false, false, false, false, false, false, false, false, false, false, false, false, false, false, false, false, false, false, false, false, false, false, false, false, false, false, true, true, true, true, true, true, true, true, true, true, true, true, true] (by decide +kernel) PFC.h ?_
  refine LtK.put rfl rfl rfl (Ze Vm rfl) ?_
  refine LtK.put rfl rfl rfl (Zh Xt rfl (Zgz _) hS hs5 trivial Jz) ?_
  refine LtK.put rfl rfl rfl (Zs rfl) ?_
  obtain ⟨e90, hi92, H⟩ := bind_some H
  obtain ⟨j91, hi92a, hi92b, hi92c⟩ := Yw hi92
  refine LtK.put rfl rfl rfl (Y8 Xm rfl rfl hi92a hi92c (Rd.el (hS.row_rd hs8) Yl hi92b)) ?_
  refine LtK.put rfl rfl rfl (X1 Z0 rfl (Zgz _) (Rd.el (hS.row_rd hs8) Yl hi92b) rfl) ?_
  refine LtK.put rfl rfl rfl (Ze Vm rfl) ?_
  refine LtK.put rfl rfl rfl (Zh Xt rfl (Zgz _) hS hs11 trivial Jz) ?_
  refine LtK.put rfl rfl rfl (Zs rfl) ?_
  obtain ⟨e93, hi95, H⟩ := bind_some H
  obtain ⟨j94, hi95a, hi95b, hi95c⟩ := Yw hi95
  refine LtK.put rfl rfl rfl (Y8 Xm rfl rfl hi95a hi95c (Rd.el (hS.rd0 s2_.rd) Yl hi95b)) ?_
  refine LtK.put rfl rfl rfl (X1 Z0 rfl (Zgz _) (Rd.el (hS.rd0 s2_.rd) Yl hi95b) rfl) ?_
  refine LtK.put rfl rfl rfl (Y5 rfl rfl) ?_
  refine LtK.put rfl rfl rfl (Z3 rfl rfl rfl) ?_
  refine LtK.put rfl rfl rfl (Yj rfl rfl rfl) ?_
  refine LtK.nil ?_
  refine Z6 (by kernel_rfl) ?_
  refine Zb hK75 ?_
  refine Zz rfl (fun hb => ?_) (fun hb => ?_)
  rotate_left
  ·replace H := Zp H hb
   refine Zt ?_
   refine Z2 ?_
   refine Zb hK74 ?_
   refine Zf ?_
   refine Zc 1 rfl ?_
   refine Za rfl rfl rfl (Xf rfl rfl) ?_
   refine Zc 1 rfl ?_
   refine Zg ?_
   exact Va (n, v70, (IntKind.wrap .i64 (v71 + 1))) (by repeat (first | exact Sub.nil | refine Sub.cons rfl ?_)) ⟨hS, H⟩ (Nat.lt_succ_self _)
  replace H := Zq H hb
  refine Zd (fun K hK96 => ?_)
  refine Zf ?_
  refine Zc 1 rfl ?_
  refine Zg ?_
  refine Zb hK96 ?_
  refine Zk ?_
  refine Zv ?_
  refine Zj ?_
  refine Zj ?_
  refine Zv ?_
  refine Zj ?_
  refine Zl rfl (RV.tmp rfl RV.nil) rfl ?_
  obtain rfl := QJ H
  replace hS := hS.cut 0
  exact ⟨rfl, hS⟩
 replace H := Zp H hb
 refine Vj ?_
 refine Ya ?_
 refine Ya ?_
 refine Y3 ?_
 refine Zb hK68 ?_
 refine Zd (fun K hK97 => ?_)
 refine Zd (fun K hK98 => ?_)
 refine Zf ?_
 refine Zc 1 rfl ?_
 refine Zg ?_
 refine Zb hK98 ?_
 refine Yc ?_
 refine V0 (X := Nat × Bool × Int) (fun x => (1, .pointer (some ⟨b2, 0, none⟩)) :: (2, .bool x.2.1) :: (3, .pointer (some ⟨b34, 0, none⟩)) :: (4, .int .i64 r37) :: (6, .int .i64 x.2.2) :: []) (fun x w => St0 All w0 w (.row (.slice A45 r43.tuple.log.length c46) 56 3 r43.tuple.log.length (Yf Jv r43.tuple.log) :: .row (.slice A49 r43.votes.length c50) 4 1 r43.votes.length (Yf enO r43.votes) :: .row (.slice A53 r43.next.length c54) 3 1 r43.next.length (Yf V9 r43.next) :: .row (.slice A57 r43.mtch.length c58) 3 1 r43.mtch.length (Yf V9 r43.mtch) :: .row (.slice A61 r43.caps.length c62) 3 1 r43.caps.length (Yf V9 r43.caps) :: .box b34 [.int .i64 r12.id, .int .i64 r12.n, .int .u8 r12.role, .int .i64 r12.binary, .int .i64 r12.tuple.snap.index, .int .i64 r12.tuple.snap.term, .int .i64 r12.tuple.snap.sum, .int .i64 r12.tuple.snap.level, .bool r12.tuple.snap.final, .slice A14 r12.tuple.log.length c15, .int .i64 r12.tuple.term, .int .i64 r12.tuple.vote, .int .i64 r12.commit, .int .i64 r12.applied.index, .int .i64 r12.applied.term, .int .i64 r12.applied.sum, .int .i64 r12.applied.level, .bool r12.applied.final, .slice A18 r12.votes.length c19, .slice A22 r12.next.length c23, .slice A26 r12.mtch.length c27, .slice A30 r12.caps.length c31] 30 :: .row (.slice A14 r12.tuple.log.length c15) 56 3 r12.tuple.log.length (Yf Jv r12.tuple.log) :: .row (.slice A18 r12.votes.length c19) 4 1 r12.votes.length (Yf enO r12.votes) :: .row (.slice A22 r12.next.length c23) 3 1 r12.next.length (Yf V9 r12.next) :: .row (.slice A26 r12.mtch.length c27) 3 1 r12.mtch.length (Yf V9 r12.mtch) :: .row (.slice A30 r12.caps.length c31) 3 1 r12.caps.length (Yf V9 r12.caps) :: .box b2 [.int .i64 x0.id, .int .i64 x0.n, .int .u8 x0.role, .int .i64 x0.binary, .int .i64 x0.tuple.snap.index, .int .i64 x0.tuple.snap.term, .int .i64 x0.tuple.snap.sum, .int .i64 x0.tuple.snap.level, .bool x0.tuple.snap.final, .slice A0_ x0.tuple.log.length c0_, .int .i64 x0.tuple.term, .int .i64 x0.tuple.vote, .int .i64 x0.commit, .int .i64 x0.applied.index, .int .i64 x0.applied.term, .int .i64 x0.applied.sum, .int .i64 x0.applied.level, .bool x0.applied.final, .slice A1_ x0.votes.length c1_, .slice A2_ x0.next.length c2_, .slice A3_ x0.mtch.length c3_, .slice A4_ x0.caps.length c4_] 30 :: []) ∧ Vt x0 r12 r37 x.1 x.2.1 x.2.2 = some r) (fun x => x.1) (Xn, v70, 0) (by repeat (first | exact Sub.nil | refine Sub.cons rfl ?_)) ⟨hS, H⟩ ?_
 rintro ⟨n, v99, v100⟩ w ⟨hS, H⟩
 dsimp only at hS H ⊢
 obtain _ | n := n
 ·have H0 : none = some r := H
  cases H0
 rw [Vt] at H
 refine Zd (fun K hK101 => ?_)
 refine Zd (fun K hK102 => ?_)
 refine Zf ?_
 refine Zc 1 rfl ?_
 refine Za rfl rfl rfl (Ze V3 rfl) ?_
 refine Za rfl rfl rfl (Zh Xt rfl (Zgy _) hS hs11 trivial Zat) ?_
 refine Za rfl rfl rfl (Yu Xm rfl) ?_
 refine Za rfl rfl rfl (Xh rfl rfl) ?_
 refine Zg ?_
 refine Zb hK102 ?_
 refine Zz rfl (fun hb => ?_) (fun hb => ?_)
 rotate_left
 ·replace H := Zp H hb
  refine Vj ?_
  refine Ya ?_
  refine Ya ?_
  refine Y3 ?_
  refine Zb hK97 ?_
  refine Zd (fun K hK126 => ?_)
  refine Yg 8 [5, 7] (fun i b => (i = 5 → b ≠ b34) ∧ (i = 7 → b ≠ b34)) ⟨by kernel_rfl, by kernel_rfl⟩ hS (fun w hS hB => ?_)
  refine Zn [true, true, false, false, true] (by decide +kernel) PFC.h ?_
  refine LtK.put rfl rfl rfl (Ze Vm rfl) ?_
  refine LtK.put rfl rfl rfl (Zh Xt rfl (Zgz _) hS hs11 trivial Jz) ?_
  refine LtK.put rfl rfl rfl (Ze Vm rfl) ?_
  refine LtK.nil ?_
  refine Y2 [false, false, true, true] [5] (fun b => b ≠ b34) (by decide +kernel) (by intro j hj b hb; simp only [List.mem_cons, List.not_mem_nil, or_false] at hj; (try rcases hj with rfl | rfl | rfl | rfl | rfl) <;> first | (simp [hb]; done) | simp_all) PFC.h ?_
  refine LtK.put rfl rfl rfl (Ze V3 rfl) ?_
  refine LtK.put rfl rfl rfl (Zh Xt rfl (Zg0 _ _) hS hs11 (hS.ne 11 5 rfl rfl rfl) Zat) ?_
  refine LtK.nil ?_
  refine Yp [false, false, false, false, false, true] 5 ⟨by decide, by kernel_rfl, by kernel_rfl⟩ rfl rfl ?_
  try dsimp only [Zw]
  refine Zm rfl rfl rfl CellsOf.slice hS ps5 st19_1 (by kernel_rfl) rfl (fun w hS hB => ?_)
  refine Zg ?_
  refine Ye (hB.sub (fun _ _ h => by simpa using h)) ?_
  refine Zn [false, false, false, false, false, false, true] (by decide +kernel) PFC.h ?_
  refine LtK.put rfl rfl rfl (Ze V3 rfl) ?_
  refine LtK.nil ?_
  refine Yp [false, false, false, false, false, false, false, true] 7 ⟨by decide, by kernel_rfl, by kernel_rfl⟩ rfl rfl ?_
  try dsimp only [Zw]
  refine Zm rfl rfl rfl CellsOf.slice hS ps5 st20_1 (by kernel_rfl) rfl (fun w hS hB => ?_)
  refine Zg ?_
  refine Ye (hB.sub (fun _ _ h => by simpa using h)) ?_
  refine Z6 (by kernel_rfl) ?_
  refine Zb hK126 ?_
  refine Zd (fun K hK127 => ?_)
  refine Yg 18 [] (fun _ _ => True) ⟨by kernel_rfl, by kernel_rfl⟩ hS (fun w hS hB => ?_)
  refine Zn [true, true] (by decide +kernel) PFC.h ?_
  refine LtK.put rfl rfl rfl (Zi Yh rfl (Zgz _) hS hs5 trivial Z8) ?_
  refine LtK.put rfl rfl rfl (Zi Yh rfl (Zgz _) hS hs11 trivial Z8) ?_
  refine LtK.nil ?_
  refine Z4 [false, false, true] 2 ⟨by decide, by kernel_rfl, by kernel_rfl⟩ rfl rfl ?_
  try dsimp only [Zw]
  obtain ⟨r128, hm129, H⟩ := bind_some H
  refine Zo rfl rfl rfl rfl (by kernel_rfl) rfl (c_ref20_Same (⟨r12.id, r12.n, r12.role, r12.binary, r12.tuple, r12.commit, r12.applied, r12.votes, x0.next, x0.mtch, r12.caps⟩ : Co) x0 A14 c15 A18 c19 A2_ c2_ A3_ c3_ A30 c31 A0_ c0_ A1_ c1_ A2_ c2_ A3_ c3_ A4_ c4_ _ (Zg1 k16 (hS.row_rd hs6) (hS.row_blk hs6)) (Zg1 k20 (hS.row_rd hs7) (hS.row_blk hs7)) (Zg1 s2_.k (hS.rd0 s2_.rd) (hS.blk0 s2_.blk)) (Zg1 s3_.k (hS.rd0 s3_.rd) (hS.blk0 s3_.blk)) (Zg1 k32 (hS.row_rd Zei) (hS.row_blk Zei)) (Zg1 s0_.k (hS.rd0 s0_.rd) (hS.blk0 s0_.blk)) (Zg1 s1_.k (hS.rd0 s1_.rd) (hS.blk0 s1_.blk)) (Zg1 s2_.k (hS.rd0 s2_.rd) (hS.blk0 s2_.blk)) (Zg1 s3_.k (hS.rd0 s3_.rd) (hS.blk0 s3_.blk)) (Zg1 s4_.k (hS.rd0 s4_.rd) (hS.blk0 s4_.blk)) hm129) ?_
  rintro e w ⟨rfl, hN⟩; refine ⟨_, rfl, ?_⟩; obtain ⟨hB, hS⟩ := hS.jn hN
  refine Zg ?_
  refine Z7 hB ?_
  refine Zn [false, false, false, true] (by decide +kernel) PFC.h ?_
  refine LtK.put rfl rfl rfl (Zs rfl) ?_
  refine LtK.nil ?_
  refine Xl 147 rfl (fun hb => ?_) (fun hb => ?_)
  rotate_left
  ·replace H := Zp H hb
   refine Zn [false, false, false, false, true] (by decide +kernel) PFC.h ?_
   refine LtK.skip rfl rfl rfl ?_
   refine LtK.nil ?_
   refine Z4 [false, false, false, false, false, true] 5 ⟨by decide, by kernel_rfl, by kernel_rfl⟩ rfl rfl ?_
   try dsimp only [Zw]
   refine Xc rfl rfl rfl ?_
   refine Zg ?_
   refine Z7 (Below.refl _ _) ?_
   refine Zn [false, false, false, false, false, false, true, true, true, false, true] (by decide +kernel) PFC.h ?_
   refine LtK.skip rfl rfl rfl ?_
   refine LtK.skip rfl rfl rfl ?_
   refine LtK.skip rfl rfl rfl ?_
   refine LtK.skip rfl rfl rfl ?_
   refine LtK.nil ?_
   refine Z4 [false, false, false, false, false, false, false, false, false, true] 9 ⟨by decide, by kernel_rfl, by kernel_rfl⟩ rfl rfl ?_
   try dsimp only [Zw]
   refine Xc rfl rfl rfl ?_
   refine Zg ?_
   refine Z7 (Below.refl _ _) ?_
   refine Z4 [false, false, false, false, false, false, false, false, false, false, false, true] 11 ⟨by decide, by kernel_rfl, by kernel_rfl⟩ rfl rfl ?_
   try dsimp only [Zw]
   refine Xc rfl rfl rfl ?_
   refine Zg ?_
   refine Z7 (Below.refl _ _) ?_
   refine Zn [false, false, false, false, false, false, false, false, false, false, false, false, true, true, true] (by decide +kernel) PFC.h ?_
   refine LtK.skip rfl rfl rfl ?_
   refine LtK.put rfl rfl rfl (Yj rfl rfl rfl) ?_
   refine LtK.put rfl rfl rfl (Zs rfl) ?_
   refine LtK.nil ?_
   refine Z4 [false, false, false, false, false, false, false, false, false, false, false, false, false, false, false, true] 15 ⟨by decide, by kernel_rfl, by kernel_rfl⟩ rfl rfl ?_
   try dsimp only [Zw]
   refine Xc rfl rfl rfl ?_
   refine Zg ?_
   refine Z7 (Below.refl _ _) ?_
   refine Zn [false, false, false, false, false, false, false, false, false, false, false, false, false, false, false, false, true, true] (by decide +kernel) PFC.h ?_
   refine LtK.put rfl rfl rfl (Yj rfl rfl rfl) ?_
   refine LtK.put rfl rfl rfl (Zy rfl) ?_
   refine LtK.nil ?_
   refine Z6 (by kernel_rfl) ?_
   refine Zb hK127 ?_
   refine Zk ?_
   refine Zl rfl (RV.tmp rfl RV.nil) rfl ?_
   obtain rfl := QJ H
   replace hS := hS.cut 0
   exact ⟨rfl, hS⟩
  replace H := Zq H hb
  refine Zn [false, false, false, false, true] (by decide +kernel) PFC.h ?_
  refine LtK.put rfl rfl rfl (Zi Yh rfl (Zgz _) hS hs11 trivial Z8) ?_
  refine LtK.nil ?_
  refine Z4 [false, false, false, false, false, true] 5 ⟨by decide, by kernel_rfl, by kernel_rfl⟩ rfl rfl ?_
  try dsimp only [Zw]
  obtain ⟨r130, hm131, H⟩ := bind_some H
  refine Zo rfl rfl rfl rfl (by kernel_rfl) rfl (c_ref20_Right x0 A0_ c0_ A1_ c1_ A2_ c2_ A3_ c3_ A4_ c4_ _ (Zg1 s0_.k (hS.rd0 s0_.rd) (hS.blk0 s0_.blk)) (Zg1 s1_.k (hS.rd0 s1_.rd) (hS.blk0 s1_.blk)) (Zg1 s2_.k (hS.rd0 s2_.rd) (hS.blk0 s2_.blk)) (Zg1 s3_.k (hS.rd0 s3_.rd) (hS.blk0 s3_.blk)) (Zg1 s4_.k (hS.rd0 s4_.rd) (hS.blk0 s4_.blk)) hm131) ?_
  rintro e w ⟨rfl, hN⟩; refine ⟨_, rfl, ?_⟩; obtain ⟨hB, hS⟩ := hS.jn hN
  refine Zg ?_
  refine Z7 hB ?_
  refine Zn [false, false, false, false, false, false, true, true] (by decide +kernel) PFC.h ?_
  refine LtK.put rfl rfl rfl (Yt rfl) ?_
  refine LtK.put rfl rfl rfl (Zs rfl) ?_
  refine LtK.nil ?_
  refine Xl 151 rfl (fun hb => ?_) (fun hb => ?_)
  ·replace H := Zq H hb
   refine Zn [false, false, false, false, false, false, false, false, true, false, true] (by decide +kernel) PFC.h ?_
   refine LtK.skip rfl rfl rfl ?_
   refine LtK.skip rfl rfl rfl ?_
   refine LtK.nil ?_
   refine Z4 [false, false, false, false, false, false, false, false, false, true] 9 ⟨by decide, by kernel_rfl, by kernel_rfl⟩ rfl rfl ?_
   try dsimp only [Zw]
   refine Xc rfl rfl rfl ?_
   refine Zg ?_
   refine Z7 (Below.refl _ _) ?_
   refine Z4 [false, false, false, false, false, false, false, false, false, false, false, true] 11 ⟨by decide, by kernel_rfl, by kernel_rfl⟩ rfl rfl ?_
   try dsimp only [Zw]
   refine Xc rfl rfl rfl ?_
   refine Zg ?_
   refine Z7 (Below.refl _ _) ?_
   refine Zn [false, false, false, false, false, false, false, false, false, false, false, false, true, true, true] (by decide +kernel) PFC.h ?_
   refine LtK.put rfl rfl rfl (Z3 rfl rfl rfl) ?_
   refine LtK.put rfl rfl rfl (Z3 rfl rfl rfl) ?_
   refine LtK.put rfl rfl rfl (Zs rfl) ?_
   refine LtK.nil ?_
   refine Z4 [false, false, false, false, false, false, false, false, false, false, false, false, false, false, false, true] 15 ⟨by decide, by kernel_rfl, by kernel_rfl⟩ rfl rfl ?_
   try dsimp only [Zw]
   obtain ⟨r132, hm133, H⟩ := bind_some H
   refine Zo rfl rfl rfl rfl (by kernel_rfl) rfl (Vg _ hm133) ?_
   rintro e w ⟨rfl, hN⟩; refine ⟨_, rfl, ?_⟩; obtain ⟨hB, hS⟩ := hS.jn hN
   refine Zg ?_
   refine Z7 hB ?_
   refine Zn [false, false, false, false, false, false, false, false, false, false, false, false, false, false, false, false, true, true] (by decide +kernel) PFC.h ?_
   refine LtK.put rfl rfl rfl (Z3 rfl rfl rfl) ?_
   refine LtK.put rfl rfl rfl (Zy rfl) ?_
   refine LtK.nil ?_
   refine Z6 (by kernel_rfl) ?_
   refine Zb hK127 ?_
   refine Zk ?_
   refine Zl rfl (RV.tmp rfl RV.nil) rfl ?_
   obtain rfl := QJ H
   replace hS := hS.cut 0
   exact ⟨rfl, hS⟩
  replace H := Zp H hb
  refine Zn [false, false, false, false, false, false, false, false, true, false, true] (by decide +kernel) PFC.h ?_
  refine LtK.put rfl rfl rfl (Zi Yh rfl (Zgz _) hS hs11 trivial Z8) ?_
  refine LtK.put rfl rfl rfl (Zi Yh rfl (Zgz _) hS hs11 trivial Z8) ?_
  refine LtK.nil ?_
  refine Z4 [false, false, false, false, false, false, false, false, false, true] 9 ⟨by decide, by kernel_rfl, by kernel_rfl⟩ rfl rfl ?_
  try dsimp only [Zw]
  obtain ⟨r134, hm135, H⟩ := bind_some H
  refine Zo rfl rfl rfl rfl (by kernel_rfl) rfl (Zbr x0 A0_ c0_ A1_ c1_ A2_ c2_ A3_ c3_ A4_ c4_ _ (Zg1 s0_.k (hS.rd0 s0_.rd) (hS.blk0 s0_.blk)) (Zg1 s1_.k (hS.rd0 s1_.rd) (hS.blk0 s1_.blk)) (Zg1 s2_.k (hS.rd0 s2_.rd) (hS.blk0 s2_.blk)) (Zg1 s3_.k (hS.rd0 s3_.rd) (hS.blk0 s3_.blk)) (Zg1 s4_.k (hS.rd0 s4_.rd) (hS.blk0 s4_.blk)) hm135) ?_
  rintro e w ⟨A136, c137, A140, c141, A144, c145, A148, c149, A152, c153, rfl, k138, k142, k146, k150, k154, hN⟩; refine ⟨_, rfl, ?_⟩; obtain ⟨hB, hS⟩ := hS.jn hN
  refine Zg ?_
  refine Z7 hB ?_
  refine Z4 [false, false, false, false, false, false, false, false, false, false, false, true] 11 ⟨by decide, by kernel_rfl, by kernel_rfl⟩ rfl rfl ?_
  try dsimp only [Zw]
  obtain ⟨r156, hm157, H⟩ := bind_some H
  refine Zo rfl rfl rfl rfl (by kernel_rfl) rfl (c_ref20_Same r134 x0 A136 c137 A140 c141 A144 c145 A148 c149 A152 c153 A0_ c0_ A1_ c1_ A2_ c2_ A3_ c3_ A4_ c4_ _ (Zg1 k138 (hS.row_rd hs0) (hS.row_blk hs0)) (Zg1 k142 (hS.row_rd Xr) (hS.row_blk Xr)) (Zg1 k146 (hS.row_rd X0) (hS.row_blk X0)) (Zg1 k150 (hS.row_rd hs3) (hS.row_blk hs3)) (Zg1 k154 (hS.row_rd hs4) (hS.row_blk hs4)) (Zg1 s0_.k (hS.rd0 s0_.rd) (hS.blk0 s0_.blk)) (Zg1 s1_.k (hS.rd0 s1_.rd) (hS.blk0 s1_.blk)) (Zg1 s2_.k (hS.rd0 s2_.rd) (hS.blk0 s2_.blk)) (Zg1 s3_.k (hS.rd0 s3_.rd) (hS.blk0 s3_.blk)) (Zg1 s4_.k (hS.rd0 s4_.rd) (hS.blk0 s4_.blk)) hm157) ?_
  rintro e w ⟨rfl, hN⟩; refine ⟨_, rfl, ?_⟩; obtain ⟨hB, hS⟩ := hS.jn hN
  refine Zg ?_
  refine Z7 hB ?_
  refine Zn [false, false, false, false, false, false, false, false, false, false, false, false, true, true, true] (by decide +kernel) PFC.h ?_
  refine LtK.put rfl rfl rfl (Yj rfl rfl rfl) ?_
  refine LtK.put rfl rfl rfl (Z3 rfl rfl rfl) ?_
  refine LtK.put rfl rfl rfl (Zs rfl) ?_
  refine LtK.nil ?_
  refine Xl 158 rfl (fun hb => ?_) (fun hb => ?_)
  rotate_left
  ·replace H := Zp H hb
   refine Z4 [false, false, false, false, false, false, false, false, false, false, false, false, false, false, false, true] 15 ⟨by decide, by kernel_rfl, by kernel_rfl⟩ rfl rfl ?_
   try dsimp only [Zw]
   refine Xc rfl rfl rfl ?_
   refine Zg ?_
   refine Z7 (Below.refl _ _) ?_
   refine Zn [false, false, false, false, false, false, false, false, false, false, false, false, false, false, false, false, true, true] (by decide +kernel) PFC.h ?_
   refine LtK.put rfl rfl rfl (Yj rfl rfl rfl) ?_
   refine LtK.put rfl rfl rfl (Zy rfl) ?_
   refine LtK.nil ?_
   refine Z6 (by kernel_rfl) ?_
   refine Zb hK127 ?_
   refine Zk ?_
   refine Zl rfl (RV.tmp rfl RV.nil) rfl ?_
   obtain rfl := QJ H
   replace hS := hS.cut 0
   exact ⟨rfl, hS⟩
  replace H := Zq H hb
  refine Z4 [false, false, false, false, false, false, false, false, false, false, false, false, false, false, false, true] 15 ⟨by decide, by kernel_rfl, by kernel_rfl⟩ rfl rfl ?_
  try dsimp only [Zw]
  obtain ⟨r158, hm159, H⟩ := bind_some H
  refine Zo rfl rfl rfl rfl (by kernel_rfl) rfl (Vg _ hm159) ?_
  rintro e w ⟨rfl, hN⟩; refine ⟨_, rfl, ?_⟩; obtain ⟨hB, hS⟩ := hS.jn hN
  refine Zg ?_
  refine Z7 hB ?_
  refine Zn [false, false, false, false, false, false, false, false, false, false, false, false, false, false, false, false, true, true] (by decide +kernel) PFC.h ?_
  refine LtK.put rfl rfl rfl (Z3 rfl rfl rfl) ?_
  refine LtK.put rfl rfl rfl (Zy rfl) ?_
  refine LtK.nil ?_
  refine Z6 (by kernel_rfl) ?_
  refine Zb hK127 ?_
  refine Zk ?_
  refine Zl rfl (RV.tmp rfl RV.nil) rfl ?_
  obtain rfl := QJ H
  replace hS := hS.cut 0
  exact ⟨rfl, hS⟩
 replace H := Zq H hb
 refine Zt ?_
 refine Zb hK101 ?_
 refine Zd (fun K hK103 => ?_)
 refine Yc ?_
 refine Zd (fun K hK104 => ?_)
 refine Yg 42 [] (fun _ _ => True) ⟨by kernel_rfl, by kernel_rfl⟩ hS (fun w hS hB => ?_)
 refine Zn [true, true, true, true, true, true, true, true] (by decide +kernel) PFC.h ?_
 refine LtK.put rfl rfl rfl (Ze V3 rfl) ?_
 refine LtK.put rfl rfl rfl (Zh Xt rfl (Zgz _) hS hs5 trivial Zat) ?_
 refine LtK.put rfl rfl rfl (Zs rfl) ?_
 obtain ⟨e105, hi107, H⟩ := bind_some H
 obtain ⟨j106, hi107a, hi107b, hi107c⟩ := Yw hi107
 refine LtK.put rfl rfl rfl (Y8 Xm rfl rfl hi107a hi107c (Rd.el (hS.row_rd hs9) Yl hi107b)) ?_
 refine LtK.put rfl rfl rfl (X1 Z0 rfl (Zgz _) (Rd.el (hS.row_rd hs9) Yl hi107b) rfl) ?_
 refine LtK.put rfl rfl rfl (Zs rfl) ?_
 refine LtK.put rfl rfl rfl (Xa rfl rfl) ?_
 refine LtK.put rfl rfl rfl (Zs rfl) ?_
 refine LtK.nil ?_
 refine Xl 103 rfl (fun hb => ?_) (fun hb => ?_)
 ·replace H := Zq H hb
  refine Zn [false, false, false, false, false, false, false, false, true, true, true, true, true, true, true, true, true, true, true, true, true, true, true, true, true, true, true, true, true, true, true, true, true, true, true, true, true, true, true, true, true, true] (by decide +kernel) PFC.h ?_
  refine LtK.skip rfl rfl rfl ?_
  refine LtK.skip rfl rfl rfl ?_
  refine LtK.skip rfl rfl rfl ?_
  refine LtK.skip rfl rfl rfl ?_
  refine LtK.skip rfl rfl rfl ?_
  refine LtK.skip rfl rfl rfl ?_
  refine LtK.skip rfl rfl rfl ?_
  refine LtK.skip rfl rfl rfl ?_
  refine LtK.skip rfl rfl rfl ?_
  refine LtK.skip rfl rfl rfl ?_
  refine LtK.skip rfl rfl rfl ?_
  refine LtK.put rfl rfl rfl (Z3 rfl rfl rfl) ?_
  refine LtK.put rfl rfl rfl (Zs rfl) ?_
  refine LtK.skip rfl rfl rfl ?_
  refine LtK.skip rfl rfl rfl ?_
  refine LtK.skip rfl rfl rfl ?_
  refine LtK.skip rfl rfl rfl ?_
  refine LtK.skip rfl rfl rfl ?_
  refine LtK.skip rfl rfl rfl ?_
  refine LtK.skip rfl rfl rfl ?_
  refine LtK.skip rfl rfl rfl ?_
  refine LtK.skip rfl rfl rfl ?_
  refine LtK.skip rfl rfl rfl ?_
  refine LtK.skip rfl rfl rfl ?_
  refine LtK.skip rfl rfl rfl ?_
  refine LtK.skip rfl rfl rfl ?_
  refine LtK.skip rfl rfl rfl ?_
  refine LtK.skip rfl rfl rfl ?_
  refine LtK.skip rfl rfl rfl ?_
  refine LtK.skip rfl rfl rfl ?_
  refine LtK.skip rfl rfl rfl ?_
  refine LtK.skip rfl rfl rfl ?_
  refine LtK.skip rfl rfl rfl ?_
  refine LtK.put rfl rfl rfl (Z3 rfl rfl rfl) ?_
  refine LtK.nil ?_
  refine Z6 (by kernel_rfl) ?_
  refine Zb hK104 ?_
  refine Zr rfl rfl ?_
  refine Zd (fun K hK108 => ?_)
  refine Zf ?_
  refine Zc 1 rfl ?_
  refine Zg ?_
  refine Zb hK108 ?_
  refine Zk ?_
  refine Zv ?_
  refine Zj ?_
  refine Zj ?_
  refine Zv ?_
  refine Zj ?_
  refine Zl rfl (RV.tmp rfl RV.nil) rfl ?_
  obtain rfl := QJ H
  replace hS := hS.cut 0
  exact ⟨rfl, hS⟩
 replace H := Zp H hb
 refine Zn [false, false, false, false, false, false, false, false, true, true, true, true, true, true, true, true, true, true, true, true, true] (by decide +kernel) PFC.h ?_
 refine LtK.put rfl rfl rfl (Ze V3 rfl) ?_
 refine LtK.put rfl rfl rfl (Zh Xt rfl (Zgz _) hS hs5 trivial Zat) ?_
 refine LtK.put rfl rfl rfl (Zs rfl) ?_
 obtain ⟨e109, hi111, H⟩ := bind_some H
 obtain ⟨j110, hi111a, hi111b, hi111c⟩ := Yw hi111
 refine LtK.put rfl rfl rfl (Y8 Xm rfl rfl hi111a hi111c (Rd.el (hS.row_rd hs9) Yl hi111b)) ?_
 refine LtK.put rfl rfl rfl (X1 Z0 rfl (Zgz _) (Rd.el (hS.row_rd hs9) Yl hi111b) rfl) ?_
 refine LtK.put rfl rfl rfl (Ze V3 rfl) ?_
 refine LtK.put rfl rfl rfl (Zh Xt rfl (Zgz _) hS hs11 trivial Zat) ?_
 refine LtK.put rfl rfl rfl (Zs rfl) ?_
 obtain ⟨e112, hi114, H⟩ := bind_some H
 obtain ⟨j113, hi114a, hi114b, hi114c⟩ := Yw hi114
 refine LtK.put rfl rfl rfl (Y8 Xm rfl rfl hi114a hi114c (Rd.el (hS.rd0 s3_.rd) Yl hi114b)) ?_
 refine LtK.put rfl rfl rfl (X1 Z0 rfl (Zgz _) (Rd.el (hS.rd0 s3_.rd) Yl hi114b) rfl) ?_
 refine LtK.put rfl rfl rfl (Xa rfl rfl) ?_
 refine LtK.put rfl rfl rfl (Yj rfl rfl rfl) ?_
 refine LtK.put rfl rfl rfl (Zs rfl) ?_
 refine LtK.nil ?_
 refine Xl 116 rfl (fun hb => ?_) (fun hb => ?_)
 ·replace H := Zq H hb
  refine Zn [false, false, false, false, false, false, false, false, false, false, false, false, false, false, false, false, false, false, false, false, false, true, true, true, true, true, true, true, true, true, true, true, true, true, true, true, true, true, true, true, true, true] (by decide +kernel) PFC.h ?_
  refine LtK.skip rfl rfl rfl ?_
  refine LtK.skip rfl rfl rfl ?_
  refine LtK.skip rfl rfl rfl ?_
  refine LtK.skip rfl rfl rfl ?_
  refine LtK.skip rfl rfl rfl ?_
  refine LtK.skip rfl rfl rfl ?_
  refine LtK.skip rfl rfl rfl ?_
  refine LtK.skip rfl rfl rfl ?_
  refine LtK.skip rfl rfl rfl ?_
  refine LtK.skip rfl rfl rfl ?_
  refine LtK.skip rfl rfl rfl ?_
  refine LtK.skip rfl rfl rfl ?_
  refine LtK.skip rfl rfl rfl ?_
  refine LtK.skip rfl rfl rfl ?_
  refine LtK.skip rfl rfl rfl ?_
  refine LtK.skip rfl rfl rfl ?_
  refine LtK.skip rfl rfl rfl ?_
  refine LtK.skip rfl rfl rfl ?_
  refine LtK.skip rfl rfl rfl ?_
  refine LtK.skip rfl rfl rfl ?_
  refine LtK.put rfl rfl rfl (Z3 rfl rfl rfl) ?_
  refine LtK.nil ?_
  refine Z6 (by kernel_rfl) ?_
  refine Zb hK104 ?_
  refine Zr rfl rfl ?_
  refine Zd (fun K hK115 => ?_)
  refine Zf ?_
  refine Zc 1 rfl ?_
  refine Zg ?_
  refine Zb hK115 ?_
  refine Zk ?_
  refine Zv ?_
  refine Zj ?_
  refine Zj ?_
  refine Zv ?_
  refine Zj ?_
  refine Zl rfl (RV.tmp rfl RV.nil) rfl ?_
  obtain rfl := QJ H
  replace hS := hS.cut 0
  exact ⟨rfl, hS⟩
 replace H := Zp H hb
 refine Zn [false, false, false, false, false, false, false, false, false, false, false, false, false, false, false, false, false, false, false, false, false, true, true, true, true, true, true, true, true] (by decide +kernel) PFC.h ?_
 refine LtK.put rfl rfl rfl (Ze V3 rfl) ?_
 refine LtK.put rfl rfl rfl (Zh Xt rfl (Zgz _) hS hs11 trivial Zat) ?_
 refine LtK.put rfl rfl rfl (Zs rfl) ?_
 obtain ⟨e116, hi118, H⟩ := bind_some H
 obtain ⟨j117, hi118a, hi118b, hi118c⟩ := Yw hi118
 refine LtK.put rfl rfl rfl (Y8 Xm rfl rfl hi118a hi118c (Rd.el (hS.rd0 s3_.rd) Yl hi118b)) ?_
 refine LtK.put rfl rfl rfl (X1 Z0 rfl (Zgz _) (Rd.el (hS.rd0 s3_.rd) Yl hi118b) rfl) ?_
 refine LtK.put rfl rfl rfl (Zs rfl) ?_
 refine LtK.put rfl rfl rfl (Zah rfl rfl) ?_
 refine LtK.put rfl rfl rfl (Zs rfl) ?_
 refine LtK.nil ?_
 refine Xl 124 rfl (fun hb => ?_) (fun hb => ?_)
 rotate_left
 ·replace H := Zp H hb
  refine Zn [false, false, false, false, false, false, false, false, false, false, false, false, false, false, false, false, false, false, false, false, false, false, false, false, false, false, false, false, false, true, true, true, true, true, true, true, true, true, true, true, true, true] (by decide +kernel) PFC.h ?_
  refine LtK.skip rfl rfl rfl ?_
  refine LtK.skip rfl rfl rfl ?_
  refine LtK.skip rfl rfl rfl ?_
  refine LtK.skip rfl rfl rfl ?_
  refine LtK.skip rfl rfl rfl ?_
  refine LtK.skip rfl rfl rfl ?_
  refine LtK.skip rfl rfl rfl ?_
  refine LtK.skip rfl rfl rfl ?_
  refine LtK.skip rfl rfl rfl ?_
  refine LtK.skip rfl rfl rfl ?_
  refine LtK.skip rfl rfl rfl ?_
  refine LtK.put rfl rfl rfl (Yj rfl rfl rfl) ?_
  refine LtK.put rfl rfl rfl (Yj rfl rfl rfl) ?_
  refine LtK.nil ?_
  refine Z6 (by kernel_rfl) ?_
  refine Zb hK104 ?_
  refine Yo rfl rfl ?_
  refine Zt ?_
  refine Z2 ?_
  refine Zb hK103 ?_
  refine Zf ?_
  refine Zc 1 rfl ?_
  refine Za rfl rfl rfl (Xf rfl rfl) ?_
  refine Zc 1 rfl ?_
  refine Zg ?_
  exact Va (n, v99, (IntKind.wrap .i64 (v100 + 1))) (by repeat (first | exact Sub.nil | refine Sub.cons rfl ?_)) ⟨hS, H⟩ (Nat.lt_succ_self _)
 replace H := Zq H hb
 refine Zn [false, false, false, false, false, false, false, false, false, false, false, false, false, false, false, false, false, false, false, false, false, false, false, false, false, false, false, false, false, true, true, true, true, true, true, true, true, true, true, true, true, true] (by decide +kernel) PFC.h ?_
 refine LtK.put rfl rfl rfl (Ze V3 rfl) ?_
 refine LtK.put rfl rfl rfl (Zh Xt rfl (Zgz _) hS hs5 trivial Zat) ?_
 refine LtK.put rfl rfl rfl (Zs rfl) ?_
 obtain ⟨e119, hi121, H⟩ := bind_some H
 obtain ⟨j120, hi121a, hi121b, hi121c⟩ := Yw hi121
 refine LtK.put rfl rfl rfl (Y8 Xm rfl rfl hi121a hi121c (Rd.el (hS.row_rd hs9) Yl hi121b)) ?_
 refine LtK.put rfl rfl rfl (X1 Z0 rfl (Zgz _) (Rd.el (hS.row_rd hs9) Yl hi121b) rfl) ?_
 refine LtK.put rfl rfl rfl (Ze V3 rfl) ?_
 refine LtK.put rfl rfl rfl (Zh Xt rfl (Zgz _) hS hs11 trivial Zat) ?_
 refine LtK.put rfl rfl rfl (Zs rfl) ?_
 obtain ⟨e122, hi124, H⟩ := bind_some H
 obtain ⟨j123, hi124a, hi124b, hi124c⟩ := Yw hi124
 refine LtK.put rfl rfl rfl (Y8 Xm rfl rfl hi124a hi124c (Rd.el (hS.rd0 s3_.rd) Yl hi124b)) ?_
 refine LtK.put rfl rfl rfl (X1 Z0 rfl (Zgz _) (Rd.el (hS.rd0 s3_.rd) Yl hi124b) rfl) ?_
 refine LtK.put rfl rfl rfl (Y5 rfl rfl) ?_
 refine LtK.put rfl rfl rfl (Z3 rfl rfl rfl) ?_
 refine LtK.put rfl rfl rfl (Yj rfl rfl rfl) ?_
 refine LtK.nil ?_
 refine Z6 (by kernel_rfl) ?_
 refine Zb hK104 ?_
 refine Zz rfl (fun hb => ?_) (fun hb => ?_)
 rotate_left
 ·replace H := Zp H hb
  refine Zt ?_
  refine Z2 ?_
  refine Zb hK103 ?_
  refine Zf ?_
  refine Zc 1 rfl ?_
  refine Za rfl rfl rfl (Xf rfl rfl) ?_
  refine Zc 1 rfl ?_
  refine Zg ?_
  exact Va (n, v99, (IntKind.wrap .i64 (v100 + 1))) (by repeat (first | exact Sub.nil | refine Sub.cons rfl ?_)) ⟨hS, H⟩ (Nat.lt_succ_self _)
 replace H := Zq H hb
 refine Zd (fun K hK125 => ?_)
 refine Zf ?_
 refine Zc 1 rfl ?_
 refine Zg ?_
 refine Zb hK125 ?_
 refine Zk ?_
 refine Zv ?_
 refine Zj ?_
 refine Zj ?_
 refine Zv ?_
 refine Zj ?_
 refine Zl rfl (RV.tmp rfl RV.nil) rfl ?_
 obtain rfl := QJ H
 replace hS := hS.cut 0
 exact ⟨rfl, hS⟩
end Go.Proofs.Ytamjlcaoieliaaa
