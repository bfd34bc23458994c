/- Texts of one claim put together. -/
import Derived.Test.YtamjlcaoieliaaaMr1
import Derived.Test.YtamjlcaoieliaaaMr2
namespace Go.Proofs.Ytamjlcaoieliaaa
open Go Go.RowKit
set_option maxRecDepth 100000
set_option maxHeartbeats 4000000
theorem c_ref12_Great (x0 : Tu) (A0_ : OA) (c0_ : Nat) (w0 : World) (s0_ : SlI w0 enE A0_ c0_ x0.log) {r : Bool} (H : Zcx x0 = some r) : Calls Try.prog 32 #[.agg #[.int .i64 x0.snap.index, .int .i64 x0.snap.term, .int .i64 x0.snap.sum, .int .i64 x0.snap.level, .bool x0.snap.final, .slice A0_ x0.log.length c0_, .int .i64 x0.term, .int .i64 x0.vote]] w0 fun e w' => e = .returned (.bool r) ∧ St0 All w0 w' [] := by
 unfold Zcx at H
 refine Yp Try.func32 rfl Try.ntmps32 rfl ?_
 have hS := St0.start All w0
 refine Zf (fun K hK1 => Zg (Yq rfl rfl rfl CellsOf.agg hS (fun b2 w hS hB => Zb 1 rfl (Zh (Zd hK1 (Zf (fun K hK4 => Zg ?_)))))))
 refine Za rfl rfl rfl (Zc Yg rfl) (Za rfl rfl rfl (Zi Y6 rfl (Zgf _) hS hs0 trivial Zes) (Za rfl rfl rfl (Yb Y1 rfl) (Za rfl rfl rfl (Y8 rfl rfl) (Zb 1 rfl (Zh (Zd hK4 (Zl ?_)))))))
 refine Zm rfl (RV.tmp rfl RV.nil) rfl ?_
 obtain rfl := QJ H
 replace hS := hS.cut 0
 exact ⟨rfl, hS⟩
theorem c_ref20_Great (x0 : Co) (A0_ : OA) (c0_ : Nat) (A1_ : OA) (c1_ : Nat) (A2_ : OA) (c2_ : Nat) (A3_ : OA) (c3_ : Nat) (A4_ : OA) (c4_ : Nat) (w0 : World) (s0_ : SlI w0 enE A0_ c0_ x0.tuple.log) (s1_ : SlI w0 enO A1_ c1_ x0.votes) (s2_ : SlI w0 Vr A2_ c2_ x0.next) (s3_ : SlI w0 Vr A3_ c3_ x0.mtch) (s4_ : SlI w0 Vr A4_ c4_ x0.caps) {r : Bool} (H : Zba x0 = some r) : Calls Try.prog 9 #[.agg #[.int .i64 x0.id, .int .i64 x0.n, .int .u8 x0.role, .int .i64 x0.binary, .int .i64 x0.tuple.snap.index, .int .i64 x0.tuple.snap.term, .int .i64 x0.tuple.snap.sum, .int .i64 x0.tuple.snap.level, .bool x0.tuple.snap.final, .slice A0_ x0.tuple.log.length c0_, .int .i64 x0.tuple.term, .int .i64 x0.tuple.vote, .int .i64 x0.commit, .int .i64 x0.applied.index, .int .i64 x0.applied.term, .int .i64 x0.applied.sum, .int .i64 x0.applied.level, .bool x0.applied.final, .slice A1_ x0.votes.length c1_, .slice A2_ x0.next.length c2_, .slice A3_ x0.mtch.length c3_, .slice A4_ x0.caps.length c4_]] w0 fun e w' => e = .returned (.bool r) ∧ St0 All w0 w' [] := by
 unfold Zba at H
 refine Yp Try.func9 rfl Try.ntmps9 rfl ?_
 have hS := St0.start All w0
 refine Zf (fun K hK1 => Zg (Yq rfl rfl rfl CellsOf.agg hS (fun b2 w hS hB => Zb 1 rfl (Zh (Zd hK1 (Zf (fun K hK4 => Zg ?_)))))))
 refine Za rfl rfl rfl (Zc Zz rfl) (Za rfl rfl rfl (Zk V2 rfl (Zgf _) hS hs0 trivial Ze8) ?_)
 obtain ⟨r5, hm6, H⟩ := bind_some H
 refine Zt rfl rfl rfl rfl (by kernel_rfl) rfl (c_ref12_Great x0.tuple A0_ c0_ _ (Zgi s0_.k (hS.rd0 s0_.rd) (hS.blk0 s0_.blk)) hm6) ?_
 rintro e w ⟨rfl, hN⟩; refine ⟨_, rfl, ?_⟩; obtain ⟨hB, hS⟩ := hS.jn hN
 refine Zb 1 rfl (Zs 6 rfl (fun hb => ?_) (fun hb => ?_))
 ·replace H := Zp H hb
  refine Zb 38 rfl (Zh (Zd hK4 (Zl (Zm rfl (RV.tmp rfl RV.nil) rfl ?_))))
  obtain rfl := QJ H
  replace hS := hS.cut 0
  exact ⟨rfl, hS⟩
 replace H := Zq H hb
 refine Za rfl rfl rfl (Zc Zaq rfl) (Za rfl rfl rfl (Zi Zf9 rfl (Zgf _) hS hs0 trivial Zeq) (Za rfl rfl rfl (Yb Zff rfl) (Za rfl rfl rfl (Y8 rfl rfl) (Zb 2 rfl (Zs 12 rfl (fun hb => ?_) (fun hb => ?_))))))
 ·replace H := Zp H hb
  refine Zb 32 rfl (Zh (Zd hK4 (Zl (Zm rfl (RV.tmp rfl RV.nil) rfl ?_))))
  obtain rfl := QJ H
  replace hS := hS.cut 0
  exact ⟨rfl, hS⟩
 replace H := Zq H hb
 refine Za rfl rfl rfl (Zc Zea rfl) (Za rfl rfl rfl (Zi Zat rfl (Zgf _) hS hs0 trivial sg19_1) (Za rfl rfl rfl (Yb Jy rfl) (Za rfl rfl rfl (Y8 rfl rfl) (Zb 2 rfl (Zs 18 rfl (fun hb => ?_) (fun hb => ?_))))))
 ·replace H := Zp H hb
  refine Zb 26 rfl (Zh (Zd hK4 (Zl (Zm rfl (RV.tmp rfl RV.nil) rfl ?_))))
  obtain rfl := QJ H
  replace hS := hS.cut 0
  exact ⟨rfl, hS⟩
 replace H := Zq H hb
 refine Za rfl rfl rfl (Zc Zdm rfl) (Za rfl rfl rfl (Zi Zat rfl (Zgf _) hS hs0 trivial sg20_1) (Za rfl rfl rfl (Yb Jy rfl) (Za rfl rfl rfl (Y8 rfl rfl) (Zb 2 rfl (Zs 24 rfl (fun hb => ?_) (fun hb => ?_))))))
 ·replace H := Zp H hb
  refine Zb 20 rfl (Zh (Zd hK4 (Zl (Zm rfl (RV.tmp rfl RV.nil) rfl ?_))))
  obtain rfl := QJ H
  replace hS := hS.cut 0
  exact ⟨rfl, hS⟩
 replace H := Zq H hb
 refine Za rfl rfl rfl (Zc Zam rfl) (Za rfl rfl rfl (Zi Zat rfl (Zgf _) hS hs0 trivial Zdy) (Za rfl rfl rfl (Yb Jy rfl) (Za rfl rfl rfl (Y8 rfl rfl) (Zb 2 rfl (Zs 30 rfl (fun hb => ?_) (fun hb => ?_))))))
 ·replace H := Zp H hb
  refine Zb 14 rfl (Zh (Zd hK4 (Zl (Zm rfl (RV.tmp rfl RV.nil) rfl ?_))))
  obtain rfl := QJ H
  replace hS := hS.cut 0
  exact ⟨rfl, hS⟩
 replace H := Zq H hb
 refine Za rfl rfl rfl (Zc Zz rfl) (Za rfl rfl rfl (Zc Xe rfl) (Za rfl rfl rfl (Zc Ys rfl) (Za rfl rfl rfl (Zi Zy rfl (Zgf _) hS hs0 trivial sg4_1) (Za rfl rfl rfl (Y8 rfl rfl) (Zb 2 rfl (Zs 37 rfl (fun hb => ?_) (fun hb => ?_)))))))
 ·replace H := Zp H hb
  refine Zb 7 rfl (Zh (Zd hK4 (Zl (Zm rfl (RV.tmp rfl RV.nil) rfl ?_))))
  obtain rfl := QJ H
  replace hS := hS.cut 0
  exact ⟨rfl, hS⟩
 replace H := Zq H hb
 refine Za rfl rfl rfl (Zc Zz rfl) (Za rfl rfl rfl (Zc Xe rfl) (Za rfl rfl rfl (Zc Ys rfl) (Za rfl rfl rfl (Zi Zy rfl (Zgf _) hS hs0 trivial sg4_1) (Za rfl rfl rfl (Y4 rfl rfl) (Zb 2 rfl (Zh (Zd hK4 ?_)))))))
 refine Zl (Zm rfl (RV.tmp rfl RV.nil) rfl ?_)
 obtain rfl := QJ H
 replace hS := hS.cut 0
 exact ⟨rfl, hS⟩
theorem Zce (x0 : Int) (w0 : World) {r : Bool} (H : Jo x0 = some r) : Calls Try.prog 69 #[.int .i64 x0] w0 fun e w' => e = .returned (.bool r) ∧ St0 All w0 w' [] := by
 unfold Jo at H
 refine Yp Try.func69 rfl Try.ntmps69 rfl ?_
 have hS := St0.start All w0
 refine Zf (fun K hK1 => Zg (Zb 1 rfl (Zh (Zd hK1 (Zf (fun K hK2 => Zg (Zb 1 rfl ?_)))))))
 refine Za rfl rfl rfl (Zda rfl rfl) (Zb 1 rfl (Zs 5 rfl (fun hb => ?_) (fun hb => ?_)))
 rotate_left
 ·replace H := Zq H hb
  refine Zb 4 rfl (Zh (Zd hK2 (Zl (Zm rfl (RV.tmp rfl RV.nil) rfl ?_))))
  obtain rfl := QJ H
  replace hS := hS.cut 0
  exact ⟨rfl, hS⟩
 replace H := Zp H hb
 refine Zb 1 rfl (Za rfl rfl rfl (Zen rfl rfl) (Zb 2 rfl (Zh (Zd hK2 (Zl (Zm rfl (RV.tmp rfl RV.nil) rfl ?_))))))
 obtain rfl := QJ H
 replace hS := hS.cut 0
 exact ⟨rfl, hS⟩
theorem Zc2 (w0 : World) {r : St} (H : Zai = some r) : Calls Try.prog 42 #[] w0 fun e w' => e = .returned (.agg #[.int .i64 r.index, .int .i64 r.term, .int .i64 r.sum, .int .i64 r.level, .bool r.final]) ∧ St0 All w0 w' [] := by
 unfold Zai at H
 refine gw_enter0 Try.func42 rfl Try.ntmps42 rfl ?_
 have hS := St0.start All w0
 refine Zf (fun K hK1 => Zg (Yr rfl rfl zc_23 hS (fun b2 w hS hB => Zh (Zd hK1 (Zf (fun K hK4 => Zg (Za rfl rfl rfl (Vk (cells := [.int .i64 0, .int .i64 0, .int .i64 0, .int .i64 1, .bool false]) rfl (by kernel_rfl)) ?_)))))))
 refine Zr rfl rfl rfl CellsOf.agg hS ps0 Zdw (by kernel_rfl) rfl (fun w hS hB => Zh (Zd hK4 (Zl (Zm rfl (RV.cell rfl (Z3 Y3 hS hs0 Jt) RV.nil) rfl ?_))))
 obtain rfl := QJ H
 replace hS := hS.cut 0
 exact ⟨rfl, hS⟩
theorem Za7 (x0 : St) (w0 : World) {r : Bool} (H : Jb x0 = some r) : Calls Try.prog 40 #[.agg #[.int .i64 x0.index, .int .i64 x0.term, .int .i64 x0.sum, .int .i64 x0.level, .bool x0.final]] w0 fun e w' => e = .returned (.bool r) ∧ St0 All w0 w' [] := by
 unfold Jb at H
 refine Yp Try.func40 rfl Try.ntmps40 rfl ?_
 have hS := St0.start All w0
 refine Zf (fun K hK1 => Zg (Yq rfl rfl rfl CellsOf.agg hS (fun b2 w hS hB => Zb 1 rfl (Zh (Zd hK1 (Zf (fun K hK4 => Zf (fun K hK5 => ?_))))))))
 refine Zg (Za rfl rfl rfl (Zc Ys rfl) (Za rfl rfl rfl (Zi Zy rfl (Zgf _) hS hs0 trivial Yw) ?_))
 obtain ⟨r6, hm7, H⟩ := bind_some H
 refine Zt rfl rfl rfl rfl (by kernel_rfl) rfl (Zce x0.index _ hm7) ?_
 rintro e w ⟨rfl, hN⟩; refine ⟨_, rfl, ?_⟩; obtain ⟨hB, hS⟩ := hS.jn hN
 refine Za rfl rfl rfl (Yt rfl) (Zb 1 rfl (Zs 7 rfl (fun hb => ?_) (fun hb => ?_)))
 ·replace H := Zp H hb
  refine Zb 39 rfl (Zh (Zd hK5 (Zn rfl rfl (Zf (fun K hK9 => Zg (Zb 1 rfl (Zh ?_)))))))
  refine Zd hK9 (Zl (Ze (Zm rfl (RV.tmp rfl RV.nil) rfl ?_)))
  obtain rfl := QJ H
  replace hS := hS.cut 0
  exact ⟨rfl, hS⟩
 replace H := Zq H hb
 refine Za rfl rfl rfl (Zc Zc3 rfl) (Za rfl rfl rfl (Zi Zy rfl (Zgf _) hS hs0 trivial Xd) ?_)
 obtain ⟨r11, hm12, H⟩ := bind_some H
 refine Zt rfl rfl rfl rfl (by kernel_rfl) rfl (Zce x0.term _ hm12) ?_
 rintro e w ⟨rfl, hN⟩; refine ⟨_, rfl, ?_⟩; obtain ⟨hB, hS⟩ := hS.jn hN
 refine Za rfl rfl rfl (Yt rfl) (Zb 2 rfl (Zs 13 rfl (fun hb => ?_) (fun hb => ?_)))
 ·replace H := Zp H hb
  refine Zb 33 rfl (Zh (Zd hK5 (Zn rfl rfl (Zf (fun K hK14 => Zg (Zb 1 rfl (Zh ?_)))))))
  refine Zd hK14 (Zl (Ze (Zm rfl (RV.tmp rfl RV.nil) rfl ?_)))
  obtain rfl := QJ H
  replace hS := hS.cut 0
  exact ⟨rfl, hS⟩
 replace H := Zq H hb
 refine Za rfl rfl rfl (Zc fo_23_2 rfl) (Za rfl rfl rfl (Zi Zy rfl (Zgf _) hS hs0 trivial Zbj) ?_)
 obtain ⟨r16, hm17, H⟩ := bind_some H
 refine Zt rfl rfl rfl rfl (by kernel_rfl) rfl (Zce x0.sum _ hm17) ?_
 rintro e w ⟨rfl, hN⟩; refine ⟨_, rfl, ?_⟩; obtain ⟨hB, hS⟩ := hS.jn hN
 refine Za rfl rfl rfl (Yt rfl) (Zb 2 rfl (Zs 19 rfl (fun hb => ?_) (fun hb => ?_)))
 ·replace H := Zp H hb
  refine Zb 27 rfl (Zh (Zd hK5 (Zn rfl rfl (Zf (fun K hK19 => Zg (Zb 1 rfl (Zh ?_)))))))
  refine Zd hK19 (Zl (Ze (Zm rfl (RV.tmp rfl RV.nil) rfl ?_)))
  obtain rfl := QJ H
  replace hS := hS.cut 0
  exact ⟨rfl, hS⟩
 replace H := Zq H hb
 refine Za rfl rfl rfl (Zc Zc3 rfl) (Za rfl rfl rfl (Zi Zy rfl (Zgf _) hS hs0 trivial Xd) (Za rfl rfl rfl (Xh rfl rfl) (Za rfl rfl rfl (Zc Ys rfl) (Za rfl rfl rfl (Zi Zy rfl (Zgf _) hS hs0 trivial Yw) (Za rfl rfl rfl (Xh rfl rfl) (Za rfl rfl rfl (yv_neqB (by kernel_rfl) rfl rfl) (Zb 2 rfl ?_)))))))
 refine Zs 28 rfl (fun hb => ?_) (fun hb => ?_)
 ·replace H := Zp H hb
  refine Zb 18 rfl (Zh (Zd hK5 (Zn rfl rfl (Zf (fun K hK22 => Zg (Zb 1 rfl (Zh ?_)))))))
  refine Zd hK22 (Zl (Ze (Zm rfl (RV.tmp rfl RV.nil) rfl ?_)))
  obtain rfl := QJ H
  replace hS := hS.cut 0
  exact ⟨rfl, hS⟩
 replace H := Zq H hb
 refine Za rfl rfl rfl (Zc Zd6 rfl) (Za rfl rfl rfl (Zi Zy rfl (Zgf _) hS hs0 trivial Zbe) (Za rfl rfl rfl (Yl rfl rfl) (Zb 1 rfl (Zs 32 rfl (fun hb => ?_) (fun hb => ?_)))))
 rotate_left
 ·replace H := Zq H hb
  refine Zb 6 rfl (Za rfl rfl rfl (Zc fo_23_4 rfl) (Za rfl rfl rfl (Zi sc_4 rfl (Zgf _) hS hs0 trivial sg4_1) (Zb 1 rfl (Zs 41 rfl (fun hb => ?_) (fun hb => ?_)))))
  rotate_left
  ·replace H := Zq H hb
   refine Zb 5 rfl (Zh (Zd hK5 (Ym rfl rfl (Zv (Zd hK4 (Zf (fun K hK51 => Yh 9 [] (fun _ _ => True) ⟨by kernel_rfl, by kernel_rfl⟩ hS (fun w hS hB => ?_))))))))
   refine Zo [Tt,Tt,Tt,Tt] (by decide +kernel) PFC.h (LtK.put rfl rfl rfl (Zc Ys rfl) (LtK.put rfl rfl rfl (Zi Zy rfl (Zgg _) hS hs0 trivial Yw) (LtK.put rfl rfl rfl (Y8 rfl rfl) (LtK.put rfl rfl rfl (Zu rfl) (LtK.nil (Xf 50 rfl (fun hb => ?_) (fun hb => ?_)))))))
   ·replace H := Zp H hb
    refine Zo [Ff,Ff,Ff,Ff,Tt] (by decide +kernel) PFC.h (LtK.skip rfl rfl rfl (LtK.nil (Yd [Ff,Ff,Ff,Ff,Ff,Tt] 5 ⟨by decide, by kernel_rfl, by kernel_rfl⟩ rfl rfl ?_)))
    try dsimp only [Z2]
    refine Za4 rfl rfl rfl (Zh (Ye (Below.refl _ _) (Zo [Ff,Ff,Ff,Ff,Ff,Ff,Tt,Tt,Tt] (by decide +kernel) PFC.h (LtK.skip rfl rfl rfl (LtK.put rfl rfl rfl (Z9 rfl rfl rfl) (LtK.put rfl rfl rfl (Z7 rfl) (LtK.nil ?_)))))))
    refine Z5 (by kernel_rfl) (Zd hK51 (Zl (Zm rfl (RV.tmp rfl RV.nil) rfl ?_)))
    obtain rfl := QJ H
    replace hS := hS.cut 0
    exact ⟨rfl, hS⟩
   replace H := Zq H hb
   refine Zo [Ff,Ff,Ff,Ff,Tt] (by decide +kernel) PFC.h (LtK.put rfl rfl rfl (Zk Y3 rfl (Zgg _) hS hs0 trivial Jt) (LtK.nil (Yd [Ff,Ff,Ff,Ff,Ff,Tt] 5 ⟨by decide, by kernel_rfl, by kernel_rfl⟩ rfl rfl ?_)))
   try dsimp only [Z2]
   obtain ⟨r54, hm55, H⟩ := bind_some H
   refine Zt rfl rfl rfl rfl (by kernel_rfl) rfl (Zc2 _ hm55) ?_
   rintro e w ⟨rfl, hN⟩; refine ⟨_, rfl, ?_⟩; obtain ⟨hB, hS⟩ := hS.jn hN
   refine Zh (Ye hB (Zo [Ff,Ff,Ff,Ff,Ff,Ff,Tt,Tt,Tt] (by decide +kernel) PFC.h (LtK.put rfl rfl rfl (Zap (by kernel_rfl) rfl rfl (Jg _ _ _ _ _ _ _ _ _ _)) (LtK.put rfl rfl rfl (Yk rfl rfl rfl) (LtK.put rfl rfl rfl (Z7 rfl) (LtK.nil (Z5 (by kernel_rfl) ?_)))))))
   refine Zd hK51 (Zl (Zm rfl (RV.tmp rfl RV.nil) rfl ?_))
   obtain rfl := QJ H
   replace hS := hS.cut 0
   exact ⟨rfl, hS⟩
  replace H := Zp H hb
  refine Za rfl rfl rfl (Zc Zd6 rfl) (Za rfl rfl rfl (Zi Zy rfl (Zgf _) hS hs0 trivial Zbe) (Za rfl rfl rfl (Yl rfl rfl) (Zb 2 rfl (Zh (Zd hK5 (Zx rfl (fun hb => ?_) (fun hb => ?_)))))))
  ·replace H := Zp H hb
   refine Zf (fun K hK43 => Zg (Zb 1 rfl (Zh (Zd hK43 (Zl (Ze (Zm rfl (RV.tmp rfl RV.nil) rfl ?_)))))))
   obtain rfl := QJ H
   replace hS := hS.cut 0
   exact ⟨rfl, hS⟩
  replace H := Zq H hb
  refine Zv (Zd hK4 (Zf (fun K hK45 => Yh 9 [] (fun _ _ => True) ⟨by kernel_rfl, by kernel_rfl⟩ hS (fun w hS hB => Zo [Tt,Tt,Tt,Tt] (by decide +kernel) PFC.h (LtK.put rfl rfl rfl (Zc Ys rfl) (LtK.put rfl rfl rfl (Zi Zy rfl (Zgg _) hS hs0 trivial Yw) (LtK.put rfl rfl rfl (Y8 rfl rfl) ?_)))))))
  refine LtK.put rfl rfl rfl (Zu rfl) (LtK.nil (Xf 50 rfl (fun hb => ?_) (fun hb => ?_)))
  ·replace H := Zp H hb
   refine Zo [Ff,Ff,Ff,Ff,Tt] (by decide +kernel) PFC.h (LtK.skip rfl rfl rfl (LtK.nil (Yd [Ff,Ff,Ff,Ff,Ff,Tt] 5 ⟨by decide, by kernel_rfl, by kernel_rfl⟩ rfl rfl ?_)))
   try dsimp only [Z2]
   refine Za4 rfl rfl rfl (Zh (Ye (Below.refl _ _) (Zo [Ff,Ff,Ff,Ff,Ff,Ff,Tt,Tt,Tt] (by decide +kernel) PFC.h (LtK.skip rfl rfl rfl (LtK.put rfl rfl rfl (Z9 rfl rfl rfl) (LtK.put rfl rfl rfl (Z7 rfl) (LtK.nil ?_)))))))
   refine Z5 (by kernel_rfl) (Zd hK45 (Zl (Zm rfl (RV.tmp rfl RV.nil) rfl ?_)))
   obtain rfl := QJ H
   replace hS := hS.cut 0
   exact ⟨rfl, hS⟩
  replace H := Zq H hb
  refine Zo [Ff,Ff,Ff,Ff,Tt] (by decide +kernel) PFC.h (LtK.put rfl rfl rfl (Zk Y3 rfl (Zgg _) hS hs0 trivial Jt) (LtK.nil (Yd [Ff,Ff,Ff,Ff,Ff,Tt] 5 ⟨by decide, by kernel_rfl, by kernel_rfl⟩ rfl rfl ?_)))
  try dsimp only [Z2]
  obtain ⟨r48, hm49, H⟩ := bind_some H
  refine Zt rfl rfl rfl rfl (by kernel_rfl) rfl (Zc2 _ hm49) ?_
  rintro e w ⟨rfl, hN⟩; refine ⟨_, rfl, ?_⟩; obtain ⟨hB, hS⟩ := hS.jn hN
  refine Zh (Ye hB (Zo [Ff,Ff,Ff,Ff,Ff,Ff,Tt,Tt,Tt] (by decide +kernel) PFC.h (LtK.put rfl rfl rfl (Zap (by kernel_rfl) rfl rfl (Jg _ _ _ _ _ _ _ _ _ _)) (LtK.put rfl rfl rfl (Yk rfl rfl rfl) (LtK.put rfl rfl rfl (Z7 rfl) (LtK.nil (Z5 (by kernel_rfl) ?_)))))))
  refine Zd hK45 (Zl (Zm rfl (RV.tmp rfl RV.nil) rfl ?_))
  obtain rfl := QJ H
  replace hS := hS.cut 0
  exact ⟨rfl, hS⟩
 replace H := Zp H hb
 refine Za rfl rfl rfl (Zc Zd6 rfl) (Za rfl rfl rfl (Zi Zy rfl (Zgf _) hS hs0 trivial Zbe) (Za rfl rfl rfl (Yl rfl rfl) (Zb 3 rfl (Zs 38 rfl (fun hb => ?_) (fun hb => ?_)))))
 ·replace H := Zp H hb
  refine Zb 8 rfl (Zh (Zd hK5 (Zn rfl rfl (Zf (fun K hK26 => Zg (Zb 1 rfl (Zh ?_)))))))
  refine Zd hK26 (Zl (Ze (Zm rfl (RV.tmp rfl RV.nil) rfl ?_)))
  obtain rfl := QJ H
  replace hS := hS.cut 0
  exact ⟨rfl, hS⟩
 replace H := Zq H hb
 have hw27 := hb
 refine Za rfl rfl rfl (Zc fo_23_4 rfl) (Za rfl rfl rfl (Zi sc_4 rfl (Zgf _) hS hs0 trivial sg4_1) (Zb 1 rfl (Zs 41 rfl (fun hb => ?_) (fun hb => ?_))))
 rotate_left
 ·replace H := Zq H hb
  refine Zb 5 rfl (Zh (Zd hK5 (Ym rfl rfl (Zv (Zd hK4 (Zf (fun K hK35 => Yh 9 [] (fun _ _ => True) ⟨by kernel_rfl, by kernel_rfl⟩ hS (fun w hS hB => ?_))))))))
  refine Zo [Tt,Tt,Tt,Tt] (by decide +kernel) PFC.h (LtK.put rfl rfl rfl (Zc Ys rfl) (LtK.put rfl rfl rfl (Zi Zy rfl (Zgg _) hS hs0 trivial Yw) (LtK.put rfl rfl rfl (Y8 rfl rfl) (LtK.put rfl rfl rfl (Zu rfl) (LtK.nil (Xf 50 rfl (fun hb => ?_) (fun hb => ?_)))))))
  ·replace H := Zp H hb
   refine Zo [Ff,Ff,Ff,Ff,Tt] (by decide +kernel) PFC.h (LtK.skip rfl rfl rfl (LtK.nil (Yd [Ff,Ff,Ff,Ff,Ff,Tt] 5 ⟨by decide, by kernel_rfl, by kernel_rfl⟩ rfl rfl ?_)))
   try dsimp only [Z2]
   refine Za4 rfl rfl rfl (Zh (Ye (Below.refl _ _) (Zo [Ff,Ff,Ff,Ff,Ff,Ff,Tt,Tt,Tt] (by decide +kernel) PFC.h (LtK.skip rfl rfl rfl (LtK.put rfl rfl rfl (Z9 rfl rfl rfl) (LtK.put rfl rfl rfl (Z7 rfl) (LtK.nil ?_)))))))
   refine Z5 (by kernel_rfl) (Zd hK35 (Zl (Zm rfl (RV.tmp rfl RV.nil) rfl ?_)))
   obtain rfl := QJ H
   replace hS := hS.cut 0
   exact ⟨rfl, hS⟩
  replace H := Zq H hb
  refine Zo [Ff,Ff,Ff,Ff,Tt] (by decide +kernel) PFC.h (LtK.put rfl rfl rfl (Zk Y3 rfl (Zgg _) hS hs0 trivial Jt) (LtK.nil (Yd [Ff,Ff,Ff,Ff,Ff,Tt] 5 ⟨by decide, by kernel_rfl, by kernel_rfl⟩ rfl rfl ?_)))
  try dsimp only [Z2]
  obtain ⟨r38, hm39, H⟩ := bind_some H
  refine Zt rfl rfl rfl rfl (by kernel_rfl) rfl (Zc2 _ hm39) ?_
  rintro e w ⟨rfl, hN⟩; refine ⟨_, rfl, ?_⟩; obtain ⟨hB, hS⟩ := hS.jn hN
  refine Zh (Ye hB (Zo [Ff,Ff,Ff,Ff,Ff,Ff,Tt,Tt,Tt] (by decide +kernel) PFC.h (LtK.put rfl rfl rfl (Zap (by kernel_rfl) rfl rfl (Jg _ _ _ _ _ _ _ _ _ _)) (LtK.put rfl rfl rfl (Yk rfl rfl rfl) (LtK.put rfl rfl rfl (Z7 rfl) (LtK.nil (Z5 (by kernel_rfl) ?_)))))))
  refine Zd hK35 (Zl (Zm rfl (RV.tmp rfl RV.nil) rfl ?_))
  obtain rfl := QJ H
  replace hS := hS.cut 0
  exact ⟨rfl, hS⟩
 replace H := Zp H hb
 refine Za rfl rfl rfl (Zc Zd6 rfl) (Za rfl rfl rfl (Zi Zy rfl (Zgf _) hS hs0 trivial Zbe) (Za rfl rfl rfl (Yl rfl rfl) (Zb 2 rfl (Zh (Zd hK5 (Zx rfl (fun hb => ?_) (fun hb => ?_)))))))
 ·cases hw27.symm.trans hb
 refine Zv (Zd hK4 (Zf (fun K hK29 => Yh 9 [] (fun _ _ => True) ⟨by kernel_rfl, by kernel_rfl⟩ hS (fun w hS hB => Zo [Tt,Tt,Tt,Tt] (by decide +kernel) PFC.h (LtK.put rfl rfl rfl (Zc Ys rfl) (LtK.put rfl rfl rfl (Zi Zy rfl (Zgg _) hS hs0 trivial Yw) (LtK.put rfl rfl rfl (Y8 rfl rfl) ?_)))))))
 refine LtK.put rfl rfl rfl (Zu rfl) (LtK.nil (Xf 50 rfl (fun hb => ?_) (fun hb => ?_)))
 ·replace H := Zp H hb
  refine Zo [Ff,Ff,Ff,Ff,Tt] (by decide +kernel) PFC.h (LtK.skip rfl rfl rfl (LtK.nil (Yd [Ff,Ff,Ff,Ff,Ff,Tt] 5 ⟨by decide, by kernel_rfl, by kernel_rfl⟩ rfl rfl ?_)))
  try dsimp only [Z2]
  refine Za4 rfl rfl rfl (Zh (Ye (Below.refl _ _) (Zo [Ff,Ff,Ff,Ff,Ff,Ff,Tt,Tt,Tt] (by decide +kernel) PFC.h (LtK.skip rfl rfl rfl (LtK.put rfl rfl rfl (Z9 rfl rfl rfl) (LtK.put rfl rfl rfl (Z7 rfl) (LtK.nil ?_)))))))
  refine Z5 (by kernel_rfl) (Zd hK29 (Zl (Zm rfl (RV.tmp rfl RV.nil) rfl ?_)))
  obtain rfl := QJ H
  replace hS := hS.cut 0
  exact ⟨rfl, hS⟩
 replace H := Zq H hb
 refine Zo [Ff,Ff,Ff,Ff,Tt] (by decide +kernel) PFC.h (LtK.put rfl rfl rfl (Zk Y3 rfl (Zgg _) hS hs0 trivial Jt) (LtK.nil (Yd [Ff,Ff,Ff,Ff,Ff,Tt] 5 ⟨by decide, by kernel_rfl, by kernel_rfl⟩ rfl rfl ?_)))
 try dsimp only [Z2]
 obtain ⟨r32, hm33, H⟩ := bind_some H
 refine Zt rfl rfl rfl rfl (by kernel_rfl) rfl (Zc2 _ hm33) ?_
 rintro e w ⟨rfl, hN⟩; refine ⟨_, rfl, ?_⟩; obtain ⟨hB, hS⟩ := hS.jn hN
 refine Zh (Ye hB (Zo [Ff,Ff,Ff,Ff,Ff,Ff,Tt,Tt,Tt] (by decide +kernel) PFC.h (LtK.put rfl rfl rfl (Zap (by kernel_rfl) rfl rfl (Jg _ _ _ _ _ _ _ _ _ _)) (LtK.put rfl rfl rfl (Yk rfl rfl rfl) (LtK.put rfl rfl rfl (Z7 rfl) (LtK.nil (Z5 (by kernel_rfl) ?_)))))))
 refine Zd hK29 (Zl (Zm rfl (RV.tmp rfl RV.nil) rfl ?_))
 obtain rfl := QJ H
 replace hS := hS.cut 0
 exact ⟨rfl, hS⟩
theorem Zf1 (x0 : En) (w0 : World) {r : Bool} (H : Zbc x0 = some r) : Calls Try.prog 65 #[.agg #[.int .i64 x0.term, .int .i64 x0.kind, .int .i64 x0.value]] w0 fun e w' => e = .returned (.bool r) ∧ St0 All w0 w' [] := by
 unfold Zbc at H
 refine Yp Try.func65 rfl Try.ntmps65 rfl ?_
 have hS := St0.start All w0
 refine Zf (fun K hK1 => Zg (Yq rfl rfl rfl CellsOf.agg hS (fun b2 w hS hB => Zb 1 rfl (Zh (Zd hK1 (Zf (fun K hK4 => Zg ?_)))))))
 refine Za rfl rfl rfl (Zc Zcj rfl) (Za rfl rfl rfl (Zi Zy rfl (Zgf _) hS hs0 trivial Yw) (Za rfl rfl rfl (Zda rfl rfl) (Zb 1 rfl (Zs 6 rfl (fun hb => ?_) (fun hb => ?_)))))
 rotate_left
 ·replace H := Zq H hb
  refine Zb 30 rfl (Zh (Zd hK4 (Zl (Zm rfl (RV.tmp rfl RV.nil) rfl ?_))))
  obtain rfl := QJ H
  replace hS := hS.cut 0
  exact ⟨rfl, hS⟩
 replace H := Zp H hb
 refine Za rfl rfl rfl (Zc Zcj rfl) (Za rfl rfl rfl (Zi Zy rfl (Zgf _) hS hs0 trivial Yw) ?_)
 obtain ⟨r6, hm7, H⟩ := bind_some H
 refine Zt rfl rfl rfl rfl (by kernel_rfl) rfl (Zce x0.term _ hm7) ?_
 rintro e w ⟨rfl, hN⟩; refine ⟨_, rfl, ?_⟩; obtain ⟨hB, hS⟩ := hS.jn hN
 refine Zb 2 rfl (Zs 11 rfl (fun hb => ?_) (fun hb => ?_))
 rotate_left
 ·replace H := Zq H hb
  refine Zb 25 rfl (Zh (Zd hK4 (Zl (Zm rfl (RV.tmp rfl RV.nil) rfl ?_))))
  obtain rfl := QJ H
  replace hS := hS.cut 0
  exact ⟨rfl, hS⟩
 replace H := Zp H hb
 refine Za rfl rfl rfl (Zc fo_56_1 rfl) (Za rfl rfl rfl (Zi Zy rfl (Zgf _) hS hs0 trivial Xd) (Za rfl rfl rfl (Zda rfl rfl) (Zb 2 rfl (Zs 16 rfl (fun hb => ?_) (fun hb => ?_)))))
 rotate_left
 ·replace H := Zq H hb
  refine Zb 20 rfl (Zh (Zd hK4 (Zl (Zm rfl (RV.tmp rfl RV.nil) rfl ?_))))
  obtain rfl := QJ H
  replace hS := hS.cut 0
  exact ⟨rfl, hS⟩
 replace H := Zp H hb
 refine Za rfl rfl rfl (Zc fo_56_1 rfl) (Za rfl rfl rfl (Zi Zy rfl (Zgf _) hS hs0 trivial Xd) (Za rfl rfl rfl (Y4 rfl rfl) (Zb 2 rfl (Zs 21 rfl (fun hb => ?_) (fun hb => ?_)))))
 rotate_left
 ·replace H := Zq H hb
  refine Zb 15 rfl (Zh (Zd hK4 (Zl (Zm rfl (RV.tmp rfl RV.nil) rfl ?_))))
  obtain rfl := QJ H
  replace hS := hS.cut 0
  exact ⟨rfl, hS⟩
 replace H := Zp H hb
 refine Za rfl rfl rfl (Zc fo_56_2 rfl) (Za rfl rfl rfl (Zi Zy rfl (Zgf _) hS hs0 trivial Zbj) ?_)
 obtain ⟨r11, hm12, H⟩ := bind_some H
 refine Zt rfl rfl rfl rfl (by kernel_rfl) rfl (Zce x0.value _ hm12) ?_
 rintro e w ⟨rfl, hN⟩; refine ⟨_, rfl, ?_⟩; obtain ⟨hB, hS⟩ := hS.jn hN
 refine Zb 2 rfl (Zs 26 rfl (fun hb => ?_) (fun hb => ?_))
 rotate_left
 ·replace H := Zq H hb
  refine Zb 10 rfl (Zh (Zd hK4 (Zl (Zm rfl (RV.tmp rfl RV.nil) rfl ?_))))
  obtain rfl := QJ H
  replace hS := hS.cut 0
  exact ⟨rfl, hS⟩
 replace H := Zp H hb
 refine Za rfl rfl rfl (Zc fo_56_1 rfl) (Za rfl rfl rfl (Zi Zy rfl (Zgf _) hS hs0 trivial Xd) (Za rfl rfl rfl (Xh rfl rfl) (Zb 1 rfl (Zs 30 rfl (fun hb => ?_) (fun hb => ?_)))))
 ·replace H := Zp H hb
  refine Zb 6 rfl (Zh (Zd hK4 (Zl (Zm rfl (RV.tmp rfl RV.nil) rfl ?_))))
  obtain rfl := QJ H
  replace hS := hS.cut 0
  exact ⟨rfl, hS⟩
 replace H := Zq H hb
 refine Za rfl rfl rfl (Zc fo_56_2 rfl) (Za rfl rfl rfl (Zi Zy rfl (Zgf _) hS hs0 trivial Zbj) (Za rfl rfl rfl (Xh rfl rfl) (Zb 3 rfl (Zh (Zd hK4 (Zl (Zm rfl (RV.tmp rfl RV.nil) rfl ?_)))))))
 obtain rfl := QJ H
 replace hS := hS.cut 0
 exact ⟨rfl, hS⟩
theorem c_ref12_Right (x0 : Tu) (A0_ : OA) (c0_ : Nat) (w0 : World) (s0_ : SlI w0 enE A0_ c0_ x0.log) {r : Bool} (H : Zcw x0 = some r) : Calls Try.prog 33 #[.agg #[.int .i64 x0.snap.index, .int .i64 x0.snap.term, .int .i64 x0.snap.sum, .int .i64 x0.snap.level, .bool x0.snap.final, .slice A0_ x0.log.length c0_, .int .i64 x0.term, .int .i64 x0.vote]] w0 fun e w' => e = .returned (.bool r) ∧ St0 All w0 w' [] := by
 unfold Zcw at H
 refine Yp Try.func33 rfl Try.ntmps33 rfl ?_
 have hS := St0.start All w0
 refine Zf (fun K hK1 => Zg (Yq rfl rfl rfl CellsOf.agg hS (fun b2 w hS hB => Zb 1 rfl (Zh (Zd hK1 (Zf (fun K hK4 => Zf (fun K hK5 => ?_))))))))
 refine Zg (Za rfl rfl rfl (Zc Xe rfl) (Za rfl rfl rfl (Zk Y3 rfl (Zgf _) hS hs0 trivial Jt) ?_))
 obtain ⟨r6, hm7, H⟩ := bind_some H
 refine Zt rfl rfl rfl rfl (by kernel_rfl) rfl (Za7 x0.snap _ hm7) ?_
 rintro e w ⟨rfl, hN⟩; refine ⟨_, rfl, ?_⟩; obtain ⟨hB, hS⟩ := hS.jn hN
 refine Za rfl rfl rfl (Yt rfl) (Zb 1 rfl (Zs 9 rfl (fun hb => ?_) (fun hb => ?_)))
 ·replace H := Zp H hb
  refine Zb 21 rfl (Zh (Zd hK5 (Zn rfl rfl (Zf (fun K hK9 => Zg (Zb 1 rfl (Zh ?_)))))))
  refine Zd hK9 (Zl (Ze (Zm rfl (RV.tmp rfl RV.nil) rfl ?_)))
  obtain rfl := QJ H
  replace hS := hS.cut 0
  exact ⟨rfl, hS⟩
 replace H := Zq H hb
 refine Za rfl rfl rfl (Zc Xe rfl) (Za rfl rfl rfl (Zc Ys rfl) (Za rfl rfl rfl (Zi Zy rfl (Zgf _) hS hs0 trivial Yw) (Za rfl rfl rfl (Y8 rfl rfl) (Zb 2 rfl (Zs 15 rfl (fun hb => ?_) (fun hb => ?_))))))
 ·replace H := Zp H hb
  refine Zb 15 rfl (Zh (Zd hK5 (Zn rfl rfl (Zf (fun K hK12 => Zg (Zb 1 rfl (Zh ?_)))))))
  refine Zd hK12 (Zl (Ze (Zm rfl (RV.tmp rfl RV.nil) rfl ?_)))
  obtain rfl := QJ H
  replace hS := hS.cut 0
  exact ⟨rfl, hS⟩
 replace H := Zq H hb
 refine Za rfl rfl rfl (Zc Yg rfl) (Za rfl rfl rfl (Zi Y6 rfl (Zgf _) hS hs0 trivial Zes) (Za rfl rfl rfl (Yb Y1 rfl) (Za rfl rfl rfl (Y8 rfl rfl) (Zb 2 rfl (Zs 21 rfl (fun hb => ?_) (fun hb => ?_))))))
 ·replace H := Zp H hb
  refine Zb 9 rfl (Zh (Zd hK5 (Zn rfl rfl (Zf (fun K hK15 => Zg (Zb 1 rfl (Zh ?_)))))))
  refine Zd hK15 (Zl (Ze (Zm rfl (RV.tmp rfl RV.nil) rfl ?_)))
  obtain rfl := QJ H
  replace hS := hS.cut 0
  exact ⟨rfl, hS⟩
 replace H := Zq H hb
 refine Za rfl rfl rfl (Zc Vq rfl) (Za rfl rfl rfl (Zi Zy rfl (Zgf _) hS hs0 trivial sg7_1) (Za rfl rfl rfl (Y4 rfl rfl) (Zb 2 rfl (Zs 26 rfl (fun hb => ?_) (fun hb => ?_)))))
 ·replace H := Zp H hb
  refine Zb 4 rfl (Zh (Zd hK5 (Zn rfl rfl (Zf (fun K hK18 => Zg (Zb 1 rfl (Zh ?_)))))))
  refine Zd hK18 (Zl (Ze (Zm rfl (RV.tmp rfl RV.nil) rfl ?_)))
  obtain rfl := QJ H
  replace hS := hS.cut 0
  exact ⟨rfl, hS⟩
 replace H := Zq H hb
 refine Za rfl rfl rfl (Zc Vq rfl) (Za rfl rfl rfl (Zi Zy rfl (Zgf _) hS hs0 trivial sg7_1) (Za rfl rfl rfl (Y8 rfl rfl) (Zb 1 rfl (Zh (Zd hK5 (Zx rfl (fun hb => ?_) (fun hb => ?_)))))))
 ·replace H := Zp H hb
  refine Zf (fun K hK21 => Zg (Zb 1 rfl (Zh (Zd hK21 (Zl (Ze (Zm rfl (RV.tmp rfl RV.nil) rfl ?_)))))))
  obtain rfl := QJ H
  replace hS := hS.cut 0
  exact ⟨rfl, hS⟩
 replace H := Zq H hb
 refine Zv (Zd hK4 (Zf (fun K hK23 => Zg (Za rfl rfl rfl (Zc Xe rfl) (Za rfl rfl rfl (Zc Zc3 rfl) (Za rfl rfl rfl (Zi Zy rfl (Zgf _) hS hs0 trivial Xd) (Zb 1 rfl ?_)))))))
 refine Zh (Zd hK23 (Zf (fun K hK24 => Zf (fun K hK25 => Zg (Zb 1 rfl (Zh (Zd hK25 ?_)))))))
 refine Z6 (Vp (X := Nat × Bool × Int × Int) (fun x => (1, .pointer (some ⟨b2, 0, none⟩)) :: (2, .bool x.2.1) :: (3, .int .i64 x.2.2.1) :: (4, .int .i64 x.2.2.2) :: []) (fun x w => St0 All w0 w (.box b2 [.int .i64 x0.snap.index, .int .i64 x0.snap.term, .int .i64 x0.snap.sum, .int .i64 x0.snap.level, .bool x0.snap.final, .slice A0_ x0.log.length c0_, .int .i64 x0.term, .int .i64 x0.vote] 26 :: []) ∧ J0 x0 x.1 x.2.1 x.2.2.1 x.2.2.2 = some r) (fun x => x.1) (Yy, false, x0.snap.term, 0) (by repeat (first | exact Sub.nil | refine Sub.cons rfl ?_)) ⟨hS, H⟩ ?_)
 rintro ⟨n, v26, v27, v28⟩ w ⟨hS, H⟩
 dsimp only at hS H ⊢
 obtain _ | n := n
 ·have H0 : none = some r := H
  cases H0
 rw [J0] at H
 refine Zf (fun K hK29 => Zf (fun K hK30 => Zg (Zb 1 rfl (Za rfl rfl rfl (Zc Yg rfl) (Za rfl rfl rfl (Zi Y6 rfl (Zgf _) hS hs0 trivial Zes) (Za rfl rfl rfl (Yb Y1 rfl) (Za rfl rfl rfl (Y4 rfl rfl) ?_)))))))
 refine Zh (Zd hK30 (Zx rfl (fun hb => ?_) (fun hb => ?_)))
 rotate_left
 ·replace H := Zq H hb
  refine Xy (Z4 (Z4 (Yz (Zd hK24 (Zf (fun K hK53 => Zg (Za rfl rfl rfl (Zc Xc rfl) ?_)))))))
  refine Za rfl rfl rfl (Zi Zy rfl (Zgf _) hS hs0 trivial sg6_1) (Zb 1 rfl (Za rfl rfl rfl (Zda rfl rfl) (Zb 1 rfl (Zs 68 rfl (fun hb => ?_) (fun hb => ?_)))))
  rotate_left
  ·replace H := Zq H hb
   refine Zb 10 rfl (Zh (Zd hK53 (Zl (Zm rfl (RV.tmp rfl RV.nil) rfl ?_))))
   obtain rfl := QJ H
   replace hS := hS.cut 0
   exact ⟨rfl, hS⟩
  replace H := Zp H hb
  refine Za rfl rfl rfl (Zc Xc rfl) (Za rfl rfl rfl (Zi Zy rfl (Zgf _) hS hs0 trivial sg6_1) (Za rfl rfl rfl (Zda rfl rfl) (Zb 2 rfl (Zs 73 rfl (fun hb => ?_) (fun hb => ?_)))))
  rotate_left
  ·replace H := Zq H hb
   refine Zb 5 rfl (Zh (Zd hK53 (Zl (Zm rfl (RV.tmp rfl RV.nil) rfl ?_))))
   obtain rfl := QJ H
   replace hS := hS.cut 0
   exact ⟨rfl, hS⟩
  replace H := Zp H hb
  refine Za rfl rfl rfl (Zc Xc rfl) (Za rfl rfl rfl (Zi Zy rfl (Zgf _) hS hs0 trivial sg6_1) (Za rfl rfl rfl (Zen rfl rfl) (Zb 2 rfl (Zh (Zd hK53 (Zl (Zm rfl (RV.tmp rfl RV.nil) rfl ?_)))))))
  obtain rfl := QJ H
  replace hS := hS.cut 0
  exact ⟨rfl, hS⟩
 replace H := Zp H hb
 refine Zv (Zd hK29 (Zf (fun K hK32 => Z6 (Zf (fun K hK33 => Zf (fun K hK34 => Zg (Za rfl rfl rfl (Zc Yg rfl) ?_)))))))
 refine Za rfl rfl rfl (Zi Y6 rfl (Zgf _) hS hs0 trivial Zes) (Zb 1 rfl ?_)
 obtain ⟨e35, hi37, H⟩ := bind_some H
 obtain ⟨j36, hi37a, hi37b, hi37c⟩ := Xn hi37
 refine Za rfl rfl rfl (Y2 Y1 rfl rfl hi37a hi37c (Rd.el (hS.rd0 s0_.rd) Vf hi37b)) (Za rfl rfl rfl (V8 Zb5 rfl (Zgf _) (Rd.el (hS.rd0 s0_.rd) Vf hi37b) Zfx) ?_)
 obtain ⟨r38, hm39, H⟩ := bind_some H
 refine Zt rfl rfl rfl rfl (by kernel_rfl) rfl (Zf1 e35 _ hm39) ?_
 rintro e w ⟨rfl, hN⟩; refine ⟨_, rfl, ?_⟩; obtain ⟨hB, hS⟩ := hS.jn hN
 refine Za rfl rfl rfl (Yt rfl) (Zb 1 rfl (Zs 48 rfl (fun hb => ?_) (fun hb => ?_)))
 ·replace H := Zp H hb
  refine Zb 9 rfl (Zh (Zd hK34 (Zn rfl rfl (Zf (fun K hK41 => Zg (Zb 1 rfl (Zh ?_)))))))
  refine Zd hK41 (Zl (Ze (Zj (Ze (Ze (Zj (Ze ?_)))))))
  refine Zm rfl (RV.tmp rfl RV.nil) rfl ?_
  obtain rfl := QJ H
  replace hS := hS.cut 0
  exact ⟨rfl, hS⟩
 replace H := Zq H hb
 refine Za rfl rfl rfl (Zc Yg rfl) (Za rfl rfl rfl (Zi Y6 rfl (Zgf _) hS hs0 trivial Zes) (Zb 1 rfl ?_))
 obtain ⟨e43, hi45, H⟩ := bind_some H
 obtain ⟨j44, hi45a, hi45b, hi45c⟩ := Xn hi45
 refine Za rfl rfl rfl (Y2 Y1 rfl rfl hi45a hi45c (Rd.el (hS.rd0 s0_.rd) Vf hi45b)) (Za rfl rfl rfl (Y0 Zcj rfl (Rd.el (hS.rd0 s0_.rd) Vf hi45b)) (Za rfl rfl rfl (Zav Zy rfl (Zgf _) (Rd.el (hS.rd0 s0_.rd) Vf hi45b) rfl) (Zb 1 rfl (Za rfl rfl rfl (Y4 rfl rfl) (Zb 1 rfl (Zh (Zd hK34 ?_)))))))
 refine Zx rfl (fun hb => ?_) (fun hb => ?_)
 ·replace H := Zp H hb
  refine Zf (fun K hK47 => Zg (Zb 1 rfl (Zh (Zd hK47 (Zl (Ze (Zj ?_)))))))
  refine Ze (Ze (Zj (Ze (Zm rfl (RV.tmp rfl RV.nil) rfl ?_))))
  obtain rfl := QJ H
  replace hS := hS.cut 0
  exact ⟨rfl, hS⟩
 replace H := Zq H hb
 refine Zv (Zd hK33 (Zg (Za rfl rfl rfl (Zc Yg rfl) (Za rfl rfl rfl (Zi Y6 rfl (Zgf _) hS hs0 trivial Zes) (Zb 1 rfl ?_)))))
 obtain ⟨e49, hi51, H⟩ := bind_some H
 obtain ⟨j50, hi51a, hi51b, hi51c⟩ := Xn hi51
 refine Za rfl rfl rfl (Y2 Y1 rfl rfl hi51a hi51c (Rd.el (hS.rd0 s0_.rd) Vf hi51b)) (Za rfl rfl rfl (Y0 Zcj rfl (Rd.el (hS.rd0 s0_.rd) Vf hi51b)) (Za rfl rfl rfl (Zav Zy rfl (Zgf _) (Rd.el (hS.rd0 s0_.rd) Vf hi51b) rfl) (Zb 1 rfl (Zh (Zw (Zd hK32 (Zg ?_)))))))
 refine Zb 1 rfl (Za rfl rfl rfl (Xu rfl rfl) (Zb 1 rfl (Zh ?_)))
 exact Xo (n, v26, e49.term, (IntKind.wrap .i64 (v28 + 1))) (by repeat (first | exact Sub.nil | refine Sub.cons rfl ?_)) ⟨hS, H⟩ (Nat.lt_succ_self _)
theorem c_ref12_Last (x0 : Tu) (A0_ : OA) (c0_ : Nat) (w0 : World) (s0_ : SlI w0 enE A0_ c0_ x0.log) {r : Int} (H : Zcf x0 = some r) : Calls Try.prog 24 #[.agg #[.int .i64 x0.snap.index, .int .i64 x0.snap.term, .int .i64 x0.snap.sum, .int .i64 x0.snap.level, .bool x0.snap.final, .slice A0_ x0.log.length c0_, .int .i64 x0.term, .int .i64 x0.vote]] w0 fun e w' => e = .returned (.int .i64 r) ∧ St0 All w0 w' [] := by
 unfold Zcf at H
 refine Yp Try.func24 rfl Try.ntmps24 rfl ?_
 have hS := St0.start All w0
 refine Zf (fun K hK1 => Zg (Yq rfl rfl rfl CellsOf.agg hS (fun b2 w hS hB => Zb 1 rfl (Zh (Zd hK1 (Zf (fun K hK4 => Zg ?_)))))))
 refine Za rfl rfl rfl (Zc Xe rfl) (Za rfl rfl rfl (Zc Ys rfl) (Za rfl rfl rfl (Zi Zy rfl (Zgf _) hS hs0 trivial Yw) (Za rfl rfl rfl (Zc Yg rfl) (Za rfl rfl rfl (Zi Y6 rfl (Zgf _) hS hs0 trivial Zes) (Za rfl rfl rfl (Yb Y1 rfl) (Za rfl rfl rfl (Xu rfl rfl) (Zb 1 rfl ?_)))))))
 refine Zh (Zd hK4 (Zl (Zm rfl (RV.tmp rfl RV.nil) rfl ?_)))
 obtain rfl := QJ H
 replace hS := hS.cut 0
 exact ⟨rfl, hS⟩
theorem c_ref06_Next (x0 : St) (x1 : En) (w0 : World) {r : St} (H : Zck x0 x1 = some r) : Calls Try.prog 101 #[.agg #[.int .i64 x0.index, .int .i64 x0.term, .int .i64 x0.sum, .int .i64 x0.level, .bool x0.final], .agg #[.int .i64 x1.term, .int .i64 x1.kind, .int .i64 x1.value]] w0 fun e w' => e = .returned (.agg #[.int .i64 r.index, .int .i64 r.term, .int .i64 r.sum, .int .i64 r.level, .bool r.final]) ∧ St0 All w0 w' [] := by
 unfold Zck at H
 refine Xw Try.func101 rfl Try.ntmps101 rfl ?_
 have hS := St0.start All w0
 refine Zf (fun K hK1 => Zg (Yq rfl rfl rfl CellsOf.agg hS (fun b2 w hS hB => Yq rfl rfl rfl CellsOf.agg hS (fun b4 w hS hB => Yr rfl rfl zc_23 hS (fun b6 w hS hB => Zh (Zd hK1 (Zf (fun K hK8 => ?_))))))))
 refine Zf (fun K hK9 => Zg (Za rfl rfl rfl (Zk Zb5 rfl (Zgf _) hS X9 trivial Zfx) ?_))
 obtain ⟨r10, hm11, H⟩ := bind_some H
 refine Zt rfl rfl rfl rfl (by kernel_rfl) rfl (Zf1 x1 _ hm11) ?_
 rintro e w ⟨rfl, hN⟩; refine ⟨_, rfl, ?_⟩; obtain ⟨hB, hS⟩ := hS.jn hN
 refine Za rfl rfl rfl (Yt rfl) (Zb 1 rfl (Zs 8 rfl (fun hb => ?_) (fun hb => ?_)))
 ·replace H := Zp H hb
  refine Zb 9 rfl (Zh (Zd hK9 (Zn rfl rfl (Zf (fun K hK13 => Zg (Za rfl rfl rfl (Zk Y3 rfl (Zgf _) hS Vt trivial Jt) (Zr rfl rfl rfl CellsOf.agg hS ps0 Zdw (by kernel_rfl) rfl (fun w hS hB => ?_))))))))
  refine Zh (Zd hK13 (Zl (Ze (Zm rfl (RV.cell rfl (Z3 Y3 hS hs0 Jt) RV.nil) rfl ?_))))
  obtain rfl := QJ H
  replace hS := hS.cut 0
  exact ⟨rfl, hS⟩
 replace H := Zq H hb
 refine Za rfl rfl rfl (Zk Y3 rfl (Zgf _) hS Vt trivial Jt) ?_
 obtain ⟨r15, hm16, H⟩ := bind_some H
 refine Zt rfl rfl rfl rfl (by kernel_rfl) rfl (Za7 x0 _ hm16) ?_
 rintro e w ⟨rfl, hN⟩; refine ⟨_, rfl, ?_⟩; obtain ⟨hB, hS⟩ := hS.jn hN
 refine Za rfl rfl rfl (Yt rfl) (Zb 2 rfl (Zs 13 rfl (fun hb => ?_) (fun hb => ?_)))
 ·replace H := Zp H hb
  refine Zb 4 rfl (Zh (Zd hK9 (Zn rfl rfl (Zf (fun K hK18 => Zg (Za rfl rfl rfl (Zk Y3 rfl (Zgf _) hS Vt trivial Jt) (Zr rfl rfl rfl CellsOf.agg hS ps0 Zdw (by kernel_rfl) rfl (fun w hS hB => ?_))))))))
  refine Zh (Zd hK18 (Zl (Ze (Zm rfl (RV.cell rfl (Z3 Y3 hS hs0 Jt) RV.nil) rfl ?_))))
  obtain rfl := QJ H
  replace hS := hS.cut 0
  exact ⟨rfl, hS⟩
 replace H := Zq H hb
 refine Za rfl rfl rfl (Zc Ys rfl) (Za rfl rfl rfl (Zi Zy rfl (Zgf _) hS Vt trivial Yw) (Za rfl rfl rfl (Zda rfl rfl) (Zb 1 rfl (Zh (Zd hK9 (Zx rfl (fun hb => ?_) (fun hb => ?_)))))))
 ·replace H := Zp H hb
  refine Zf (fun K hK21 => Zg (Za rfl rfl rfl (Zk Y3 rfl (Zgf _) hS Vt trivial Jt) (Zr rfl rfl rfl CellsOf.agg hS ps0 Zdw (by kernel_rfl) rfl (fun w hS hB => Zh (Zd hK21 (Zl (Ze ?_)))))))
  refine Zm rfl (RV.cell rfl (Z3 Y3 hS hs0 Jt) RV.nil) rfl ?_
  obtain rfl := QJ H
  replace hS := hS.cut 0
  exact ⟨rfl, hS⟩
 replace H := Zq H hb
 refine Zv (Zd hK8 (Zf (fun K hK23 => Zg (Za rfl rfl rfl (Zc Ys rfl) (Za rfl rfl rfl (Zi Zy rfl (Zgf _) hS Vt trivial Yw) (Za rfl rfl rfl (Xu rfl rfl) (Za rfl rfl rfl (Zc Ys rfl) ?_)))))))
 refine Zr rfl rfl rfl CellsOf.int hS ps2 Zfn (by kernel_rfl) rfl (fun w hS hB => Zh (Zd hK23 (Zf (fun K hK24 => Zg (Za rfl rfl rfl (Zc Zcj rfl) (Za rfl rfl rfl (Zi Zy rfl (Zgf _) hS X9 trivial Yw) (Za rfl rfl rfl (Zc Zc3 rfl) ?_)))))))
 refine Zr rfl rfl rfl CellsOf.int hS ps2 st1_1 (by kernel_rfl) rfl (fun w hS hB => Zh (Zd hK24 (Zf (fun K hK25 => Zf (fun K hK26 => Zg (Za rfl rfl rfl (Zc fo_56_1 rfl) (Za rfl rfl rfl (Zi Zy rfl (Zgf _) hS X9 trivial Xd) ?_)))))))
 refine Zh (Zd hK26 (Z6 (Zf (fun K hK27 => Zg (Za rfl rfl rfl (Xh rfl rfl) (Zb 1 rfl (Zh ?_)))))))
 refine Zd hK27 (Zx rfl (fun hb => ?_) (fun hb => ?_))
 ·replace H := Zp H hb
  refine Zg (Za rfl rfl rfl (Zc fo_23_2 rfl) (Za rfl rfl rfl (Zi Zy rfl (Zgf _) hS Vt trivial Zbj) (Za rfl rfl rfl (yx_mul rfl rfl) (Za rfl rfl rfl (Zc fo_56_2 rfl) (Za rfl rfl rfl (Zi Zy rfl (Zgf _) hS X9 trivial Zbj) (Za rfl rfl rfl (Xu rfl rfl) (Za rfl rfl rfl (Xu rfl rfl) ?_)))))))
  refine Za rfl rfl rfl (yx_rem rfl rfl (by decide)) ?_
  refine Za rfl rfl rfl (Zc fo_23_2 rfl) (Zr rfl rfl rfl CellsOf.int hS ps2 st2_1 (by kernel_rfl) rfl (fun w hS hB => Zh (Zw (Zd hK25 (Zf (fun K hK29 => Zg (Za rfl rfl rfl (Zk Y3 rfl (Zgf _) hS Vt trivial Jt) ?_)))))))
  refine Zr rfl rfl rfl CellsOf.agg hS ps0 Zdw (by kernel_rfl) rfl (fun w hS hB => Zh (Zd hK29 (Zl (Zm rfl (RV.cell rfl (Z3 Y3 hS hs0 Jt) RV.nil) rfl ?_))))
  obtain rfl := QJ H
  replace hS := hS.cut 0
  exact ⟨rfl, hS⟩
 replace H := Zq H hb
 refine Zf (fun K hK31 => Zg (Za rfl rfl rfl (Xh rfl rfl) (Zb 1 rfl (Zh (Zd hK31 (Zx rfl (fun hb => ?_) (fun hb => ?_)))))))
 ·replace H := Zp H hb
  refine Zg (Za rfl rfl rfl (Zc Zd6 rfl) (Zr rfl rfl rfl CellsOf.int hS ps2 st3_1 (by kernel_rfl) rfl (fun w hS hB => Zh (Zw (Zd hK25 (Zf (fun K hK33 => Zg ?_)))))))
  refine Za rfl rfl rfl (Zk Y3 rfl (Zgf _) hS Vt trivial Jt) (Zr rfl rfl rfl CellsOf.agg hS ps0 Zdw (by kernel_rfl) rfl (fun w hS hB => Zh (Zd hK33 (Zl (Zm rfl (RV.cell rfl (Z3 Y3 hS hs0 Jt) RV.nil) rfl ?_)))))
  obtain rfl := QJ H
  replace hS := hS.cut 0
  exact ⟨rfl, hS⟩
 replace H := Zq H hb
 refine Zf (fun K hK35 => Zg (Za rfl rfl rfl (Xh rfl rfl) (Zb 1 rfl (Zh (Zd hK35 (Zx rfl (fun hb => ?_) (fun hb => ?_)))))))
 ·replace H := Zp H hb
  refine Zf (fun K hK37 => Zg (Za rfl rfl rfl (Zc fo_23_4 rfl) (Za rfl rfl rfl (Zi sc_4 rfl (Zgf _) hS Vt trivial sg4_1) (Za rfl rfl rfl (Yt rfl) (Zh (Zd hK37 (Zx rfl (fun hb => ?_) (fun hb => ?_))))))))
  rotate_left
  ·replace H := Zq H hb
   refine Zv (Zw (Zd hK25 (Zf (fun K hK41 => Zg (Za rfl rfl rfl (Zk Y3 rfl (Zgf _) hS Vt trivial Jt) (Zr rfl rfl rfl CellsOf.agg hS ps0 Zdw (by kernel_rfl) rfl (fun w hS hB => Zh ?_)))))))
   refine Zd hK41 (Zl (Zm rfl (RV.cell rfl (Z3 Y3 hS hs0 Jt) RV.nil) rfl ?_))
   obtain rfl := QJ H
   replace hS := hS.cut 0
   exact ⟨rfl, hS⟩
  replace H := Zp H hb
  refine Zg (Za rfl rfl rfl (Zc Zd6 rfl) (Zr rfl rfl rfl CellsOf.int hS ps2 st3_1 (by kernel_rfl) rfl (fun w hS hB => Zh (Zw (Zd hK25 (Zf (fun K hK39 => Zg ?_)))))))
  refine Za rfl rfl rfl (Zk Y3 rfl (Zgf _) hS Vt trivial Jt) (Zr rfl rfl rfl CellsOf.agg hS ps0 Zdw (by kernel_rfl) rfl (fun w hS hB => Zh (Zd hK39 (Zl (Zm rfl (RV.cell rfl (Z3 Y3 hS hs0 Jt) RV.nil) rfl ?_)))))
  obtain rfl := QJ H
  replace hS := hS.cut 0
  exact ⟨rfl, hS⟩
 replace H := Zq H hb
 refine Zf (fun K hK43 => Zg (Za rfl rfl rfl (Xh rfl rfl) (Zb 1 rfl (Zh (Zd hK43 (Zx rfl (fun hb => ?_) (fun hb => ?_)))))))
 rotate_left
 ·replace H := Zq H hb
  refine Zv (Zw (Zd hK25 (Zf (fun K hK47 => Zg (Za rfl rfl rfl (Zk Y3 rfl (Zgf _) hS Vt trivial Jt) (Zr rfl rfl rfl CellsOf.agg hS ps0 Zdw (by kernel_rfl) rfl (fun w hS hB => Zh ?_)))))))
  refine Zd hK47 (Zl (Zm rfl (RV.cell rfl (Z3 Y3 hS hs0 Jt) RV.nil) rfl ?_))
  obtain rfl := QJ H
  replace hS := hS.cut 0
  exact ⟨rfl, hS⟩
 replace H := Zp H hb
 refine Zg (Za rfl rfl rfl (Zc Zd6 rfl) (Za rfl rfl rfl (Zi Zy rfl (Zgf _) hS Vt trivial Zbe) (Za rfl rfl rfl (Xh rfl rfl) (Za rfl rfl rfl (Zc fo_23_4 rfl) (Zr rfl rfl rfl CellsOf.bool hS ps2 st4_1 (by kernel_rfl) rfl (fun w hS hB => Zh (Zw ?_)))))))
 refine Zd hK25 (Zf (fun K hK45 => Zg (Za rfl rfl rfl (Zk Y3 rfl (Zgf _) hS Vt trivial Jt) (Zr rfl rfl rfl CellsOf.agg hS ps0 Zdw (by kernel_rfl) rfl (fun w hS hB => Zh (Zd hK45 (Zl ?_)))))))
 refine Zm rfl (RV.cell rfl (Z3 Y3 hS hs0 Jt) RV.nil) rfl ?_
 obtain rfl := QJ H
 replace hS := hS.cut 0
 exact ⟨rfl, hS⟩
theorem c_ref06_All (x0 : St) (x1 : List En) (A0_ : OA) (c0_ : Nat) (w0 : World) (s0_ : SlI w0 enE A0_ c0_ x1) {r : St} (H : Zfw x0 x1 = some r) : Calls Try.prog 66 #[.agg #[.int .i64 x0.index, .int .i64 x0.term, .int .i64 x0.sum, .int .i64 x0.level, .bool x0.final], .slice A0_ x1.length c0_] w0 fun e w' => e = .returned (.agg #[.int .i64 r.index, .int .i64 r.term, .int .i64 r.sum, .int .i64 r.level, .bool r.final]) ∧ St0 All w0 w' [] := by
 unfold Zfw at H
 refine Xw Try.func66 rfl Try.ntmps66 rfl ?_
 have hS := St0.start All w0
 refine Zf (fun K hK1 => Zg (Yq rfl rfl rfl CellsOf.agg hS (fun b2 w hS hB => Yr rfl rfl zc_23 hS (fun b4 w hS hB => Zh (Zd hK1 (Zf (fun K hK6 => Zf (fun K hK7 => ?_))))))))
 refine Zg (Zb 1 rfl (Zh (Zd hK7 (Z6 (Vp (X := Nat × Int × Int × Int × Int × Int × Bool) (fun x => (1, .slice A0_ x1.length c0_) :: (2, .pointer (some ⟨b2, 0, none⟩)) :: (4, .pointer (some ⟨b4, 0, none⟩)) :: (5, .int .i64 x.2.1) :: []) (fun x w => St0 All w0 w (.box b4 [.int .i64 0, .int .i64 0, .int .i64 0, .int .i64 0, .bool false] 23 :: .box b2 [.int .i64 x.2.2.1, .int .i64 x.2.2.2.1, .int .i64 x.2.2.2.2.1, .int .i64 x.2.2.2.2.2.1, .bool x.2.2.2.2.2.2] 23 :: []) ∧ Zan x1 x.1 x.2.1 x.2.2.1 x.2.2.2.1 x.2.2.2.2.1 x.2.2.2.2.2.1 x.2.2.2.2.2.2 = some r) (fun x => x.1) (Yy, 0, x0.index, x0.term, x0.sum, x0.level, x0.final) (by repeat (first | exact Sub.nil | refine Sub.cons rfl ?_)) ⟨hS, H⟩ ?_)))))
 rintro ⟨n, v8, v9, v10, v11, v12, v13⟩ w ⟨hS, H⟩
 dsimp only at hS H ⊢
 obtain _ | n := n
 ·have H0 : none = some r := H
  cases H0
 rw [Zan] at H
 refine Zf (fun K hK14 => Zf (fun K hK15 => Zg (Zb 2 rfl (Za rfl rfl rfl (Yb Y1 rfl) (Za rfl rfl rfl (Y4 rfl rfl) (Zh (Zd hK15 ?_)))))))
 refine Zx rfl (fun hb => ?_) (fun hb => ?_)
 rotate_left
 ·replace H := Zq H hb
  refine Xy (Z4 (Z4 (Yz (Zd hK6 (Zf (fun K hK24 => Zg (Za rfl rfl rfl (Zk Y3 rfl (Zgf _) hS X9 trivial Jt) ?_)))))))
  refine Zr rfl rfl rfl CellsOf.agg hS ps0 Zdw (by kernel_rfl) rfl (fun w hS hB => Zh (Zd hK24 (Zl (Zm rfl (RV.cell rfl (Z3 Y3 hS hs0 Jt) RV.nil) rfl ?_))))
  obtain rfl := QJ H
  replace hS := hS.cut 0
  exact ⟨rfl, hS⟩
 replace H := Zp H hb
 refine Zv (Zd hK14 (Zf (fun K hK17 => Z6 (Yh 7 [6] (fun i b => (i = 6 → b ≠ b2)) ⟨by kernel_rfl, by kernel_rfl⟩ hS (fun w hS hB => Zo [Tt,Tt,Tt,Tt,Tt] (by decide +kernel) PFC.h (LtK.put rfl rfl rfl (Zk Y3 rfl (Zgg _) hS X9 trivial Jt) (LtK.put rfl rfl rfl (Zu rfl) ?_)))))))
 refine LtK.put rfl rfl rfl (Zu rfl) ?_
 obtain ⟨e18, hi20, H⟩ := bind_some H
 obtain ⟨j19, hi20a, hi20b, hi20c⟩ := Xn hi20
 refine LtK.put rfl rfl rfl (Y2 Y1 rfl rfl hi20a hi20c (Rd.el (hS.rd0 s0_.rd) Vf hi20b)) (LtK.put rfl rfl rfl (V8 Zb5 rfl (Zgg _) (Rd.el (hS.rd0 s0_.rd) Vf hi20b) Zfx) (LtK.nil (Yd [Ff,Ff,Ff,Ff,Ff,Tt] 5 ⟨by decide, by kernel_rfl, by kernel_rfl⟩ rfl rfl ?_)))
 try dsimp only [Z2]
 obtain ⟨r21, hm22, H⟩ := bind_some H
 refine Zt rfl rfl rfl rfl (by kernel_rfl) rfl (c_ref06_Next (⟨v9, v10, v11, v12, v13⟩ : St) e18 _ hm22) ?_
 rintro e w ⟨rfl, hN⟩; refine ⟨_, rfl, ?_⟩; obtain ⟨hB, hS⟩ := hS.jn hN
 refine Zh (Ye hB (Xa [Ff,Ff,Ff,Ff,Ff,Ff,Tt] 6 ⟨by decide, by kernel_rfl, by kernel_rfl⟩ rfl rfl ?_))
 try dsimp only [Z2]
 refine Zr rfl rfl rfl CellsOf.agg hS ps1 Zdw (by kernel_rfl) rfl (fun w hS hB => Zh (Yu (hB.sub (fun _ _ h => by simpa using h)) (Z5 (by kernel_rfl) (Zw (Zd hK17 (Zg (Zb 1 rfl ?_)))))))
 refine Za rfl rfl rfl (Xu rfl rfl) (Zb 1 rfl (Zh ?_))
 exact Xo (n, (IntKind.wrap .i64 (v8 + 1)), r21.index, r21.term, r21.sum, r21.level, r21.final) (by repeat (first | exact Sub.nil | refine Sub.cons rfl ?_)) ⟨hS, H⟩ (Nat.lt_succ_self _)
theorem c_ref12_State (x0 : Tu) (x1 : Int) (A0_ : OA) (c0_ : Nat) (w0 : World) (s0_ : SlI w0 enE A0_ c0_ x0.log) {r : St × Bool} (H : Zbx x0 x1 = some r) : Calls Try.prog 34 #[.agg #[.int .i64 x0.snap.index, .int .i64 x0.snap.term, .int .i64 x0.snap.sum, .int .i64 x0.snap.level, .bool x0.snap.final, .slice A0_ x0.log.length c0_, .int .i64 x0.term, .int .i64 x0.vote], .int .i64 x1] w0 fun e w' => e = .returned (.tuple #[.agg #[.int .i64 r.1.index, .int .i64 r.1.term, .int .i64 r.1.sum, .int .i64 r.1.level, .bool r.1.final], .bool r.2]) ∧ St0 All w0 w' [] := by
 unfold Zbx at H
 refine Xw Try.func34 rfl Try.ntmps34 rfl ?_
 have hS := St0.start All w0
 refine Zf (fun K hK1 => Zg (Yq rfl rfl rfl CellsOf.agg hS (fun b2 w hS hB => Yr rfl rfl zc_23 hS (fun b4 w hS hB => Zb 1 rfl (Zh (Zd hK1 (Zf (fun K hK6 => ?_))))))))
 refine Zf (fun K hK7 => Zg (Zb 1 rfl (Za rfl rfl rfl (Zc Xe rfl) (Za rfl rfl rfl (Zc Ys rfl) (Za rfl rfl rfl (Zi Zy rfl (Zgf _) hS X9 trivial Yw) (Za rfl rfl rfl (Y4 rfl rfl) (Zb 1 rfl ?_)))))))
 refine Zs 11 rfl (fun hb => ?_) (fun hb => ?_)
 ·replace H := Zp H hb
  refine Zb 5 rfl (Zh (Zd hK7 (Zn rfl rfl (Zf (fun K hK9 => Zg (Za rfl rfl rfl (Vk (cells := [.int .i64 0, .int .i64 0, .int .i64 0, .int .i64 0, .bool false]) rfl (by kernel_rfl)) (Zr rfl rfl rfl CellsOf.agg hS ps0 Zdw (by kernel_rfl) rfl (fun w hS hB => ?_))))))))
  refine Zb 1 rfl (Zh (Zd hK9 (Zl (Ze (Zm rfl (RV.cell rfl (Z3 Y3 hS hs0 Jt) (RV.tmp rfl RV.nil)) rfl ?_)))))
  obtain rfl := QJ H
  replace hS := hS.cut 0
  exact ⟨rfl, hS⟩
 replace H := Zq H hb
 refine Zb 1 rfl (Za rfl rfl rfl (Zk V2 rfl (Zgf _) hS X9 trivial sg0_8) ?_)
 obtain ⟨r11, hm12, H⟩ := bind_some H
 refine Zt rfl rfl rfl rfl (by kernel_rfl) rfl (c_ref12_Last x0 A0_ c0_ _ (Zgi s0_.k (hS.rd0 s0_.rd) (hS.blk0 s0_.blk)) hm12) ?_
 rintro e w ⟨rfl, hN⟩; refine ⟨_, rfl, ?_⟩; obtain ⟨hB, hS⟩ := hS.jn hN
 refine Za rfl rfl rfl (Y8 rfl rfl) (Zb 1 rfl (Zh (Zd hK7 (Zx rfl (fun hb => ?_) (fun hb => ?_)))))
 ·replace H := Zp H hb
  refine Zf (fun K hK14 => Zg (Za rfl rfl rfl (Vk (cells := [.int .i64 0, .int .i64 0, .int .i64 0, .int .i64 0, .bool false]) rfl (by kernel_rfl)) (Zr rfl rfl rfl CellsOf.agg hS ps0 Zdw (by kernel_rfl) rfl (fun w hS hB => Zb 1 rfl (Zh (Zd hK14 (Zl ?_)))))))
  refine Ze (Zm rfl (RV.cell rfl (Z3 Y3 hS hs0 Jt) (RV.tmp rfl RV.nil)) rfl ?_)
  obtain rfl := QJ H
  replace hS := hS.cut 0
  exact ⟨rfl, hS⟩
 replace H := Zq H hb
 refine Zv (Zd hK6 (Zf (fun K hK16 => Yh 13 [11] (fun i b => (i = 11 → b ≠ b4)) ⟨by kernel_rfl, by kernel_rfl⟩ hS (fun w hS hB => Zo [Tt,Tt,Tt,Tt,Tt,Tt,Tt,Tt,Tt,Tt] (by decide +kernel) PFC.h (LtK.put rfl rfl rfl (Zc Xe rfl) (LtK.put rfl rfl rfl (Zk Y3 rfl (Zgg _) hS X9 trivial Jt) (LtK.put rfl rfl rfl (Zc Yg rfl) ?_)))))))
 refine LtK.put rfl rfl rfl (Zi Y6 rfl (Zgg _) hS X9 trivial Zes) (LtK.put rfl rfl rfl (Zu rfl) (LtK.put rfl rfl rfl (Zc Xe rfl) (LtK.put rfl rfl rfl (Zc Ys rfl) (LtK.put rfl rfl rfl (Zi Zy rfl (Zgg _) hS X9 trivial Yw) (LtK.put rfl rfl rfl (Zeo rfl rfl) ?_)))))
 obtain ⟨l17, ht18, H⟩ := bind_some H
 refine LtK.put rfl rfl rfl (J1 Y1 rfl rfl s0_.k.1 ht18) (LtK.nil (Yd [Ff,Ff,Ff,Ff,Ff,Ff,Ff,Ff,Ff,Ff,Tt] 10 ⟨by decide, by kernel_rfl, by kernel_rfl⟩ rfl rfl ?_))
 try dsimp only [Z2]
 obtain ⟨r19, hm20, H⟩ := bind_some H
 refine Zt rfl rfl rfl rfl (by kernel_rfl) rfl (c_ref06_All x0.snap l17 A0_ c0_ _ (Zgi (Zdo s0_.k ht18) (Rd.takeI Vf (hS.rd0 s0_.rd) ht18) (hS.blk0 s0_.blk)) hm20) ?_
 rintro e w ⟨rfl, hN⟩; refine ⟨_, rfl, ?_⟩; obtain ⟨hB, hS⟩ := hS.jn hN
 refine Zh (Ye hB (Xa [Ff,Ff,Ff,Ff,Ff,Ff,Ff,Ff,Ff,Ff,Ff,Tt] 11 ⟨by decide, by kernel_rfl, by kernel_rfl⟩ rfl rfl ?_))
 try dsimp only [Z2]
 refine Zr rfl rfl rfl CellsOf.agg hS ps0 Zdw (by kernel_rfl) rfl (fun w hS hB => Zh (Yu (hB.sub (fun _ _ h => by simpa using h)) (Zo [Ff,Ff,Ff,Ff,Ff,Ff,Ff,Ff,Ff,Ff,Ff,Ff,Tt] (by decide +kernel) PFC.h (LtK.put rfl rfl rfl (Z7 rfl) (LtK.nil (Z5 (by kernel_rfl) (Zd hK16 ?_)))))))
 refine Zl (Zm rfl (RV.cell rfl (Z3 Y3 hS hs0 Jt) (RV.tmp rfl RV.nil)) rfl ?_)
 obtain rfl := QJ H
 replace hS := hS.cut 0
 exact ⟨rfl, hS⟩
theorem Zcv (x0 : Co) (A0_ : OA) (c0_ : Nat) (A1_ : OA) (c1_ : Nat) (A2_ : OA) (c2_ : Nat) (A3_ : OA) (c3_ : Nat) (A4_ : OA) (c4_ : Nat) (w0 : World) (s0_ : SlI w0 enE A0_ c0_ x0.tuple.log) (s1_ : SlI w0 enO A1_ c1_ x0.votes) (s2_ : SlI w0 Vr A2_ c2_ x0.next) (s3_ : SlI w0 Vr A3_ c3_ x0.mtch) (s4_ : SlI w0 Vr A4_ c4_ x0.caps) {r : Bool} (H : V7 x0 = some r) : Calls Try.prog 10 #[.agg #[.int .i64 x0.id, .int .i64 x0.n, .int .u8 x0.role, .int .i64 x0.binary, .int .i64 x0.tuple.snap.index, .int .i64 x0.tuple.snap.term, .int .i64 x0.tuple.snap.sum, .int .i64 x0.tuple.snap.level, .bool x0.tuple.snap.final, .slice A0_ x0.tuple.log.length c0_, .int .i64 x0.tuple.term, .int .i64 x0.tuple.vote, .int .i64 x0.commit, .int .i64 x0.applied.index, .int .i64 x0.applied.term, .int .i64 x0.applied.sum, .int .i64 x0.applied.level, .bool x0.applied.final, .slice A1_ x0.votes.length c1_, .slice A2_ x0.next.length c2_, .slice A3_ x0.mtch.length c3_, .slice A4_ x0.caps.length c4_]] w0 fun e w' => e = .returned (.bool r) ∧ St0 All w0 w' [] := by
 unfold V7 at H
 refine Yp Try.func10 rfl Try.ntmps10 rfl ?_
 have hS := St0.start All w0
 refine Zf (fun K hK1 => Zg (Yq rfl rfl rfl CellsOf.agg hS (fun b2 w hS hB => Zb 1 rfl (Zh (Zd hK1 (Zf (fun K hK4 => Zf (fun K hK5 => ?_))))))))
 refine Zg (Za rfl rfl rfl (Zc Yx rfl) (Za rfl rfl rfl (Zi Zy rfl (Zgf _) hS hs0 trivial Xd) (Za rfl rfl rfl (Y4 rfl rfl) (Zb 1 rfl (Zs 10 rfl (fun hb => ?_) (fun hb => ?_))))))
 ·replace H := Zp H hb
  refine Zb 37 rfl (Zh (Zd hK5 (Zn rfl rfl (Zf (fun K hK7 => Zg (Zb 1 rfl (Zh ?_)))))))
  refine Zd hK7 (Zl (Ze (Zm rfl (RV.tmp rfl RV.nil) rfl ?_)))
  obtain rfl := QJ H
  replace hS := hS.cut 0
  exact ⟨rfl, hS⟩
 replace H := Zq H hb
 refine Za rfl rfl rfl (Zc Yx rfl) (Za rfl rfl rfl (Zi Zy rfl (Zgf _) hS hs0 trivial Xd) (Za rfl rfl rfl (Y8 rfl rfl) (Zb 2 rfl (Zs 15 rfl (fun hb => ?_) (fun hb => ?_)))))
 ·replace H := Zp H hb
  refine Zb 32 rfl (Zh (Zd hK5 (Zn rfl rfl (Zf (fun K hK10 => Zg (Zb 1 rfl (Zh ?_)))))))
  refine Zd hK10 (Zl (Ze (Zm rfl (RV.tmp rfl RV.nil) rfl ?_)))
  obtain rfl := QJ H
  replace hS := hS.cut 0
  exact ⟨rfl, hS⟩
 replace H := Zq H hb
 refine Za rfl rfl rfl (Zc Xb rfl) (Za rfl rfl rfl (Zi Zy rfl (Zgf _) hS hs0 trivial Yw) (Za rfl rfl rfl (Y4 rfl rfl) (Zb 2 rfl (Zs 20 rfl (fun hb => ?_) (fun hb => ?_)))))
 ·replace H := Zp H hb
  refine Zb 27 rfl (Zh (Zd hK5 (Zn rfl rfl (Zf (fun K hK13 => Zg (Zb 1 rfl (Zh ?_)))))))
  refine Zd hK13 (Zl (Ze (Zm rfl (RV.tmp rfl RV.nil) rfl ?_)))
  obtain rfl := QJ H
  replace hS := hS.cut 0
  exact ⟨rfl, hS⟩
 replace H := Zq H hb
 refine Za rfl rfl rfl (Zc Xb rfl) (Za rfl rfl rfl (Zi Zy rfl (Zgf _) hS hs0 trivial Yw) (Za rfl rfl rfl (Zc Yx rfl) (Za rfl rfl rfl (Zi Zy rfl (Zgf _) hS hs0 trivial Xd) (Za rfl rfl rfl (Y8 rfl rfl) (Zb 2 rfl (Zs 27 rfl (fun hb => ?_) (fun hb => ?_)))))))
 ·replace H := Zp H hb
  refine Zb 20 rfl (Zh (Zd hK5 (Zn rfl rfl (Zf (fun K hK16 => Zg (Zb 1 rfl (Zh ?_)))))))
  refine Zd hK16 (Zl (Ze (Zm rfl (RV.tmp rfl RV.nil) rfl ?_)))
  obtain rfl := QJ H
  replace hS := hS.cut 0
  exact ⟨rfl, hS⟩
 replace H := Zq H hb
 refine Za rfl rfl rfl (Zc Zbg rfl) (Za rfl rfl rfl (Zi Zbi rfl (Zgf _) hS hs0 trivial Zbj) (Za rfl rfl rfl (Y8 rfl rfl) (Zb 2 rfl (Zs 32 rfl (fun hb => ?_) (fun hb => ?_)))))
 ·replace H := Zp H hb
  refine Zb 15 rfl (Zh (Zd hK5 (Zn rfl rfl (Zf (fun K hK19 => Zg (Zb 1 rfl (Zh ?_)))))))
  refine Zd hK19 (Zl (Ze (Zm rfl (RV.tmp rfl RV.nil) rfl ?_)))
  obtain rfl := QJ H
  replace hS := hS.cut 0
  exact ⟨rfl, hS⟩
 replace H := Zq H hb
 refine Za rfl rfl rfl (Zc Zfm rfl) (Za rfl rfl rfl (Zi Zy rfl (Zgf _) hS hs0 trivial Zbe) (Za rfl rfl rfl (Y4 rfl rfl) (Zb 2 rfl (Zs 37 rfl (fun hb => ?_) (fun hb => ?_)))))
 ·replace H := Zp H hb
  refine Zb 10 rfl (Zh (Zd hK5 (Zn rfl rfl (Zf (fun K hK22 => Zg (Zb 1 rfl (Zh ?_)))))))
  refine Zd hK22 (Zl (Ze (Zm rfl (RV.tmp rfl RV.nil) rfl ?_)))
  obtain rfl := QJ H
  replace hS := hS.cut 0
  exact ⟨rfl, hS⟩
 replace H := Zq H hb
 refine Za rfl rfl rfl (Zc Zfm rfl) (Za rfl rfl rfl (Zi Zy rfl (Zgf _) hS hs0 trivial Zbe) (Za rfl rfl rfl (Y8 rfl rfl) (Zb 2 rfl (Zs 42 rfl (fun hb => ?_) (fun hb => ?_)))))
 ·replace H := Zp H hb
  refine Zb 5 rfl (Zh (Zd hK5 (Zn rfl rfl (Zf (fun K hK25 => Zg (Zb 1 rfl (Zh ?_)))))))
  refine Zd hK25 (Zl (Ze (Zm rfl (RV.tmp rfl RV.nil) rfl ?_)))
  obtain rfl := QJ H
  replace hS := hS.cut 0
  exact ⟨rfl, hS⟩
 replace H := Zq H hb
 refine Za rfl rfl rfl (Zc Zz rfl) (Za rfl rfl rfl (Zk V2 rfl (Zgf _) hS hs0 trivial Ze8) ?_)
 obtain ⟨r27, hm28, H⟩ := bind_some H
 refine Zt rfl rfl rfl rfl (by kernel_rfl) rfl (c_ref12_Right x0.tuple A0_ c0_ _ (Zgi s0_.k (hS.rd0 s0_.rd) (hS.blk0 s0_.blk)) hm28) ?_
 rintro e w ⟨rfl, hN⟩; refine ⟨_, rfl, ?_⟩; obtain ⟨hB, hS⟩ := hS.jn hN
 refine Za rfl rfl rfl (Yt rfl) (Zb 1 rfl (Zh (Zd hK5 (Zx rfl (fun hb => ?_) (fun hb => ?_)))))
 ·replace H := Zp H hb
  refine Zf (fun K hK30 => Zg (Zb 1 rfl (Zh (Zd hK30 (Zl (Ze (Zm rfl (RV.tmp rfl RV.nil) rfl ?_)))))))
  obtain rfl := QJ H
  replace hS := hS.cut 0
  exact ⟨rfl, hS⟩
 replace H := Zq H hb
 refine Zv (Zd hK4 (Zf (fun K hK32 => Zg (Za rfl rfl rfl (Zc Zz rfl) (Za rfl rfl rfl (Zk V2 rfl (Zgf _) hS hs0 trivial Ze8) (Za rfl rfl rfl (Zc V6 rfl) (Za rfl rfl rfl (Zi Zy rfl (Zgf _) hS hs0 trivial J9) ?_)))))))
 obtain ⟨r33, hm34, H⟩ := bind_some H
 refine Zt rfl rfl rfl rfl (by kernel_rfl) rfl (c_ref12_State x0.tuple x0.commit A0_ c0_ _ (Zgi s0_.k (hS.rd0 s0_.rd) (hS.blk0 s0_.blk)) hm34) ?_
 rintro e w ⟨rfl, hN⟩; refine ⟨_, rfl, ?_⟩; obtain ⟨hB, hS⟩ := hS.jn hN
 refine Zb 1 rfl (Za rfl rfl rfl (Yj rfl rfl) (Za rfl rfl rfl (Yj rfl rfl) (Yr rfl rfl zc_23 hS (fun b35 w hS hB => Zr rfl rfl rfl CellsOf.agg hS ps0 Zdw (by kernel_rfl) rfl (fun w hS hB => Zb 1 rfl (Zh (Zd hK32 ?_)))))))
 refine Zf (fun K hK37 => Zf (fun K hK38 => Zg (Zb 1 rfl (Za rfl rfl rfl (Yt rfl) (Zb 1 rfl (Zs 58 rfl (fun hb => ?_) (fun hb => ?_)))))))
 ·replace H := Zp H hb
  refine Zb 37 rfl (Zh (Zd hK38 (Zn rfl rfl (Zf (fun K hK40 => Zg (Zb 1 rfl (Zh ?_)))))))
  refine Zd hK40 (Zl (Ze (Zm rfl (RV.tmp rfl RV.nil) rfl ?_)))
  obtain rfl := QJ H
  replace hS := hS.cut 0
  exact ⟨rfl, hS⟩
 replace H := Zq H hb
 refine Za rfl rfl rfl (Zk Y3 rfl (Zgf _) hS hs0 trivial Jt) (Za rfl rfl rfl (Zc fo_30_6 rfl) (Za rfl rfl rfl (Zk Y3 rfl (Zgf _) hS X9 trivial sg13_5) (Za rfl rfl rfl (Zb0 (by kernel_rfl) rfl rfl (Jg _ _ _ _ _ _ _ _ _ _)) (Zb 2 rfl (Zs 64 rfl (fun hb => ?_) (fun hb => ?_))))))
 ·replace H := Zp H hb
  refine Zb 31 rfl (Zh (Zd hK38 (Zn rfl rfl (Zf (fun K hK43 => Zg (Zb 1 rfl (Zh ?_)))))))
  refine Zd hK43 (Zl (Ze (Zm rfl (RV.tmp rfl RV.nil) rfl ?_)))
  obtain rfl := QJ H
  replace hS := hS.cut 0
  exact ⟨rfl, hS⟩
 replace H := Zq H hb
 refine Za rfl rfl rfl (Zc Zaq rfl) (Za rfl rfl rfl (Zi Zf9 rfl (Zgf _) hS X9 trivial Zeq) (Za rfl rfl rfl (Yb Zff rfl) (Za rfl rfl rfl (Zc Yx rfl) (Za rfl rfl rfl (Zi Zy rfl (Zgf _) hS X9 trivial Xd) (Za rfl rfl rfl (Yl rfl rfl) (Zb 2 rfl (Zs 72 rfl (fun hb => ?_) (fun hb => ?_))))))))
 ·replace H := Zp H hb
  refine Zb 23 rfl (Zh (Zd hK38 (Zn rfl rfl (Zf (fun K hK46 => Zg (Zb 1 rfl (Zh ?_)))))))
  refine Zd hK46 (Zl (Ze (Zm rfl (RV.tmp rfl RV.nil) rfl ?_)))
  obtain rfl := QJ H
  replace hS := hS.cut 0
  exact ⟨rfl, hS⟩
 replace H := Zq H hb
 refine Za rfl rfl rfl (Zc Zea rfl) (Za rfl rfl rfl (Zi Zat rfl (Zgf _) hS X9 trivial sg19_1) (Za rfl rfl rfl (Yb Jy rfl) (Za rfl rfl rfl (Zc Yx rfl) (Za rfl rfl rfl (Zi Zy rfl (Zgf _) hS X9 trivial Xd) (Za rfl rfl rfl (Yl rfl rfl) (Zb 2 rfl (Zs 80 rfl (fun hb => ?_) (fun hb => ?_))))))))
 ·replace H := Zp H hb
  refine Zb 15 rfl (Zh (Zd hK38 (Zn rfl rfl (Zf (fun K hK49 => Zg (Zb 1 rfl (Zh ?_)))))))
  refine Zd hK49 (Zl (Ze (Zm rfl (RV.tmp rfl RV.nil) rfl ?_)))
  obtain rfl := QJ H
  replace hS := hS.cut 0
  exact ⟨rfl, hS⟩
 replace H := Zq H hb
 refine Za rfl rfl rfl (Zc Zdm rfl) (Za rfl rfl rfl (Zi Zat rfl (Zgf _) hS X9 trivial sg20_1) (Za rfl rfl rfl (Yb Jy rfl) (Za rfl rfl rfl (Zc Yx rfl) (Za rfl rfl rfl (Zi Zy rfl (Zgf _) hS X9 trivial Xd) (Za rfl rfl rfl (Yl rfl rfl) (Zb 2 rfl (Zs 88 rfl (fun hb => ?_) (fun hb => ?_))))))))
 ·replace H := Zp H hb
  refine Zb 7 rfl (Zh (Zd hK38 (Zn rfl rfl (Zf (fun K hK52 => Zg (Zb 1 rfl (Zh ?_)))))))
  refine Zd hK52 (Zl (Ze (Zm rfl (RV.tmp rfl RV.nil) rfl ?_)))
  obtain rfl := QJ H
  replace hS := hS.cut 0
  exact ⟨rfl, hS⟩
 replace H := Zq H hb
 refine Za rfl rfl rfl (Zc Zam rfl) (Za rfl rfl rfl (Zi Zat rfl (Zgf _) hS X9 trivial Zdy) (Za rfl rfl rfl (Yb Jy rfl) (Za rfl rfl rfl (Zc Yx rfl) (Za rfl rfl rfl (Zi Zy rfl (Zgf _) hS X9 trivial Xd) (Za rfl rfl rfl (Yl rfl rfl) (Zb 1 rfl (Zh ?_)))))))
 refine Zd hK38 (Zx rfl (fun hb => ?_) (fun hb => ?_))
 ·replace H := Zp H hb
  refine Zf (fun K hK55 => Zg (Zb 1 rfl (Zh (Zd hK55 (Zl (Ze (Zm rfl (RV.tmp rfl RV.nil) rfl ?_)))))))
  obtain rfl := QJ H
  replace hS := hS.cut 0
  exact ⟨rfl, hS⟩
 replace H := Zq H hb
 refine Zv (Zd hK37 (Zf (fun K hK57 => Zg (Za rfl rfl rfl (Zc Zz rfl) (Za rfl rfl rfl (Zk V2 rfl (Zgf _) hS X9 trivial Ze8) ?_)))))
 obtain ⟨r58, hm59, H⟩ := bind_some H
 refine Zt rfl rfl rfl rfl (by kernel_rfl) rfl (c_ref12_Last x0.tuple A0_ c0_ _ (Zgi s0_.k (hS.rd0 s0_.rd) (hS.blk0 s0_.blk)) hm59) ?_
 rintro e w ⟨rfl, hN⟩; refine ⟨_, rfl, ?_⟩; obtain ⟨hB, hS⟩ := hS.jn hN
 refine Zb 1 rfl (Zh (Zd hK57 (Zf (fun K hK60 => Zf (fun K hK61 => Zg (Zb 1 rfl (Zh ?_)))))))
 refine Zd hK61 (Z6 (Vp (X := Nat × Bool × Int) (fun x => (1, .pointer (some ⟨b2, 0, none⟩)) :: (2, .bool x.2.1) :: (5, .int .i64 r58) :: (6, .int .i64 x.2.2) :: []) (fun x w => St0 All w0 w (.box b35 [.int .i64 r33.1.index, .int .i64 r33.1.term, .int .i64 r33.1.sum, .int .i64 r33.1.level, .bool r33.1.final] 23 :: .box b2 [.int .i64 x0.id, .int .i64 x0.n, .int .u8 x0.role, .int .i64 x0.binary, .int .i64 x0.tuple.snap.index, .int .i64 x0.tuple.snap.term, .int .i64 x0.tuple.snap.sum, .int .i64 x0.tuple.snap.level, .bool x0.tuple.snap.final, .slice A0_ x0.tuple.log.length c0_, .int .i64 x0.tuple.term, .int .i64 x0.tuple.vote, .int .i64 x0.commit, .int .i64 x0.applied.index, .int .i64 x0.applied.term, .int .i64 x0.applied.sum, .int .i64 x0.applied.level, .bool x0.applied.final, .slice A1_ x0.votes.length c1_, .slice A2_ x0.next.length c2_, .slice A3_ x0.mtch.length c3_, .slice A4_ x0.caps.length c4_] 30 :: []) ∧ J3 x0 r58 x.1 x.2.1 x.2.2 = some r) (fun x => x.1) (Yy, false, 0) (by repeat (first | exact Sub.nil | refine Sub.cons rfl ?_)) ⟨hS, H⟩ ?_))
 rintro ⟨n, v62, v63⟩ w ⟨hS, H⟩
 dsimp only at hS H ⊢
 obtain _ | n := n
 ·have H0 : none = some r := H
  cases H0
 rw [J3] at H
 refine Zf (fun K hK64 => Zf (fun K hK65 => Zg (Zb 1 rfl (Za rfl rfl rfl (Zc Yx rfl) (Za rfl rfl rfl (Zi Zy rfl (Zgf _) hS X9 trivial Xd) (Za rfl rfl rfl (Y4 rfl rfl) (Zh ?_)))))))
 refine Zd hK65 (Zx rfl (fun hb => ?_) (fun hb => ?_))
 rotate_left
 ·replace H := Zq H hb
  refine Xy (Z4 (Z4 (Yz (Zd hK60 (Zf (fun K hK106 => Zf (fun K hK107 => Zg ?_)))))))
  refine Za rfl rfl rfl (Zc Zbg rfl) (Za rfl rfl rfl (Zi Zbi rfl (Zgf _) hS X9 trivial Zbj) (Za rfl rfl rfl (Yl rfl rfl) (Zb 1 rfl (Zs 157 rfl (fun hb => ?_) (fun hb => ?_)))))
  rotate_left
  ·replace H := Zq H hb
   refine Zb 13 rfl (Zh (Zd hK107 (Ym rfl rfl (Zv (Zd hK106 (Zf (fun K hK120 => Yh 11 [] (fun _ _ => True) ⟨by kernel_rfl, by kernel_rfl⟩ hS (fun w hS hB => ?_))))))))
   refine Zo [Tt,Tt,Tt,Tt,Tt,Tt,Tt,Tt,Tt,Tt,Tt] (by decide +kernel) PFC.h (LtK.put rfl rfl rfl (Zc Zam rfl) (LtK.put rfl rfl rfl (Zi Zat rfl (Zgg _) hS X9 trivial Zdy) (LtK.put rfl rfl rfl (Zc Xb rfl) (LtK.put rfl rfl rfl (Zi Zy rfl (Zgg _) hS X9 trivial Yw) (LtK.put rfl rfl rfl (Zeo rfl rfl) ?_)))))
   obtain ⟨e121, hi123, H⟩ := bind_some H
   obtain ⟨j122, hi123a, hi123b, hi123c⟩ := Xn hi123
   refine LtK.put rfl rfl rfl (Y2 Jy rfl rfl hi123a hi123c (Rd.el (hS.rd0 s4_.rd) Ve hi123b)) (LtK.put rfl rfl rfl (Zav Zy rfl (Zgg _) (Rd.el (hS.rd0 s4_.rd) Ve hi123b) rfl) (LtK.put rfl rfl rfl (Zc Zfm rfl) (LtK.put rfl rfl rfl (Zi Zy rfl (Zgg _) hS X9 trivial Zbe) (LtK.put rfl rfl rfl (Xh rfl rfl) (LtK.put rfl rfl rfl (Z7 rfl) (LtK.nil (Z5 (by kernel_rfl) ?_)))))))
   refine Zd hK120 (Zl (Zm rfl (RV.tmp rfl RV.nil) rfl ?_))
   obtain rfl := QJ H
   replace hS := hS.cut 0
   exact ⟨rfl, hS⟩
  replace H := Zp H hb
  refine Za rfl rfl rfl (Zc Zz rfl) (Za rfl rfl rfl (Zc Xc rfl) (Za rfl rfl rfl (Zi Zy rfl (Zgf _) hS X9 trivial Xv) (Za rfl rfl rfl (Y4 rfl rfl) (Zb 1 rfl (Zs 162 rfl (fun hb => ?_) (fun hb => ?_))))))
  ·replace H := Zp H hb
   refine Zb 8 rfl (Zh (Zd hK107 (Zn rfl rfl (Zf (fun K hK110 => Zg (Zb 1 rfl (Zh ?_)))))))
   refine Zd hK110 (Zl (Ze (Zm rfl (RV.tmp rfl RV.nil) rfl ?_)))
   obtain rfl := QJ H
   replace hS := hS.cut 0
   exact ⟨rfl, hS⟩
  replace H := Zq H hb
  refine Za rfl rfl rfl (Zc Zz rfl) (Za rfl rfl rfl (Zc Vq rfl) (Za rfl rfl rfl (Zi Zy rfl (Zgf _) hS X9 trivial Zbz) (Za rfl rfl rfl (Zc Xb rfl) (Za rfl rfl rfl (Zi Zy rfl (Zgf _) hS X9 trivial Yw) (Za rfl rfl rfl (Yl rfl rfl) (Zb 2 rfl (Zh ?_)))))))
  refine Zd hK107 (Zx rfl (fun hb => ?_) (fun hb => ?_))
  ·replace H := Zp H hb
   refine Zf (fun K hK113 => Zg (Zb 1 rfl (Zh (Zd hK113 (Zl (Ze (Zm rfl (RV.tmp rfl RV.nil) rfl ?_)))))))
   obtain rfl := QJ H
   replace hS := hS.cut 0
   exact ⟨rfl, hS⟩
  replace H := Zq H hb
  refine Zv (Zd hK106 (Zf (fun K hK115 => Yh 11 [] (fun _ _ => True) ⟨by kernel_rfl, by kernel_rfl⟩ hS (fun w hS hB => Zo [Tt,Tt,Tt,Tt,Tt,Tt,Tt,Tt,Tt,Tt,Tt] (by decide +kernel) PFC.h (LtK.put rfl rfl rfl (Zc Zam rfl) (LtK.put rfl rfl rfl (Zi Zat rfl (Zgg _) hS X9 trivial Zdy) (LtK.put rfl rfl rfl (Zc Xb rfl) ?_)))))))
  refine LtK.put rfl rfl rfl (Zi Zy rfl (Zgg _) hS X9 trivial Yw) (LtK.put rfl rfl rfl (Zeo rfl rfl) ?_)
  obtain ⟨e116, hi118, H⟩ := bind_some H
  obtain ⟨j117, hi118a, hi118b, hi118c⟩ := Xn hi118
  refine LtK.put rfl rfl rfl (Y2 Jy rfl rfl hi118a hi118c (Rd.el (hS.rd0 s4_.rd) Ve hi118b)) (LtK.put rfl rfl rfl (Zav Zy rfl (Zgg _) (Rd.el (hS.rd0 s4_.rd) Ve hi118b) rfl) (LtK.put rfl rfl rfl (Zc Zfm rfl) (LtK.put rfl rfl rfl (Zi Zy rfl (Zgg _) hS X9 trivial Zbe) (LtK.put rfl rfl rfl (Xh rfl rfl) (LtK.put rfl rfl rfl (Z7 rfl) (LtK.nil (Z5 (by kernel_rfl) ?_)))))))
  refine Zd hK115 (Zl (Zm rfl (RV.tmp rfl RV.nil) rfl ?_))
  obtain rfl := QJ H
  replace hS := hS.cut 0
  exact ⟨rfl, hS⟩
 replace H := Zp H hb
 refine Zv (Zd hK64 (Zf (fun K hK67 => Z6 (Zf (fun K hK68 => Zg (Za rfl rfl rfl (Zc Zea rfl) (Za rfl rfl rfl (Zi Zat rfl (Zgf _) hS X9 trivial sg19_1) ?_)))))))
 refine Zb 1 rfl ?_
 obtain ⟨e69, hi71, H⟩ := bind_some H
 obtain ⟨j70, hi71a, hi71b, hi71c⟩ := Xn hi71
 refine Za rfl rfl rfl (Y2 Jy rfl rfl hi71a hi71c (Rd.el (hS.rd0 s2_.rd) Ve hi71b)) (Za rfl rfl rfl (Zav Zy rfl (Zgf _) (Rd.el (hS.rd0 s2_.rd) Ve hi71b) rfl) (Za rfl rfl rfl (Y4 rfl rfl) (Zb 1 rfl (Zs 111 rfl (fun hb => ?_) (fun hb => ?_)))))
 ·replace H := Zp H hb
  refine Zb 42 rfl (Zh (Zd hK68 (Zn rfl rfl (Zf (fun K hK73 => Zg (Zb 1 rfl (Zh ?_)))))))
  refine Zd hK73 (Zl (Zj (Ze (Ze (Zj (Ze (Zm rfl (RV.tmp rfl RV.nil) rfl ?_)))))))
  obtain rfl := QJ H
  replace hS := hS.cut 0
  exact ⟨rfl, hS⟩
 replace H := Zq H hb
 refine Za rfl rfl rfl (Zc Zea rfl) (Za rfl rfl rfl (Zi Zat rfl (Zgf _) hS X9 trivial sg19_1) (Zb 1 rfl ?_))
 obtain ⟨e75, hi77, H⟩ := bind_some H
 obtain ⟨j76, hi77a, hi77b, hi77c⟩ := Xn hi77
 refine Za rfl rfl rfl (Y2 Jy rfl rfl hi77a hi77c (Rd.el (hS.rd0 s2_.rd) Ve hi77b)) (Za rfl rfl rfl (Zav Zy rfl (Zgf _) (Rd.el (hS.rd0 s2_.rd) Ve hi77b) rfl) (Zb 1 rfl (Za rfl rfl rfl (Xu rfl rfl) (Za rfl rfl rfl (Y8 rfl rfl) (Zb 2 rfl (Zs 121 rfl (fun hb => ?_) (fun hb => ?_)))))))
 ·replace H := Zp H hb
  refine Zb 32 rfl (Zh (Zd hK68 (Zn rfl rfl (Zf (fun K hK79 => Zg (Zb 1 rfl (Zh ?_)))))))
  refine Zd hK79 (Zl (Zj (Ze (Ze (Zj (Ze (Zm rfl (RV.tmp rfl RV.nil) rfl ?_)))))))
  obtain rfl := QJ H
  replace hS := hS.cut 0
  exact ⟨rfl, hS⟩
 replace H := Zq H hb
 refine Za rfl rfl rfl (Zc Zdm rfl) (Za rfl rfl rfl (Zi Zat rfl (Zgf _) hS X9 trivial sg20_1) (Zb 1 rfl ?_))
 obtain ⟨e81, hi83, H⟩ := bind_some H
 obtain ⟨j82, hi83a, hi83b, hi83c⟩ := Xn hi83
 refine Za rfl rfl rfl (Y2 Jy rfl rfl hi83a hi83c (Rd.el (hS.rd0 s3_.rd) Ve hi83b)) (Za rfl rfl rfl (Zav Zy rfl (Zgf _) (Rd.el (hS.rd0 s3_.rd) Ve hi83b) rfl) (Za rfl rfl rfl (Y4 rfl rfl) (Zb 2 rfl (Zs 129 rfl (fun hb => ?_) (fun hb => ?_)))))
 ·replace H := Zp H hb
  refine Zb 24 rfl (Zh (Zd hK68 (Zn rfl rfl (Zf (fun K hK85 => Zg (Zb 1 rfl (Zh ?_)))))))
  refine Zd hK85 (Zl (Zj (Ze (Ze (Zj (Ze (Zm rfl (RV.tmp rfl RV.nil) rfl ?_)))))))
  obtain rfl := QJ H
  replace hS := hS.cut 0
  exact ⟨rfl, hS⟩
 replace H := Zq H hb
 refine Za rfl rfl rfl (Zc Zdm rfl) (Za rfl rfl rfl (Zi Zat rfl (Zgf _) hS X9 trivial sg20_1) (Zb 1 rfl ?_))
 obtain ⟨e87, hi89, H⟩ := bind_some H
 obtain ⟨j88, hi89a, hi89b, hi89c⟩ := Xn hi89
 refine Za rfl rfl rfl (Y2 Jy rfl rfl hi89a hi89c (Rd.el (hS.rd0 s3_.rd) Ve hi89b)) (Za rfl rfl rfl (Zav Zy rfl (Zgf _) (Rd.el (hS.rd0 s3_.rd) Ve hi89b) rfl) (Zb 1 rfl (Za rfl rfl rfl (Y8 rfl rfl) (Zb 2 rfl (Zs 138 rfl (fun hb => ?_) (fun hb => ?_))))))
 ·replace H := Zp H hb
  refine Zb 15 rfl (Zh (Zd hK68 (Zn rfl rfl (Zf (fun K hK91 => Zg (Zb 1 rfl (Zh ?_)))))))
  refine Zd hK91 (Zl (Zj (Ze (Ze (Zj (Ze (Zm rfl (RV.tmp rfl RV.nil) rfl ?_)))))))
  obtain rfl := QJ H
  replace hS := hS.cut 0
  exact ⟨rfl, hS⟩
 replace H := Zq H hb
 refine Za rfl rfl rfl (Zc Zam rfl) (Za rfl rfl rfl (Zi Zat rfl (Zgf _) hS X9 trivial Zdy) (Zb 1 rfl ?_))
 obtain ⟨e93, hi95, H⟩ := bind_some H
 obtain ⟨j94, hi95a, hi95b, hi95c⟩ := Xn hi95
 refine Za rfl rfl rfl (Y2 Jy rfl rfl hi95a hi95c (Rd.el (hS.rd0 s4_.rd) Ve hi95b)) (Za rfl rfl rfl (Zav Zy rfl (Zgf _) (Rd.el (hS.rd0 s4_.rd) Ve hi95b) rfl) (Za rfl rfl rfl (Y4 rfl rfl) (Zb 2 rfl (Zs 146 rfl (fun hb => ?_) (fun hb => ?_)))))
 ·replace H := Zp H hb
  refine Zb 7 rfl (Zh (Zd hK68 (Zn rfl rfl (Zf (fun K hK97 => Zg (Zb 1 rfl (Zh ?_)))))))
  refine Zd hK97 (Zl (Zj (Ze (Ze (Zj (Ze (Zm rfl (RV.tmp rfl RV.nil) rfl ?_)))))))
  obtain rfl := QJ H
  replace hS := hS.cut 0
  exact ⟨rfl, hS⟩
 replace H := Zq H hb
 refine Za rfl rfl rfl (Zc Zam rfl) (Za rfl rfl rfl (Zi Zat rfl (Zgf _) hS X9 trivial Zdy) (Zb 1 rfl ?_))
 obtain ⟨e99, hi101, H⟩ := bind_some H
 obtain ⟨j100, hi101a, hi101b, hi101c⟩ := Xn hi101
 refine Za rfl rfl rfl (Y2 Jy rfl rfl hi101a hi101c (Rd.el (hS.rd0 s4_.rd) Ve hi101b)) (Za rfl rfl rfl (Zav Zy rfl (Zgf _) (Rd.el (hS.rd0 s4_.rd) Ve hi101b) rfl) (Za rfl rfl rfl (Y8 rfl rfl) (Zb 1 rfl (Zh (Zd hK68 (Zx rfl (fun hb => ?_) (fun hb => ?_)))))))
 rotate_left
 ·replace H := Zq H hb
  refine Zv (Zw (Zd hK67 (Zg (Zb 1 rfl (Za rfl rfl rfl (Xu rfl rfl) (Zb 1 rfl (Zh ?_)))))))
  exact Xo (n, v62, (IntKind.wrap .i64 (v63 + 1))) (by repeat (first | exact Sub.nil | refine Sub.cons rfl ?_)) ⟨hS, H⟩ (Nat.lt_succ_self _)
 replace H := Zp H hb
 refine Zf (fun K hK103 => Zg (Zb 1 rfl (Zh (Zd hK103 (Zl (Zj (Ze ?_)))))))
 refine Ze (Zj (Ze (Zm rfl (RV.tmp rfl RV.nil) rfl ?_)))
 obtain rfl := QJ H
 replace hS := hS.cut 0
 exact ⟨rfl, hS⟩
theorem Zf0 (w0 : World) {r : Tu} (H : Zcr = some r) : Calls Try.prog 16 #[] w0 fun e w' => ∃ (A0 : OA) (c0 : Nat), e = .returned (.agg #[.int .i64 r.snap.index, .int .i64 r.snap.term, .int .i64 r.snap.sum, .int .i64 r.snap.level, .bool r.snap.final, .slice A0 r.log.length c0, .int .i64 r.term, .int .i64 r.vote]) ∧ (r.log.length ≤ c0 ∧ c0 ≤ maxLen) ∧ St0 All w0 w' [.rd A0 (Z8 enE r.log)] := by
 unfold Zcr at H
 refine gw_enter0 Try.func16 rfl Try.ntmps16 rfl ?_
 have hS := St0.start All w0
 refine Zf (fun K hK1 => Zg (Yr rfl rfl zc_26 hS (fun b2 w hS hB => Zh (Zd hK1 (Zf (fun K hK4 => Zg ?_))))))
 obtain ⟨r5, hm6, H⟩ := bind_some H
 refine Zt rfl rfl rfl rfl (by kernel_rfl) rfl (Zc2 _ hm6) ?_
 rintro e w ⟨rfl, hN⟩; refine ⟨_, rfl, ?_⟩; obtain ⟨hB, hS⟩ := hS.jn hN
 refine Za rfl rfl rfl (Vk (cells := [.int .i64 r5.index, .int .i64 r5.term, .int .i64 r5.sum, .int .i64 r5.level, .bool r5.final, .slice none 0 0, .int .i64 0, .int .i64 0]) rfl (by kernel_rfl)) (Zr rfl rfl rfl CellsOf.agg hS ps0 st0_8 (by kernel_rfl) rfl (fun w hS hB => Zh (Zd hK4 (Zl (Zm rfl (RV.cell rfl (Z3 V2 hS hs0 sg0_8) RV.nil) rfl ?_)))))
 obtain rfl := QJ H
 have hS := hS.nilRd
 replace hS := hS.cut 1
 exact ⟨none, 0, rfl, ⟨Nat.le_refl _, Nat.zero_le _⟩, hS⟩
theorem c_ref12_Own (x0 : Tu) (A0_ : OA) (c0_ : Nat) (w0 : World) (s0_ : SlI w0 enE A0_ c0_ x0.log) {r : Tu} (H : m_ref12_Own x0 = some r) : Calls Try.prog 41 #[.agg #[.int .i64 x0.snap.index, .int .i64 x0.snap.term, .int .i64 x0.snap.sum, .int .i64 x0.snap.level, .bool x0.snap.final, .slice A0_ x0.log.length c0_, .int .i64 x0.term, .int .i64 x0.vote]] w0 fun e w' => ∃ (A0 : OA) (c0 : Nat), e = .returned (.agg #[.int .i64 r.snap.index, .int .i64 r.snap.term, .int .i64 r.snap.sum, .int .i64 r.snap.level, .bool r.snap.final, .slice A0 r.log.length c0, .int .i64 r.term, .int .i64 r.vote]) ∧ (r.log.length ≤ c0 ∧ c0 ≤ maxLen) ∧ St0 All w0 w' [.row (.slice A0 r.log.length c0) 56 3 r.log.length (Z8 enE r.log)] := by
 unfold m_ref12_Own at H
 refine Yp Try.func41 rfl Try.ntmps41 rfl ?_
 have hS := St0.start All w0
 refine Zf (fun K hK1 => Zg (Yq rfl rfl rfl CellsOf.agg hS (fun b2 w hS hB => Yr rfl rfl zc_26 hS (fun b4 w hS hB => Zh (Zd hK1 (Zf (fun K hK6 => Zg ?_)))))))
 refine Zfe Y1 rfl rfl hS (fun b7 w hS hB => Za rfl rfl rfl (Zc Yg rfl) (Za rfl rfl rfl (Zi Y6 rfl (Zgf _) hS Vt trivial Zes) ?_))
 obtain ⟨l9, hf10, H⟩ := bind_some H
 refine Zc9 (ys := x0.log) Vf oc_enE em_24 (by decide) rfl rfl rfl rfl hS (fun _ => ps0) (hS.rd0 s0_.rd) hf10 (fun A11 c12 w k13 hS => ?_)
 refine Za rfl rfl rfl (Zc Yg rfl) (Zr rfl rfl rfl CellsOf.slice hS ps2 st5_1 (by kernel_rfl) rfl (fun w hS hB => Zh (Zd hK6 (Zf (fun K hK14 => Zg (Za rfl rfl rfl (Zk V2 rfl (Zgf _) hS Vt trivial sg0_8) (Zr rfl rfl rfl CellsOf.agg hS ps1 st0_8 (by kernel_rfl) rfl (fun w hS hB => ?_))))))))
 refine Zh (Zd hK14 (Zl (Zm rfl (RV.cell rfl (Z3 V2 hS X9 sg0_8) RV.nil) rfl ?_)))
 obtain rfl := QJ H
 have hS := hS.front 0 rfl
 replace hS := hS.cut 1
 exact ⟨A11, c12, rfl, k13, hS⟩
theorem c_ref20_New (x0 : Int) (x1 : Int) (x2 : Int) (x3 : Tu) (A0_ : OA) (c0_ : Nat) (w0 : World) (s0_ : SlI w0 enE A0_ c0_ x3.log) {r : Co} (H : Zeh x0 x1 x2 x3 = some r) : Calls Try.prog 15 #[.int .i64 x0, .int .i64 x1, .int .i64 x2, .agg #[.int .i64 x3.snap.index, .int .i64 x3.snap.term, .int .i64 x3.snap.sum, .int .i64 x3.snap.level, .bool x3.snap.final, .slice A0_ x3.log.length c0_, .int .i64 x3.term, .int .i64 x3.vote]] w0 fun e w' => ∃ (A0 : OA) (c0 : Nat) (A1 : OA) (c1 : Nat) (A2 : OA) (c2 : Nat) (A3 : OA) (c3 : Nat) (A4 : OA) (c4 : Nat), e = .returned (.agg #[.int .i64 r.id, .int .i64 r.n, .int .u8 r.role, .int .i64 r.binary, .int .i64 r.tuple.snap.index, .int .i64 r.tuple.snap.term, .int .i64 r.tuple.snap.sum, .int .i64 r.tuple.snap.level, .bool r.tuple.snap.final, .slice A0 r.tuple.log.length c0, .int .i64 r.tuple.term, .int .i64 r.tuple.vote, .int .i64 r.commit, .int .i64 r.applied.index, .int .i64 r.applied.term, .int .i64 r.applied.sum, .int .i64 r.applied.level, .bool r.applied.final, .slice A1 r.votes.length c1, .slice A2 r.next.length c2, .slice A3 r.mtch.length c3, .slice A4 r.caps.length c4]) ∧ (r.tuple.log.length ≤ c0 ∧ c0 ≤ maxLen) ∧ (r.votes.length ≤ c1 ∧ c1 ≤ maxLen) ∧ (r.next.length ≤ c2 ∧ c2 ≤ maxLen) ∧ (r.mtch.length ≤ c3 ∧ c3 ≤ maxLen) ∧ (r.caps.length ≤ c4 ∧ c4 ≤ maxLen) ∧ St0 All w0 w' [.row (.slice A0 r.tuple.log.length c0) 56 3 r.tuple.log.length (Z8 enE r.tuple.log), .row (.slice A1 r.votes.length c1) 4 1 r.votes.length (Z8 enO r.votes), .row (.slice A2 r.next.length c2) 3 1 r.next.length (Z8 Vr r.next), .row (.slice A3 r.mtch.length c3) 3 1 r.mtch.length (Z8 Vr r.mtch), .row (.slice A4 r.caps.length c4) 3 1 r.caps.length (Z8 Vr r.caps)] := by
 unfold Zeh at H
 refine gw_enter4 Try.func15 rfl Try.ntmps15 rfl ?_
 have hS := St0.start All w0
 refine Zf (fun K hK1 => Zg (Yq rfl rfl rfl CellsOf.agg hS (fun b2 w hS hB => Yr rfl rfl Zcn hS (fun b4 w hS hB => Zh (Zd hK1 (Zf (fun K hK6 => Zf (fun K hK7 => ?_))))))))
 refine Zg (Zb 1 rfl (Za rfl rfl rfl (Y4 rfl rfl) (Zb 1 rfl (Zs 13 rfl (fun hb => ?_) (fun hb => ?_)))))
 ·replace H := Zp H hb
  refine Zb 12 rfl (Zh (Zd hK7 (Zn rfl rfl (Zf (fun K hK9 => Zg (Za rfl rfl rfl (Vk (cells := [.int .i64 0, .int .i64 0, .int .u8 0, .int .i64 0, .int .i64 0, .int .i64 0, .int .i64 0, .int .i64 0, .bool false, .slice none 0 0, .int .i64 0, .int .i64 0, .int .i64 0, .int .i64 0, .int .i64 0, .int .i64 0, .int .i64 0, .bool false, .slice none 0 0, .slice none 0 0, .slice none 0 0, .slice none 0 0]) rfl (by kernel_rfl)) (Zr rfl rfl rfl CellsOf.agg hS ps0 Yo (by kernel_rfl) rfl (fun w hS hB => ?_))))))))
  refine Zh (Zd hK9 (Zl (Ze (Zm rfl (RV.cell rfl (Z3 Ya hS hs0 Z1) RV.nil) rfl ?_))))
  obtain rfl := QJ H
  have hS := hS.nilRow 3 1
  have hS := hS.nilRow 3 1
  have hS := hS.nilRow 3 1
  have hS := hS.nilRow 4 1
  have hS := hS.nilRow 56 3
  replace hS := hS.cut 5
  exact ⟨none, 0, none, 0, none, 0, none, 0, none, 0, rfl, ⟨Nat.le_refl _, Nat.zero_le _⟩, ⟨Nat.le_refl _, Nat.zero_le _⟩, ⟨Nat.le_refl _, Nat.zero_le _⟩, ⟨Nat.le_refl _, Nat.zero_le _⟩, ⟨Nat.le_refl _, Nat.zero_le _⟩, hS⟩
 replace H := Zq H hb
 refine Zb 1 rfl (Za rfl rfl rfl (Y8 rfl rfl) (Zb 2 rfl (Zs 17 rfl (fun hb => ?_) (fun hb => ?_))))
 ·replace H := Zp H hb
  refine Zb 8 rfl (Zh (Zd hK7 (Zn rfl rfl (Zf (fun K hK12 => Zg (Za rfl rfl rfl (Vk (cells := [.int .i64 0, .int .i64 0, .int .u8 0, .int .i64 0, .int .i64 0, .int .i64 0, .int .i64 0, .int .i64 0, .bool false, .slice none 0 0, .int .i64 0, .int .i64 0, .int .i64 0, .int .i64 0, .int .i64 0, .int .i64 0, .int .i64 0, .bool false, .slice none 0 0, .slice none 0 0, .slice none 0 0, .slice none 0 0]) rfl (by kernel_rfl)) (Zr rfl rfl rfl CellsOf.agg hS ps0 Yo (by kernel_rfl) rfl (fun w hS hB => ?_))))))))
  refine Zh (Zd hK12 (Zl (Ze (Zm rfl (RV.cell rfl (Z3 Ya hS hs0 Z1) RV.nil) rfl ?_))))
  obtain rfl := QJ H
  have hS := hS.nilRow 3 1
  have hS := hS.nilRow 3 1
  have hS := hS.nilRow 3 1
  have hS := hS.nilRow 4 1
  have hS := hS.nilRow 56 3
  replace hS := hS.cut 5
  exact ⟨none, 0, none, 0, none, 0, none, 0, none, 0, rfl, ⟨Nat.le_refl _, Nat.zero_le _⟩, ⟨Nat.le_refl _, Nat.zero_le _⟩, ⟨Nat.le_refl _, Nat.zero_le _⟩, ⟨Nat.le_refl _, Nat.zero_le _⟩, ⟨Nat.le_refl _, Nat.zero_le _⟩, hS⟩
 replace H := Zq H hb
 refine Zb 1 rfl (Za rfl rfl rfl (Y4 rfl rfl) (Zb 2 rfl (Zs 21 rfl (fun hb => ?_) (fun hb => ?_))))
 ·replace H := Zp H hb
  refine Zb 4 rfl (Zh (Zd hK7 (Zn rfl rfl (Zf (fun K hK15 => Zg (Za rfl rfl rfl (Vk (cells := [.int .i64 0, .int .i64 0, .int .u8 0, .int .i64 0, .int .i64 0, .int .i64 0, .int .i64 0, .int .i64 0, .bool false, .slice none 0 0, .int .i64 0, .int .i64 0, .int .i64 0, .int .i64 0, .int .i64 0, .int .i64 0, .int .i64 0, .bool false, .slice none 0 0, .slice none 0 0, .slice none 0 0, .slice none 0 0]) rfl (by kernel_rfl)) (Zr rfl rfl rfl CellsOf.agg hS ps0 Yo (by kernel_rfl) rfl (fun w hS hB => ?_))))))))
  refine Zh (Zd hK15 (Zl (Ze (Zm rfl (RV.cell rfl (Z3 Ya hS hs0 Z1) RV.nil) rfl ?_))))
  obtain rfl := QJ H
  have hS := hS.nilRow 3 1
  have hS := hS.nilRow 3 1
  have hS := hS.nilRow 3 1
  have hS := hS.nilRow 4 1
  have hS := hS.nilRow 56 3
  replace hS := hS.cut 5
  exact ⟨none, 0, none, 0, none, 0, none, 0, none, 0, rfl, ⟨Nat.le_refl _, Nat.zero_le _⟩, ⟨Nat.le_refl _, Nat.zero_le _⟩, ⟨Nat.le_refl _, Nat.zero_le _⟩, ⟨Nat.le_refl _, Nat.zero_le _⟩, ⟨Nat.le_refl _, Nat.zero_le _⟩, hS⟩
 replace H := Zq H hb
 refine Zb 2 rfl (Za rfl rfl rfl (Y8 rfl rfl) (Zb 1 rfl (Zh (Zd hK7 (Zx rfl (fun hb => ?_) (fun hb => ?_))))))
 ·replace H := Zp H hb
  refine Zf (fun K hK18 => Zg (Za rfl rfl rfl (Vk (cells := [.int .i64 0, .int .i64 0, .int .u8 0, .int .i64 0, .int .i64 0, .int .i64 0, .int .i64 0, .int .i64 0, .bool false, .slice none 0 0, .int .i64 0, .int .i64 0, .int .i64 0, .int .i64 0, .int .i64 0, .int .i64 0, .int .i64 0, .bool false, .slice none 0 0, .slice none 0 0, .slice none 0 0, .slice none 0 0]) rfl (by kernel_rfl)) (Zr rfl rfl rfl CellsOf.agg hS ps0 Yo (by kernel_rfl) rfl (fun w hS hB => Zh (Zd hK18 (Zl (Ze ?_)))))))
  refine Zm rfl (RV.cell rfl (Z3 Ya hS hs0 Z1) RV.nil) rfl ?_
  obtain rfl := QJ H
  have hS := hS.nilRow 3 1
  have hS := hS.nilRow 3 1
  have hS := hS.nilRow 3 1
  have hS := hS.nilRow 4 1
  have hS := hS.nilRow 56 3
  replace hS := hS.cut 5
  exact ⟨none, 0, none, 0, none, 0, none, 0, none, 0, rfl, ⟨Nat.le_refl _, Nat.zero_le _⟩, ⟨Nat.le_refl _, Nat.zero_le _⟩, ⟨Nat.le_refl _, Nat.zero_le _⟩, ⟨Nat.le_refl _, Nat.zero_le _⟩, ⟨Nat.le_refl _, Nat.zero_le _⟩, hS⟩
 replace H := Zq H hb
 refine Zv (Zd hK6 (Zf (fun K hK20 => Yh 13 [12] (fun i b => (i = 12 → b = b4 ∨ b = b2)) ⟨by kernel_rfl, by kernel_rfl⟩ hS (fun w hS hB => wpRF_start [⟨11, 9, 30, [.int .i64 0, .int .i64 0, .int .u8 0, .int .i64 0, .int .i64 0, .int .i64 0, .int .i64 0, .int .i64 0, .bool false, .slice none 0 0, .int .i64 0, .int .i64 0, .int .i64 0, .int .i64 0, .int .i64 0, .int .i64 0, .int .i64 0, .bool false, .slice none 0 0, .slice none 0 0, .slice none 0 0, .slice none 0 0]⟩] (.cons rfl Zcn rfl rfl rfl .nil) hS (fun hok => ?_)))))
 dsimp only [List.cons_append, List.nil_append]
 refine Zcc [Tt,Tt,Tt,Tt,Ff,Tt,Tt,Tt,Tt,Tt] [] (fun _ => True) (by decide +kernel) (fun _ h => by cases h) PFC.h (fun X Y tk ht w hS => LtK.put rfl rfl rfl (Zu rfl) (LtK.put rfl rfl rfl (Zu rfl) (LtK.put rfl rfl rfl (Zu rfl) (LtK.put rfl rfl rfl (Zk V2 rfl (Zgh _ _) hS X9 trivial sg0_8) (LtK.put rfl rfl rfl (Zc Xe rfl) (LtK.put rfl rfl rfl (Zc Ys rfl) (LtK.put rfl rfl rfl (Zi Zy rfl (Zgh _ _) hS X9 trivial Yw) ?_)))))))
 refine LtK.put rfl rfl rfl (Zc Xe rfl) (LtK.put rfl rfl rfl (Zk Y3 rfl (Zgh _ _) hS X9 trivial Jt) (LtK_F' ht hS (by repeat (first | exact App.nil | apply App.cons)) (by repeat (first | exact App.nil | apply App.cons)) ?_))
 dsimp only [List.cons_append, List.nil_append]
 refine Zf8 [Ff,Ff,Ff,Ff,Tt] 4 hok ⟨by decide, by decide +kernel, by decide, by decide⟩ rfl rfl (fun _ => rfl) (fun _ => rfl) rfl (hend_of (by decide +kernel)) (fun X Y tk ht w hS => ?_)
 try dsimp only [Z2]
 obtain ⟨r21, hm22, H⟩ := bind_some H
 refine Zt rfl rfl rfl rfl (by kernel_rfl) rfl (c_ref12_Own x3 A0_ c0_ _ (Zgi s0_.k (hS.rd0 s0_.rd) (hS.blk0 s0_.blk)) hm22) ?_
 rintro e w ⟨A23, c24, rfl, k25, hN⟩; refine ⟨_, rfl, ?_⟩; obtain ⟨hB, hS⟩ := hS.jn hN
 refine Zh (Zge ht hS hB (by repeat (first | exact App.nil | apply App.cons)) (by repeat (first | exact App.nil | apply App.cons)) ?_)
 dsimp only [List.cons_append, List.nil_append]
 refine Zcc [Ff,Ff,Ff,Ff,Ff,Ff,Ff,Ff,Ff,Ff,Tt] [] (fun _ => True) (by decide +kernel) (fun _ h => by cases h) PFC.h (fun X Y tk ht w hS => LtK.put rfl rfl rfl (Vk (cells := [.int .i64 x0, .int .i64 x1, .int .u8 0, .int .i64 x2, .int .i64 r21.snap.index, .int .i64 r21.snap.term, .int .i64 r21.snap.sum, .int .i64 r21.snap.level, .bool r21.snap.final, .slice A23 r21.log.length c24, .int .i64 r21.term, .int .i64 r21.vote, .int .i64 x3.snap.index, .int .i64 x3.snap.index, .int .i64 x3.snap.term, .int .i64 x3.snap.sum, .int .i64 x3.snap.level, .bool x3.snap.final, .slice none 0 0, .slice none 0 0, .slice none 0 0, .slice none 0 0]) rfl (by kernel_rfl)) (LtK_F' ht hS (by repeat (first | exact App.nil | apply App.cons)) (by repeat (first | exact App.nil | apply App.cons)) ?_))
 dsimp only [List.cons_append, List.nil_append]
 refine wpRF_done hok (by decide) (by decide +kernel) (fun _ => rfl) (fun _ => rfl) rfl (fun tk htk w hS => ?_)
 obtain ⟨b27, tkb27, rfl, htk29⟩ := tk_cons htk
 obtain rfl := tk_nil htk29
 dsimp only [tkH, tkL, List.map] at hS ⊢
 refine Xa [Ff,Ff,Ff,Ff,Ff,Ff,Ff,Ff,Ff,Ff,Ff,Ff,Tt] 12 ⟨by decide, by kernel_rfl, by kernel_rfl⟩ rfl rfl ?_
 try dsimp only [Z2]
 refine Zr rfl rfl rfl CellsOf.agg hS ps3 Yo (by kernel_rfl) rfl (fun w hS hB => Zh (Yu (hB.sub (fun b _ h => by have h0 : b = b4 ∨ b = b2 := (by simpa using h); rcases h0 with h0 | h0; (rw [h0]; exact hS.ne 1 3 rfl rfl rfl); (rw [h0]; exact hS.ne 2 3 rfl rfl rfl))) (Z5 (by kernel_rfl) (Zd hK20 (Zf (fun K hK30 => Zf (fun K hK31 => Zg ?_)))))))
 refine Zb 1 rfl (Zh (Zd hK31 (Z6 ?_)))
 replace hS := hS.nilRow 4 1
 replace hS := hS.nilRow 3 1
 replace hS := hS.nilRow 3 1
 replace hS := hS.nilRow 3 1
 refine Vp (X := Nat × Int × List Bool × OA × Nat × List Int × OA × Nat × List Int × OA × Nat × List Int × OA × Nat) (fun x => (0, .int .i64 x0) :: (1, .int .i64 x1) :: (2, .int .i64 x2) :: (7, .pointer (some ⟨b2, 0, none⟩)) :: (8, .pointer (some ⟨b4, 0, none⟩)) :: (9, .pointer (some ⟨b27, 0, none⟩)) :: (10, .int .i64 x.2.1) :: []) (fun x w => St0 All w0 w (.row (.slice x.2.2.2.2.2.2.2.2.2.2.2.2.1 x.2.2.2.2.2.2.2.2.2.2.2.1.length x.2.2.2.2.2.2.2.2.2.2.2.2.2) 3 1 x.2.2.2.2.2.2.2.2.2.2.2.1.length (Z8 Vr x.2.2.2.2.2.2.2.2.2.2.2.1) :: .row (.slice x.2.2.2.2.2.2.2.2.2.1 x.2.2.2.2.2.2.2.2.1.length x.2.2.2.2.2.2.2.2.2.2.1) 3 1 x.2.2.2.2.2.2.2.2.1.length (Z8 Vr x.2.2.2.2.2.2.2.2.1) :: .row (.slice x.2.2.2.2.2.2.1 x.2.2.2.2.2.1.length x.2.2.2.2.2.2.2.1) 3 1 x.2.2.2.2.2.1.length (Z8 Vr x.2.2.2.2.2.1) :: .row (.slice x.2.2.2.1 x.2.2.1.length x.2.2.2.2.1) 4 1 x.2.2.1.length (Z8 enO x.2.2.1) :: .row (.slice A23 r21.log.length c24) 56 3 r21.log.length (Z8 enE r21.log) :: .box b4 [.int .i64 0, .int .i64 0, .int .u8 0, .int .i64 0, .int .i64 0, .int .i64 0, .int .i64 0, .int .i64 0, .bool false, .slice none 0 0, .int .i64 0, .int .i64 0, .int .i64 0, .int .i64 0, .int .i64 0, .int .i64 0, .int .i64 0, .bool false, .slice none 0 0, .slice none 0 0, .slice none 0 0, .slice none 0 0] 30 :: .box b2 [.int .i64 x3.snap.index, .int .i64 x3.snap.term, .int .i64 x3.snap.sum, .int .i64 x3.snap.level, .bool x3.snap.final, .slice A0_ x3.log.length c0_, .int .i64 x3.term, .int .i64 x3.vote] 26 :: .box b27 [.int .i64 x0, .int .i64 x1, .int .u8 0, .int .i64 x2, .int .i64 r21.snap.index, .int .i64 r21.snap.term, .int .i64 r21.snap.sum, .int .i64 r21.snap.level, .bool r21.snap.final, .slice A23 r21.log.length c24, .int .i64 r21.term, .int .i64 r21.vote, .int .i64 x3.snap.index, .int .i64 x3.snap.index, .int .i64 x3.snap.term, .int .i64 x3.snap.sum, .int .i64 x3.snap.level, .bool x3.snap.final, .slice x.2.2.2.1 x.2.2.1.length x.2.2.2.2.1, .slice x.2.2.2.2.2.2.1 x.2.2.2.2.2.1.length x.2.2.2.2.2.2.2.1, .slice x.2.2.2.2.2.2.2.2.2.1 x.2.2.2.2.2.2.2.2.1.length x.2.2.2.2.2.2.2.2.2.2.1, .slice x.2.2.2.2.2.2.2.2.2.2.2.2.1 x.2.2.2.2.2.2.2.2.2.2.2.1.length x.2.2.2.2.2.2.2.2.2.2.2.2.2] 30 :: []) ∧ (x.2.2.1.length ≤ x.2.2.2.2.1 ∧ x.2.2.2.2.1 ≤ maxLen) ∧ (x.2.2.2.2.2.1.length ≤ x.2.2.2.2.2.2.2.1 ∧ x.2.2.2.2.2.2.2.1 ≤ maxLen) ∧ (x.2.2.2.2.2.2.2.2.1.length ≤ x.2.2.2.2.2.2.2.2.2.2.1 ∧ x.2.2.2.2.2.2.2.2.2.2.1 ≤ maxLen) ∧ (x.2.2.2.2.2.2.2.2.2.2.2.1.length ≤ x.2.2.2.2.2.2.2.2.2.2.2.2.2 ∧ x.2.2.2.2.2.2.2.2.2.2.2.2.2 ≤ maxLen) ∧ Zdn x0 x1 x2 x3 r21 x.1 x.2.1 x.2.2.1 x.2.2.2.2.2.1 x.2.2.2.2.2.2.2.2.1 x.2.2.2.2.2.2.2.2.2.2.2.1 = some r) (fun x => x.1) (Yy, 1, [], none, 0, [], none, 0, [], none, 0, [], none, 0) (by repeat (first | exact Sub.nil | refine Sub.cons rfl ?_)) ⟨hS, ⟨Nat.le_refl _, Nat.zero_le _⟩, ⟨Nat.le_refl _, Nat.zero_le _⟩, ⟨Nat.le_refl _, Nat.zero_le _⟩, ⟨Nat.le_refl _, Nat.zero_le _⟩, H⟩ ?_
 rintro ⟨n, v32, v33, A34, c35, v38, A39, c40, v43, A44, c45, v48, A49, c50⟩ w ⟨hS, k36, k41, k46, k51, H⟩
 dsimp only at hS k36 k41 k46 k51 H ⊢
 obtain _ | n := n
 ·have H0 : none = some r := H
  cases H0
 rw [Zdn] at H
 refine Zf (fun K hK53 => Zf (fun K hK54 => Zg (Zb 2 rfl (Za rfl rfl rfl (Zen rfl rfl) (Zh (Zd hK54 (Zx rfl (fun hb => ?_) (fun hb => ?_))))))))
 rotate_left
 ·replace H := Zq H hb
  refine Xy (Z4 (Z4 (Yz (Zd hK30 (Zf (fun K hK91 => Zg (Za rfl rfl rfl (Zc Zam rfl) ?_)))))))
  refine Za rfl rfl rfl (Zi Zat rfl (Zgf _) hS hs7 trivial Zdy) (Zb 1 rfl (Za rfl rfl rfl (Zeo rfl rfl) (Zb 1 rfl ?_)))
  obtain ⟨e92, hi94, H⟩ := bind_some H
  obtain ⟨j93, hi94a, hi94b, hi94c⟩ := Xn hi94
  refine Za rfl rfl rfl (Y2 Jy rfl rfl hi94a hi94c (Rd.el (hS.row_rd hs0) Ve hi94b)) (Ze6 (a' := x2) (zs := (Zbf v48 (IntKind.wrap .i64 (x0 - 1)) x2)) Ve rfl rfl rfl CellsOf.int hS ps0 (Rd.el (hS.row_rd hs0) Ve hi94b) hi94a hi94b rfl Zfn (by kernel_rfl) rfl (fun w hS => ?_))
  have hi95b := Zfr (a := x2) hi94a hi94b
  have hi95a := hi94a
  refine Zh (Zd hK91 (Zf (fun K hK96 => Zg (Za rfl rfl rfl (Zk Ya rfl (Zgf _) hS hs7 trivial Z1) (Zr rfl rfl rfl CellsOf.agg hS ps5 Yo (by kernel_rfl) rfl (fun w hS hB => Zh (Zd hK96 ?_)))))))
  refine Zl (Zm rfl (RV.cell rfl (Z3 Ya hS hs5 Z1) RV.nil) rfl ?_)
  obtain rfl := QJ H
  have hS := hS.front 0 rfl
  have hS := hS.front 1 rfl
  have hS := hS.front 2 rfl
  have hS := hS.front 3 rfl
  have hS := hS.front 4 rfl
  replace hS := hS.cut 5
  exact ⟨A23, c24, A34, c35, A39, c40, A44, c45, A49, c50, by (repeat rw [(Vu rfl)]); rfl, k25, k36, k41, k46, (Zdv k51), hS.eqv (by (repeat rw [(Vu rfl)]); rfl)⟩
 replace H := Zp H hb
 refine Zv (Zd hK53 (Zf (fun K hK56 => Z6 (Zf (fun K hK57 => Zg (Za rfl rfl rfl (Zc Zaq rfl) (Za rfl rfl rfl (Zi Zf9 rfl (Zgf _) hS hs7 trivial Zeq) ?_)))))))
 refine Xi (ps := [(0, .const (.bool false))]) [.bool false] Zff zc_4 rfl rfl rfl rfl rfl (by kernel_rfl) hS (fun b58 w hS hB => ?_)
 obtain ⟨l60, hf61, H⟩ := bind_some H
 refine Zc9 (ys := ([false] : List Bool)) Zco oc_enO em_27 (by decide) rfl rfl rfl rfl hS (fun _ => ps4) (hS.box_rd hs0) hf61 (fun A62 c63 w k64 hS => ?_)
 refine Za rfl rfl rfl (Zc Zaq rfl) (Zr rfl rfl rfl CellsOf.slice hS ps8 st18_1 (by kernel_rfl) rfl (fun w hS hB => Zh (Zd hK57 (Zf (fun K hK65 => Yh 9 [6, 8] (fun i b => (i = 6 → False) ∧ (i = 8 → b ≠ b27)) ⟨by kernel_rfl, by kernel_rfl⟩ hS (fun w hS hB => Zo [Tt,Tt,Tt] (by decide +kernel) PFC.h (LtK.put rfl rfl rfl (Zc Zea rfl) ?_)))))))
 refine LtK.put rfl rfl rfl (Zi Zat rfl (Zgg _) hS hs8 trivial sg19_1) (LtK.put rfl rfl rfl (Zk V2 rfl (Zgg _) hS hs7 trivial sg0_8) (LtK.nil (Yd [Ff,Ff,Ff,Tt] 3 ⟨by decide, by kernel_rfl, by kernel_rfl⟩ rfl rfl ?_)))
 try dsimp only [Z2]
 obtain ⟨r66, hm67, H⟩ := bind_some H
 refine Zt rfl rfl rfl rfl (by kernel_rfl) rfl (c_ref12_Last x3 A0_ c0_ _ (Zgi s0_.k (hS.rd0 s0_.rd) (hS.blk0 s0_.blk)) hm67) ?_
 rintro e w ⟨rfl, hN⟩; refine ⟨_, rfl, ?_⟩; obtain ⟨hB, hS⟩ := hS.jn hN
 refine Zh (Ye hB (Zo [Ff,Ff,Ff,Ff,Tt] (by decide +kernel) PFC.h (LtK.put rfl rfl rfl (Xu rfl rfl) (LtK.nil (Yd [Ff,Ff,Ff,Ff,Ff,Tt] 5 ⟨by decide, by kernel_rfl, by kernel_rfl⟩ rfl rfl ?_)))))
 try dsimp only [Z2]
 refine Xi (ps := [(0, .tmp 52)]) [.int .i64 (IntKind.wrap .i64 (r66 + 1))] Jy zc_3 rfl rfl rfl rfl rfl (by kernel_rfl) hS (fun b68 w hS hB => Zh (Ye hB (Xa [Ff,Ff,Ff,Ff,Ff,Ff,Tt] 6 ⟨by decide, by kernel_rfl, by kernel_rfl⟩ rfl rfl ?_)))
 try dsimp only [Z2]
 obtain ⟨l70, hf71, H⟩ := bind_some H
 refine wpX_append2 (ys := ([(IntKind.wrap .i64 (r66 + 1))] : List Int)) Ve oc_enI em_28 (by decide) rfl rfl rfl rfl hS (fun _ => ps4) (hS.box_rd hs0) hf71 (fun A72 c73 w k74 hS hB => ?_)
 refine Zh (Yu (hB.sub (fun _ _ h => by simp at h)) ?_)
 refine Zo [Ff,Ff,Ff,Ff,Ff,Ff,Ff,Tt] (by decide +kernel) PFC.h (LtK.put rfl rfl rfl (Zc Zea rfl) (LtK.nil (Xa [Ff,Ff,Ff,Ff,Ff,Ff,Ff,Ff,Tt] 8 ⟨by decide, by kernel_rfl, by kernel_rfl⟩ rfl rfl ?_)))
 try dsimp only [Z2]
 refine Zr rfl rfl rfl CellsOf.slice hS ps9 st19_1 (by kernel_rfl) rfl (fun w hS hB => Zh (Yu (hB.sub (fun _ _ h => by simpa using h)) (Z5 (by kernel_rfl) (Zd hK65 (Zf (fun K hK75 => Zg (Za rfl rfl rfl (Zc Zdm rfl) ?_)))))))
 refine Za rfl rfl rfl (Zi Zat rfl (Zgf _) hS hs9 trivial sg20_1) (Xi (ps := [(0, .const (.int .i64 0))]) [.int .i64 0] Jy zc_3 rfl rfl rfl rfl rfl (by kernel_rfl) hS (fun b76 w hS hB => ?_))
 obtain ⟨l78, hf79, H⟩ := bind_some H
 refine Zc9 (ys := ([0] : List Int)) Ve oc_enI em_28 (by decide) rfl rfl rfl rfl hS (fun _ => ps4) (hS.box_rd hs0) hf79 (fun A80 c81 w k82 hS => ?_)
 refine Za rfl rfl rfl (Zc Zdm rfl) (Zr rfl rfl rfl CellsOf.slice hS ps10 st20_1 (by kernel_rfl) rfl (fun w hS hB => Zh (Zd hK75 (Zg (Za rfl rfl rfl (Zc Zam rfl) (Za rfl rfl rfl (Zi Zat rfl (Zgf _) hS hs10 trivial Zdy) (Xi (ps := [(0, .const (.int .i64 0))]) [.int .i64 0] Jy zc_3 rfl rfl rfl rfl rfl (by kernel_rfl) hS (fun b83 w hS hB => ?_))))))))
 obtain ⟨l85, hf86, H⟩ := bind_some H
 refine Zc9 (ys := ([0] : List Int)) Ve oc_enI em_28 (by decide) rfl rfl rfl rfl hS (fun _ => ps4) (hS.box_rd hs0) hf86 (fun A87 c88 w k89 hS => ?_)
 refine Za rfl rfl rfl (Zc Zam rfl) (Zr rfl rfl rfl CellsOf.slice hS ps11 st21_1 (by kernel_rfl) rfl (fun w hS hB => Zh (Zw (Zd hK56 (Zg (Zb 1 rfl (Za rfl rfl rfl (Xu rfl rfl) ?_)))))))
 refine Zb 1 rfl (Zh ?_)
 exact Xo (n, (IntKind.wrap .i64 (v32 + 1)), l60, A62, c63, l70, A72, c73, l78, A80, c81, l85, A87, c88) (by repeat (first | exact Sub.nil | refine Sub.cons rfl ?_)) ⟨(hS.sub (List.Sublist.cons _ (List.Sublist.cons _ (List.Sublist.cons _ (List.Sublist.cons _ (List.Sublist.cons_cons _ (List.Sublist.cons_cons _ (List.Sublist.cons_cons _ (List.Sublist.cons_cons _ (List.Sublist.cons_cons _ (List.Sublist.cons_cons _ (List.Sublist.cons_cons _ (List.Sublist.cons_cons _ List.Sublist.slnil))))))))))))), k64, k74, k82, k89, H⟩ (Nat.lt_succ_self _)
theorem Zac (x0 : List En) (A0_ : OA) (c0_ : Nat) (w0 : World) (s0_ : SlW w0 enE A0_ c0_ x0) {r : List En} (H : Xk x0 = some r) : Calls Try.prog 83 #[.slice A0_ x0.length c0_] w0 fun e w' => ∃ (A0 : OA) (c0 : Nat), e = .returned (.slice A0 r.length c0) ∧ (r.length ≤ c0 ∧ c0 ≤ maxLen) ∧ St0 All w0 w' [.row (.slice A0 r.length c0) 56 3 r.length (Z8 enE r)] := by
 unfold Xk at H
 obtain ⟨rfl, hfew⟩ := Ze4 H
 cases A0_ with
 | none =>
  obtain rfl : r = [] := by
   cases r with
   | nil => rfl
   | cons e l => obtain ⟨b, o, h, _⟩ := s0_.rd 0 _ rfl; cases h
  refine Yp Try.func83 rfl Try.ntmps83 rfl ?_
  have hS := St0.start All w0
  refine Zf (fun K hK1 => Zg (Zb 1 rfl (Zh (Zd hK1 (Zf (fun K hK2 => Zf (fun K hK3 => Zg ?_)))))))
  refine Zb 1 rfl (Za rfl rfl rfl (Zdd (e := 56) (by kernel_rfl) rfl rfl) (Zh (Zd hK3 (Zn rfl rfl (Zf (fun K hK4 => Zg (Zb 1 rfl ?_)))))))
  refine Zh (Zd hK4 (Zl (Ze (Zm rfl (RV.tmp rfl RV.nil) rfl ?_))))
  have hS := hS.nilRow 56 3
  replace hS := hS.cut 1
  exact ⟨none, 0, rfl, ⟨Nat.le_refl _, Nat.zero_le _⟩, hS⟩
 | some a0 =>
  refine Yp Try.func83 rfl Try.ntmps83 rfl ?_
  have hS := St0.start All w0
  have H : (fewI ([] ++ r)).bind (fun z => some z) = some r := by rw [List.nil_append, H]; rfl
  refine Zf (fun K hK5 => Zg (Zb 1 rfl (Zh (Zd hK5 (Zf (fun K hK6 => Zf (fun K hK7 => Zg ?_)))))))
  refine Zb 1 rfl (Za rfl rfl rfl (Zdd (e := 56) (by kernel_rfl) rfl rfl) (Zh (Zd hK7 (Ym rfl rfl (Zv (Zd hK6 (Zf (fun K hK8 => ?_))))))))
  refine Zg (Zfe Y1 rfl rfl hS (fun b9 w hS hB => Zb 1 rfl ?_))
  obtain ⟨l11, hf12, H⟩ := bind_some H
  refine Zc9 (ys := r) Vf oc_enE em_24 (by decide) rfl rfl rfl rfl hS (fun _ => ps0) (hS.rd0 s0_.rd) hf12 (fun A13 c14 w k15 hS => ?_)
  refine Zb 1 rfl (Zh (Zd hK8 (Zl (Zm rfl (RV.tmp rfl RV.nil) rfl ?_))))
  obtain rfl := QJ H
  have hS := hS.front 0 rfl
  replace hS := hS.cut 1
  exact ⟨A13, c14, rfl, k15, hS⟩
theorem c_tuple_Own (x0 : Tu) (A0_ : OA) (c0_ : Nat) (w0 : World) (s0_ : SlI w0 enE A0_ c0_ x0.log) {r : Tu} (H : Zfs x0 = some r) : Calls Try.prog 70 #[.agg #[.int .i64 x0.snap.index, .int .i64 x0.snap.term, .int .i64 x0.snap.sum, .int .i64 x0.snap.level, .bool x0.snap.final, .slice A0_ x0.log.length c0_, .int .i64 x0.term, .int .i64 x0.vote]] w0 fun e w' => ∃ (A0 : OA) (c0 : Nat), e = .returned (.agg #[.int .i64 r.snap.index, .int .i64 r.snap.term, .int .i64 r.snap.sum, .int .i64 r.snap.level, .bool r.snap.final, .slice A0 r.log.length c0, .int .i64 r.term, .int .i64 r.vote]) ∧ (r.log.length ≤ c0 ∧ c0 ≤ maxLen) ∧ St0 All w0 w' [.row (.slice A0 r.log.length c0) 56 3 r.log.length (Z8 enE r.log)] := by
 unfold Zfs at H
 refine Yp Try.func70 rfl Try.ntmps70 rfl ?_
 have hS := St0.start All w0
 refine Zf (fun K hK1 => Zg (Yq rfl rfl rfl CellsOf.agg hS (fun b2 w hS hB => Yr rfl rfl zc_26 hS (fun b4 w hS hB => Zh (Zd hK1 (Zf (fun K hK6 => Zg ?_)))))))
 refine Za rfl rfl rfl (Zc Yg rfl) (Za rfl rfl rfl (Zi Y6 rfl (Zgf _) hS X9 trivial Zes) ?_)
 obtain ⟨r7, hm8, H⟩ := bind_some H
 refine Zt rfl rfl rfl rfl (by kernel_rfl) rfl (Zac x0.log A0_ c0_ _ (SlW.of_rd s0_.k (hS.rd0 s0_.rd)) hm8) ?_
 rintro e w ⟨A9, c10, rfl, k11, hN⟩; refine ⟨_, rfl, ?_⟩; obtain ⟨hB, hS⟩ := hS.jn hN
 refine Za rfl rfl rfl (Zc Yg rfl) (Zr rfl rfl rfl CellsOf.slice hS ps2 st5_1 (by kernel_rfl) rfl (fun w hS hB => Zh (Zd hK6 (Zf (fun K hK13 => Zg (Za rfl rfl rfl (Zk V2 rfl (Zgf _) hS Vt trivial sg0_8) (Zr rfl rfl rfl CellsOf.agg hS ps1 st0_8 (by kernel_rfl) rfl (fun w hS hB => ?_))))))))
 refine Zh (Zd hK13 (Zl (Zm rfl (RV.cell rfl (Z3 V2 hS X9 sg0_8) RV.nil) rfl ?_)))
 obtain rfl := QJ H
 have hS := hS.front 0 rfl
 replace hS := hS.cut 1
 exact ⟨A9, c10, rfl, k11, hS⟩
theorem Zeu (x0 : List Bool) (A0_ : OA) (c0_ : Nat) (w0 : World) (s0_ : SlW w0 enO A0_ c0_ x0) {r : List Bool} (H : Jj x0 = some r) : Calls Try.prog 71 #[.slice A0_ x0.length c0_] w0 fun e w' => ∃ (A0 : OA) (c0 : Nat), e = .returned (.slice A0 r.length c0) ∧ (r.length ≤ c0 ∧ c0 ≤ maxLen) ∧ St0 All w0 w' [.row (.slice A0 r.length c0) 4 1 r.length (Z8 enO r)] := by
 unfold Jj at H
 obtain ⟨rfl, hfew⟩ := Ze4 H
 cases A0_ with
 | none =>
  obtain rfl : r = [] := by
   cases r with
   | nil => rfl
   | cons e l => obtain ⟨b, o, h, _⟩ := s0_.rd 0 _ rfl; cases h
  refine Yp Try.func71 rfl Try.ntmps71 rfl ?_
  have hS := St0.start All w0
  refine Zf (fun K hK1 => Zg (Zb 1 rfl (Zh (Zd hK1 (Zf (fun K hK2 => Zf (fun K hK3 => Zg ?_)))))))
  refine Zb 1 rfl (Za rfl rfl rfl (Zdd (e := 4) (by kernel_rfl) rfl rfl) (Zh (Zd hK3 (Zn rfl rfl (Zf (fun K hK4 => Zg (Zb 1 rfl ?_)))))))
  refine Zh (Zd hK4 (Zl (Ze (Zm rfl (RV.tmp rfl RV.nil) rfl ?_))))
  have hS := hS.nilRow 4 1
  replace hS := hS.cut 1
  exact ⟨none, 0, rfl, ⟨Nat.le_refl _, Nat.zero_le _⟩, hS⟩
 | some a0 =>
  refine Yp Try.func71 rfl Try.ntmps71 rfl ?_
  have hS := St0.start All w0
  have H : (fewI ([] ++ r)).bind (fun z => some z) = some r := by rw [List.nil_append, H]; rfl
  refine Zf (fun K hK5 => Zg (Zb 1 rfl (Zh (Zd hK5 (Zf (fun K hK6 => Zf (fun K hK7 => Zg ?_)))))))
  refine Zb 1 rfl (Za rfl rfl rfl (Zdd (e := 4) (by kernel_rfl) rfl rfl) (Zh (Zd hK7 (Ym rfl rfl (Zv (Zd hK6 (Zf (fun K hK8 => ?_))))))))
  refine Zg (Zfe Zff rfl rfl hS (fun b9 w hS hB => Zb 1 rfl ?_))
  obtain ⟨l11, hf12, H⟩ := bind_some H
  refine Zc9 (ys := r) Zco oc_enO em_27 (by decide) rfl rfl rfl rfl hS (fun _ => ps0) (hS.rd0 s0_.rd) hf12 (fun A13 c14 w k15 hS => ?_)
  refine Zb 1 rfl (Zh (Zd hK8 (Zl (Zm rfl (RV.tmp rfl RV.nil) rfl ?_))))
  obtain rfl := QJ H
  have hS := hS.front 0 rfl
  replace hS := hS.cut 1
  exact ⟨A13, c14, rfl, k15, hS⟩
theorem Zau (x0 : List Int) (A0_ : OA) (c0_ : Nat) (w0 : World) (s0_ : SlW w0 Vr A0_ c0_ x0) {r : List Int} (H : Vs x0 = some r) : Calls Try.prog 72 #[.slice A0_ x0.length c0_] w0 fun e w' => ∃ (A0 : OA) (c0 : Nat), e = .returned (.slice A0 r.length c0) ∧ (r.length ≤ c0 ∧ c0 ≤ maxLen) ∧ St0 All w0 w' [.row (.slice A0 r.length c0) 3 1 r.length (Z8 Vr r)] := by
 unfold Vs at H
 obtain ⟨rfl, hfew⟩ := Ze4 H
 cases A0_ with
 | none =>
  obtain rfl : r = [] := by
   cases r with
   | nil => rfl
   | cons e l => obtain ⟨b, o, h, _⟩ := s0_.rd 0 _ rfl; cases h
  refine Yp Try.func72 rfl Try.ntmps72 rfl ?_
  have hS := St0.start All w0
  refine Zf (fun K hK1 => Zg (Zb 1 rfl (Zh (Zd hK1 (Zf (fun K hK2 => Zf (fun K hK3 => Zg ?_)))))))
  refine Zb 1 rfl (Za rfl rfl rfl (Zdd (e := 3) (by kernel_rfl) rfl rfl) (Zh (Zd hK3 (Zn rfl rfl (Zf (fun K hK4 => Zg (Zb 1 rfl ?_)))))))
  refine Zh (Zd hK4 (Zl (Ze (Zm rfl (RV.tmp rfl RV.nil) rfl ?_))))
  have hS := hS.nilRow 3 1
  replace hS := hS.cut 1
  exact ⟨none, 0, rfl, ⟨Nat.le_refl _, Nat.zero_le _⟩, hS⟩
 | some a0 =>
  refine Yp Try.func72 rfl Try.ntmps72 rfl ?_
  have hS := St0.start All w0
  have H : (fewI ([] ++ r)).bind (fun z => some z) = some r := by rw [List.nil_append, H]; rfl
  refine Zf (fun K hK5 => Zg (Zb 1 rfl (Zh (Zd hK5 (Zf (fun K hK6 => Zf (fun K hK7 => Zg ?_)))))))
  refine Zb 1 rfl (Za rfl rfl rfl (Zdd (e := 3) (by kernel_rfl) rfl rfl) (Zh (Zd hK7 (Ym rfl rfl (Zv (Zd hK6 (Zf (fun K hK8 => ?_))))))))
  refine Zg (Zfe Jy rfl rfl hS (fun b9 w hS hB => Zb 1 rfl ?_))
  obtain ⟨l11, hf12, H⟩ := bind_some H
  refine Zc9 (ys := r) Ve oc_enI em_28 (by decide) rfl rfl rfl rfl hS (fun _ => ps0) (hS.rd0 s0_.rd) hf12 (fun A13 c14 w k15 hS => ?_)
  refine Zb 1 rfl (Zh (Zd hK8 (Zl (Zm rfl (RV.tmp rfl RV.nil) rfl ?_))))
  obtain rfl := QJ H
  have hS := hS.front 0 rfl
  replace hS := hS.cut 1
  exact ⟨A13, c14, rfl, k15, hS⟩
theorem Zdg (x0 : Co) (A0_ : OA) (c0_ : Nat) (A1_ : OA) (c1_ : Nat) (A2_ : OA) (c2_ : Nat) (A3_ : OA) (c3_ : Nat) (A4_ : OA) (c4_ : Nat) (w0 : World) (s0_ : SlI w0 enE A0_ c0_ x0.tuple.log) (s1_ : SlI w0 enO A1_ c1_ x0.votes) (s2_ : SlI w0 Vr A2_ c2_ x0.next) (s3_ : SlI w0 Vr A3_ c3_ x0.mtch) (s4_ : SlI w0 Vr A4_ c4_ x0.caps) {r : Co} (H : Zax x0 = some r) : Calls Try.prog 43 #[.agg #[.int .i64 x0.id, .int .i64 x0.n, .int .u8 x0.role, .int .i64 x0.binary, .int .i64 x0.tuple.snap.index, .int .i64 x0.tuple.snap.term, .int .i64 x0.tuple.snap.sum, .int .i64 x0.tuple.snap.level, .bool x0.tuple.snap.final, .slice A0_ x0.tuple.log.length c0_, .int .i64 x0.tuple.term, .int .i64 x0.tuple.vote, .int .i64 x0.commit, .int .i64 x0.applied.index, .int .i64 x0.applied.term, .int .i64 x0.applied.sum, .int .i64 x0.applied.level, .bool x0.applied.final, .slice A1_ x0.votes.length c1_, .slice A2_ x0.next.length c2_, .slice A3_ x0.mtch.length c3_, .slice A4_ x0.caps.length c4_]] w0 fun e w' => ∃ (A0 : OA) (c0 : Nat) (A1 : OA) (c1 : Nat) (A2 : OA) (c2 : Nat) (A3 : OA) (c3 : Nat) (A4 : OA) (c4 : Nat), e = .returned (.agg #[.int .i64 r.id, .int .i64 r.n, .int .u8 r.role, .int .i64 r.binary, .int .i64 r.tuple.snap.index, .int .i64 r.tuple.snap.term, .int .i64 r.tuple.snap.sum, .int .i64 r.tuple.snap.level, .bool r.tuple.snap.final, .slice A0 r.tuple.log.length c0, .int .i64 r.tuple.term, .int .i64 r.tuple.vote, .int .i64 r.commit, .int .i64 r.applied.index, .int .i64 r.applied.term, .int .i64 r.applied.sum, .int .i64 r.applied.level, .bool r.applied.final, .slice A1 r.votes.length c1, .slice A2 r.next.length c2, .slice A3 r.mtch.length c3, .slice A4 r.caps.length c4]) ∧ (r.tuple.log.length ≤ c0 ∧ c0 ≤ maxLen) ∧ (r.votes.length ≤ c1 ∧ c1 ≤ maxLen) ∧ (r.next.length ≤ c2 ∧ c2 ≤ maxLen) ∧ (r.mtch.length ≤ c3 ∧ c3 ≤ maxLen) ∧ (r.caps.length ≤ c4 ∧ c4 ≤ maxLen) ∧ St0 All w0 w' [.row (.slice A0 r.tuple.log.length c0) 56 3 r.tuple.log.length (Z8 enE r.tuple.log), .row (.slice A1 r.votes.length c1) 4 1 r.votes.length (Z8 enO r.votes), .row (.slice A2 r.next.length c2) 3 1 r.next.length (Z8 Vr r.next), .row (.slice A3 r.mtch.length c3) 3 1 r.mtch.length (Z8 Vr r.mtch), .row (.slice A4 r.caps.length c4) 3 1 r.caps.length (Z8 Vr r.caps)] := by
 unfold Zax at H
 refine Yp Try.func43 rfl Try.ntmps43 rfl ?_
 have hS := St0.start All w0
 refine Zf (fun K hK1 => Zg (Yq rfl rfl rfl CellsOf.agg hS (fun b2 w hS hB => Yr rfl rfl Zcn hS (fun b4 w hS hB => Zh (Zd hK1 (Zf (fun K hK6 => Zg ?_)))))))
 refine Za rfl rfl rfl (Zc Zz rfl) (Za rfl rfl rfl (Zk V2 rfl (Zgf _) hS X9 trivial Ze8) ?_)
 obtain ⟨r7, hm8, H⟩ := bind_some H
 refine Zt rfl rfl rfl rfl (by kernel_rfl) rfl (c_tuple_Own x0.tuple A0_ c0_ _ (Zgi s0_.k (hS.rd0 s0_.rd) (hS.blk0 s0_.blk)) hm8) ?_
 rintro e w ⟨A9, c10, rfl, k11, hN⟩; refine ⟨_, rfl, ?_⟩; obtain ⟨hB, hS⟩ := hS.jn hN
 refine Za rfl rfl rfl (Zc Zz rfl) (Zr rfl rfl rfl CellsOf.agg hS ps2 st4_8 (by kernel_rfl) rfl (fun w hS hB => Zh (Zd hK6 (Zf (fun K hK13 => Yh 20 [13, 15, 17, 19] (fun i b => (i = 13 → b ≠ b2) ∧ (i = 15 → b ≠ b2) ∧ (i = 17 → b ≠ b2) ∧ (i = 19 → b ≠ b2)) ⟨by kernel_rfl, by kernel_rfl⟩ hS (fun w hS hB => Zo [Tt,Tt,Ff,Tt,Tt,Ff,Tt,Tt,Ff,Tt,Tt] (by decide +kernel) PFC.h (LtK.put rfl rfl rfl (Zc Zaq rfl) ?_)))))))
 refine LtK.put rfl rfl rfl (Zi Zf9 rfl (Zgg _) hS Vt trivial Zeq) (LtK.put rfl rfl rfl (Zc Zea rfl) (LtK.put rfl rfl rfl (Zi Zat rfl (Zgg _) hS Vt trivial sg19_1) (LtK.put rfl rfl rfl (Zc Zdm rfl) (LtK.put rfl rfl rfl (Zi Zat rfl (Zgg _) hS Vt trivial sg20_1) (LtK.put rfl rfl rfl (Zc Zam rfl) (LtK.put rfl rfl rfl (Zi Zat rfl (Zgg _) hS Vt trivial Zdy) (LtK.nil ?_)))))))
 refine Yd [Ff,Ff,Tt] 2 ⟨by decide, by kernel_rfl, by kernel_rfl⟩ rfl rfl ?_
 try dsimp only [Z2]
 obtain ⟨r14, hm15, H⟩ := bind_some H
 refine Zt rfl rfl rfl rfl (by kernel_rfl) rfl (Zeu x0.votes A1_ c1_ _ (SlW.of_rd s1_.k (hS.rd0 s1_.rd)) hm15) ?_
 rintro e w ⟨A16, c17, rfl, k18, hN⟩; refine ⟨_, rfl, ?_⟩; obtain ⟨hB, hS⟩ := hS.jn hN
 refine Zh (Ye hB (Zo [Ff,Ff,Ff,Ff,Ff,Ff,Ff,Ff,Ff,Ff,Ff,Ff,Tt] (by decide +kernel) PFC.h (LtK.put rfl rfl rfl (Zc Zaq rfl) (LtK.nil (Yd [Ff,Ff,Ff,Ff,Ff,Tt] 5 ⟨by decide, by kernel_rfl, by kernel_rfl⟩ rfl rfl ?_)))))
 try dsimp only [Z2]
 obtain ⟨r20, hm21, H⟩ := bind_some H
 refine Zt rfl rfl rfl rfl (by kernel_rfl) rfl (Zau x0.next A2_ c2_ _ (SlW.of_rd s2_.k (hS.rd0 s2_.rd)) hm21) ?_
 rintro e w ⟨A22, c23, rfl, k24, hN⟩; refine ⟨_, rfl, ?_⟩; obtain ⟨hB, hS⟩ := hS.jn hN
 refine Zh (Ye hB (Yd [Ff,Ff,Ff,Ff,Ff,Ff,Ff,Ff,Tt] 8 ⟨by decide, by kernel_rfl, by kernel_rfl⟩ rfl rfl ?_))
 try dsimp only [Z2]
 obtain ⟨r26, hm27, H⟩ := bind_some H
 refine Zt rfl rfl rfl rfl (by kernel_rfl) rfl (Zau x0.mtch A3_ c3_ _ (SlW.of_rd s3_.k (hS.rd0 s3_.rd)) hm27) ?_
 rintro e w ⟨A28, c29, rfl, k30, hN⟩; refine ⟨_, rfl, ?_⟩; obtain ⟨hB, hS⟩ := hS.jn hN
 refine Zh (Ye hB (Yd [Ff,Ff,Ff,Ff,Ff,Ff,Ff,Ff,Ff,Ff,Ff,Tt] 11 ⟨by decide, by kernel_rfl, by kernel_rfl⟩ rfl rfl ?_))
 try dsimp only [Z2]
 obtain ⟨r32, hm33, H⟩ := bind_some H
 refine Zt rfl rfl rfl rfl (by kernel_rfl) rfl (Zau x0.caps A4_ c4_ _ (SlW.of_rd s4_.k (hS.rd0 s4_.rd)) hm33) ?_
 rintro e w ⟨A34, c35, rfl, k36, hN⟩; refine ⟨_, rfl, ?_⟩; obtain ⟨hB, hS⟩ := hS.jn hN
 refine Zh (Ye hB (Xa [Ff,Ff,Ff,Ff,Ff,Ff,Ff,Ff,Ff,Ff,Ff,Ff,Ff,Tt] 13 ⟨by decide, by kernel_rfl, by kernel_rfl⟩ rfl rfl ?_))
 try dsimp only [Z2]
 refine Zr rfl rfl rfl CellsOf.slice hS ps6 st18_1 (by kernel_rfl) rfl (fun w hS hB => Zh (Yu (hB.sub (fun _ _ h => by simpa using h)) (Zo [Ff,Ff,Ff,Ff,Ff,Ff,Ff,Ff,Ff,Ff,Ff,Ff,Ff,Ff,Tt] (by decide +kernel) PFC.h (LtK.put rfl rfl rfl (Zc Zea rfl) (LtK.nil (Xa [Ff,Ff,Ff,Ff,Ff,Ff,Ff,Ff,Ff,Ff,Ff,Ff,Ff,Ff,Ff,Tt] 15 ⟨by decide, by kernel_rfl, by kernel_rfl⟩ rfl rfl ?_))))))
 try dsimp only [Z2]
 refine Zr rfl rfl rfl CellsOf.slice hS ps6 st19_1 (by kernel_rfl) rfl (fun w hS hB => Zh (Yu (hB.sub (fun _ _ h => by simpa using h)) (Zo [Ff,Ff,Ff,Ff,Ff,Ff,Ff,Ff,Ff,Ff,Ff,Ff,Ff,Ff,Ff,Ff,Tt] (by decide +kernel) PFC.h (LtK.put rfl rfl rfl (Zc Zdm rfl) (LtK.nil (Xa [Ff,Ff,Ff,Ff,Ff,Ff,Ff,Ff,Ff,Ff,Ff,Ff,Ff,Ff,Ff,Ff,Ff,Tt] 17 ⟨by decide, by kernel_rfl, by kernel_rfl⟩ rfl rfl ?_))))))
 try dsimp only [Z2]
 refine Zr rfl rfl rfl CellsOf.slice hS ps6 st20_1 (by kernel_rfl) rfl (fun w hS hB => Zh (Yu (hB.sub (fun _ _ h => by simpa using h)) (Zo [Ff,Ff,Ff,Ff,Ff,Ff,Ff,Ff,Ff,Ff,Ff,Ff,Ff,Ff,Ff,Ff,Ff,Ff,Tt] (by decide +kernel) PFC.h (LtK.put rfl rfl rfl (Zc Zam rfl) (LtK.nil (Xa [Ff,Ff,Ff,Ff,Ff,Ff,Ff,Ff,Ff,Ff,Ff,Ff,Ff,Ff,Ff,Ff,Ff,Ff,Ff,Tt] 19 ⟨by decide, by kernel_rfl, by kernel_rfl⟩ rfl rfl ?_))))))
 try dsimp only [Z2]
 refine Zr rfl rfl rfl CellsOf.slice hS ps6 st21_1 (by kernel_rfl) rfl (fun w hS hB => Zh (Yu (hB.sub (fun _ _ h => by simpa using h)) (Z5 (by kernel_rfl) (Zd hK13 (Zf (fun K hK38 => Zg (Za rfl rfl rfl (Zk Ya rfl (Zgf _) hS Vv trivial Z1) ?_)))))))
 refine Zr rfl rfl rfl CellsOf.agg hS ps5 Yo (by kernel_rfl) rfl (fun w hS hB => Zh (Zd hK38 (Zl (Zm rfl (RV.cell rfl (Z3 Ya hS hs5 Z1) RV.nil) rfl ?_))))
 obtain rfl := QJ H
 have hS := hS.front 0 rfl
 have hS := hS.front 1 rfl
 have hS := hS.front 2 rfl
 have hS := hS.front 3 rfl
 have hS := hS.front 4 rfl
 replace hS := hS.cut 5
 exact ⟨A9, c10, A16, c17, A22, c23, A28, c29, A34, c35, rfl, k11, k18, k24, k30, k36, hS⟩
theorem Ze1 (x0 : Tu) (A0_ : OA) (c0_ : Nat) (w0 : World) (s0_ : SlI w0 enE A0_ c0_ x0.log) {r : Int} (H : Za0 x0 = some r) : Calls Try.prog 54 #[.agg #[.int .i64 x0.snap.index, .int .i64 x0.snap.term, .int .i64 x0.snap.sum, .int .i64 x0.snap.level, .bool x0.snap.final, .slice A0_ x0.log.length c0_, .int .i64 x0.term, .int .i64 x0.vote]] w0 fun e w' => e = .returned (.int .i64 r) ∧ St0 All w0 w' [] := by
 unfold Za0 at H
 refine Yp Try.func54 rfl Try.ntmps54 rfl ?_
 have hS := St0.start All w0
 refine Zf (fun K hK1 => Zg (Yq rfl rfl rfl CellsOf.agg hS (fun b2 w hS hB => Zb 1 rfl (Zh (Zd hK1 (Zf (fun K hK4 => Zg ?_)))))))
 refine Za rfl rfl rfl (Zc Xe rfl) (Za rfl rfl rfl (Zc Ys rfl) (Za rfl rfl rfl (Zi Zy rfl (Zgf _) hS hs0 trivial Yw) (Za rfl rfl rfl (Zc Yg rfl) (Za rfl rfl rfl (Zi Y6 rfl (Zgf _) hS hs0 trivial Zes) (Za rfl rfl rfl (Yb Y1 rfl) (Za rfl rfl rfl (Xu rfl rfl) (Zb 1 rfl ?_)))))))
 refine Zh (Zd hK4 (Zl (Zm rfl (RV.tmp rfl RV.nil) rfl ?_)))
 obtain rfl := QJ H
 replace hS := hS.cut 0
 exact ⟨rfl, hS⟩
theorem Zah (x0 : Int) (x1 : Int) (x2 : Int) (w0 : World) {r : Bool} (H : V4 x0 x1 x2 = some r) : Calls Try.prog 74 #[.int .i64 x0, .int .i64 x1, .int .i64 x2] w0 fun e w' => e = .returned (.bool r) ∧ St0 All w0 w' [] := by
 unfold V4 at H
 refine Zcg Try.func74 rfl Try.ntmps74 rfl ?_
 have hS := St0.start All w0
 refine Zf (fun K hK1 => Zg (Zb 1 rfl (Zh (Zd hK1 (Zf (fun K hK2 => Zg (Zb 2 rfl ?_)))))))
 refine Za rfl rfl rfl (Zda rfl rfl) (Zb 1 rfl (Zs 10 rfl (fun hb => ?_) (fun hb => ?_)))
 rotate_left
 ·replace H := Zq H hb
  refine Zb 5 rfl (Zh (Zd hK2 (Zl (Zm rfl (RV.tmp rfl RV.nil) rfl ?_))))
  obtain rfl := QJ H
  replace hS := hS.cut 0
  exact ⟨rfl, hS⟩
 replace H := Zp H hb
 refine Zb 2 rfl (Za rfl rfl rfl (Zen rfl rfl) (Zb 2 rfl (Zh (Zd hK2 (Zl (Zm rfl (RV.tmp rfl RV.nil) rfl ?_))))))
 obtain rfl := QJ H
 replace hS := hS.cut 0
 exact ⟨rfl, hS⟩
theorem c_entry_First (w0 : World) {r : St} (H : Zd8 = some r) : Calls Try.prog 121 #[] w0 fun e w' => e = .returned (.agg #[.int .i64 r.index, .int .i64 r.term, .int .i64 r.sum, .int .i64 r.level, .bool r.final]) ∧ St0 All w0 w' [] := by
 unfold Zd8 at H
 refine gw_enter0 Try.func121 rfl Try.ntmps121 rfl ?_
 have hS := St0.start All w0
 refine Zf (fun K hK1 => Zg (Yr rfl rfl zc_23 hS (fun b2 w hS hB => Zh (Zd hK1 (Zf (fun K hK4 => Zg (Za rfl rfl rfl (Vk (cells := [.int .i64 0, .int .i64 0, .int .i64 0, .int .i64 1, .bool false]) rfl (by kernel_rfl)) ?_)))))))
 refine Zr rfl rfl rfl CellsOf.agg hS ps0 Zdw (by kernel_rfl) rfl (fun w hS hB => Zh (Zd hK4 (Zl (Zm rfl (RV.cell rfl (Z3 Y3 hS hs0 Jt) RV.nil) rfl ?_))))
 obtain rfl := QJ H
 replace hS := hS.cut 0
 exact ⟨rfl, hS⟩
theorem Jn (x0 : Int) (w0 : World) {r : Bool} (H : Vm x0 = some r) : Calls Try.prog 122 #[.int .i64 x0] w0 fun e w' => e = .returned (.bool r) ∧ St0 All w0 w' [] := by
 unfold Vm at H
 refine Yp Try.func122 rfl Try.ntmps122 rfl ?_
 have hS := St0.start All w0
 refine Zf (fun K hK1 => Zg (Zb 1 rfl (Zh (Zd hK1 (Zf (fun K hK2 => Zg (Zb 1 rfl ?_)))))))
 refine Za rfl rfl rfl (Zda rfl rfl) (Zb 1 rfl (Zs 5 rfl (fun hb => ?_) (fun hb => ?_)))
 rotate_left
 ·replace H := Zq H hb
  refine Zb 4 rfl (Zh (Zd hK2 (Zl (Zm rfl (RV.tmp rfl RV.nil) rfl ?_))))
  obtain rfl := QJ H
  replace hS := hS.cut 0
  exact ⟨rfl, hS⟩
 replace H := Zp H hb
 refine Zb 1 rfl (Za rfl rfl rfl (Zen rfl rfl) (Zb 2 rfl (Zh (Zd hK2 (Zl (Zm rfl (RV.tmp rfl RV.nil) rfl ?_))))))
 obtain rfl := QJ H
 replace hS := hS.cut 0
 exact ⟨rfl, hS⟩
theorem Zch (x0 : St) (w0 : World) {r : Bool} (H : J7 x0 = some r) : Calls Try.prog 112 #[.agg #[.int .i64 x0.index, .int .i64 x0.term, .int .i64 x0.sum, .int .i64 x0.level, .bool x0.final]] w0 fun e w' => e = .returned (.bool r) ∧ St0 All w0 w' [] := by
 unfold J7 at H
 refine Yp Try.func112 rfl Try.ntmps112 rfl ?_
 have hS := St0.start All w0
 refine Zf (fun K hK1 => Zg (Yq rfl rfl rfl CellsOf.agg hS (fun b2 w hS hB => Zb 1 rfl (Zh (Zd hK1 (Zf (fun K hK4 => Z6 ?_)))))))
 refine Zf (fun K hK5 => Zg (Za rfl rfl rfl (Zc Ys rfl) (Za rfl rfl rfl (Zi Zy rfl (Zgf _) hS hs0 trivial Yw) (Za rfl rfl rfl (Xh rfl rfl) (Zb 1 rfl (Zh (Zd hK5 ?_)))))))
 refine Zx rfl (fun hb => ?_) (fun hb => ?_)
 ·replace H := Zp H hb
  refine Zf (fun K hK7 => Yh 4 [] (fun _ _ => True) ⟨by kernel_rfl, by kernel_rfl⟩ hS (fun w hS hB => Zo [true] (by decide +kernel) PFC.h (LtK.put rfl rfl rfl (Zk Y3 rfl (Zgg _) hS hs0 trivial Jt) (LtK.nil (Yd [Ff,Tt] 1 ⟨by decide, by kernel_rfl, by kernel_rfl⟩ rfl rfl ?_)))))
  try dsimp only [Z2]
  obtain ⟨r8, hm9, H⟩ := bind_some H
  refine Zt rfl rfl rfl rfl (by kernel_rfl) rfl (c_entry_First _ hm9) ?_
  rintro e w ⟨rfl, hN⟩; refine ⟨_, rfl, ?_⟩; obtain ⟨hB, hS⟩ := hS.jn hN
  refine Zh (Ye hB (Zo [Ff,Ff,Tt,Tt] (by decide +kernel) PFC.h (LtK.put rfl rfl rfl (Zap (by kernel_rfl) rfl rfl (Jg _ _ _ _ _ _ _ _ _ _)) (LtK.put rfl rfl rfl (Z7 rfl) (LtK.nil (Z5 (by kernel_rfl) (Zd hK7 ?_)))))))
  refine Zl (Zj (Ze (Zm rfl (RV.tmp rfl RV.nil) rfl ?_)))
  obtain rfl := QJ H
  replace hS := hS.cut 0
  exact ⟨rfl, hS⟩
 replace H := Zq H hb
 refine Zf (fun K hK11 => Zg (Za rfl rfl rfl (Zc fo_23_4 rfl) (Za rfl rfl rfl (Zi sc_4 rfl (Zgf _) hS hs0 trivial sg4_1) (Zb 1 rfl (Zh (Zd hK11 (Zx rfl (fun hb => ?_) (fun hb => ?_))))))))
 ·replace H := Zp H hb
  refine Zf (fun K hK13 => Zg (Za rfl rfl rfl (Zc Zd6 rfl) (Za rfl rfl rfl (Zi Zy rfl (Zgf _) hS hs0 trivial Zbe) (Za rfl rfl rfl (Xh rfl rfl) (Zb 1 rfl (Zs 16 rfl (fun hb => ?_) (fun hb => ?_)))))))
  rotate_left
  ·replace H := Zq H hb
   refine Zb 20 rfl (Zh (Zd hK13 (Zl (Zj (Ze (Zm rfl (RV.tmp rfl RV.nil) rfl ?_))))))
   obtain rfl := QJ H
   replace hS := hS.cut 0
   exact ⟨rfl, hS⟩
  replace H := Zp H hb
  refine Za rfl rfl rfl (Zc Ys rfl) (Za rfl rfl rfl (Zi Zy rfl (Zgf _) hS hs0 trivial Yw) ?_)
  obtain ⟨r15, hm16, H⟩ := bind_some H
  refine Zt rfl rfl rfl rfl (by kernel_rfl) rfl (Jn x0.index _ hm16) ?_
  rintro e w ⟨rfl, hN⟩; refine ⟨_, rfl, ?_⟩; obtain ⟨hB, hS⟩ := hS.jn hN
  refine Zb 2 rfl (Zs 21 rfl (fun hb => ?_) (fun hb => ?_))
  rotate_left
  ·replace H := Zq H hb
   refine Zb 15 rfl (Zh (Zd hK13 (Zl (Zj (Ze (Zm rfl (RV.tmp rfl RV.nil) rfl ?_))))))
   obtain rfl := QJ H
   replace hS := hS.cut 0
   exact ⟨rfl, hS⟩
  replace H := Zp H hb
  refine Za rfl rfl rfl (Zc Zc3 rfl) (Za rfl rfl rfl (Zi Zy rfl (Zgf _) hS hs0 trivial Xd) (Za rfl rfl rfl (Y8 rfl rfl) (Zb 2 rfl (Zs 26 rfl (fun hb => ?_) (fun hb => ?_)))))
  rotate_left
  ·replace H := Zq H hb
   refine Zb 10 rfl (Zh (Zd hK13 (Zl (Zj (Ze (Zm rfl (RV.tmp rfl RV.nil) rfl ?_))))))
   obtain rfl := QJ H
   replace hS := hS.cut 0
   exact ⟨rfl, hS⟩
  replace H := Zp H hb
  refine Za rfl rfl rfl (Zc Zc3 rfl) (Za rfl rfl rfl (Zi Zy rfl (Zgf _) hS hs0 trivial Xd) ?_)
  obtain ⟨r19, hm20, H⟩ := bind_some H
  refine Zt rfl rfl rfl rfl (by kernel_rfl) rfl (Jn x0.term _ hm20) ?_
  rintro e w ⟨rfl, hN⟩; refine ⟨_, rfl, ?_⟩; obtain ⟨hB, hS⟩ := hS.jn hN
  refine Zb 2 rfl (Zs 31 rfl (fun hb => ?_) (fun hb => ?_))
  rotate_left
  ·replace H := Zq H hb
   refine Zb 5 rfl (Zh (Zd hK13 (Zl (Zj (Ze (Zm rfl (RV.tmp rfl RV.nil) rfl ?_))))))
   obtain rfl := QJ H
   replace hS := hS.cut 0
   exact ⟨rfl, hS⟩
  replace H := Zp H hb
  refine Za rfl rfl rfl (Zc fo_23_2 rfl) (Za rfl rfl rfl (Zi Zy rfl (Zgf _) hS hs0 trivial Zbj) ?_)
  obtain ⟨r22, hm23, H⟩ := bind_some H
  refine Zt rfl rfl rfl rfl (by kernel_rfl) rfl (Jn x0.sum _ hm23) ?_
  rintro e w ⟨rfl, hN⟩; refine ⟨_, rfl, ?_⟩; obtain ⟨hB, hS⟩ := hS.jn hN
  refine Zb 2 rfl (Zh (Zd hK13 (Zl (Zj (Ze (Zm rfl (RV.tmp rfl RV.nil) rfl ?_))))))
  obtain rfl := QJ H
  replace hS := hS.cut 0
  exact ⟨rfl, hS⟩
 replace H := Zq H hb
 refine Zv (Zw (Zd hK4 (Zf (fun K hK29 => Zg (Za rfl rfl rfl (Zc Zd6 rfl) (Za rfl rfl rfl (Zi Zy rfl (Zgf _) hS hs0 trivial Zbe) (Za rfl rfl rfl (Xh rfl rfl) ?_)))))))
 refine Zb 1 rfl (Zs 39 rfl (fun hb => ?_) (fun hb => ?_))
 ·replace H := Zp H hb
  refine Zb 5 rfl (Za rfl rfl rfl (Zc Ys rfl) (Za rfl rfl rfl (Zi Zy rfl (Zgf _) hS hs0 trivial Yw) ?_))
  obtain ⟨r31, hm32, H⟩ := bind_some H
  refine Zt rfl rfl rfl rfl (by kernel_rfl) rfl (Jn x0.index _ hm32) ?_
  rintro e w ⟨rfl, hN⟩; refine ⟨_, rfl, ?_⟩; obtain ⟨hB, hS⟩ := hS.jn hN
  refine Zb 2 rfl (Zs 49 rfl (fun hb => ?_) (fun hb => ?_))
  rotate_left
  ·replace H := Zq H hb
   refine Zb 15 rfl (Zh (Zd hK29 (Zl (Zm rfl (RV.tmp rfl RV.nil) rfl ?_))))
   obtain rfl := QJ H
   replace hS := hS.cut 0
   exact ⟨rfl, hS⟩
  replace H := Zp H hb
  refine Za rfl rfl rfl (Zc Zc3 rfl) (Za rfl rfl rfl (Zi Zy rfl (Zgf _) hS hs0 trivial Xd) (Za rfl rfl rfl (Y8 rfl rfl) (Zb 2 rfl (Zs 54 rfl (fun hb => ?_) (fun hb => ?_)))))
  rotate_left
  ·replace H := Zq H hb
   refine Zb 10 rfl (Zh (Zd hK29 (Zl (Zm rfl (RV.tmp rfl RV.nil) rfl ?_))))
   obtain rfl := QJ H
   replace hS := hS.cut 0
   exact ⟨rfl, hS⟩
  replace H := Zp H hb
  refine Za rfl rfl rfl (Zc Zc3 rfl) (Za rfl rfl rfl (Zi Zy rfl (Zgf _) hS hs0 trivial Xd) ?_)
  obtain ⟨r35, hm36, H⟩ := bind_some H
  refine Zt rfl rfl rfl rfl (by kernel_rfl) rfl (Jn x0.term _ hm36) ?_
  rintro e w ⟨rfl, hN⟩; refine ⟨_, rfl, ?_⟩; obtain ⟨hB, hS⟩ := hS.jn hN
  refine Zb 2 rfl (Zs 59 rfl (fun hb => ?_) (fun hb => ?_))
  rotate_left
  ·replace H := Zq H hb
   refine Zb 5 rfl (Zh (Zd hK29 (Zl (Zm rfl (RV.tmp rfl RV.nil) rfl ?_))))
   obtain rfl := QJ H
   replace hS := hS.cut 0
   exact ⟨rfl, hS⟩
  replace H := Zp H hb
  refine Za rfl rfl rfl (Zc fo_23_2 rfl) (Za rfl rfl rfl (Zi Zy rfl (Zgf _) hS hs0 trivial Zbj) ?_)
  obtain ⟨r38, hm39, H⟩ := bind_some H
  refine Zt rfl rfl rfl rfl (by kernel_rfl) rfl (Jn x0.sum _ hm39) ?_
  rintro e w ⟨rfl, hN⟩; refine ⟨_, rfl, ?_⟩; obtain ⟨hB, hS⟩ := hS.jn hN
  refine Zb 2 rfl (Zh (Zd hK29 (Zl (Zm rfl (RV.tmp rfl RV.nil) rfl ?_))))
  obtain rfl := QJ H
  replace hS := hS.cut 0
  exact ⟨rfl, hS⟩
 replace H := Zq H hb
 refine Za rfl rfl rfl (Zc Zd6 rfl) (Za rfl rfl rfl (Zi Zy rfl (Zgf _) hS hs0 trivial Zbe) (Za rfl rfl rfl (Xh rfl rfl) (Zb 2 rfl (Zs 44 rfl (fun hb => ?_) (fun hb => ?_)))))
 rotate_left
 ·replace H := Zq H hb
  refine Zb 20 rfl (Zh (Zd hK29 (Zl (Zm rfl (RV.tmp rfl RV.nil) rfl ?_))))
  obtain rfl := QJ H
  replace hS := hS.cut 0
  exact ⟨rfl, hS⟩
 replace H := Zp H hb
 refine Za rfl rfl rfl (Zc Ys rfl) (Za rfl rfl rfl (Zi Zy rfl (Zgf _) hS hs0 trivial Yw) ?_)
 obtain ⟨r45, hm46, H⟩ := bind_some H
 refine Zt rfl rfl rfl rfl (by kernel_rfl) rfl (Jn x0.index _ hm46) ?_
 rintro e w ⟨rfl, hN⟩; refine ⟨_, rfl, ?_⟩; obtain ⟨hB, hS⟩ := hS.jn hN
 refine Zb 2 rfl (Zs 49 rfl (fun hb => ?_) (fun hb => ?_))
 rotate_left
 ·replace H := Zq H hb
  refine Zb 15 rfl (Zh (Zd hK29 (Zl (Zm rfl (RV.tmp rfl RV.nil) rfl ?_))))
  obtain rfl := QJ H
  replace hS := hS.cut 0
  exact ⟨rfl, hS⟩
 replace H := Zp H hb
 refine Za rfl rfl rfl (Zc Zc3 rfl) (Za rfl rfl rfl (Zi Zy rfl (Zgf _) hS hs0 trivial Xd) (Za rfl rfl rfl (Y8 rfl rfl) (Zb 2 rfl (Zs 54 rfl (fun hb => ?_) (fun hb => ?_)))))
 rotate_left
 ·replace H := Zq H hb
  refine Zb 10 rfl (Zh (Zd hK29 (Zl (Zm rfl (RV.tmp rfl RV.nil) rfl ?_))))
  obtain rfl := QJ H
  replace hS := hS.cut 0
  exact ⟨rfl, hS⟩
 replace H := Zp H hb
 refine Za rfl rfl rfl (Zc Zc3 rfl) (Za rfl rfl rfl (Zi Zy rfl (Zgf _) hS hs0 trivial Xd) ?_)
 obtain ⟨r49, hm50, H⟩ := bind_some H
 refine Zt rfl rfl rfl rfl (by kernel_rfl) rfl (Jn x0.term _ hm50) ?_
 rintro e w ⟨rfl, hN⟩; refine ⟨_, rfl, ?_⟩; obtain ⟨hB, hS⟩ := hS.jn hN
 refine Zb 2 rfl (Zs 59 rfl (fun hb => ?_) (fun hb => ?_))
 rotate_left
 ·replace H := Zq H hb
  refine Zb 5 rfl (Zh (Zd hK29 (Zl (Zm rfl (RV.tmp rfl RV.nil) rfl ?_))))
  obtain rfl := QJ H
  replace hS := hS.cut 0
  exact ⟨rfl, hS⟩
 replace H := Zp H hb
 refine Za rfl rfl rfl (Zc fo_23_2 rfl) (Za rfl rfl rfl (Zi Zy rfl (Zgf _) hS hs0 trivial Zbj) ?_)
 obtain ⟨r52, hm53, H⟩ := bind_some H
 refine Zt rfl rfl rfl rfl (by kernel_rfl) rfl (Jn x0.sum _ hm53) ?_
 rintro e w ⟨rfl, hN⟩; refine ⟨_, rfl, ?_⟩; obtain ⟨hB, hS⟩ := hS.jn hN
 refine Zb 2 rfl (Zh (Zd hK29 (Zl (Zm rfl (RV.tmp rfl RV.nil) rfl ?_))))
 obtain rfl := QJ H
 replace hS := hS.cut 0
 exact ⟨rfl, hS⟩
theorem Ze7 (x0 : List Int) (x1 : Int) (x2 : Int) (x3 : Int) (A0_ : OA) (c0_ : Nat) (w0 : World) (s0_ : SlI w0 Vr A0_ c0_ x0) {r : Bool} (H : Zbr x0 x1 x2 x3 = some r) : Calls Try.prog 79 #[.slice A0_ x0.length c0_, .int .i64 x1, .int .i64 x2, .int .i64 x3] w0 fun e w' => e = .returned (.bool r) ∧ St0 All w0 w' [] := by
 unfold Zbr at H
 refine gw_enter4 Try.func79 rfl Try.ntmps79 rfl ?_
 have hS := St0.start All w0
 refine Zf (fun K hK1 => Zg (Yq rfl rfl rfl CellsOf.int hS (fun b2 w hS hB => Yq rfl rfl rfl CellsOf.int hS (fun b4 w hS hB => Zb 1 rfl (Zh (Zd hK1 (Zf (fun K hK6 => ?_))))))))
 refine Zg (Zb 1 rfl (Za rfl rfl rfl (Yb Jy rfl) (Zb 1 rfl (Za rfl rfl rfl (Xh rfl rfl) (Zb 1 rfl (Zs 13 rfl (fun hb => ?_) (fun hb => ?_)))))))
 rotate_left
 ·replace H := Zq H hb
  refine Zb 6 rfl (Zh (Zd hK6 (Zl (Zm rfl (RV.tmp rfl RV.nil) rfl ?_))))
  obtain rfl := QJ H
  replace hS := hS.cut 0
  exact ⟨rfl, hS⟩
 replace H := Zp H hb
 refine Zb 1 rfl (Za rfl rfl rfl (V0 rfl rfl) (Zd3 rfl rfl rfl rfl (by kernel_rfl) rfl ?_))
 show Calls _ _ #[_, _] _ _
 refine Xw Try.func108 rfl Try.ntmps108 rfl (Zf (fun K hK8 => Zg (Zb 1 rfl (Zh (Zd hK8 (Zf (fun K hK9 => Zg ?_)))))))
 refine Zb 2 rfl (Zd3 rfl rfl rfl rfl (by kernel_rfl) rfl ?_)
 show Calls _ _ #[_, _] _ _
 refine Xw Try.func95 rfl Try.ntmps95 rfl (Zf (fun K hK10 => Zg (Zb 1 rfl (Zh (Zd hK10 (Zf (fun K hK11 => Zf (fun K hK12 => ?_))))))))
 refine Zg (Zb 1 rfl (Za rfl rfl rfl (Yb Jy rfl) (Zb 1 rfl (Zh (Zd hK12 (Z6 (Vp (X := Nat × Int × Int) (fun x => (0, .slice A0_ x0.length c0_) :: (1, .func (.func 109) #[] #[.pointer (some ⟨b2, 0, none⟩), .pointer (some ⟨b4, 0, none⟩)]) :: (4, .int .i64 x.2.1) :: (7, .int .i64 (x0.length : Int)) :: (8, .int .i64 x.2.2) :: []) (fun x w => St0 All w0 w (.box b4 [.int .i64 x3] 3 :: .box b2 [.int .i64 x2] 3 :: []) ∧ Za9 x0 x2 x3 x.1 x.2.1 x.2.2 = some r) (fun x => x.1) (Yy, 0, 0) (by repeat (first | exact Sub.nil | refine Sub.cons rfl ?_)) ⟨hS, H⟩ ?_)))))))
 rintro ⟨n, v13, v14⟩ w ⟨hS, H⟩
 dsimp only at hS H ⊢
 obtain _ | n := n
 ·have H0 : none = some r := H
  cases H0
 rw [Za9] at H
 refine Zf (fun K hK15 => Zg (Za rfl rfl rfl (Y4 rfl rfl) (Zh (Zd hK15 (Zf (fun K hK16 => Zx rfl (fun hb => ?_) (fun hb => ?_)))))))
 rotate_left
 ·replace H := Zq H hb
  refine Xy (Z4 (Z4 (Yz (Zd hK11 (Zf (fun K hK32 => Zg (Zb 1 rfl ?_)))))))
  refine Zh (Zd hK32 (Zl (Zm rfl (RV.tmp rfl RV.nil) rfl (⟨_, rfl, ?_⟩))))
  refine Za rfl rfl rfl (Zda rfl rfl) (Zb 1 rfl (Zh (Zd hK9 (Zl (Zm rfl (RV.tmp rfl RV.nil) rfl (⟨_, rfl, ?_⟩))))))
  refine Za rfl rfl rfl (Yt rfl) (Zb 2 rfl (Zh (Zd hK6 (Zl (Zm rfl (RV.tmp rfl RV.nil) rfl ?_)))))
  obtain rfl := QJ H
  replace hS := hS.cut 0
  exact ⟨rfl, hS⟩
 replace H := Zp H hb
 refine Zv (Zd hK16 (Zf (fun K hK18 => Z6 (Zf (fun K hK19 => Zg (Zb 2 rfl (Zh ?_)))))))
 refine Zd hK19 (Zf (fun K hK20 => Zg (Zb 3 rfl ?_)))
 obtain ⟨e21, hi23, H⟩ := bind_some H
 obtain ⟨j22, hi23a, hi23b, hi23c⟩ := Xn hi23
 refine Za rfl rfl rfl (Y2 Jy rfl rfl hi23a hi23c (Rd.el (hS.rd0 s0_.rd) Ve hi23b)) (Za rfl rfl rfl (Zav Zy rfl (Zgf _) (Rd.el (hS.rd0 s0_.rd) Ve hi23b) rfl) (Zd3 rfl rfl rfl rfl (by kernel_rfl) rfl ?_))
 show Calls _ _ #[_, _, _] _ _
 refine Zcg Try.func109 rfl Try.ntmps109 rfl (Zf (fun K hK24 => Zg (Zb 1 rfl (Zh (Zd hK24 (Zf (fun K hK25 => Zg ?_)))))))
 refine Zb 1 rfl (Za rfl rfl rfl (Zi Zy rfl (Zgf _) hS X9 trivial Yw) (Za rfl rfl rfl (Zi Zy rfl (Zgf _) hS hs0 trivial Yw) ?_))
 obtain ⟨r26, hm27, H⟩ := bind_some H
 refine Zt rfl rfl rfl rfl (by kernel_rfl) rfl (Zah e21 x2 x3 _ hm27) ?_
 rintro e w ⟨rfl, hN⟩; refine ⟨_, rfl, ?_⟩; obtain ⟨hB, hS⟩ := hS.jn hN
 refine Za rfl rfl rfl (Yt rfl) (Zb 1 rfl (Zh (Zd hK25 (Zl (Zm rfl (RV.tmp rfl RV.nil) rfl (⟨_, rfl, ?_⟩))))))
 refine Zh (Zd hK20 (Zx rfl (fun hb => ?_) (fun hb => ?_)))
 rotate_left
 ·replace H := Zq H hb
  refine Zv (Zw (Zd hK18 (Zg (Za rfl rfl rfl (Xu rfl rfl) (Zb 1 rfl (Zh ?_))))))
  exact Xo (n, v13, (IntKind.wrap .i64 (v14 + 1))) (by repeat (first | exact Sub.nil | refine Sub.cons rfl ?_)) ⟨hS, H⟩ (Nat.lt_succ_self _)
 replace H := Zp H hb
 refine Zf (fun K hK29 => Zg (Zb 2 rfl (Zh (Zd hK29 (Zl (Zj (Ze ?_)))))))
 refine Ze (Zj (Ze (Zm rfl (RV.tmp rfl RV.nil) rfl (⟨_, rfl, ?_⟩))))
 refine Za rfl rfl rfl (Zda rfl rfl) (Zb 1 rfl (Zh (Zd hK9 (Zl (Zm rfl (RV.tmp rfl RV.nil) rfl (⟨_, rfl, ?_⟩))))))
 refine Za rfl rfl rfl (Yt rfl) (Zb 2 rfl (Zh (Zd hK6 (Zl (Zm rfl (RV.tmp rfl RV.nil) rfl ?_)))))
 obtain rfl := QJ H
 replace hS := hS.cut 0
 exact ⟨rfl, hS⟩
theorem Zdb (x0 : Co) (A0_ : OA) (c0_ : Nat) (A1_ : OA) (c1_ : Nat) (A2_ : OA) (c2_ : Nat) (A3_ : OA) (c3_ : Nat) (A4_ : OA) (c4_ : Nat) (w0 : World) (s0_ : SlI w0 enE A0_ c0_ x0.tuple.log) (s1_ : SlI w0 enO A1_ c1_ x0.votes) (s2_ : SlI w0 Vr A2_ c2_ x0.next) (s3_ : SlI w0 Vr A3_ c3_ x0.mtch) (s4_ : SlI w0 Vr A4_ c4_ x0.caps) {r : Bool} (H : Zaj x0 = some r) : Calls Try.prog 44 #[.agg #[.int .i64 x0.id, .int .i64 x0.n, .int .u8 x0.role, .int .i64 x0.binary, .int .i64 x0.tuple.snap.index, .int .i64 x0.tuple.snap.term, .int .i64 x0.tuple.snap.sum, .int .i64 x0.tuple.snap.level, .bool x0.tuple.snap.final, .slice A0_ x0.tuple.log.length c0_, .int .i64 x0.tuple.term, .int .i64 x0.tuple.vote, .int .i64 x0.commit, .int .i64 x0.applied.index, .int .i64 x0.applied.term, .int .i64 x0.applied.sum, .int .i64 x0.applied.level, .bool x0.applied.final, .slice A1_ x0.votes.length c1_, .slice A2_ x0.next.length c2_, .slice A3_ x0.mtch.length c3_, .slice A4_ x0.caps.length c4_]] w0 fun e w' => e = .returned (.bool r) ∧ St0 All w0 w' [] := by
 unfold Zaj at H
 refine Yp Try.func44 rfl Try.ntmps44 rfl ?_
 have hS := St0.start All w0
 refine Zf (fun K hK1 => Zg (Yq rfl rfl rfl CellsOf.agg hS (fun b2 w hS hB => Zb 1 rfl (Zh (Zd hK1 (Zf (fun K hK4 => Zg ?_)))))))
 refine Za rfl rfl rfl (Zc Zz rfl) (Za rfl rfl rfl (Zk V2 rfl (Zgf _) hS hs0 trivial Ze8) ?_)
 obtain ⟨r5, hm6, H⟩ := bind_some H
 refine Zt rfl rfl rfl rfl (by kernel_rfl) rfl (Ze1 x0.tuple A0_ c0_ _ (Zgi s0_.k (hS.rd0 s0_.rd) (hS.blk0 s0_.blk)) hm6) ?_
 rintro e w ⟨rfl, hN⟩; refine ⟨_, rfl, ?_⟩; obtain ⟨hB, hS⟩ := hS.jn hN
 refine Yr rfl rfl zc_3 hS (fun b7 w hS hB => Zr rfl rfl rfl CellsOf.int hS ps0 Zfn (by kernel_rfl) rfl (fun w hS hB => Zh (Zd hK4 (Zf (fun K hK9 => Zf (fun K hK10 => Zg (Za rfl rfl rfl (V0 rfl rfl) ?_)))))))
 refine Za rfl rfl rfl (V0 rfl rfl) (Za rfl rfl rfl (V0 rfl rfl) (Za rfl rfl rfl (V0 rfl rfl) (Za rfl rfl rfl (V0 rfl rfl) (Za rfl rfl rfl (V0 rfl rfl) (Za rfl rfl rfl (Vk (cells := [.func (.func 73) #[] #[.pointer (some ⟨b2, 0, none⟩)], .func (.func 75) #[] #[.pointer (some ⟨b2, 0, none⟩)], .func (.func 77) #[] #[.pointer (some ⟨b2, 0, none⟩)], .func (.func 78) #[] #[.pointer (some ⟨b2, 0, none⟩), .pointer (some ⟨b7, 0, none⟩)], .func (.func 80) #[] #[.pointer (some ⟨b2, 0, none⟩)], .func (.func 81) #[] #[.pointer (some ⟨b2, 0, none⟩)]]) rfl (by kernel_rfl)) (Zb 1 rfl (Zh ?_)))))))
 refine Zd hK10 (Z6 (Ze9 60 (Zf (fun K hK11 => Zg (Za rfl rfl rfl (Y4 rfl rfl) (Zh (Zd hK11 ?_)))))))
 refine Zf (fun K hK12 => Zn rfl rfl (Zv (Zd hK12 (Zf (fun K hK13 => Z6 (Zf (fun K hK14 => Zg ?_)))))))
 refine Za rfl rfl rfl (Zgc (n := 6) (e := 34) (j := 0) (by kernel_rfl) (by kernel_rfl) (by kernel_rfl) rfl rfl rfl (by decide) rfl) (Zb 1 rfl (Zh (Zd hK14 (Zf (fun K hK15 => Zg (Zb 1 rfl (Zd3 rfl rfl rfl rfl (by kernel_rfl) rfl ?_)))))))
 show Calls _ _ #[_] _ _
 refine Yp Try.func73 rfl Try.ntmps73 rfl (Zf (fun K hK16 => Zg (Zb 1 rfl (Zh (Zd hK16 (Zf (fun K hK17 => Zg ?_)))))))
 refine Za rfl rfl rfl (Zc Yx rfl) (Za rfl rfl rfl (Zi Zy rfl (Zgf _) hS X9 trivial Xd) ?_)
 obtain ⟨r18, hm19, H⟩ := bind_some H
 refine Zt rfl rfl rfl rfl (by kernel_rfl) rfl (Zah x0.n 1 5 _ hm19) ?_
 rintro e w ⟨rfl, hN⟩; refine ⟨_, rfl, ?_⟩; obtain ⟨hB, hS⟩ := hS.jn hN
 refine Zb 1 rfl (Zs 5 rfl (fun hb => ?_) (fun hb => ?_))
 rotate_left
 ·replace H := Zq H hb
  refine Zb 7 rfl (Zh (Zd hK17 (Zl (Zm rfl (RV.tmp rfl RV.nil) rfl (⟨_, rfl, ?_⟩)))))
  refine Za rfl rfl rfl (Yt rfl) (Zh (Zd hK15 (Zn rfl rfl (Zf (fun K hK124 => Zg (Zb 1 rfl (Zh ?_)))))))
  refine Zd hK124 (Zl (Zj (Ze (Ze (Zj (Ze (Zm rfl (RV.tmp rfl RV.nil) rfl ?_)))))))
  obtain rfl := QJ H
  replace hS := hS.cut 0
  exact ⟨rfl, hS⟩
 replace H := Zp H hb
 refine Za rfl rfl rfl (Zc Xb rfl) (Za rfl rfl rfl (Zi Zy rfl (Zgf _) hS X9 trivial Yw) (Za rfl rfl rfl (Zc Yx rfl) (Za rfl rfl rfl (Zi Zy rfl (Zgf _) hS X9 trivial Xd) ?_)))
 obtain ⟨r21, hm22, H⟩ := bind_some H
 refine Zt rfl rfl rfl rfl (by kernel_rfl) rfl (Zah x0.id 1 x0.n _ hm22) ?_
 rintro e w ⟨rfl, hN⟩; refine ⟨_, rfl, ?_⟩; obtain ⟨hB, hS⟩ := hS.jn hN
 refine Zb 2 rfl (Zh (Zd hK17 (Zl (Zm rfl (RV.tmp rfl RV.nil) rfl (⟨_, rfl, ?_⟩)))))
 refine Za rfl rfl rfl (Yt rfl) (Zh (Zd hK15 (Zx rfl (fun hb => ?_) (fun hb => ?_))))
 ·replace H := Zp H hb
  refine Zf (fun K hK24 => Zg (Zb 1 rfl (Zh (Zd hK24 (Zl (Zj (Ze ?_)))))))
  refine Ze (Zj (Ze (Zm rfl (RV.tmp rfl RV.nil) rfl ?_)))
  obtain rfl := QJ H
  replace hS := hS.cut 0
  exact ⟨rfl, hS⟩
 replace H := Zq H hb
 refine Zv (Zw (Zd hK13 (Zg (Za rfl rfl rfl (Xu rfl rfl) (Zb 1 rfl (Zh (Zew ?_)))))))
 refine Zf (fun K hK26 => Zg (Za rfl rfl rfl (Y4 rfl rfl) (Zh (Zd hK26 (Zf (fun K hK27 => Zn rfl rfl (Zv ?_)))))))
 refine Zd hK27 (Zf (fun K hK28 => Z6 (Zf (fun K hK29 => Zg (Za rfl rfl rfl (Zgc (n := 6) (e := 34) (j := 1) (by kernel_rfl) (by kernel_rfl) (by kernel_rfl) rfl rfl rfl (by decide) rfl) (Zb 1 rfl (Zh ?_)))))))
 refine Zd hK29 (Zf (fun K hK30 => Zg (Zb 1 rfl (Zd3 rfl rfl rfl rfl (by kernel_rfl) rfl ?_))))
 show Calls _ _ #[_] _ _
 refine Yp Try.func75 rfl Try.ntmps75 rfl (Zf (fun K hK31 => Zg (Zb 1 rfl (Zh (Zd hK31 (Zf (fun K hK32 => Zg ?_)))))))
 refine Za rfl rfl rfl (Zc Zbg rfl) (Za rfl rfl rfl (Zi Zbi rfl (Zgf _) hS X9 trivial Zbj) (Za rfl rfl rfl (Zen rfl rfl) (Zb 1 rfl (Zs 5 rfl (fun hb => ?_) (fun hb => ?_)))))
 rotate_left
 ·replace H := Zq H hb
  refine Zb 10 rfl (Zh (Zd hK32 (Zl (Zm rfl (RV.tmp rfl RV.nil) rfl (⟨_, rfl, ?_⟩)))))
  refine Za rfl rfl rfl (Yt rfl) (Zh (Zd hK30 (Zn rfl rfl (Zf (fun K hK122 => Zg (Zb 1 rfl (Zh ?_)))))))
  refine Zd hK122 (Zl (Zj (Ze (Ze (Zj (Ze (Zm rfl (RV.tmp rfl RV.nil) rfl ?_)))))))
  obtain rfl := QJ H
  replace hS := hS.cut 0
  exact ⟨rfl, hS⟩
 replace H := Zp H hb
 refine Za rfl rfl rfl (Zc Zfm rfl) (Za rfl rfl rfl (Zi Zy rfl (Zgf _) hS X9 trivial Zbe) ?_)
 obtain ⟨r34, hm35, H⟩ := bind_some H
 refine Zt rfl rfl rfl rfl (by kernel_rfl) rfl (Zah x0.binary 1 2 _ hm35) ?_
 rintro e w ⟨rfl, hN⟩; refine ⟨_, rfl, ?_⟩; obtain ⟨hB, hS⟩ := hS.jn hN
 refine Zb 2 rfl (Zs 10 rfl (fun hb => ?_) (fun hb => ?_))
 rotate_left
 ·replace H := Zq H hb
  refine Zb 5 rfl (Zh (Zd hK32 (Zl (Zm rfl (RV.tmp rfl RV.nil) rfl (⟨_, rfl, ?_⟩)))))
  refine Za rfl rfl rfl (Yt rfl) (Zh (Zd hK30 (Zn rfl rfl (Zf (fun K hK120 => Zg (Zb 1 rfl (Zh ?_)))))))
  refine Zd hK120 (Zl (Zj (Ze (Ze (Zj (Ze (Zm rfl (RV.tmp rfl RV.nil) rfl ?_)))))))
  obtain rfl := QJ H
  replace hS := hS.cut 0
  exact ⟨rfl, hS⟩
 replace H := Zp H hb
 refine Za rfl rfl rfl (Zc Zz rfl) (Za rfl rfl rfl (Zk V2 rfl (Zgf _) hS X9 trivial Ze8) ?_)
 obtain ⟨r37, hm38, H⟩ := bind_some H
 refine Zt rfl rfl rfl rfl (by kernel_rfl) rfl (c_tuple_Right x0.tuple A0_ c0_ _ (Zgi s0_.k (hS.rd0 s0_.rd) (hS.blk0 s0_.blk)) hm38) ?_
 rintro e w ⟨rfl, hN⟩; refine ⟨_, rfl, ?_⟩; obtain ⟨hB, hS⟩ := hS.jn hN
 refine Zb 2 rfl (Zh (Zd hK32 (Zl (Zm rfl (RV.tmp rfl RV.nil) rfl (⟨_, rfl, ?_⟩)))))
 refine Za rfl rfl rfl (Yt rfl) (Zh (Zd hK30 (Zx rfl (fun hb => ?_) (fun hb => ?_))))
 ·replace H := Zp H hb
  refine Zf (fun K hK40 => Zg (Zb 1 rfl (Zh (Zd hK40 (Zl (Zj (Ze ?_)))))))
  refine Ze (Zj (Ze (Zm rfl (RV.tmp rfl RV.nil) rfl ?_)))
  obtain rfl := QJ H
  replace hS := hS.cut 0
  exact ⟨rfl, hS⟩
 replace H := Zq H hb
 refine Zv (Zw (Zd hK28 (Zg (Za rfl rfl rfl (Xu rfl rfl) (Zb 1 rfl (Zh (Zew ?_)))))))
 refine Zf (fun K hK42 => Zg (Za rfl rfl rfl (Y4 rfl rfl) (Zh (Zd hK42 (Zf (fun K hK43 => Zn rfl rfl (Zv ?_)))))))
 refine Zd hK43 (Zf (fun K hK44 => Z6 (Zf (fun K hK45 => Zg (Za rfl rfl rfl (Zgc (n := 6) (e := 34) (j := 2) (by kernel_rfl) (by kernel_rfl) (by kernel_rfl) rfl rfl rfl (by decide) rfl) (Zb 1 rfl (Zh ?_)))))))
 refine Zd hK45 (Zf (fun K hK46 => Zg (Zb 1 rfl (Zd3 rfl rfl rfl rfl (by kernel_rfl) rfl ?_))))
 show Calls _ _ #[_] _ _
 refine Yp Try.func77 rfl Try.ntmps77 rfl (Zf (fun K hK47 => Zg (Zb 1 rfl (Zh (Zd hK47 (Zf (fun K hK48 => Zg ?_)))))))
 refine Za rfl rfl rfl (Zc Zz rfl) (Za rfl rfl rfl (Zk V2 rfl (Zgf _) hS X9 trivial Ze8) (Za rfl rfl rfl (Zc V6 rfl) (Za rfl rfl rfl (Zi Zy rfl (Zgf _) hS X9 trivial J9) ?_)))
 obtain ⟨r49, hm50, H⟩ := bind_some H
 refine Zt rfl rfl rfl rfl (by kernel_rfl) rfl (c_tuple_State x0.tuple x0.commit A0_ c0_ _ (Zgi s0_.k (hS.rd0 s0_.rd) (hS.blk0 s0_.blk)) hm50) ?_
 rintro e w ⟨rfl, hN⟩; refine ⟨_, rfl, ?_⟩; obtain ⟨hB, hS⟩ := hS.jn hN
 refine Zb 1 rfl (Za rfl rfl rfl (Yj rfl rfl) (Za rfl rfl rfl (Yj rfl rfl) (Yr rfl rfl zc_23 hS (fun b51 w hS hB => Zr rfl rfl rfl CellsOf.agg hS ps0 Zdw (by kernel_rfl) rfl (fun w hS hB => Zb 1 rfl (Zh (Zd hK48 ?_)))))))
 refine Zf (fun K hK53 => Zg (Zb 2 rfl (Zs 13 rfl (fun hb => ?_) (fun hb => ?_))))
 rotate_left
 ·replace H := Zq H hb
  refine Zb 6 rfl (Zh (Zd hK53 (Zl (Zm rfl (RV.tmp rfl RV.nil) rfl (⟨_, rfl, ?_⟩)))))
  refine Za rfl rfl rfl (Yt rfl) (Zh (Zd hK46 (Zn rfl rfl (Zf (fun K hK118 => Zg (Zb 1 rfl (Zh ?_)))))))
  refine Zd hK118 (Zl (Zj (Ze (Ze (Zj (Ze (Zm rfl (RV.tmp rfl RV.nil) rfl ?_)))))))
  obtain rfl := QJ H
  replace hS := hS.cut 0
  exact ⟨rfl, hS⟩
 replace H := Zp H hb
 refine Za rfl rfl rfl (Zk Y3 rfl (Zgf _) hS hs0 trivial Jt) (Za rfl rfl rfl (Zc fo_30_6 rfl) (Za rfl rfl rfl (Zk Y3 rfl (Zgf _) hS Vt trivial sg13_5) (Za rfl rfl rfl (Zap (by kernel_rfl) rfl rfl (Jg _ _ _ _ _ _ _ _ _ _)) (Zb 2 rfl (Zh (Zd hK53 (Zl ?_)))))))
 refine Zm rfl (RV.tmp rfl RV.nil) rfl (⟨_, rfl, ?_⟩)
 refine Za rfl rfl rfl (Yt rfl) (Zh (Zd hK46 (Zx rfl (fun hb => ?_) (fun hb => ?_))))
 ·replace H := Zp H hb
  refine Zf (fun K hK56 => Zg (Zb 1 rfl (Zh (Zd hK56 (Zl (Zj (Ze ?_)))))))
  refine Ze (Zj (Ze (Zm rfl (RV.tmp rfl RV.nil) rfl ?_)))
  obtain rfl := QJ H
  replace hS := hS.cut 0
  exact ⟨rfl, hS⟩
 replace H := Zq H hb
 refine Zv (Zw (Zd hK44 (Zg (Za rfl rfl rfl (Xu rfl rfl) (Zb 1 rfl (Zh (Zew ?_)))))))
 refine Zf (fun K hK58 => Zg (Za rfl rfl rfl (Y4 rfl rfl) (Zh (Zd hK58 (Zf (fun K hK59 => Zn rfl rfl (Zv ?_)))))))
 refine Zd hK59 (Zf (fun K hK60 => Z6 (Zf (fun K hK61 => Zg (Za rfl rfl rfl (Zgc (n := 6) (e := 34) (j := 3) (by kernel_rfl) (by kernel_rfl) (by kernel_rfl) rfl rfl rfl (by decide) rfl) (Zb 1 rfl (Zh ?_)))))))
 refine Zd hK61 (Zf (fun K hK62 => Zg (Zb 1 rfl (Zd3 rfl rfl rfl rfl (by kernel_rfl) rfl ?_))))
 show Calls _ _ #[_, _] _ _
 refine Xw Try.func78 rfl Try.ntmps78 rfl (Zf (fun K hK63 => Zg (Zb 1 rfl (Zh (Zd hK63 (Zf (fun K hK64 => Zg ?_)))))))
 refine Za rfl rfl rfl (Zc Zaq rfl) (Za rfl rfl rfl (Zi Zf9 rfl (Zgf _) hS Vt trivial Zeq) (Za rfl rfl rfl (Yb Zff rfl) (Za rfl rfl rfl (Zc Yx rfl) (Za rfl rfl rfl (Zi Zy rfl (Zgf _) hS Vt trivial Xd) (Za rfl rfl rfl (Xh rfl rfl) (Zb 1 rfl (Zs 9 rfl (fun hb => ?_) (fun hb => ?_))))))))
 rotate_left
 ·replace H := Zq H hb
  refine Zb 17 rfl (Zh (Zd hK64 (Zl (Zm rfl (RV.tmp rfl RV.nil) rfl (⟨_, rfl, ?_⟩)))))
  refine Za rfl rfl rfl (Yt rfl) (Zh (Zd hK62 (Zn rfl rfl (Zf (fun K hK116 => Zg (Zb 1 rfl (Zh ?_)))))))
  refine Zd hK116 (Zl (Zj (Ze (Ze (Zj (Ze (Zm rfl (RV.tmp rfl RV.nil) rfl ?_)))))))
  obtain rfl := QJ H
  replace hS := hS.cut 0
  exact ⟨rfl, hS⟩
 replace H := Zp H hb
 refine Za rfl rfl rfl (Zc Zea rfl) (Za rfl rfl rfl (Zi Zat rfl (Zgf _) hS Vt trivial sg19_1) (Za rfl rfl rfl (Zc Yx rfl) (Za rfl rfl rfl (Zi Zy rfl (Zgf _) hS Vt trivial Xd) (Za rfl rfl rfl (Zi Zy rfl (Zgf _) hS X9 trivial Yw) (Za rfl rfl rfl (Xu rfl rfl) ?_)))))
 obtain ⟨r66, hm67, H⟩ := bind_some H
 refine Zt rfl rfl rfl rfl (by kernel_rfl) rfl (Ze7 x0.next x0.n 1 (IntKind.wrap .i64 (r5 + 1)) A2_ c2_ _ (Zgi s2_.k (hS.rd0 s2_.rd) (hS.blk0 s2_.blk)) hm67) ?_
 rintro e w ⟨rfl, hN⟩; refine ⟨_, rfl, ?_⟩; obtain ⟨hB, hS⟩ := hS.jn hN
 refine Zb 2 rfl (Zs 18 rfl (fun hb => ?_) (fun hb => ?_))
 rotate_left
 ·replace H := Zq H hb
  refine Zb 8 rfl (Zh (Zd hK64 (Zl (Zm rfl (RV.tmp rfl RV.nil) rfl (⟨_, rfl, ?_⟩)))))
  refine Za rfl rfl rfl (Yt rfl) (Zh (Zd hK62 (Zn rfl rfl (Zf (fun K hK114 => Zg (Zb 1 rfl (Zh ?_)))))))
  refine Zd hK114 (Zl (Zj (Ze (Ze (Zj (Ze (Zm rfl (RV.tmp rfl RV.nil) rfl ?_)))))))
  obtain rfl := QJ H
  replace hS := hS.cut 0
  exact ⟨rfl, hS⟩
 replace H := Zp H hb
 refine Za rfl rfl rfl (Zc Zdm rfl) (Za rfl rfl rfl (Zi Zat rfl (Zgf _) hS Vt trivial sg20_1) (Za rfl rfl rfl (Zc Yx rfl) (Za rfl rfl rfl (Zi Zy rfl (Zgf _) hS Vt trivial Xd) (Za rfl rfl rfl (Zi Zy rfl (Zgf _) hS X9 trivial Yw) ?_))))
 obtain ⟨r69, hm70, H⟩ := bind_some H
 refine Zt rfl rfl rfl rfl (by kernel_rfl) rfl (Ze7 x0.mtch x0.n 0 r5 A3_ c3_ _ (Zgi s3_.k (hS.rd0 s3_.rd) (hS.blk0 s3_.blk)) hm70) ?_
 rintro e w ⟨rfl, hN⟩; refine ⟨_, rfl, ?_⟩; obtain ⟨hB, hS⟩ := hS.jn hN
 refine Zb 2 rfl (Zh (Zd hK64 (Zl (Zm rfl (RV.tmp rfl RV.nil) rfl (⟨_, rfl, ?_⟩)))))
 refine Za rfl rfl rfl (Yt rfl) (Zh (Zd hK62 (Zx rfl (fun hb => ?_) (fun hb => ?_))))
 ·replace H := Zp H hb
  refine Zf (fun K hK72 => Zg (Zb 1 rfl (Zh (Zd hK72 (Zl (Zj (Ze ?_)))))))
  refine Ze (Zj (Ze (Zm rfl (RV.tmp rfl RV.nil) rfl ?_)))
  obtain rfl := QJ H
  replace hS := hS.cut 0
  exact ⟨rfl, hS⟩
 replace H := Zq H hb
 refine Zv (Zw (Zd hK60 (Zg (Za rfl rfl rfl (Xu rfl rfl) (Zb 1 rfl (Zh (Zew ?_)))))))
 refine Zf (fun K hK74 => Zg (Za rfl rfl rfl (Y4 rfl rfl) (Zh (Zd hK74 (Zf (fun K hK75 => Zn rfl rfl (Zv ?_)))))))
 refine Zd hK75 (Zf (fun K hK76 => Z6 (Zf (fun K hK77 => Zg (Za rfl rfl rfl (Zgc (n := 6) (e := 34) (j := 4) (by kernel_rfl) (by kernel_rfl) (by kernel_rfl) rfl rfl rfl (by decide) rfl) (Zb 1 rfl (Zh ?_)))))))
 refine Zd hK77 (Zf (fun K hK78 => Zg (Zb 1 rfl (Zd3 rfl rfl rfl rfl (by kernel_rfl) rfl ?_))))
 show Calls _ _ #[_] _ _
 refine Yp Try.func80 rfl Try.ntmps80 rfl (Zf (fun K hK79 => Zg (Zb 1 rfl (Zh (Zd hK79 (Zf (fun K hK80 => Yh 18 [] (fun _ _ => True) ⟨by kernel_rfl, by kernel_rfl⟩ hS (fun w hS hB => ?_))))))))
 refine Zo [Tt,Tt,Tt,Tt] (by decide +kernel) PFC.h (LtK.put rfl rfl rfl (Zc Zam rfl) (LtK.put rfl rfl rfl (Zi Zat rfl (Zgg _) hS Vt trivial Zdy) (LtK.put rfl rfl rfl (Zc Yx rfl) (LtK.put rfl rfl rfl (Zi Zy rfl (Zgg _) hS Vt trivial Xd) (LtK.nil (Yd [Ff,Ff,Ff,Ff,Tt] 4 ⟨by decide, by kernel_rfl, by kernel_rfl⟩ rfl rfl ?_))))))
 try dsimp only [Z2]
 obtain ⟨r81, hm82, H⟩ := bind_some H
 refine Zt rfl rfl rfl rfl (by kernel_rfl) rfl (Ze7 x0.caps x0.n 0 2 A4_ c4_ _ (Zgi s4_.k (hS.rd0 s4_.rd) (hS.blk0 s4_.blk)) hm82) ?_
 rintro e w ⟨rfl, hN⟩; refine ⟨_, rfl, ?_⟩; obtain ⟨hB, hS⟩ := hS.jn hN
 refine Zh (Ye hB (Zo [Ff,Ff,Ff,Ff,Ff,Tt] (by decide +kernel) PFC.h (LtK.put rfl rfl rfl (Zu rfl) (LtK.nil (Xf 7 rfl (fun hb => ?_) (fun hb => ?_))))))
 rotate_left
 ·replace H := Zq H hb
  refine Zo [Ff,Ff,Ff,Ff,Ff,Ff,Tt,Tt,Tt,Tt,Tt,Tt,Tt,Tt,Tt,Tt,Tt,Tt] (by decide +kernel) PFC.h (LtK.skip rfl rfl rfl (LtK.skip rfl rfl rfl (LtK.skip rfl rfl rfl (LtK.skip rfl rfl rfl (LtK.skip rfl rfl rfl (LtK.skip rfl rfl rfl (LtK.skip rfl rfl rfl ?_)))))))
  refine LtK.skip rfl rfl rfl (LtK.skip rfl rfl rfl (LtK.skip rfl rfl rfl (LtK.put rfl rfl rfl (Yk rfl rfl rfl) (LtK.put rfl rfl rfl (Z7 rfl) (LtK.nil (Z5 (by kernel_rfl) (Zd hK80 ?_)))))))
  refine Zl (Zm rfl (RV.tmp rfl RV.nil) rfl (⟨_, rfl, ?_⟩))
  refine Za rfl rfl rfl (Yt rfl) (Zh (Zd hK78 (Zn rfl rfl (Zf (fun K hK112 => Zg (Zb 1 rfl (Zh ?_)))))))
  refine Zd hK112 (Zl (Zj (Ze (Ze (Zj (Ze (Zm rfl (RV.tmp rfl RV.nil) rfl ?_)))))))
  obtain rfl := QJ H
  replace hS := hS.cut 0
  exact ⟨rfl, hS⟩
 replace H := Zp H hb
 refine Zo [Ff,Ff,Ff,Ff,Ff,Ff,Tt,Tt,Tt,Tt,Tt,Tt,Tt,Tt,Tt,Tt,Tt,Tt] (by decide +kernel) PFC.h (LtK.put rfl rfl rfl (Zc Zam rfl) (LtK.put rfl rfl rfl (Zi Zat rfl (Zgg _) hS Vt trivial Zdy) (LtK.put rfl rfl rfl (Zc Xb rfl) (LtK.put rfl rfl rfl (Zi Zy rfl (Zgg _) hS Vt trivial Yw) (LtK.put rfl rfl rfl (Zeo rfl rfl) ?_)))))
 obtain ⟨e84, hi86, H⟩ := bind_some H
 obtain ⟨j85, hi86a, hi86b, hi86c⟩ := Xn hi86
 refine LtK.put rfl rfl rfl (Y2 Jy rfl rfl hi86a hi86c (Rd.el (hS.rd0 s4_.rd) Ve hi86b)) (LtK.put rfl rfl rfl (Zav Zy rfl (Zgg _) (Rd.el (hS.rd0 s4_.rd) Ve hi86b) rfl) (LtK.put rfl rfl rfl (Zc Zfm rfl) (LtK.put rfl rfl rfl (Zi Zy rfl (Zgg _) hS Vt trivial Zbe) (LtK.put rfl rfl rfl (Xh rfl rfl) (LtK.put rfl rfl rfl (Z9 rfl rfl rfl) (LtK.put rfl rfl rfl (Z7 rfl) (LtK.nil ?_)))))))
 refine Z5 (by kernel_rfl) (Zd hK80 (Zl (Zm rfl (RV.tmp rfl RV.nil) rfl (⟨_, rfl, ?_⟩))))
 refine Za rfl rfl rfl (Yt rfl) (Zh (Zd hK78 (Zx rfl (fun hb => ?_) (fun hb => ?_))))
 ·replace H := Zp H hb
  refine Zf (fun K hK88 => Zg (Zb 1 rfl (Zh (Zd hK88 (Zl (Zj (Ze ?_)))))))
  refine Ze (Zj (Ze (Zm rfl (RV.tmp rfl RV.nil) rfl ?_)))
  obtain rfl := QJ H
  replace hS := hS.cut 0
  exact ⟨rfl, hS⟩
 replace H := Zq H hb
 refine Zv (Zw (Zd hK76 (Zg (Za rfl rfl rfl (Xu rfl rfl) (Zb 1 rfl (Zh (Zew ?_)))))))
 refine Zf (fun K hK90 => Zg (Za rfl rfl rfl (Y4 rfl rfl) (Zh (Zd hK90 (Zf (fun K hK91 => Zn rfl rfl (Zv ?_)))))))
 refine Zd hK91 (Zf (fun K hK92 => Z6 (Zf (fun K hK93 => Zg (Za rfl rfl rfl (Zgc (n := 6) (e := 34) (j := 5) (by kernel_rfl) (by kernel_rfl) (by kernel_rfl) rfl rfl rfl (by decide) rfl) (Zb 1 rfl (Zh ?_)))))))
 refine Zd hK93 (Zf (fun K hK94 => Zg (Zb 1 rfl (Zd3 rfl rfl rfl rfl (by kernel_rfl) rfl ?_))))
 show Calls _ _ #[_] _ _
 refine Yp Try.func81 rfl Try.ntmps81 rfl (Zf (fun K hK95 => Zg (Zb 1 rfl (Zh (Zd hK95 (Zf (fun K hK96 => Zg ?_)))))))
 refine Za rfl rfl rfl (Zc Zbg rfl) (Za rfl rfl rfl (Zi Zbi rfl (Zgf _) hS Vt trivial Zbj) (Za rfl rfl rfl (Xh rfl rfl) (Zb 1 rfl (Zs 5 rfl (fun hb => ?_) (fun hb => ?_)))))
 ·replace H := Zp H hb
  refine Zb 14 rfl (Zh (Zd hK96 (Zl (Zm rfl (RV.tmp rfl RV.nil) rfl (⟨_, rfl, ?_⟩)))))
  refine Za rfl rfl rfl (Yt rfl) (Zh (Zd hK94 (Ym rfl rfl (Zv (Zw (Zd hK92 (Zg ?_)))))))
  refine Za rfl rfl rfl (Xu rfl rfl) (Zb 1 rfl (Zh (Zew (Zf (fun K hK98 => Zg (Za rfl rfl rfl (Y4 rfl rfl) (Zh ?_)))))))
  refine Zd hK98 (Zf (fun K hK99 => Ym rfl rfl (Xy (Z4 (Z4 (Yz (Zd hK9 ?_)))))))
  refine Zf (fun K hK100 => Zg (Zb 1 rfl (Zh (Zd hK100 (Zl (Zm rfl (RV.tmp rfl RV.nil) rfl ?_))))))
  obtain rfl := QJ H
  replace hS := hS.cut 0
  exact ⟨rfl, hS⟩
 replace H := Zq H hb
 refine Za rfl rfl rfl (Zc Zz rfl) (Za rfl rfl rfl (Zc Xc rfl) (Za rfl rfl rfl (Zi Zy rfl (Zgf _) hS Vt trivial Xv) (Za rfl rfl rfl (Y8 rfl rfl) (Zb 1 rfl (Zs 10 rfl (fun hb => ?_) (fun hb => ?_))))))
 rotate_left
 ·replace H := Zq H hb
  refine Zb 9 rfl (Zh (Zd hK96 (Zl (Zm rfl (RV.tmp rfl RV.nil) rfl (⟨_, rfl, ?_⟩)))))
  refine Za rfl rfl rfl (Yt rfl) (Zh (Zd hK94 (Zn rfl rfl (Zf (fun K hK110 => Zg (Zb 1 rfl (Zh ?_)))))))
  refine Zd hK110 (Zl (Zj (Ze (Ze (Zj (Ze (Zm rfl (RV.tmp rfl RV.nil) rfl ?_)))))))
  obtain rfl := QJ H
  replace hS := hS.cut 0
  exact ⟨rfl, hS⟩
 replace H := Zp H hb
 refine Za rfl rfl rfl (Zc Zz rfl) (Za rfl rfl rfl (Zc Vq rfl) (Za rfl rfl rfl (Zi Zy rfl (Zgf _) hS Vt trivial Zbz) (Za rfl rfl rfl (Zc Xb rfl) (Za rfl rfl rfl (Zi Zy rfl (Zgf _) hS Vt trivial Yw) (Za rfl rfl rfl (Xh rfl rfl) (Zb 3 rfl (Zh ?_)))))))
 refine Zd hK96 (Zl (Zm rfl (RV.tmp rfl RV.nil) rfl (⟨_, rfl, ?_⟩)))
 refine Za rfl rfl rfl (Yt rfl) (Zh (Zd hK94 (Zx rfl (fun hb => ?_) (fun hb => ?_))))
 ·replace H := Zp H hb
  refine Zf (fun K hK104 => Zg (Zb 1 rfl (Zh (Zd hK104 (Zl (Zj (Ze ?_)))))))
  refine Ze (Zj (Ze (Zm rfl (RV.tmp rfl RV.nil) rfl ?_)))
  obtain rfl := QJ H
  replace hS := hS.cut 0
  exact ⟨rfl, hS⟩
 replace H := Zq H hb
 refine Zv (Zw (Zd hK92 (Zg (Za rfl rfl rfl (Xu rfl rfl) (Zb 1 rfl (Zh (Zew ?_)))))))
 refine Zf (fun K hK106 => Zg (Za rfl rfl rfl (Y4 rfl rfl) (Zh (Zd hK106 (Zf (fun K hK107 => Ym rfl rfl (Xy ?_)))))))
 refine Z4 (Z4 (Yz (Zd hK9 (Zf (fun K hK108 => Zg (Zb 1 rfl (Zh ?_)))))))
 refine Zd hK108 (Zl (Zm rfl (RV.tmp rfl RV.nil) rfl ?_))
 obtain rfl := QJ H
 replace hS := hS.cut 0
 exact ⟨rfl, hS⟩
theorem c_elect_votes (x0 : List Bool) (A0_ : OA) (c0_ : Nat) (w0 : World) (s0_ : SlI w0 enO A0_ c0_ x0) : Calls Try.prog 67 #[.slice A0_ x0.length c0_] w0 fun e w' => ∃ (b0_ : Nat), e = .returned (.func (.func 102) #[] #[.pointer (some ⟨b0_, 0, none⟩)]) ∧ St0 All w0 w' [.box b0_ [.slice A0_ x0.length c0_] 27] := by
 refine Yp Try.func67 rfl Try.ntmps67 rfl ?_
 have hS := St0.start All w0
 refine Zf (fun K hK1 => Zg (Yq rfl rfl rfl CellsOf.slice hS (fun b2 w hS hB => Zb 1 rfl (Zh (Zd hK1 (Zf (fun K hK4 => Zg ?_)))))))
 refine Za rfl rfl rfl (V0 rfl rfl) (Zb 1 rfl (Zh (Zd hK4 (Zl (Zm rfl (RV.tmp rfl RV.nil) rfl ?_)))))
 exact ⟨b2, rfl, hS.sub (List.Sublist.cons_cons _ List.Sublist.slnil)⟩
theorem Zdl (x0 : List Bool) (A0_ : OA) (c0_ : Nat) (w0 : World) (s0_ : SlI w0 enO A0_ c0_ x0) {r : Bool} (H : Zay x0 = some r) : Calls Try.prog 35 #[.slice A0_ x0.length c0_] w0 fun e w' => e = .returned (.bool r) ∧ St0 All w0 w' [] := by
 unfold Zay at H
 refine Yp Try.func35 rfl Try.ntmps35 rfl ?_
 have hS := St0.start All w0
 refine Zf (fun K hK1 => Zg (Zb 1 rfl (Zh (Zd hK1 (Zf (fun K hK2 => Zg (Yr rfl rfl zc_3 hS (fun b3 w hS hB => ?_))))))))
 refine Zr rfl rfl rfl CellsOf.int hS ps0 Zfn (by kernel_rfl) rfl (fun w hS hB => Zh (Zd hK2 (Zf (fun K hK5 => Zf (fun K hK6 => Zg (Zb 1 rfl ?_))))))
 have hM7 := hS
 refine Zt rfl rfl rfl rfl (by kernel_rfl) rfl (c_elect_votes x0 A0_ c0_ _ (Zgi s0_.k (hS.rd0 s0_.rd) (hS.blk0 s0_.blk))) ?_
 rintro e w ⟨b9, rfl, hN8⟩; refine ⟨_, rfl, ?_⟩; have hB := hN8.pure; have hS := hS.join hN8
 refine Zh (Zd hK6 (Z6 ?_))
 obtain ⟨xs13, hx14, H⟩ := bind_some H
 refine wpC_range (w0 := w0) (X := Int) rfl (by kernel_rfl) (it_votes x0 _ _ _ s0_ hM7.pure b9 hN8 hx14) ⟨hM7.size, hN8.size⟩ (fun _ => rfl) (by kernel_rfl) (fun k x => .box b3 [.int .i64 x] 3 :: []) (fun k x => Jr x0 (xs13.drop k) x = some r) (fun _ _ => []) (fun _ _ => False) (fun _ => False) 0 ⟨hS.sub (List.Sublist.cons _ (List.Sublist.cons_cons _ List.Sublist.slnil)), fun e he k hk => .inl (hM7.rng e he k hk).1⟩ H ?_ ?_ (fun _ _ _ h _ => h.elim) (fun _ _ h _ => h.elim)
 ·rintro lo k e11 v12 A hke H hzB hRB hS
  dsimp only at hRB H ⊢
  rw [drop_of_get hke, Jr] at H
  dsimp only [List.zip, List.zipWith, List.foldl]
  refine Zv (QH_asg hS ?_)
  rintro A2 hS hBase hE
  dsimp only [List.cons_append, List.nil_append] at hS
  refine Z6 (Zbn (by repeat (first | exact NL.round | exact NL.false | exact NL.body (by intro _ h; simp at h) | apply NL.then | apply NL.inBlock | apply NL.jump)) (by kernel_rfl) (Za rfl rfl rfl (Zi Zy rfl (Zgf _) hS hs0 trivial Yw) (Za rfl rfl rfl (Xu rfl rfl) (Zr rfl rfl rfl CellsOf.int hS ps0 Zfn (by kernel_rfl) rfl (fun w hS hB => Zh (Zw ?_))))))
  exact QH_round hBase hE hS (IntKind.wrap .i64 (v12 + 1)) (List.Sublist.cons_cons _ List.Sublist.slnil) H
 ·rintro v12 A H hS
  dsimp only at hS H ⊢
  rw [List.drop_length, Jr] at H
  refine Zw (Zd hK5 (Zf (fun K hK16 => Zg (Za rfl rfl rfl (Zi Zy rfl (Zgf _) hS X9 trivial Yw) (Za rfl rfl rfl (yx_mul rfl rfl) (Zb 1 rfl (Za rfl rfl rfl (Yb Zff rfl) ?_)))))))
  refine Za rfl rfl rfl (Y8 rfl rfl) (Zb 1 rfl (Zh (Zd hK16 (Zl (QH_shut (.inl rfl) hS ps0 (fun w hS => ?_))))))
  replace hS := hS.sub (List.Sublist.cons _ (List.Sublist.cons_cons _ List.Sublist.slnil))
  refine Zm rfl (RV.tmp rfl RV.nil) rfl ?_
  obtain rfl := QJ H
  replace hS := hS.cut 0
  exact ⟨rfl, hS⟩
end Go.Proofs.Ytamjlcaoieliaaa
