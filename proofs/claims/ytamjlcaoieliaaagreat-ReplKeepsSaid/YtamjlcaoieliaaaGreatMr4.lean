/- Texts of one claim put together. -/
import Derived.Test.YtamjlcaoieliaaaGreatMr1
import Derived.Test.YtamjlcaoieliaaaGreatMr2
import Derived.Test.YtamjlcaoieliaaaGreatMr3
namespace Go.Proofs.YtamjlcaoieliaaaGreat
open Go Go.RowKit
set_option maxRecDepth 100000
set_option maxHeartbeats 4000000
theorem Zax (x0 : St) (w0 : World) {r : Bool} (H : V4 x0 = some r) : Calls Tryz.prog 87 #[.agg #[.int .i64 x0.index, .int .i64 x0.term, .int .i64 x0.sum, .int .i64 x0.level, .bool x0.final]] w0 fun e w' => e = .returned (.bool r) ∧ St0 All w0 w' [] := by
 unfold V4 at H
 refine Yo Tryz.func87 rfl Tryz.ntmps87 rfl ?_
 have hS := St0.start All w0
 refine Ze (fun K hK1 => ?_)
 refine Zf ?_
 refine Yd rfl rfl rfl CellsOf.agg hS (fun b2 w hS hB => ?_)
 refine Zc 1 rfl ?_
 refine Zg ?_
 refine Zb hK1 ?_
 refine Ze (fun K hK4 => ?_)
 refine Ze (fun K hK5 => ?_)
 refine Zf ?_
 refine Za rfl rfl rfl (Zd Yj rfl) ?_
 refine Za rfl rfl rfl (Zh Zw rfl (Zgw _) hS hs0 trivial Y8) ?_
 obtain ⟨r6, hm7, H⟩ := bind_some H
 refine Zq rfl rfl rfl rfl (by kernel_rfl) rfl (Zcd x0.index _ hm7) ?_
 rintro e w ⟨rfl, hN⟩; refine ⟨_, rfl, ?_⟩; obtain ⟨hB, hS⟩ := hS.jn hN
 refine Za rfl rfl rfl (Yy rfl) ?_
 refine Zc 1 rfl ?_
 refine Zs 7 rfl (fun hb => ?_) (fun hb => ?_)
 ·replace H := Zp H hb
  refine Zc 39 rfl ?_
  refine Zg ?_
  refine Zb hK5 ?_
  refine Zt rfl rfl ?_
  refine Ze (fun K hK8 => ?_)
  refine Zf ?_
  refine Zc 1 rfl ?_
  refine Zg ?_
  refine Zb hK8 ?_
  refine Zk ?_
  refine Zi ?_
  refine Zl rfl (RV.tmp rfl RV.nil) rfl ?_
  obtain rfl := QJ H
  replace hS := hS.cut 0
  exact ⟨rfl, hS⟩
 replace H := Zo H hb
 refine Za rfl rfl rfl (Zd Zc7 rfl) ?_
 refine Za rfl rfl rfl (Zh Zw rfl (Zgw _) hS hs0 trivial Vp) ?_
 obtain ⟨r9, hm10, H⟩ := bind_some H
 refine Zq rfl rfl rfl rfl (by kernel_rfl) rfl (Zcd x0.term _ hm10) ?_
 rintro e w ⟨rfl, hN⟩; refine ⟨_, rfl, ?_⟩; obtain ⟨hB, hS⟩ := hS.jn hN
 refine Za rfl rfl rfl (Yy rfl) ?_
 refine Zc 2 rfl ?_
 refine Zs 13 rfl (fun hb => ?_) (fun hb => ?_)
 ·replace H := Zp H hb
  refine Zc 33 rfl ?_
  refine Zg ?_
  refine Zb hK5 ?_
  refine Zt rfl rfl ?_
  refine Ze (fun K hK11 => ?_)
  refine Zf ?_
  refine Zc 1 rfl ?_
  refine Zg ?_
  refine Zb hK11 ?_
  refine Zk ?_
  refine Zi ?_
  refine Zl rfl (RV.tmp rfl RV.nil) rfl ?_
  obtain rfl := QJ H
  replace hS := hS.cut 0
  exact ⟨rfl, hS⟩
 replace H := Zo H hb
 refine Za rfl rfl rfl (Zd fo_23_2 rfl) ?_
 refine Za rfl rfl rfl (Zh Zw rfl (Zgw _) hS hs0 trivial Zav) ?_
 obtain ⟨r12, hm13, H⟩ := bind_some H
 refine Zq rfl rfl rfl rfl (by kernel_rfl) rfl (Zcd x0.sum _ hm13) ?_
 rintro e w ⟨rfl, hN⟩; refine ⟨_, rfl, ?_⟩; obtain ⟨hB, hS⟩ := hS.jn hN
 refine Za rfl rfl rfl (Yy rfl) ?_
 refine Zc 2 rfl ?_
 refine Zs 19 rfl (fun hb => ?_) (fun hb => ?_)
 ·replace H := Zp H hb
  refine Zc 27 rfl ?_
  refine Zg ?_
  refine Zb hK5 ?_
  refine Zt rfl rfl ?_
  refine Ze (fun K hK14 => ?_)
  refine Zf ?_
  refine Zc 1 rfl ?_
  refine Zg ?_
  refine Zb hK14 ?_
  refine Zk ?_
  refine Zi ?_
  refine Zl rfl (RV.tmp rfl RV.nil) rfl ?_
  obtain rfl := QJ H
  replace hS := hS.cut 0
  exact ⟨rfl, hS⟩
 replace H := Zo H hb
 refine Za rfl rfl rfl (Zd Zc7 rfl) ?_
 refine Za rfl rfl rfl (Zh Zw rfl (Zgw _) hS hs0 trivial Vp) ?_
 refine Za rfl rfl rfl (Y5 rfl rfl) ?_
 refine Za rfl rfl rfl (Zd Yj rfl) ?_
 refine Za rfl rfl rfl (Zh Zw rfl (Zgw _) hS hs0 trivial Y8) ?_
 refine Za rfl rfl rfl (Y5 rfl rfl) ?_
 refine Za rfl rfl rfl (yv_neqB (by kernel_rfl) rfl rfl) ?_
 refine Zc 2 rfl ?_
 refine Zs 28 rfl (fun hb => ?_) (fun hb => ?_)
 ·replace H := Zp H hb
  refine Zc 18 rfl ?_
  refine Zg ?_
  refine Zb hK5 ?_
  refine Zt rfl rfl ?_
  refine Ze (fun K hK15 => ?_)
  refine Zf ?_
  refine Zc 1 rfl ?_
  refine Zg ?_
  refine Zb hK15 ?_
  refine Zk ?_
  refine Zi ?_
  refine Zl rfl (RV.tmp rfl RV.nil) rfl ?_
  obtain rfl := QJ H
  replace hS := hS.cut 0
  exact ⟨rfl, hS⟩
 replace H := Zo H hb
 refine Za rfl rfl rfl (Zd Zem rfl) ?_
 refine Za rfl rfl rfl (Zh Zw rfl (Zgw _) hS hs0 trivial Zan) ?_
 refine Za rfl rfl rfl (Xh rfl rfl) ?_
 refine Zc 1 rfl ?_
 refine Zs 32 rfl (fun hb => ?_) (fun hb => ?_)
 rotate_left
 ·replace H := Zo H hb
  refine Zc 6 rfl ?_
  refine Za rfl rfl rfl (Zd fo_23_4 rfl) ?_
  refine Za rfl rfl rfl (Zh sc_4 rfl (Zgw _) hS hs0 trivial Zew) ?_
  refine Zc 1 rfl ?_
  refine Zs 41 rfl (fun hb => ?_) (fun hb => ?_)
  rotate_left
  ·replace H := Zo H hb
   refine Zc 5 rfl ?_
   refine Zg ?_
   refine Zb hK5 ?_
   refine Yp rfl rfl ?_
   refine Zr ?_
   refine Zb hK4 ?_
   refine Ze (fun K hK28 => ?_)
   refine Yi 9 [] (fun _ _ => True) ⟨by kernel_rfl, by kernel_rfl⟩ hS (fun w hS hB => ?_)
   refine Zn [true, true, true, true] (by decide +kernel) PFC.h ?_
   refine LtK.put rfl rfl rfl (Zd Yj rfl) ?_
   refine LtK.put rfl rfl rfl (Zh Zw rfl (Zgx _) hS hs0 trivial Y8) ?_
   refine LtK.put rfl rfl rfl (Y9 rfl rfl) ?_
   refine LtK.put rfl rfl rfl (Zu rfl) ?_
   refine LtK.nil ?_
   refine Xx 50 rfl (fun hb => ?_) (fun hb => ?_)
   ·replace H := Zp H hb
    refine Zn [false, false, false, false, true] (by decide +kernel) PFC.h ?_
    refine LtK.skip rfl rfl rfl ?_
    refine LtK.nil ?_
    refine Z6 [false, false, false, false, false, true] 5 ⟨by decide, by kernel_rfl, by kernel_rfl⟩ rfl rfl ?_
    try dsimp only [Zy]
    refine Vg rfl rfl rfl ?_
    refine Zg ?_
    refine Z8 (Below.refl _ _) ?_
    refine Zn [false, false, false, false, false, false, true, true, true] (by decide +kernel) PFC.h ?_
    refine LtK.skip rfl rfl rfl ?_
    refine LtK.put rfl rfl rfl (Ya rfl rfl rfl) ?_
    refine LtK.put rfl rfl rfl (Zx rfl) ?_
    refine LtK.nil ?_
    refine Z4 (by kernel_rfl) ?_
    refine Zb hK28 ?_
    refine Zk ?_
    refine Zl rfl (RV.tmp rfl RV.nil) rfl ?_
    obtain rfl := QJ H
    replace hS := hS.cut 0
    exact ⟨rfl, hS⟩
   replace H := Zo H hb
   refine Zn [false, false, false, false, true] (by decide +kernel) PFC.h ?_
   refine LtK.put rfl rfl rfl (Zj Y3 rfl (Zgx _) hS hs0 trivial Je) ?_
   refine LtK.nil ?_
   refine Z6 [false, false, false, false, false, true] 5 ⟨by decide, by kernel_rfl, by kernel_rfl⟩ rfl rfl ?_
   try dsimp only [Zy]
   obtain ⟨r29, hm30, H⟩ := bind_some H
   refine Zq rfl rfl rfl rfl (by kernel_rfl) rfl (Zcz _ hm30) ?_
   rintro e w ⟨rfl, hN⟩; refine ⟨_, rfl, ?_⟩; obtain ⟨hB, hS⟩ := hS.jn hN
   refine Zg ?_
   refine Z8 hB ?_
   refine Zn [false, false, false, false, false, false, true, true, true] (by decide +kernel) PFC.h ?_
   refine LtK.put rfl rfl rfl (J6 (by kernel_rfl) rfl rfl (Zap _ _ _ _ _ _ _ _ _ _)) ?_
   refine LtK.put rfl rfl rfl (Yc rfl rfl rfl) ?_
   refine LtK.put rfl rfl rfl (Zx rfl) ?_
   refine LtK.nil ?_
   refine Z4 (by kernel_rfl) ?_
   refine Zb hK28 ?_
   refine Zk ?_
   refine Zl rfl (RV.tmp rfl RV.nil) rfl ?_
   obtain rfl := QJ H
   replace hS := hS.cut 0
   exact ⟨rfl, hS⟩
  replace H := Zp H hb
  refine Za rfl rfl rfl (Zd Zem rfl) ?_
  refine Za rfl rfl rfl (Zh Zw rfl (Zgw _) hS hs0 trivial Zan) ?_
  refine Za rfl rfl rfl (Xh rfl rfl) ?_
  refine Zc 2 rfl ?_
  refine Zg ?_
  refine Zb hK5 ?_
  refine Zz rfl (fun hb => ?_) (fun hb => ?_)
  ·replace H := Zp H hb
   refine Ze (fun K hK24 => ?_)
   refine Zf ?_
   refine Zc 1 rfl ?_
   refine Zg ?_
   refine Zb hK24 ?_
   refine Zk ?_
   refine Zi ?_
   refine Zl rfl (RV.tmp rfl RV.nil) rfl ?_
   obtain rfl := QJ H
   replace hS := hS.cut 0
   exact ⟨rfl, hS⟩
  replace H := Zo H hb
  refine Zr ?_
  refine Zb hK4 ?_
  refine Ze (fun K hK25 => ?_)
  refine Yi 9 [] (fun _ _ => True) ⟨by kernel_rfl, by kernel_rfl⟩ hS (fun w hS hB => ?_)
  refine Zn [true, true, true, true] (by decide +kernel) PFC.h ?_
  refine LtK.put rfl rfl rfl (Zd Yj rfl) ?_
  refine LtK.put rfl rfl rfl (Zh Zw rfl (Zgx _) hS hs0 trivial Y8) ?_
  refine LtK.put rfl rfl rfl (Y9 rfl rfl) ?_
  refine LtK.put rfl rfl rfl (Zu rfl) ?_
  refine LtK.nil ?_
  refine Xx 50 rfl (fun hb => ?_) (fun hb => ?_)
  ·replace H := Zp H hb
   refine Zn [false, false, false, false, true] (by decide +kernel) PFC.h ?_
   refine LtK.skip rfl rfl rfl ?_
   refine LtK.nil ?_
   refine Z6 [false, false, false, false, false, true] 5 ⟨by decide, by kernel_rfl, by kernel_rfl⟩ rfl rfl ?_
   try dsimp only [Zy]
   refine Vg rfl rfl rfl ?_
   refine Zg ?_
   refine Z8 (Below.refl _ _) ?_
   refine Zn [false, false, false, false, false, false, true, true, true] (by decide +kernel) PFC.h ?_
   refine LtK.skip rfl rfl rfl ?_
   refine LtK.put rfl rfl rfl (Ya rfl rfl rfl) ?_
   refine LtK.put rfl rfl rfl (Zx rfl) ?_
   refine LtK.nil ?_
   refine Z4 (by kernel_rfl) ?_
   refine Zb hK25 ?_
   refine Zk ?_
   refine Zl rfl (RV.tmp rfl RV.nil) rfl ?_
   obtain rfl := QJ H
   replace hS := hS.cut 0
   exact ⟨rfl, hS⟩
  replace H := Zo H hb
  refine Zn [false, false, false, false, true] (by decide +kernel) PFC.h ?_
  refine LtK.put rfl rfl rfl (Zj Y3 rfl (Zgx _) hS hs0 trivial Je) ?_
  refine LtK.nil ?_
  refine Z6 [false, false, false, false, false, true] 5 ⟨by decide, by kernel_rfl, by kernel_rfl⟩ rfl rfl ?_
  try dsimp only [Zy]
  obtain ⟨r26, hm27, H⟩ := bind_some H
  refine Zq rfl rfl rfl rfl (by kernel_rfl) rfl (Zcz _ hm27) ?_
  rintro e w ⟨rfl, hN⟩; refine ⟨_, rfl, ?_⟩; obtain ⟨hB, hS⟩ := hS.jn hN
  refine Zg ?_
  refine Z8 hB ?_
  refine Zn [false, false, false, false, false, false, true, true, true] (by decide +kernel) PFC.h ?_
  refine LtK.put rfl rfl rfl (J6 (by kernel_rfl) rfl rfl (Zap _ _ _ _ _ _ _ _ _ _)) ?_
  refine LtK.put rfl rfl rfl (Yc rfl rfl rfl) ?_
  refine LtK.put rfl rfl rfl (Zx rfl) ?_
  refine LtK.nil ?_
  refine Z4 (by kernel_rfl) ?_
  refine Zb hK25 ?_
  refine Zk ?_
  refine Zl rfl (RV.tmp rfl RV.nil) rfl ?_
  obtain rfl := QJ H
  replace hS := hS.cut 0
  exact ⟨rfl, hS⟩
 replace H := Zp H hb
 refine Za rfl rfl rfl (Zd Zem rfl) ?_
 refine Za rfl rfl rfl (Zh Zw rfl (Zgw _) hS hs0 trivial Zan) ?_
 refine Za rfl rfl rfl (Xh rfl rfl) ?_
 refine Zc 3 rfl ?_
 refine Zs 38 rfl (fun hb => ?_) (fun hb => ?_)
 ·replace H := Zp H hb
  refine Zc 8 rfl ?_
  refine Zg ?_
  refine Zb hK5 ?_
  refine Zt rfl rfl ?_
  refine Ze (fun K hK16 => ?_)
  refine Zf ?_
  refine Zc 1 rfl ?_
  refine Zg ?_
  refine Zb hK16 ?_
  refine Zk ?_
  refine Zi ?_
  refine Zl rfl (RV.tmp rfl RV.nil) rfl ?_
  obtain rfl := QJ H
  replace hS := hS.cut 0
  exact ⟨rfl, hS⟩
 replace H := Zo H hb
 refine Za rfl rfl rfl (Zd fo_23_4 rfl) ?_
 refine Za rfl rfl rfl (Zh sc_4 rfl (Zgw _) hS hs0 trivial Zew) ?_
 refine Zc 1 rfl ?_
 refine Zs 41 rfl (fun hb => ?_) (fun hb => ?_)
 rotate_left
 ·replace H := Zo H hb
  refine Zc 5 rfl ?_
  refine Zg ?_
  refine Zb hK5 ?_
  refine Yp rfl rfl ?_
  refine Zr ?_
  refine Zb hK4 ?_
  refine Ze (fun K hK21 => ?_)
  refine Yi 9 [] (fun _ _ => True) ⟨by kernel_rfl, by kernel_rfl⟩ hS (fun w hS hB => ?_)
  refine Zn [true, true, true, true] (by decide +kernel) PFC.h ?_
  refine LtK.put rfl rfl rfl (Zd Yj rfl) ?_
  refine LtK.put rfl rfl rfl (Zh Zw rfl (Zgx _) hS hs0 trivial Y8) ?_
  refine LtK.put rfl rfl rfl (Y9 rfl rfl) ?_
  refine LtK.put rfl rfl rfl (Zu rfl) ?_
  refine LtK.nil ?_
  refine Xx 50 rfl (fun hb => ?_) (fun hb => ?_)
  ·replace H := Zp H hb
   refine Zn [false, false, false, false, true] (by decide +kernel) PFC.h ?_
   refine LtK.skip rfl rfl rfl ?_
   refine LtK.nil ?_
   refine Z6 [false, false, false, false, false, true] 5 ⟨by decide, by kernel_rfl, by kernel_rfl⟩ rfl rfl ?_
   try dsimp only [Zy]
   refine Vg rfl rfl rfl ?_
   refine Zg ?_
   refine Z8 (Below.refl _ _) ?_
   refine Zn [false, false, false, false, false, false, true, true, true] (by decide +kernel) PFC.h ?_
   refine LtK.skip rfl rfl rfl ?_
   refine LtK.put rfl rfl rfl (Ya rfl rfl rfl) ?_
   refine LtK.put rfl rfl rfl (Zx rfl) ?_
   refine LtK.nil ?_
   refine Z4 (by kernel_rfl) ?_
   refine Zb hK21 ?_
   refine Zk ?_
   refine Zl rfl (RV.tmp rfl RV.nil) rfl ?_
   obtain rfl := QJ H
   replace hS := hS.cut 0
   exact ⟨rfl, hS⟩
  replace H := Zo H hb
  refine Zn [false, false, false, false, true] (by decide +kernel) PFC.h ?_
  refine LtK.put rfl rfl rfl (Zj Y3 rfl (Zgx _) hS hs0 trivial Je) ?_
  refine LtK.nil ?_
  refine Z6 [false, false, false, false, false, true] 5 ⟨by decide, by kernel_rfl, by kernel_rfl⟩ rfl rfl ?_
  try dsimp only [Zy]
  obtain ⟨r22, hm23, H⟩ := bind_some H
  refine Zq rfl rfl rfl rfl (by kernel_rfl) rfl (Zcz _ hm23) ?_
  rintro e w ⟨rfl, hN⟩; refine ⟨_, rfl, ?_⟩; obtain ⟨hB, hS⟩ := hS.jn hN
  refine Zg ?_
  refine Z8 hB ?_
  refine Zn [false, false, false, false, false, false, true, true, true] (by decide +kernel) PFC.h ?_
  refine LtK.put rfl rfl rfl (J6 (by kernel_rfl) rfl rfl (Zap _ _ _ _ _ _ _ _ _ _)) ?_
  refine LtK.put rfl rfl rfl (Yc rfl rfl rfl) ?_
  refine LtK.put rfl rfl rfl (Zx rfl) ?_
  refine LtK.nil ?_
  refine Z4 (by kernel_rfl) ?_
  refine Zb hK21 ?_
  refine Zk ?_
  refine Zl rfl (RV.tmp rfl RV.nil) rfl ?_
  obtain rfl := QJ H
  replace hS := hS.cut 0
  exact ⟨rfl, hS⟩
 replace H := Zp H hb
 refine Za rfl rfl rfl (Zd Zem rfl) ?_
 refine Za rfl rfl rfl (Zh Zw rfl (Zgw _) hS hs0 trivial Zan) ?_
 refine Za rfl rfl rfl (Xh rfl rfl) ?_
 refine Zc 2 rfl ?_
 refine Zg ?_
 refine Zb hK5 ?_
 refine Zz rfl (fun hb => ?_) (fun hb => ?_)
 ·replace H := Zp H hb
  refine Ze (fun K hK17 => ?_)
  refine Zf ?_
  refine Zc 1 rfl ?_
  refine Zg ?_
  refine Zb hK17 ?_
  refine Zk ?_
  refine Zi ?_
  refine Zl rfl (RV.tmp rfl RV.nil) rfl ?_
  obtain rfl := QJ H
  replace hS := hS.cut 0
  exact ⟨rfl, hS⟩
 replace H := Zo H hb
 refine Zr ?_
 refine Zb hK4 ?_
 refine Ze (fun K hK18 => ?_)
 refine Yi 9 [] (fun _ _ => True) ⟨by kernel_rfl, by kernel_rfl⟩ hS (fun w hS hB => ?_)
 refine Zn [true, true, true, true] (by decide +kernel) PFC.h ?_
 refine LtK.put rfl rfl rfl (Zd Yj rfl) ?_
 refine LtK.put rfl rfl rfl (Zh Zw rfl (Zgx _) hS hs0 trivial Y8) ?_
 refine LtK.put rfl rfl rfl (Y9 rfl rfl) ?_
 refine LtK.put rfl rfl rfl (Zu rfl) ?_
 refine LtK.nil ?_
 refine Xx 50 rfl (fun hb => ?_) (fun hb => ?_)
 ·replace H := Zp H hb
  refine Zn [false, false, false, false, true] (by decide +kernel) PFC.h ?_
  refine LtK.skip rfl rfl rfl ?_
  refine LtK.nil ?_
  refine Z6 [false, false, false, false, false, true] 5 ⟨by decide, by kernel_rfl, by kernel_rfl⟩ rfl rfl ?_
  try dsimp only [Zy]
  refine Vg rfl rfl rfl ?_
  refine Zg ?_
  refine Z8 (Below.refl _ _) ?_
  refine Zn [false, false, false, false, false, false, true, true, true] (by decide +kernel) PFC.h ?_
  refine LtK.skip rfl rfl rfl ?_
  refine LtK.put rfl rfl rfl (Ya rfl rfl rfl) ?_
  refine LtK.put rfl rfl rfl (Zx rfl) ?_
  refine LtK.nil ?_
  refine Z4 (by kernel_rfl) ?_
  refine Zb hK18 ?_
  refine Zk ?_
  refine Zl rfl (RV.tmp rfl RV.nil) rfl ?_
  obtain rfl := QJ H
  replace hS := hS.cut 0
  exact ⟨rfl, hS⟩
 replace H := Zo H hb
 refine Zn [false, false, false, false, true] (by decide +kernel) PFC.h ?_
 refine LtK.put rfl rfl rfl (Zj Y3 rfl (Zgx _) hS hs0 trivial Je) ?_
 refine LtK.nil ?_
 refine Z6 [false, false, false, false, false, true] 5 ⟨by decide, by kernel_rfl, by kernel_rfl⟩ rfl rfl ?_
 try dsimp only [Zy]
 obtain ⟨r19, hm20, H⟩ := bind_some H
 refine Zq rfl rfl rfl rfl (by kernel_rfl) rfl (Zcz _ hm20) ?_
 rintro e w ⟨rfl, hN⟩; refine ⟨_, rfl, ?_⟩; obtain ⟨hB, hS⟩ := hS.jn hN
 refine Zg ?_
 refine Z8 hB ?_
 refine Zn [false, false, false, false, false, false, true, true, true] (by decide +kernel) PFC.h ?_
 refine LtK.put rfl rfl rfl (J6 (by kernel_rfl) rfl rfl (Zap _ _ _ _ _ _ _ _ _ _)) ?_
 refine LtK.put rfl rfl rfl (Yc rfl rfl rfl) ?_
 refine LtK.put rfl rfl rfl (Zx rfl) ?_
 refine LtK.nil ?_
 refine Z4 (by kernel_rfl) ?_
 refine Zb hK18 ?_
 refine Zk ?_
 refine Zl rfl (RV.tmp rfl RV.nil) rfl ?_
 obtain rfl := QJ H
 replace hS := hS.cut 0
 exact ⟨rfl, hS⟩
theorem Zgi (x0 : En) (w0 : World) {r : Bool} (H : Za4 x0 = some r) : Calls Tryz.prog 123 #[.agg #[.int .i64 x0.term, .int .i64 x0.kind, .int .i64 x0.value]] w0 fun e w' => e = .returned (.bool r) ∧ St0 All w0 w' [] := by
 unfold Za4 at H
 refine Yo Tryz.func123 rfl Tryz.ntmps123 rfl ?_
 have hS := St0.start All w0
 refine Ze (fun K hK1 => ?_)
 refine Zf ?_
 refine Yd rfl rfl rfl CellsOf.agg hS (fun b2 w hS hB => ?_)
 refine Zc 1 rfl ?_
 refine Zg ?_
 refine Zb hK1 ?_
 refine Ze (fun K hK4 => ?_)
 refine Zf ?_
 refine Za rfl rfl rfl (Zd Zba rfl) ?_
 refine Za rfl rfl rfl (Zh Zw rfl (Zgw _) hS hs0 trivial Y8) ?_
 refine Za rfl rfl rfl (Zcu rfl rfl) ?_
 refine Zc 1 rfl ?_
 refine Zs 6 rfl (fun hb => ?_) (fun hb => ?_)
 rotate_left
 ·replace H := Zo H hb
  refine Zc 30 rfl ?_
  refine Zg ?_
  refine Zb hK4 ?_
  refine Zk ?_
  refine Zl rfl (RV.tmp rfl RV.nil) rfl ?_
  obtain rfl := QJ H
  replace hS := hS.cut 0
  exact ⟨rfl, hS⟩
 replace H := Zp H hb
 refine Za rfl rfl rfl (Zd Zba rfl) ?_
 refine Za rfl rfl rfl (Zh Zw rfl (Zgw _) hS hs0 trivial Y8) ?_
 obtain ⟨r5, hm6, H⟩ := bind_some H
 refine Zq rfl rfl rfl rfl (by kernel_rfl) rfl (Zcd x0.term _ hm6) ?_
 rintro e w ⟨rfl, hN⟩; refine ⟨_, rfl, ?_⟩; obtain ⟨hB, hS⟩ := hS.jn hN
 refine Zc 2 rfl ?_
 refine Zs 11 rfl (fun hb => ?_) (fun hb => ?_)
 rotate_left
 ·replace H := Zo H hb
  refine Zc 25 rfl ?_
  refine Zg ?_
  refine Zb hK4 ?_
  refine Zk ?_
  refine Zl rfl (RV.tmp rfl RV.nil) rfl ?_
  obtain rfl := QJ H
  replace hS := hS.cut 0
  exact ⟨rfl, hS⟩
 replace H := Zp H hb
 refine Za rfl rfl rfl (Zd fo_53_1 rfl) ?_
 refine Za rfl rfl rfl (Zh Zw rfl (Zgw _) hS hs0 trivial Vp) ?_
 refine Za rfl rfl rfl (Zcu rfl rfl) ?_
 refine Zc 2 rfl ?_
 refine Zs 16 rfl (fun hb => ?_) (fun hb => ?_)
 rotate_left
 ·replace H := Zo H hb
  refine Zc 20 rfl ?_
  refine Zg ?_
  refine Zb hK4 ?_
  refine Zk ?_
  refine Zl rfl (RV.tmp rfl RV.nil) rfl ?_
  obtain rfl := QJ H
  replace hS := hS.cut 0
  exact ⟨rfl, hS⟩
 replace H := Zp H hb
 refine Za rfl rfl rfl (Zd fo_53_1 rfl) ?_
 refine Za rfl rfl rfl (Zh Zw rfl (Zgw _) hS hs0 trivial Vp) ?_
 refine Za rfl rfl rfl (Xe rfl rfl) ?_
 refine Zc 2 rfl ?_
 refine Zs 21 rfl (fun hb => ?_) (fun hb => ?_)
 rotate_left
 ·replace H := Zo H hb
  refine Zc 15 rfl ?_
  refine Zg ?_
  refine Zb hK4 ?_
  refine Zk ?_
  refine Zl rfl (RV.tmp rfl RV.nil) rfl ?_
  obtain rfl := QJ H
  replace hS := hS.cut 0
  exact ⟨rfl, hS⟩
 replace H := Zp H hb
 refine Za rfl rfl rfl (Zd fo_53_2 rfl) ?_
 refine Za rfl rfl rfl (Zh Zw rfl (Zgw _) hS hs0 trivial Zav) ?_
 obtain ⟨r7, hm8, H⟩ := bind_some H
 refine Zq rfl rfl rfl rfl (by kernel_rfl) rfl (Zcd x0.value _ hm8) ?_
 rintro e w ⟨rfl, hN⟩; refine ⟨_, rfl, ?_⟩; obtain ⟨hB, hS⟩ := hS.jn hN
 refine Zc 2 rfl ?_
 refine Zs 26 rfl (fun hb => ?_) (fun hb => ?_)
 rotate_left
 ·replace H := Zo H hb
  refine Zc 10 rfl ?_
  refine Zg ?_
  refine Zb hK4 ?_
  refine Zk ?_
  refine Zl rfl (RV.tmp rfl RV.nil) rfl ?_
  obtain rfl := QJ H
  replace hS := hS.cut 0
  exact ⟨rfl, hS⟩
 replace H := Zp H hb
 refine Za rfl rfl rfl (Zd fo_53_1 rfl) ?_
 refine Za rfl rfl rfl (Zh Zw rfl (Zgw _) hS hs0 trivial Vp) ?_
 refine Za rfl rfl rfl (Y5 rfl rfl) ?_
 refine Zc 1 rfl ?_
 refine Zs 30 rfl (fun hb => ?_) (fun hb => ?_)
 ·replace H := Zp H hb
  refine Zc 6 rfl ?_
  refine Zg ?_
  refine Zb hK4 ?_
  refine Zk ?_
  refine Zl rfl (RV.tmp rfl RV.nil) rfl ?_
  obtain rfl := QJ H
  replace hS := hS.cut 0
  exact ⟨rfl, hS⟩
 replace H := Zo H hb
 refine Za rfl rfl rfl (Zd fo_53_2 rfl) ?_
 refine Za rfl rfl rfl (Zh Zw rfl (Zgw _) hS hs0 trivial Zav) ?_
 refine Za rfl rfl rfl (Y5 rfl rfl) ?_
 refine Zc 3 rfl ?_
 refine Zg ?_
 refine Zb hK4 ?_
 refine Zk ?_
 refine Zl rfl (RV.tmp rfl RV.nil) rfl ?_
 obtain rfl := QJ H
 replace hS := hS.cut 0
 exact ⟨rfl, hS⟩
theorem c_ref12_Right (x0 : Tu) (A0_ : OA) (c0_ : Nat) (w0 : World) (s0_ : SlI w0 Jj A0_ c0_ x0.log) {r : Bool} (H : Zc5 x0 = some r) : Calls Tryz.prog 83 #[.agg #[.int .i64 x0.snap.index, .int .i64 x0.snap.term, .int .i64 x0.snap.sum, .int .i64 x0.snap.level, .bool x0.snap.final, .slice A0_ x0.log.length c0_, .int .i64 x0.term, .int .i64 x0.vote]] w0 fun e w' => e = .returned (.bool r) ∧ St0 All w0 w' [] := by
 unfold Zc5 at H
 refine Yo Tryz.func83 rfl Tryz.ntmps83 rfl ?_
 have hS := St0.start All w0
 refine Ze (fun K hK1 => ?_)
 refine Zf ?_
 refine Yd rfl rfl rfl CellsOf.agg hS (fun b2 w hS hB => ?_)
 refine Zc 1 rfl ?_
 refine Zg ?_
 refine Zb hK1 ?_
 refine Ze (fun K hK4 => ?_)
 refine Ze (fun K hK5 => ?_)
 refine Zf ?_
 refine Za rfl rfl rfl (Zd Xj rfl) ?_
 refine Za rfl rfl rfl (Zj Y3 rfl (Zgw _) hS hs0 trivial Je) ?_
 obtain ⟨r6, hm7, H⟩ := bind_some H
 refine Zq rfl rfl rfl rfl (by kernel_rfl) rfl (Zax x0.snap _ hm7) ?_
 rintro e w ⟨rfl, hN⟩; refine ⟨_, rfl, ?_⟩; obtain ⟨hB, hS⟩ := hS.jn hN
 refine Za rfl rfl rfl (Yy rfl) ?_
 refine Zc 1 rfl ?_
 refine Zs 9 rfl (fun hb => ?_) (fun hb => ?_)
 ·replace H := Zp H hb
  refine Zc 21 rfl ?_
  refine Zg ?_
  refine Zb hK5 ?_
  refine Zt rfl rfl ?_
  refine Ze (fun K hK8 => ?_)
  refine Zf ?_
  refine Zc 1 rfl ?_
  refine Zg ?_
  refine Zb hK8 ?_
  refine Zk ?_
  refine Zi ?_
  refine Zl rfl (RV.tmp rfl RV.nil) rfl ?_
  obtain rfl := QJ H
  replace hS := hS.cut 0
  exact ⟨rfl, hS⟩
 replace H := Zo H hb
 refine Za rfl rfl rfl (Zd Xj rfl) ?_
 refine Za rfl rfl rfl (Zd Yj rfl) ?_
 refine Za rfl rfl rfl (Zh Zw rfl (Zgw _) hS hs0 trivial Y8) ?_
 refine Za rfl rfl rfl (Y9 rfl rfl) ?_
 refine Zc 2 rfl ?_
 refine Zs 15 rfl (fun hb => ?_) (fun hb => ?_)
 ·replace H := Zp H hb
  refine Zc 15 rfl ?_
  refine Zg ?_
  refine Zb hK5 ?_
  refine Zt rfl rfl ?_
  refine Ze (fun K hK9 => ?_)
  refine Zf ?_
  refine Zc 1 rfl ?_
  refine Zg ?_
  refine Zb hK9 ?_
  refine Zk ?_
  refine Zi ?_
  refine Zl rfl (RV.tmp rfl RV.nil) rfl ?_
  obtain rfl := QJ H
  replace hS := hS.cut 0
  exact ⟨rfl, hS⟩
 replace H := Zo H hb
 refine Za rfl rfl rfl (Zd X0 rfl) ?_
 refine Za rfl rfl rfl (Zh Xq rfl (Zgw _) hS hs0 trivial V7) ?_
 refine Za rfl rfl rfl (Yw Y4 rfl) ?_
 refine Za rfl rfl rfl (Y9 rfl rfl) ?_
 refine Zc 2 rfl ?_
 refine Zs 21 rfl (fun hb => ?_) (fun hb => ?_)
 ·replace H := Zp H hb
  refine Zc 9 rfl ?_
  refine Zg ?_
  refine Zb hK5 ?_
  refine Zt rfl rfl ?_
  refine Ze (fun K hK10 => ?_)
  refine Zf ?_
  refine Zc 1 rfl ?_
  refine Zg ?_
  refine Zb hK10 ?_
  refine Zk ?_
  refine Zi ?_
  refine Zl rfl (RV.tmp rfl RV.nil) rfl ?_
  obtain rfl := QJ H
  replace hS := hS.cut 0
  exact ⟨rfl, hS⟩
 replace H := Zo H hb
 refine Za rfl rfl rfl (Zd Zar rfl) ?_
 refine Za rfl rfl rfl (Zh Zw rfl (Zgw _) hS hs0 trivial Zey) ?_
 refine Za rfl rfl rfl (Xe rfl rfl) ?_
 refine Zc 2 rfl ?_
 refine Zs 26 rfl (fun hb => ?_) (fun hb => ?_)
 ·replace H := Zp H hb
  refine Zc 4 rfl ?_
  refine Zg ?_
  refine Zb hK5 ?_
  refine Zt rfl rfl ?_
  refine Ze (fun K hK11 => ?_)
  refine Zf ?_
  refine Zc 1 rfl ?_
  refine Zg ?_
  refine Zb hK11 ?_
  refine Zk ?_
  refine Zi ?_
  refine Zl rfl (RV.tmp rfl RV.nil) rfl ?_
  obtain rfl := QJ H
  replace hS := hS.cut 0
  exact ⟨rfl, hS⟩
 replace H := Zo H hb
 refine Za rfl rfl rfl (Zd Zar rfl) ?_
 refine Za rfl rfl rfl (Zh Zw rfl (Zgw _) hS hs0 trivial Zey) ?_
 refine Za rfl rfl rfl (Y9 rfl rfl) ?_
 refine Zc 1 rfl ?_
 refine Zg ?_
 refine Zb hK5 ?_
 refine Zz rfl (fun hb => ?_) (fun hb => ?_)
 ·replace H := Zp H hb
  refine Ze (fun K hK12 => ?_)
  refine Zf ?_
  refine Zc 1 rfl ?_
  refine Zg ?_
  refine Zb hK12 ?_
  refine Zk ?_
  refine Zi ?_
  refine Zl rfl (RV.tmp rfl RV.nil) rfl ?_
  obtain rfl := QJ H
  replace hS := hS.cut 0
  exact ⟨rfl, hS⟩
 replace H := Zo H hb
 refine Zr ?_
 refine Zb hK4 ?_
 refine Ze (fun K hK13 => ?_)
 refine Zf ?_
 refine Za rfl rfl rfl (Zd Xj rfl) ?_
 refine Za rfl rfl rfl (Zd Zc7 rfl) ?_
 refine Za rfl rfl rfl (Zh Zw rfl (Zgw _) hS hs0 trivial Vp) ?_
 refine Zc 1 rfl ?_
 refine Zg ?_
 refine Zb hK13 ?_
 refine Ze (fun K hK14 => ?_)
 refine Ze (fun K hK15 => ?_)
 refine Zf ?_
 refine Zc 1 rfl ?_
 refine Zg ?_
 refine Zb hK15 ?_
 refine Yf ?_
 refine Vz (X := Nat × Bool × Int × Int) (fun x => (1, .pointer (some ⟨b2, 0, none⟩)) :: (2, .bool x.2.1) :: (3, .int .i64 x.2.2.1) :: (4, .int .i64 x.2.2.2) :: []) (fun x w => St0 All w0 w (.box b2 [.int .i64 x0.snap.index, .int .i64 x0.snap.term, .int .i64 x0.snap.sum, .int .i64 x0.snap.level, .bool x0.snap.final, .slice A0_ x0.log.length c0_, .int .i64 x0.term, .int .i64 x0.vote] 26 :: []) ∧ Js x0 x.1 x.2.1 x.2.2.1 x.2.2.2 = some r) (fun x => x.1) (Xo, false, x0.snap.term, 0) (by repeat (first | exact Sub.nil | refine Sub.cons rfl ?_)) ⟨hS, H⟩ ?_
 rintro ⟨n, v16, v17, v18⟩ w ⟨hS, H⟩
 dsimp only at hS H ⊢
 obtain _ | n := n
 ·have H0 : none = some r := H
  cases H0
 rw [Js] at H
 refine Ze (fun K hK19 => ?_)
 refine Ze (fun K hK20 => ?_)
 refine Zf ?_
 refine Zc 1 rfl ?_
 refine Za rfl rfl rfl (Zd X0 rfl) ?_
 refine Za rfl rfl rfl (Zh Xq rfl (Zgw _) hS hs0 trivial V7) ?_
 refine Za rfl rfl rfl (Yw Y4 rfl) ?_
 refine Za rfl rfl rfl (Xe rfl rfl) ?_
 refine Zg ?_
 refine Zb hK20 ?_
 refine Zz rfl (fun hb => ?_) (fun hb => ?_)
 rotate_left
 ·replace H := Zo H hb
  refine Vl ?_
  refine Yb ?_
  refine Yb ?_
  refine Y6 ?_
  refine Zb hK14 ?_
  refine Ze (fun K hK37 => ?_)
  refine Zf ?_
  refine Za rfl rfl rfl (Zd Vr rfl) ?_
  refine Za rfl rfl rfl (Zh Zw rfl (Zgw _) hS hs0 trivial sg6_1) ?_
  refine Zc 1 rfl ?_
  refine Za rfl rfl rfl (Zcu rfl rfl) ?_
  refine Zc 1 rfl ?_
  refine Zs 68 rfl (fun hb => ?_) (fun hb => ?_)
  rotate_left
  ·replace H := Zo H hb
   refine Zc 10 rfl ?_
   refine Zg ?_
   refine Zb hK37 ?_
   refine Zk ?_
   refine Zl rfl (RV.tmp rfl RV.nil) rfl ?_
   obtain rfl := QJ H
   replace hS := hS.cut 0
   exact ⟨rfl, hS⟩
  replace H := Zp H hb
  refine Za rfl rfl rfl (Zd Vr rfl) ?_
  refine Za rfl rfl rfl (Zh Zw rfl (Zgw _) hS hs0 trivial sg6_1) ?_
  refine Za rfl rfl rfl (Zcu rfl rfl) ?_
  refine Zc 2 rfl ?_
  refine Zs 73 rfl (fun hb => ?_) (fun hb => ?_)
  rotate_left
  ·replace H := Zo H hb
   refine Zc 5 rfl ?_
   refine Zg ?_
   refine Zb hK37 ?_
   refine Zk ?_
   refine Zl rfl (RV.tmp rfl RV.nil) rfl ?_
   obtain rfl := QJ H
   replace hS := hS.cut 0
   exact ⟨rfl, hS⟩
  replace H := Zp H hb
  refine Za rfl rfl rfl (Zd Vr rfl) ?_
  refine Za rfl rfl rfl (Zh Zw rfl (Zgw _) hS hs0 trivial sg6_1) ?_
  refine Za rfl rfl rfl (Zbn rfl rfl) ?_
  refine Zc 2 rfl ?_
  refine Zg ?_
  refine Zb hK37 ?_
  refine Zk ?_
  refine Zl rfl (RV.tmp rfl RV.nil) rfl ?_
  obtain rfl := QJ H
  replace hS := hS.cut 0
  exact ⟨rfl, hS⟩
 replace H := Zp H hb
 refine Zr ?_
 refine Zb hK19 ?_
 refine Ze (fun K hK21 => ?_)
 refine Yf ?_
 refine Ze (fun K hK22 => ?_)
 refine Ze (fun K hK23 => ?_)
 refine Zf ?_
 refine Za rfl rfl rfl (Zd X0 rfl) ?_
 refine Za rfl rfl rfl (Zh Xq rfl (Zgw _) hS hs0 trivial V7) ?_
 refine Zc 1 rfl ?_
 obtain ⟨e24, hi26, H⟩ := bind_some H
 obtain ⟨j25, hi26a, hi26b, hi26c⟩ := Ym hi26
 refine Za rfl rfl rfl (Y1 Y4 rfl rfl hi26a hi26c (Rd.el (hS.rd0 s0_.rd) X6 hi26b)) ?_
 refine Za rfl rfl rfl (Zc8 V8 rfl (Zgw _) (Rd.el (hS.rd0 s0_.rd) X6 hi26b) Zb8) ?_
 obtain ⟨r27, hm28, H⟩ := bind_some H
 refine Zq rfl rfl rfl rfl (by kernel_rfl) rfl (Zgi e24 _ hm28) ?_
 rintro e w ⟨rfl, hN⟩; refine ⟨_, rfl, ?_⟩; obtain ⟨hB, hS⟩ := hS.jn hN
 refine Za rfl rfl rfl (Yy rfl) ?_
 refine Zc 1 rfl ?_
 refine Zs 48 rfl (fun hb => ?_) (fun hb => ?_)
 ·replace H := Zp H hb
  refine Zc 9 rfl ?_
  refine Zg ?_
  refine Zb hK23 ?_
  refine Zt rfl rfl ?_
  refine Ze (fun K hK29 => ?_)
  refine Zf ?_
  refine Zc 1 rfl ?_
  refine Zg ?_
  refine Zb hK29 ?_
  refine Zk ?_
  refine Zi ?_
  refine Zv ?_
  refine Zi ?_
  refine Zi ?_
  refine Zv ?_
  refine Zi ?_
  refine Zl rfl (RV.tmp rfl RV.nil) rfl ?_
  obtain rfl := QJ H
  replace hS := hS.cut 0
  exact ⟨rfl, hS⟩
 replace H := Zo H hb
 refine Za rfl rfl rfl (Zd X0 rfl) ?_
 refine Za rfl rfl rfl (Zh Xq rfl (Zgw _) hS hs0 trivial V7) ?_
 refine Zc 1 rfl ?_
 obtain ⟨e30, hi32, H⟩ := bind_some H
 obtain ⟨j31, hi32a, hi32b, hi32c⟩ := Ym hi32
 refine Za rfl rfl rfl (Y1 Y4 rfl rfl hi32a hi32c (Rd.el (hS.rd0 s0_.rd) X6 hi32b)) ?_
 refine Za rfl rfl rfl (Vv Zba rfl (Rd.el (hS.rd0 s0_.rd) X6 hi32b)) ?_
 refine Za rfl rfl rfl (Xn Zw rfl (Zgw _) (Rd.el (hS.rd0 s0_.rd) X6 hi32b) rfl) ?_
 refine Zc 1 rfl ?_
 refine Za rfl rfl rfl (Xe rfl rfl) ?_
 refine Zc 1 rfl ?_
 refine Zg ?_
 refine Zb hK23 ?_
 refine Zz rfl (fun hb => ?_) (fun hb => ?_)
 ·replace H := Zp H hb
  refine Ze (fun K hK33 => ?_)
  refine Zf ?_
  refine Zc 1 rfl ?_
  refine Zg ?_
  refine Zb hK33 ?_
  refine Zk ?_
  refine Zi ?_
  refine Zv ?_
  refine Zi ?_
  refine Zi ?_
  refine Zv ?_
  refine Zi ?_
  refine Zl rfl (RV.tmp rfl RV.nil) rfl ?_
  obtain rfl := QJ H
  replace hS := hS.cut 0
  exact ⟨rfl, hS⟩
 replace H := Zo H hb
 refine Zr ?_
 refine Zb hK22 ?_
 refine Zf ?_
 refine Za rfl rfl rfl (Zd X0 rfl) ?_
 refine Za rfl rfl rfl (Zh Xq rfl (Zgw _) hS hs0 trivial V7) ?_
 refine Zc 1 rfl ?_
 obtain ⟨e34, hi36, H⟩ := bind_some H
 obtain ⟨j35, hi36a, hi36b, hi36c⟩ := Ym hi36
 refine Za rfl rfl rfl (Y1 Y4 rfl rfl hi36a hi36c (Rd.el (hS.rd0 s0_.rd) X6 hi36b)) ?_
 refine Za rfl rfl rfl (Vv Zba rfl (Rd.el (hS.rd0 s0_.rd) X6 hi36b)) ?_
 refine Za rfl rfl rfl (Xn Zw rfl (Zgw _) (Rd.el (hS.rd0 s0_.rd) X6 hi36b) rfl) ?_
 refine Zc 1 rfl ?_
 refine Zg ?_
 refine Z1 ?_
 refine Zb hK21 ?_
 refine Zf ?_
 refine Zc 1 rfl ?_
 refine Za rfl rfl rfl (Xc rfl rfl) ?_
 refine Zc 1 rfl ?_
 refine Zg ?_
 exact X3 (n, v16, e34.term, (IntKind.wrap .i64 (v18 + 1))) (by repeat (first | exact Sub.nil | refine Sub.cons rfl ?_)) ⟨hS, H⟩ (Nat.lt_succ_self _)
theorem c_ref06_Next (x0 : St) (x1 : En) (w0 : World) {r : St} (H : Zco x0 x1 = some r) : Calls Tryz.prog 139 #[.agg #[.int .i64 x0.index, .int .i64 x0.term, .int .i64 x0.sum, .int .i64 x0.level, .bool x0.final], .agg #[.int .i64 x1.term, .int .i64 x1.kind, .int .i64 x1.value]] w0 fun e w' => e = .returned (.agg #[.int .i64 r.index, .int .i64 r.term, .int .i64 r.sum, .int .i64 r.level, .bool r.final]) ∧ St0 All w0 w' [] := by
 unfold Zco at H
 refine Yt Tryz.func139 rfl Tryz.ntmps139 rfl ?_
 have hS := St0.start All w0
 refine Ze (fun K hK1 => ?_)
 refine Zf ?_
 refine Yd rfl rfl rfl CellsOf.agg hS (fun b2 w hS hB => ?_)
 refine Yd rfl rfl rfl CellsOf.agg hS (fun b4 w hS hB => ?_)
 refine Yh rfl rfl zc_23 hS (fun b6 w hS hB => ?_)
 refine Zg ?_
 refine Zb hK1 ?_
 refine Ze (fun K hK8 => ?_)
 refine Ze (fun K hK9 => ?_)
 refine Zf ?_
 refine Za rfl rfl rfl (Zj V8 rfl (Zgw _) hS Xw trivial Zb8) ?_
 obtain ⟨r10, hm11, H⟩ := bind_some H
 refine Zq rfl rfl rfl rfl (by kernel_rfl) rfl (Zgi x1 _ hm11) ?_
 rintro e w ⟨rfl, hN⟩; refine ⟨_, rfl, ?_⟩; obtain ⟨hB, hS⟩ := hS.jn hN
 refine Za rfl rfl rfl (Yy rfl) ?_
 refine Zc 1 rfl ?_
 refine Zs 8 rfl (fun hb => ?_) (fun hb => ?_)
 ·replace H := Zp H hb
  refine Zc 9 rfl ?_
  refine Zg ?_
  refine Zb hK9 ?_
  refine Zt rfl rfl ?_
  refine Ze (fun K hK12 => ?_)
  refine Zf ?_
  refine Za rfl rfl rfl (Zj Y3 rfl (Zgw _) hS Vf trivial Je) ?_
  refine Zm rfl rfl rfl CellsOf.agg hS ps0 Zd4 (by kernel_rfl) rfl (fun w hS hB => ?_)
  refine Zg ?_
  refine Zb hK12 ?_
  refine Zk ?_
  refine Zi ?_
  refine Zl rfl (RV.cell rfl (Z0 Y3 hS hs0 Je) RV.nil) rfl ?_
  obtain rfl := QJ H
  replace hS := hS.cut 0
  exact ⟨rfl, hS⟩
 replace H := Zo H hb
 refine Za rfl rfl rfl (Zj Y3 rfl (Zgw _) hS Vf trivial Je) ?_
 obtain ⟨r13, hm14, H⟩ := bind_some H
 refine Zq rfl rfl rfl rfl (by kernel_rfl) rfl (Zax x0 _ hm14) ?_
 rintro e w ⟨rfl, hN⟩; refine ⟨_, rfl, ?_⟩; obtain ⟨hB, hS⟩ := hS.jn hN
 refine Za rfl rfl rfl (Yy rfl) ?_
 refine Zc 2 rfl ?_
 refine Zs 13 rfl (fun hb => ?_) (fun hb => ?_)
 ·replace H := Zp H hb
  refine Zc 4 rfl ?_
  refine Zg ?_
  refine Zb hK9 ?_
  refine Zt rfl rfl ?_
  refine Ze (fun K hK15 => ?_)
  refine Zf ?_
  refine Za rfl rfl rfl (Zj Y3 rfl (Zgw _) hS Vf trivial Je) ?_
  refine Zm rfl rfl rfl CellsOf.agg hS ps0 Zd4 (by kernel_rfl) rfl (fun w hS hB => ?_)
  refine Zg ?_
  refine Zb hK15 ?_
  refine Zk ?_
  refine Zi ?_
  refine Zl rfl (RV.cell rfl (Z0 Y3 hS hs0 Je) RV.nil) rfl ?_
  obtain rfl := QJ H
  replace hS := hS.cut 0
  exact ⟨rfl, hS⟩
 replace H := Zo H hb
 refine Za rfl rfl rfl (Zd Yj rfl) ?_
 refine Za rfl rfl rfl (Zh Zw rfl (Zgw _) hS Vf trivial Y8) ?_
 refine Za rfl rfl rfl (Zcu rfl rfl) ?_
 refine Zc 1 rfl ?_
 refine Zg ?_
 refine Zb hK9 ?_
 refine Zz rfl (fun hb => ?_) (fun hb => ?_)
 ·replace H := Zp H hb
  refine Ze (fun K hK16 => ?_)
  refine Zf ?_
  refine Za rfl rfl rfl (Zj Y3 rfl (Zgw _) hS Vf trivial Je) ?_
  refine Zm rfl rfl rfl CellsOf.agg hS ps0 Zd4 (by kernel_rfl) rfl (fun w hS hB => ?_)
  refine Zg ?_
  refine Zb hK16 ?_
  refine Zk ?_
  refine Zi ?_
  refine Zl rfl (RV.cell rfl (Z0 Y3 hS hs0 Je) RV.nil) rfl ?_
  obtain rfl := QJ H
  replace hS := hS.cut 0
  exact ⟨rfl, hS⟩
 replace H := Zo H hb
 refine Zr ?_
 refine Zb hK8 ?_
 refine Ze (fun K hK17 => ?_)
 refine Zf ?_
 refine Za rfl rfl rfl (Zd Yj rfl) ?_
 refine Za rfl rfl rfl (Zh Zw rfl (Zgw _) hS Vf trivial Y8) ?_
 refine Za rfl rfl rfl (Xc rfl rfl) ?_
 refine Za rfl rfl rfl (Zd Yj rfl) ?_
 refine Zm rfl rfl rfl CellsOf.int hS ps2 st0_1 (by kernel_rfl) rfl (fun w hS hB => ?_)
 refine Zg ?_
 refine Zb hK17 ?_
 refine Ze (fun K hK18 => ?_)
 refine Zf ?_
 refine Za rfl rfl rfl (Zd Zba rfl) ?_
 refine Za rfl rfl rfl (Zh Zw rfl (Zgw _) hS Xw trivial Y8) ?_
 refine Za rfl rfl rfl (Zd Zc7 rfl) ?_
 refine Zm rfl rfl rfl CellsOf.int hS ps2 st1_1 (by kernel_rfl) rfl (fun w hS hB => ?_)
 refine Zg ?_
 refine Zb hK18 ?_
 refine Ze (fun K hK19 => ?_)
 refine Ze (fun K hK20 => ?_)
 refine Zf ?_
 refine Za rfl rfl rfl (Zd fo_53_1 rfl) ?_
 refine Za rfl rfl rfl (Zh Zw rfl (Zgw _) hS Xw trivial Vp) ?_
 refine Zg ?_
 refine Zb hK20 ?_
 refine Yf ?_
 refine Ze (fun K hK21 => ?_)
 refine Zf ?_
 refine Za rfl rfl rfl (Y5 rfl rfl) ?_
 refine Zc 1 rfl ?_
 refine Zg ?_
 refine Zb hK21 ?_
 refine Zz rfl (fun hb => ?_) (fun hb => ?_)
 ·replace H := Zp H hb
  refine Zf ?_
  refine Za rfl rfl rfl (Zd fo_23_2 rfl) ?_
  refine Za rfl rfl rfl (Zh Zw rfl (Zgw _) hS Vf trivial Zav) ?_
  refine Za rfl rfl rfl (yx_mul rfl rfl) ?_
  refine Za rfl rfl rfl (Zd fo_53_2 rfl) ?_
  refine Za rfl rfl rfl (Zh Zw rfl (Zgw _) hS Xw trivial Zav) ?_
  refine Za rfl rfl rfl (Xc rfl rfl) ?_
  refine Za rfl rfl rfl (Xc rfl rfl) ?_
  refine Za rfl rfl rfl (yx_rem rfl rfl (by decide)) ?_
  refine Za rfl rfl rfl (Zd fo_23_2 rfl) ?_
  refine Zm rfl rfl rfl CellsOf.int hS ps2 st2_1 (by kernel_rfl) rfl (fun w hS hB => ?_)
  refine Zg ?_
  refine Z1 ?_
  refine Zb hK19 ?_
  refine Ze (fun K hK22 => ?_)
  refine Zf ?_
  refine Za rfl rfl rfl (Zj Y3 rfl (Zgw _) hS Vf trivial Je) ?_
  refine Zm rfl rfl rfl CellsOf.agg hS ps0 Zd4 (by kernel_rfl) rfl (fun w hS hB => ?_)
  refine Zg ?_
  refine Zb hK22 ?_
  refine Zk ?_
  refine Zl rfl (RV.cell rfl (Z0 Y3 hS hs0 Je) RV.nil) rfl ?_
  obtain rfl := QJ H
  replace hS := hS.cut 0
  exact ⟨rfl, hS⟩
 replace H := Zo H hb
 refine Ze (fun K hK23 => ?_)
 refine Zf ?_
 refine Za rfl rfl rfl (Y5 rfl rfl) ?_
 refine Zc 1 rfl ?_
 refine Zg ?_
 refine Zb hK23 ?_
 refine Zz rfl (fun hb => ?_) (fun hb => ?_)
 ·replace H := Zp H hb
  refine Zf ?_
  refine Za rfl rfl rfl (Zd Zem rfl) ?_
  refine Zm rfl rfl rfl CellsOf.int hS ps2 st3_1 (by kernel_rfl) rfl (fun w hS hB => ?_)
  refine Zg ?_
  refine Z1 ?_
  refine Zb hK19 ?_
  refine Ze (fun K hK24 => ?_)
  refine Zf ?_
  refine Za rfl rfl rfl (Zj Y3 rfl (Zgw _) hS Vf trivial Je) ?_
  refine Zm rfl rfl rfl CellsOf.agg hS ps0 Zd4 (by kernel_rfl) rfl (fun w hS hB => ?_)
  refine Zg ?_
  refine Zb hK24 ?_
  refine Zk ?_
  refine Zl rfl (RV.cell rfl (Z0 Y3 hS hs0 Je) RV.nil) rfl ?_
  obtain rfl := QJ H
  replace hS := hS.cut 0
  exact ⟨rfl, hS⟩
 replace H := Zo H hb
 refine Ze (fun K hK25 => ?_)
 refine Zf ?_
 refine Za rfl rfl rfl (Y5 rfl rfl) ?_
 refine Zc 1 rfl ?_
 refine Zg ?_
 refine Zb hK25 ?_
 refine Zz rfl (fun hb => ?_) (fun hb => ?_)
 ·replace H := Zp H hb
  refine Ze (fun K hK26 => ?_)
  refine Zf ?_
  refine Za rfl rfl rfl (Zd fo_23_4 rfl) ?_
  refine Za rfl rfl rfl (Zh sc_4 rfl (Zgw _) hS Vf trivial Zew) ?_
  refine Za rfl rfl rfl (Yy rfl) ?_
  refine Zg ?_
  refine Zb hK26 ?_
  refine Zz rfl (fun hb => ?_) (fun hb => ?_)
  rotate_left
  ·replace H := Zo H hb
   refine Zr ?_
   refine Z1 ?_
   refine Zb hK19 ?_
   refine Ze (fun K hK28 => ?_)
   refine Zf ?_
   refine Za rfl rfl rfl (Zj Y3 rfl (Zgw _) hS Vf trivial Je) ?_
   refine Zm rfl rfl rfl CellsOf.agg hS ps0 Zd4 (by kernel_rfl) rfl (fun w hS hB => ?_)
   refine Zg ?_
   refine Zb hK28 ?_
   refine Zk ?_
   refine Zl rfl (RV.cell rfl (Z0 Y3 hS hs0 Je) RV.nil) rfl ?_
   obtain rfl := QJ H
   replace hS := hS.cut 0
   exact ⟨rfl, hS⟩
  replace H := Zp H hb
  refine Zf ?_
  refine Za rfl rfl rfl (Zd Zem rfl) ?_
  refine Zm rfl rfl rfl CellsOf.int hS ps2 st3_1 (by kernel_rfl) rfl (fun w hS hB => ?_)
  refine Zg ?_
  refine Z1 ?_
  refine Zb hK19 ?_
  refine Ze (fun K hK27 => ?_)
  refine Zf ?_
  refine Za rfl rfl rfl (Zj Y3 rfl (Zgw _) hS Vf trivial Je) ?_
  refine Zm rfl rfl rfl CellsOf.agg hS ps0 Zd4 (by kernel_rfl) rfl (fun w hS hB => ?_)
  refine Zg ?_
  refine Zb hK27 ?_
  refine Zk ?_
  refine Zl rfl (RV.cell rfl (Z0 Y3 hS hs0 Je) RV.nil) rfl ?_
  obtain rfl := QJ H
  replace hS := hS.cut 0
  exact ⟨rfl, hS⟩
 replace H := Zo H hb
 refine Ze (fun K hK29 => ?_)
 refine Zf ?_
 refine Za rfl rfl rfl (Y5 rfl rfl) ?_
 refine Zc 1 rfl ?_
 refine Zg ?_
 refine Zb hK29 ?_
 refine Zz rfl (fun hb => ?_) (fun hb => ?_)
 rotate_left
 ·replace H := Zo H hb
  refine Zr ?_
  refine Z1 ?_
  refine Zb hK19 ?_
  refine Ze (fun K hK31 => ?_)
  refine Zf ?_
  refine Za rfl rfl rfl (Zj Y3 rfl (Zgw _) hS Vf trivial Je) ?_
  refine Zm rfl rfl rfl CellsOf.agg hS ps0 Zd4 (by kernel_rfl) rfl (fun w hS hB => ?_)
  refine Zg ?_
  refine Zb hK31 ?_
  refine Zk ?_
  refine Zl rfl (RV.cell rfl (Z0 Y3 hS hs0 Je) RV.nil) rfl ?_
  obtain rfl := QJ H
  replace hS := hS.cut 0
  exact ⟨rfl, hS⟩
 replace H := Zp H hb
 refine Zf ?_
 refine Za rfl rfl rfl (Zd Zem rfl) ?_
 refine Za rfl rfl rfl (Zh Zw rfl (Zgw _) hS Vf trivial Zan) ?_
 refine Za rfl rfl rfl (Y5 rfl rfl) ?_
 refine Za rfl rfl rfl (Zd fo_23_4 rfl) ?_
 refine Zm rfl rfl rfl CellsOf.bool hS ps2 st4_1 (by kernel_rfl) rfl (fun w hS hB => ?_)
 refine Zg ?_
 refine Z1 ?_
 refine Zb hK19 ?_
 refine Ze (fun K hK30 => ?_)
 refine Zf ?_
 refine Za rfl rfl rfl (Zj Y3 rfl (Zgw _) hS Vf trivial Je) ?_
 refine Zm rfl rfl rfl CellsOf.agg hS ps0 Zd4 (by kernel_rfl) rfl (fun w hS hB => ?_)
 refine Zg ?_
 refine Zb hK30 ?_
 refine Zk ?_
 refine Zl rfl (RV.cell rfl (Z0 Y3 hS hs0 Je) RV.nil) rfl ?_
 obtain rfl := QJ H
 replace hS := hS.cut 0
 exact ⟨rfl, hS⟩
theorem c_ref06_All (x0 : St) (x1 : List En) (A0_ : OA) (c0_ : Nat) (w0 : World) (s0_ : SlI w0 Jj A0_ c0_ x1) {r : St} (H : Zf9 x0 x1 = some r) : Calls Tryz.prog 122 #[.agg #[.int .i64 x0.index, .int .i64 x0.term, .int .i64 x0.sum, .int .i64 x0.level, .bool x0.final], .slice A0_ x1.length c0_] w0 fun e w' => e = .returned (.agg #[.int .i64 r.index, .int .i64 r.term, .int .i64 r.sum, .int .i64 r.level, .bool r.final]) ∧ St0 All w0 w' [] := by
 unfold Zf9 at H
 refine Yt Tryz.func122 rfl Tryz.ntmps122 rfl ?_
 have hS := St0.start All w0
 refine Ze (fun K hK1 => ?_)
 refine Zf ?_
 refine Yd rfl rfl rfl CellsOf.agg hS (fun b2 w hS hB => ?_)
 refine Yh rfl rfl zc_23 hS (fun b4 w hS hB => ?_)
 refine Zg ?_
 refine Zb hK1 ?_
 refine Ze (fun K hK6 => ?_)
 refine Ze (fun K hK7 => ?_)
 refine Zf ?_
 refine Zc 1 rfl ?_
 refine Zg ?_
 refine Zb hK7 ?_
 refine Yf ?_
 refine Vz (X := Nat × Int × Int × Int × Int × Int × Bool) (fun x => (1, .slice A0_ x1.length c0_) :: (2, .pointer (some ⟨b2, 0, none⟩)) :: (4, .pointer (some ⟨b4, 0, none⟩)) :: (5, .int .i64 x.2.1) :: []) (fun x w => St0 All w0 w (.box b4 [.int .i64 0, .int .i64 0, .int .i64 0, .int .i64 0, .bool false] 23 :: .box b2 [.int .i64 x.2.2.1, .int .i64 x.2.2.2.1, .int .i64 x.2.2.2.2.1, .int .i64 x.2.2.2.2.2.1, .bool x.2.2.2.2.2.2] 23 :: []) ∧ Zao x1 x.1 x.2.1 x.2.2.1 x.2.2.2.1 x.2.2.2.2.1 x.2.2.2.2.2.1 x.2.2.2.2.2.2 = some r) (fun x => x.1) (Xo, 0, x0.index, x0.term, x0.sum, x0.level, x0.final) (by repeat (first | exact Sub.nil | refine Sub.cons rfl ?_)) ⟨hS, H⟩ ?_
 rintro ⟨n, v8, v9, v10, v11, v12, v13⟩ w ⟨hS, H⟩
 dsimp only at hS H ⊢
 obtain _ | n := n
 ·have H0 : none = some r := H
  cases H0
 rw [Zao] at H
 refine Ze (fun K hK14 => ?_)
 refine Ze (fun K hK15 => ?_)
 refine Zf ?_
 refine Zc 2 rfl ?_
 refine Za rfl rfl rfl (Yw Y4 rfl) ?_
 refine Za rfl rfl rfl (Xe rfl rfl) ?_
 refine Zg ?_
 refine Zb hK15 ?_
 refine Zz rfl (fun hb => ?_) (fun hb => ?_)
 rotate_left
 ·replace H := Zo H hb
  refine Vl ?_
  refine Yb ?_
  refine Yb ?_
  refine Y6 ?_
  refine Zb hK6 ?_
  refine Ze (fun K hK22 => ?_)
  refine Zf ?_
  refine Za rfl rfl rfl (Zj Y3 rfl (Zgw _) hS Xw trivial Je) ?_
  refine Zm rfl rfl rfl CellsOf.agg hS ps0 Zd4 (by kernel_rfl) rfl (fun w hS hB => ?_)
  refine Zg ?_
  refine Zb hK22 ?_
  refine Zk ?_
  refine Zl rfl (RV.cell rfl (Z0 Y3 hS hs0 Je) RV.nil) rfl ?_
  obtain rfl := QJ H
  replace hS := hS.cut 0
  exact ⟨rfl, hS⟩
 replace H := Zp H hb
 refine Zr ?_
 refine Zb hK14 ?_
 refine Ze (fun K hK16 => ?_)
 refine Yf ?_
 refine Yi 7 [6] (fun i b => (i = 6 → b ≠ b2)) ⟨by kernel_rfl, by kernel_rfl⟩ hS (fun w hS hB => ?_)
 refine Zn [true, true, true, true, true] (by decide +kernel) PFC.h ?_
 refine LtK.put rfl rfl rfl (Zj Y3 rfl (Zgx _) hS Xw trivial Je) ?_
 refine LtK.put rfl rfl rfl (Zu rfl) ?_
 refine LtK.put rfl rfl rfl (Zu rfl) ?_
 obtain ⟨e17, hi19, H⟩ := bind_some H
 obtain ⟨j18, hi19a, hi19b, hi19c⟩ := Ym hi19
 refine LtK.put rfl rfl rfl (Y1 Y4 rfl rfl hi19a hi19c (Rd.el (hS.rd0 s0_.rd) X6 hi19b)) ?_
 refine LtK.put rfl rfl rfl (Zc8 V8 rfl (Zgx _) (Rd.el (hS.rd0 s0_.rd) X6 hi19b) Zb8) ?_
 refine LtK.nil ?_
 refine Z6 [false, false, false, false, false, true] 5 ⟨by decide, by kernel_rfl, by kernel_rfl⟩ rfl rfl ?_
 try dsimp only [Zy]
 obtain ⟨r20, hm21, H⟩ := bind_some H
 refine Zq rfl rfl rfl rfl (by kernel_rfl) rfl (c_ref06_Next (⟨v9, v10, v11, v12, v13⟩ : St) e17 _ hm21) ?_
 rintro e w ⟨rfl, hN⟩; refine ⟨_, rfl, ?_⟩; obtain ⟨hB, hS⟩ := hS.jn hN
 refine Zg ?_
 refine Z8 hB ?_
 refine Yu [false, false, false, false, false, false, true] 6 ⟨by decide, by kernel_rfl, by kernel_rfl⟩ rfl rfl ?_
 try dsimp only [Zy]
 refine Zm rfl rfl rfl CellsOf.agg hS ps1 Zd4 (by kernel_rfl) rfl (fun w hS hB => ?_)
 refine Zg ?_
 refine Yk (hB.sub (fun _ _ h => by simpa using h)) ?_
 refine Z4 (by kernel_rfl) ?_
 refine Z1 ?_
 refine Zb hK16 ?_
 refine Zf ?_
 refine Zc 1 rfl ?_
 refine Za rfl rfl rfl (Xc rfl rfl) ?_
 refine Zc 1 rfl ?_
 refine Zg ?_
 exact X3 (n, (IntKind.wrap .i64 (v8 + 1)), r20.index, r20.term, r20.sum, r20.level, r20.final) (by repeat (first | exact Sub.nil | refine Sub.cons rfl ?_)) ⟨hS, H⟩ (Nat.lt_succ_self _)
theorem c_ref12_State (x0 : Tu) (x1 : Int) (A0_ : OA) (c0_ : Nat) (w0 : World) (s0_ : SlI w0 Jj A0_ c0_ x0.log) {r : St × Bool} (H : Zbt x0 x1 = some r) : Calls Tryz.prog 79 #[.agg #[.int .i64 x0.snap.index, .int .i64 x0.snap.term, .int .i64 x0.snap.sum, .int .i64 x0.snap.level, .bool x0.snap.final, .slice A0_ x0.log.length c0_, .int .i64 x0.term, .int .i64 x0.vote], .int .i64 x1] w0 fun e w' => e = .returned (.tuple #[.agg #[.int .i64 r.1.index, .int .i64 r.1.term, .int .i64 r.1.sum, .int .i64 r.1.level, .bool r.1.final], .bool r.2]) ∧ St0 All w0 w' [] := by
 unfold Zbt at H
 refine Yt Tryz.func79 rfl Tryz.ntmps79 rfl ?_
 have hS := St0.start All w0
 refine Ze (fun K hK1 => ?_)
 refine Zf ?_
 refine Yd rfl rfl rfl CellsOf.agg hS (fun b2 w hS hB => ?_)
 refine Yh rfl rfl zc_23 hS (fun b4 w hS hB => ?_)
 refine Zc 1 rfl ?_
 refine Zg ?_
 refine Zb hK1 ?_
 refine Ze (fun K hK6 => ?_)
 refine Ze (fun K hK7 => ?_)
 refine Zf ?_
 refine Zc 1 rfl ?_
 refine Za rfl rfl rfl (Zd Xj rfl) ?_
 refine Za rfl rfl rfl (Zd Yj rfl) ?_
 refine Za rfl rfl rfl (Zh Zw rfl (Zgw _) hS Xw trivial Y8) ?_
 refine Za rfl rfl rfl (Xe rfl rfl) ?_
 refine Zc 1 rfl ?_
 refine Zs 11 rfl (fun hb => ?_) (fun hb => ?_)
 ·replace H := Zp H hb
  refine Zc 5 rfl ?_
  refine Zg ?_
  refine Zb hK7 ?_
  refine Zt rfl rfl ?_
  refine Ze (fun K hK8 => ?_)
  refine Zf ?_
  refine Za rfl rfl rfl (X1 (cells := [.int .i64 0, .int .i64 0, .int .i64 0, .int .i64 0, .bool false]) rfl (by kernel_rfl)) ?_
  refine Zm rfl rfl rfl CellsOf.agg hS ps0 Zd4 (by kernel_rfl) rfl (fun w hS hB => ?_)
  refine Zc 1 rfl ?_
  refine Zg ?_
  refine Zb hK8 ?_
  refine Zk ?_
  refine Zi ?_
  refine Zl rfl (RV.cell rfl (Z0 Y3 hS hs0 Je) (RV.tmp rfl RV.nil)) rfl ?_
  obtain rfl := QJ H
  replace hS := hS.cut 0
  exact ⟨rfl, hS⟩
 replace H := Zo H hb
 refine Zc 1 rfl ?_
 refine Za rfl rfl rfl (Zj Y7 rfl (Zgw _) hS Xw trivial Zbr) ?_
 obtain ⟨r9, hm10, H⟩ := bind_some H
 refine Zq rfl rfl rfl rfl (by kernel_rfl) rfl (Zck x0 A0_ c0_ _ (Zgz s0_.k (hS.rd0 s0_.rd) (hS.blk0 s0_.blk)) hm10) ?_
 rintro e w ⟨rfl, hN⟩; refine ⟨_, rfl, ?_⟩; obtain ⟨hB, hS⟩ := hS.jn hN
 refine Za rfl rfl rfl (Y9 rfl rfl) ?_
 refine Zc 1 rfl ?_
 refine Zg ?_
 refine Zb hK7 ?_
 refine Zz rfl (fun hb => ?_) (fun hb => ?_)
 ·replace H := Zp H hb
  refine Ze (fun K hK11 => ?_)
  refine Zf ?_
  refine Za rfl rfl rfl (X1 (cells := [.int .i64 0, .int .i64 0, .int .i64 0, .int .i64 0, .bool false]) rfl (by kernel_rfl)) ?_
  refine Zm rfl rfl rfl CellsOf.agg hS ps0 Zd4 (by kernel_rfl) rfl (fun w hS hB => ?_)
  refine Zc 1 rfl ?_
  refine Zg ?_
  refine Zb hK11 ?_
  refine Zk ?_
  refine Zi ?_
  refine Zl rfl (RV.cell rfl (Z0 Y3 hS hs0 Je) (RV.tmp rfl RV.nil)) rfl ?_
  obtain rfl := QJ H
  replace hS := hS.cut 0
  exact ⟨rfl, hS⟩
 replace H := Zo H hb
 refine Zr ?_
 refine Zb hK6 ?_
 refine Ze (fun K hK12 => ?_)
 refine Yi 13 [11] (fun i b => (i = 11 → b ≠ b4)) ⟨by kernel_rfl, by kernel_rfl⟩ hS (fun w hS hB => ?_)
 refine Zn [true, true, true, true, true, true, true, true, true, true] (by decide +kernel) PFC.h ?_
 refine LtK.put rfl rfl rfl (Zd Xj rfl) ?_
 refine LtK.put rfl rfl rfl (Zj Y3 rfl (Zgx _) hS Xw trivial Je) ?_
 refine LtK.put rfl rfl rfl (Zd X0 rfl) ?_
 refine LtK.put rfl rfl rfl (Zh Xq rfl (Zgx _) hS Xw trivial V7) ?_
 refine LtK.put rfl rfl rfl (Zu rfl) ?_
 refine LtK.put rfl rfl rfl (Zd Xj rfl) ?_
 refine LtK.put rfl rfl rfl (Zd Yj rfl) ?_
 refine LtK.put rfl rfl rfl (Zh Zw rfl (Zgx _) hS Xw trivial Y8) ?_
 refine LtK.put rfl rfl rfl (Za6 rfl rfl) ?_
 obtain ⟨l13, ht14, H⟩ := bind_some H
 refine LtK.put rfl rfl rfl (yx_slice_h Y4 rfl rfl s0_.k.1 ht14) ?_
 refine LtK.nil ?_
 refine Z6 [false, false, false, false, false, false, false, false, false, false, true] 10 ⟨by decide, by kernel_rfl, by kernel_rfl⟩ rfl rfl ?_
 try dsimp only [Zy]
 obtain ⟨r15, hm16, H⟩ := bind_some H
 refine Zq rfl rfl rfl rfl (by kernel_rfl) rfl (c_ref06_All x0.snap l13 A0_ c0_ _ (Zgz (k_take s0_.k ht14) (Rd.takeI X6 (hS.rd0 s0_.rd) ht14) (hS.blk0 s0_.blk)) hm16) ?_
 rintro e w ⟨rfl, hN⟩; refine ⟨_, rfl, ?_⟩; obtain ⟨hB, hS⟩ := hS.jn hN
 refine Zg ?_
 refine Z8 hB ?_
 refine Yu [false, false, false, false, false, false, false, false, false, false, false, true] 11 ⟨by decide, by kernel_rfl, by kernel_rfl⟩ rfl rfl ?_
 try dsimp only [Zy]
 refine Zm rfl rfl rfl CellsOf.agg hS ps0 Zd4 (by kernel_rfl) rfl (fun w hS hB => ?_)
 refine Zg ?_
 refine Yk (hB.sub (fun _ _ h => by simpa using h)) ?_
 refine Zn [false, false, false, false, false, false, false, false, false, false, false, false, true] (by decide +kernel) PFC.h ?_
 refine LtK.put rfl rfl rfl (Zx rfl) ?_
 refine LtK.nil ?_
 refine Z4 (by kernel_rfl) ?_
 refine Zb hK12 ?_
 refine Zk ?_
 refine Zl rfl (RV.cell rfl (Z0 Y3 hS hs0 Je) (RV.tmp rfl RV.nil)) rfl ?_
 obtain rfl := QJ H
 replace hS := hS.cut 0
 exact ⟨rfl, hS⟩
theorem Zcv (x0 : Co) (A0_ : OA) (c0_ : Nat) (A1_ : OA) (c1_ : Nat) (A2_ : OA) (c2_ : Nat) (A3_ : OA) (c3_ : Nat) (A4_ : OA) (c4_ : Nat) (w0 : World) (s0_ : SlI w0 Jj A0_ c0_ x0.tuple.log) (s1_ : SlI w0 enO A1_ c1_ x0.votes) (s2_ : SlI w0 V1 A2_ c2_ x0.next) (s3_ : SlI w0 V1 A3_ c3_ x0.mtch) (s4_ : SlI w0 V1 A4_ c4_ x0.caps) {r : Bool} (H : Jv x0 = some r) : Calls Tryz.prog 38 #[.agg #[.int .i64 x0.id, .int .i64 x0.n, .int .u8 x0.role, .int .i64 x0.binary, .int .i64 x0.tuple.snap.index, .int .i64 x0.tuple.snap.term, .int .i64 x0.tuple.snap.sum, .int .i64 x0.tuple.snap.level, .bool x0.tuple.snap.final, .slice A0_ x0.tuple.log.length c0_, .int .i64 x0.tuple.term, .int .i64 x0.tuple.vote, .int .i64 x0.commit, .int .i64 x0.applied.index, .int .i64 x0.applied.term, .int .i64 x0.applied.sum, .int .i64 x0.applied.level, .bool x0.applied.final, .slice A1_ x0.votes.length c1_, .slice A2_ x0.next.length c2_, .slice A3_ x0.mtch.length c3_, .slice A4_ x0.caps.length c4_]] w0 fun e w' => e = .returned (.bool r) ∧ St0 All w0 w' [] := by
 unfold Jv at H
 refine Yo Tryz.func38 rfl Tryz.ntmps38 rfl ?_
 have hS := St0.start All w0
 refine Ze (fun K hK1 => ?_)
 refine Zf ?_
 refine Yd rfl rfl rfl CellsOf.agg hS (fun b2 w hS hB => ?_)
 refine Zc 1 rfl ?_
 refine Zg ?_
 refine Zb hK1 ?_
 refine Ze (fun K hK4 => ?_)
 refine Ze (fun K hK5 => ?_)
 refine Zf ?_
 refine Za rfl rfl rfl (Zd Ja rfl) ?_
 refine Za rfl rfl rfl (Zh Zw rfl (Zgw _) hS hs0 trivial Vp) ?_
 refine Za rfl rfl rfl (Xe rfl rfl) ?_
 refine Zc 1 rfl ?_
 refine Zs 10 rfl (fun hb => ?_) (fun hb => ?_)
 ·replace H := Zp H hb
  refine Zc 37 rfl ?_
  refine Zg ?_
  refine Zb hK5 ?_
  refine Zt rfl rfl ?_
  refine Ze (fun K hK6 => ?_)
  refine Zf ?_
  refine Zc 1 rfl ?_
  refine Zg ?_
  refine Zb hK6 ?_
  refine Zk ?_
  refine Zi ?_
  refine Zl rfl (RV.tmp rfl RV.nil) rfl ?_
  obtain rfl := QJ H
  replace hS := hS.cut 0
  exact ⟨rfl, hS⟩
 replace H := Zo H hb
 refine Za rfl rfl rfl (Zd Ja rfl) ?_
 refine Za rfl rfl rfl (Zh Zw rfl (Zgw _) hS hs0 trivial Vp) ?_
 refine Za rfl rfl rfl (Y9 rfl rfl) ?_
 refine Zc 2 rfl ?_
 refine Zs 15 rfl (fun hb => ?_) (fun hb => ?_)
 ·replace H := Zp H hb
  refine Zc 32 rfl ?_
  refine Zg ?_
  refine Zb hK5 ?_
  refine Zt rfl rfl ?_
  refine Ze (fun K hK7 => ?_)
  refine Zf ?_
  refine Zc 1 rfl ?_
  refine Zg ?_
  refine Zb hK7 ?_
  refine Zk ?_
  refine Zi ?_
  refine Zl rfl (RV.tmp rfl RV.nil) rfl ?_
  obtain rfl := QJ H
  replace hS := hS.cut 0
  exact ⟨rfl, hS⟩
 replace H := Zo H hb
 refine Za rfl rfl rfl (Zd Zbb rfl) ?_
 refine Za rfl rfl rfl (Zh Zw rfl (Zgw _) hS hs0 trivial Y8) ?_
 refine Za rfl rfl rfl (Xe rfl rfl) ?_
 refine Zc 2 rfl ?_
 refine Zs 20 rfl (fun hb => ?_) (fun hb => ?_)
 ·replace H := Zp H hb
  refine Zc 27 rfl ?_
  refine Zg ?_
  refine Zb hK5 ?_
  refine Zt rfl rfl ?_
  refine Ze (fun K hK8 => ?_)
  refine Zf ?_
  refine Zc 1 rfl ?_
  refine Zg ?_
  refine Zb hK8 ?_
  refine Zk ?_
  refine Zi ?_
  refine Zl rfl (RV.tmp rfl RV.nil) rfl ?_
  obtain rfl := QJ H
  replace hS := hS.cut 0
  exact ⟨rfl, hS⟩
 replace H := Zo H hb
 refine Za rfl rfl rfl (Zd Zbb rfl) ?_
 refine Za rfl rfl rfl (Zh Zw rfl (Zgw _) hS hs0 trivial Y8) ?_
 refine Za rfl rfl rfl (Zd Ja rfl) ?_
 refine Za rfl rfl rfl (Zh Zw rfl (Zgw _) hS hs0 trivial Vp) ?_
 refine Za rfl rfl rfl (Y9 rfl rfl) ?_
 refine Zc 2 rfl ?_
 refine Zs 27 rfl (fun hb => ?_) (fun hb => ?_)
 ·replace H := Zp H hb
  refine Zc 20 rfl ?_
  refine Zg ?_
  refine Zb hK5 ?_
  refine Zt rfl rfl ?_
  refine Ze (fun K hK9 => ?_)
  refine Zf ?_
  refine Zc 1 rfl ?_
  refine Zg ?_
  refine Zb hK9 ?_
  refine Zk ?_
  refine Zi ?_
  refine Zl rfl (RV.tmp rfl RV.nil) rfl ?_
  obtain rfl := QJ H
  replace hS := hS.cut 0
  exact ⟨rfl, hS⟩
 replace H := Zo H hb
 refine Za rfl rfl rfl (Zd Zb0 rfl) ?_
 refine Za rfl rfl rfl (Zh Zbd rfl (Zgw _) hS hs0 trivial Zav) ?_
 refine Za rfl rfl rfl (Y9 rfl rfl) ?_
 refine Zc 2 rfl ?_
 refine Zs 32 rfl (fun hb => ?_) (fun hb => ?_)
 ·replace H := Zp H hb
  refine Zc 15 rfl ?_
  refine Zg ?_
  refine Zb hK5 ?_
  refine Zt rfl rfl ?_
  refine Ze (fun K hK10 => ?_)
  refine Zf ?_
  refine Zc 1 rfl ?_
  refine Zg ?_
  refine Zb hK10 ?_
  refine Zk ?_
  refine Zi ?_
  refine Zl rfl (RV.tmp rfl RV.nil) rfl ?_
  obtain rfl := QJ H
  replace hS := hS.cut 0
  exact ⟨rfl, hS⟩
 replace H := Zo H hb
 refine Za rfl rfl rfl (Zd Zej rfl) ?_
 refine Za rfl rfl rfl (Zh Zw rfl (Zgw _) hS hs0 trivial Zan) ?_
 refine Za rfl rfl rfl (Xe rfl rfl) ?_
 refine Zc 2 rfl ?_
 refine Zs 37 rfl (fun hb => ?_) (fun hb => ?_)
 ·replace H := Zp H hb
  refine Zc 10 rfl ?_
  refine Zg ?_
  refine Zb hK5 ?_
  refine Zt rfl rfl ?_
  refine Ze (fun K hK11 => ?_)
  refine Zf ?_
  refine Zc 1 rfl ?_
  refine Zg ?_
  refine Zb hK11 ?_
  refine Zk ?_
  refine Zi ?_
  refine Zl rfl (RV.tmp rfl RV.nil) rfl ?_
  obtain rfl := QJ H
  replace hS := hS.cut 0
  exact ⟨rfl, hS⟩
 replace H := Zo H hb
 refine Za rfl rfl rfl (Zd Zej rfl) ?_
 refine Za rfl rfl rfl (Zh Zw rfl (Zgw _) hS hs0 trivial Zan) ?_
 refine Za rfl rfl rfl (Y9 rfl rfl) ?_
 refine Zc 2 rfl ?_
 refine Zs 42 rfl (fun hb => ?_) (fun hb => ?_)
 ·replace H := Zp H hb
  refine Zc 5 rfl ?_
  refine Zg ?_
  refine Zb hK5 ?_
  refine Zt rfl rfl ?_
  refine Ze (fun K hK12 => ?_)
  refine Zf ?_
  refine Zc 1 rfl ?_
  refine Zg ?_
  refine Zb hK12 ?_
  refine Zk ?_
  refine Zi ?_
  refine Zl rfl (RV.tmp rfl RV.nil) rfl ?_
  obtain rfl := QJ H
  replace hS := hS.cut 0
  exact ⟨rfl, hS⟩
 replace H := Zo H hb
 refine Za rfl rfl rfl (Zd Yr rfl) ?_
 refine Za rfl rfl rfl (Zj Y7 rfl (Zgw _) hS hs0 trivial Zak) ?_
 obtain ⟨r13, hm14, H⟩ := bind_some H
 refine Zq rfl rfl rfl rfl (by kernel_rfl) rfl (c_ref12_Right x0.tuple A0_ c0_ _ (Zgz s0_.k (hS.rd0 s0_.rd) (hS.blk0 s0_.blk)) hm14) ?_
 rintro e w ⟨rfl, hN⟩; refine ⟨_, rfl, ?_⟩; obtain ⟨hB, hS⟩ := hS.jn hN
 refine Za rfl rfl rfl (Yy rfl) ?_
 refine Zc 1 rfl ?_
 refine Zg ?_
 refine Zb hK5 ?_
 refine Zz rfl (fun hb => ?_) (fun hb => ?_)
 ·replace H := Zp H hb
  refine Ze (fun K hK15 => ?_)
  refine Zf ?_
  refine Zc 1 rfl ?_
  refine Zg ?_
  refine Zb hK15 ?_
  refine Zk ?_
  refine Zi ?_
  refine Zl rfl (RV.tmp rfl RV.nil) rfl ?_
  obtain rfl := QJ H
  replace hS := hS.cut 0
  exact ⟨rfl, hS⟩
 replace H := Zo H hb
 refine Zr ?_
 refine Zb hK4 ?_
 refine Ze (fun K hK16 => ?_)
 refine Zf ?_
 refine Za rfl rfl rfl (Zd Yr rfl) ?_
 refine Za rfl rfl rfl (Zj Y7 rfl (Zgw _) hS hs0 trivial Zak) ?_
 refine Za rfl rfl rfl (Zd Vd rfl) ?_
 refine Za rfl rfl rfl (Zh Zw rfl (Zgw _) hS hs0 trivial Jl) ?_
 obtain ⟨r17, hm18, H⟩ := bind_some H
 refine Zq rfl rfl rfl rfl (by kernel_rfl) rfl (c_ref12_State x0.tuple x0.commit A0_ c0_ _ (Zgz s0_.k (hS.rd0 s0_.rd) (hS.blk0 s0_.blk)) hm18) ?_
 rintro e w ⟨rfl, hN⟩; refine ⟨_, rfl, ?_⟩; obtain ⟨hB, hS⟩ := hS.jn hN
 refine Zc 1 rfl ?_
 refine Za rfl rfl rfl (Z7 rfl rfl) ?_
 refine Za rfl rfl rfl (Z7 rfl rfl) ?_
 refine Yh rfl rfl zc_23 hS (fun b19 w hS hB => ?_)
 refine Zm rfl rfl rfl CellsOf.agg hS ps0 Zd4 (by kernel_rfl) rfl (fun w hS hB => ?_)
 refine Zc 1 rfl ?_
 refine Zg ?_
 refine Zb hK16 ?_
 refine Ze (fun K hK21 => ?_)
 refine Ze (fun K hK22 => ?_)
 refine Zf ?_
 refine Zc 1 rfl ?_
 refine Za rfl rfl rfl (Yy rfl) ?_
 refine Zc 1 rfl ?_
 refine Zs 58 rfl (fun hb => ?_) (fun hb => ?_)
 ·replace H := Zp H hb
  refine Zc 37 rfl ?_
  refine Zg ?_
  refine Zb hK22 ?_
  refine Zt rfl rfl ?_
  refine Ze (fun K hK23 => ?_)
  refine Zf ?_
  refine Zc 1 rfl ?_
  refine Zg ?_
  refine Zb hK23 ?_
  refine Zk ?_
  refine Zi ?_
  refine Zl rfl (RV.tmp rfl RV.nil) rfl ?_
  obtain rfl := QJ H
  replace hS := hS.cut 0
  exact ⟨rfl, hS⟩
 replace H := Zo H hb
 refine Za rfl rfl rfl (Zj Y3 rfl (Zgw _) hS hs0 trivial Je) ?_
 refine Za rfl rfl rfl (Zd Zei rfl) ?_
 refine Za rfl rfl rfl (Zj Y3 rfl (Zgw _) hS Xw trivial sg13_5) ?_
 refine Za rfl rfl rfl (yv_neqS (by kernel_rfl) rfl rfl (Zap _ _ _ _ _ _ _ _ _ _)) ?_
 refine Zc 2 rfl ?_
 refine Zs 64 rfl (fun hb => ?_) (fun hb => ?_)
 ·replace H := Zp H hb
  refine Zc 31 rfl ?_
  refine Zg ?_
  refine Zb hK22 ?_
  refine Zt rfl rfl ?_
  refine Ze (fun K hK24 => ?_)
  refine Zf ?_
  refine Zc 1 rfl ?_
  refine Zg ?_
  refine Zb hK24 ?_
  refine Zk ?_
  refine Zi ?_
  refine Zl rfl (RV.tmp rfl RV.nil) rfl ?_
  obtain rfl := QJ H
  replace hS := hS.cut 0
  exact ⟨rfl, hS⟩
 replace H := Zo H hb
 refine Za rfl rfl rfl (Zd Za9 rfl) ?_
 refine Za rfl rfl rfl (Zh sc_27 rfl (Zgw _) hS Xw trivial Zfu) ?_
 refine Za rfl rfl rfl (Yw el_27 rfl) ?_
 refine Za rfl rfl rfl (Zd Ja rfl) ?_
 refine Za rfl rfl rfl (Zh Zw rfl (Zgw _) hS Xw trivial Vp) ?_
 refine Za rfl rfl rfl (Xh rfl rfl) ?_
 refine Zc 2 rfl ?_
 refine Zs 72 rfl (fun hb => ?_) (fun hb => ?_)
 ·replace H := Zp H hb
  refine Zc 23 rfl ?_
  refine Zg ?_
  refine Zb hK22 ?_
  refine Zt rfl rfl ?_
  refine Ze (fun K hK25 => ?_)
  refine Zf ?_
  refine Zc 1 rfl ?_
  refine Zg ?_
  refine Zb hK25 ?_
  refine Zk ?_
  refine Zi ?_
  refine Zl rfl (RV.tmp rfl RV.nil) rfl ?_
  obtain rfl := QJ H
  replace hS := hS.cut 0
  exact ⟨rfl, hS⟩
 replace H := Zo H hb
 refine Za rfl rfl rfl (Zd Vo rfl) ?_
 refine Za rfl rfl rfl (Zh Xt rfl (Zgw _) hS Xw trivial Jr) ?_
 refine Za rfl rfl rfl (Yw Xl rfl) ?_
 refine Za rfl rfl rfl (Zd Ja rfl) ?_
 refine Za rfl rfl rfl (Zh Zw rfl (Zgw _) hS Xw trivial Vp) ?_
 refine Za rfl rfl rfl (Xh rfl rfl) ?_
 refine Zc 2 rfl ?_
 refine Zs 80 rfl (fun hb => ?_) (fun hb => ?_)
 ·replace H := Zp H hb
  refine Zc 15 rfl ?_
  refine Zg ?_
  refine Zb hK22 ?_
  refine Zt rfl rfl ?_
  refine Ze (fun K hK26 => ?_)
  refine Zf ?_
  refine Zc 1 rfl ?_
  refine Zg ?_
  refine Zb hK26 ?_
  refine Zk ?_
  refine Zi ?_
  refine Zl rfl (RV.tmp rfl RV.nil) rfl ?_
  obtain rfl := QJ H
  replace hS := hS.cut 0
  exact ⟨rfl, hS⟩
 replace H := Zo H hb
 refine Za rfl rfl rfl (Zd Vt rfl) ?_
 refine Za rfl rfl rfl (Zh Xt rfl (Zgw _) hS Xw trivial Jz) ?_
 refine Za rfl rfl rfl (Yw Xl rfl) ?_
 refine Za rfl rfl rfl (Zd Ja rfl) ?_
 refine Za rfl rfl rfl (Zh Zw rfl (Zgw _) hS Xw trivial Vp) ?_
 refine Za rfl rfl rfl (Xh rfl rfl) ?_
 refine Zc 2 rfl ?_
 refine Zs 88 rfl (fun hb => ?_) (fun hb => ?_)
 ·replace H := Zp H hb
  refine Zc 7 rfl ?_
  refine Zg ?_
  refine Zb hK22 ?_
  refine Zt rfl rfl ?_
  refine Ze (fun K hK27 => ?_)
  refine Zf ?_
  refine Zc 1 rfl ?_
  refine Zg ?_
  refine Zb hK27 ?_
  refine Zk ?_
  refine Zi ?_
  refine Zl rfl (RV.tmp rfl RV.nil) rfl ?_
  obtain rfl := QJ H
  replace hS := hS.cut 0
  exact ⟨rfl, hS⟩
 replace H := Zo H hb
 refine Za rfl rfl rfl (Zd Jn rfl) ?_
 refine Za rfl rfl rfl (Zh Xt rfl (Zgw _) hS Xw trivial Zde) ?_
 refine Za rfl rfl rfl (Yw Xl rfl) ?_
 refine Za rfl rfl rfl (Zd Ja rfl) ?_
 refine Za rfl rfl rfl (Zh Zw rfl (Zgw _) hS Xw trivial Vp) ?_
 refine Za rfl rfl rfl (Xh rfl rfl) ?_
 refine Zc 1 rfl ?_
 refine Zg ?_
 refine Zb hK22 ?_
 refine Zz rfl (fun hb => ?_) (fun hb => ?_)
 ·replace H := Zp H hb
  refine Ze (fun K hK28 => ?_)
  refine Zf ?_
  refine Zc 1 rfl ?_
  refine Zg ?_
  refine Zb hK28 ?_
  refine Zk ?_
  refine Zi ?_
  refine Zl rfl (RV.tmp rfl RV.nil) rfl ?_
  obtain rfl := QJ H
  replace hS := hS.cut 0
  exact ⟨rfl, hS⟩
 replace H := Zo H hb
 refine Zr ?_
 refine Zb hK21 ?_
 refine Ze (fun K hK29 => ?_)
 refine Zf ?_
 refine Za rfl rfl rfl (Zd Yr rfl) ?_
 refine Za rfl rfl rfl (Zj Y7 rfl (Zgw _) hS Xw trivial Zak) ?_
 obtain ⟨r30, hm31, H⟩ := bind_some H
 refine Zq rfl rfl rfl rfl (by kernel_rfl) rfl (Zck x0.tuple A0_ c0_ _ (Zgz s0_.k (hS.rd0 s0_.rd) (hS.blk0 s0_.blk)) hm31) ?_
 rintro e w ⟨rfl, hN⟩; refine ⟨_, rfl, ?_⟩; obtain ⟨hB, hS⟩ := hS.jn hN
 refine Zc 1 rfl ?_
 refine Zg ?_
 refine Zb hK29 ?_
 refine Ze (fun K hK32 => ?_)
 refine Ze (fun K hK33 => ?_)
 refine Zf ?_
 refine Zc 1 rfl ?_
 refine Zg ?_
 refine Zb hK33 ?_
 refine Yf ?_
 refine Vz (X := Nat × Bool × Int) (fun x => (1, .pointer (some ⟨b2, 0, none⟩)) :: (2, .bool x.2.1) :: (5, .int .i64 r30) :: (6, .int .i64 x.2.2) :: []) (fun x w => St0 All w0 w (.box b19 [.int .i64 r17.1.index, .int .i64 r17.1.term, .int .i64 r17.1.sum, .int .i64 r17.1.level, .bool r17.1.final] 23 :: .box b2 [.int .i64 x0.id, .int .i64 x0.n, .int .u8 x0.role, .int .i64 x0.binary, .int .i64 x0.tuple.snap.index, .int .i64 x0.tuple.snap.term, .int .i64 x0.tuple.snap.sum, .int .i64 x0.tuple.snap.level, .bool x0.tuple.snap.final, .slice A0_ x0.tuple.log.length c0_, .int .i64 x0.tuple.term, .int .i64 x0.tuple.vote, .int .i64 x0.commit, .int .i64 x0.applied.index, .int .i64 x0.applied.term, .int .i64 x0.applied.sum, .int .i64 x0.applied.level, .bool x0.applied.final, .slice A1_ x0.votes.length c1_, .slice A2_ x0.next.length c2_, .slice A3_ x0.mtch.length c3_, .slice A4_ x0.caps.length c4_] 30 :: []) ∧ Jo x0 r30 x.1 x.2.1 x.2.2 = some r) (fun x => x.1) (Xo, false, 0) (by repeat (first | exact Sub.nil | refine Sub.cons rfl ?_)) ⟨hS, H⟩ ?_
 rintro ⟨n, v34, v35⟩ w ⟨hS, H⟩
 dsimp only at hS H ⊢
 obtain _ | n := n
 ·have H0 : none = some r := H
  cases H0
 rw [Jo] at H
 refine Ze (fun K hK36 => ?_)
 refine Ze (fun K hK37 => ?_)
 refine Zf ?_
 refine Zc 1 rfl ?_
 refine Za rfl rfl rfl (Zd Ja rfl) ?_
 refine Za rfl rfl rfl (Zh Zw rfl (Zgw _) hS Xw trivial Vp) ?_
 refine Za rfl rfl rfl (Xe rfl rfl) ?_
 refine Zg ?_
 refine Zb hK37 ?_
 refine Zz rfl (fun hb => ?_) (fun hb => ?_)
 rotate_left
 ·replace H := Zo H hb
  refine Vl ?_
  refine Yb ?_
  refine Yb ?_
  refine Y6 ?_
  refine Zb hK32 ?_
  refine Ze (fun K hK64 => ?_)
  refine Ze (fun K hK65 => ?_)
  refine Zf ?_
  refine Za rfl rfl rfl (Zd Zb0 rfl) ?_
  refine Za rfl rfl rfl (Zh Zbd rfl (Zgw _) hS Xw trivial Zav) ?_
  refine Za rfl rfl rfl (Xh rfl rfl) ?_
  refine Zc 1 rfl ?_
  refine Zs 157 rfl (fun hb => ?_) (fun hb => ?_)
  rotate_left
  ·replace H := Zo H hb
   refine Zc 13 rfl ?_
   refine Zg ?_
   refine Zb hK65 ?_
   refine Yp rfl rfl ?_
   refine Zr ?_
   refine Zb hK64 ?_
   refine Ze (fun K hK72 => ?_)
   refine Yi 11 [] (fun _ _ => True) ⟨by kernel_rfl, by kernel_rfl⟩ hS (fun w hS hB => ?_)
   refine Zn [true, true, true, true, true, true, true, true, true, true, true] (by decide +kernel) PFC.h ?_
   refine LtK.put rfl rfl rfl (Zd Jn rfl) ?_
   refine LtK.put rfl rfl rfl (Zh Xt rfl (Zgx _) hS Xw trivial Zde) ?_
   refine LtK.put rfl rfl rfl (Zd Zbb rfl) ?_
   refine LtK.put rfl rfl rfl (Zh Zw rfl (Zgx _) hS Xw trivial Y8) ?_
   refine LtK.put rfl rfl rfl (Za6 rfl rfl) ?_
   obtain ⟨e73, hi75, H⟩ := bind_some H
   obtain ⟨j74, hi75a, hi75b, hi75c⟩ := Ym hi75
   refine LtK.put rfl rfl rfl (Y1 Xl rfl rfl hi75a hi75c (Rd.el (hS.rd0 s4_.rd) Z9 hi75b)) ?_
   refine LtK.put rfl rfl rfl (Xn Zw rfl (Zgx _) (Rd.el (hS.rd0 s4_.rd) Z9 hi75b) rfl) ?_
   refine LtK.put rfl rfl rfl (Zd Zej rfl) ?_
   refine LtK.put rfl rfl rfl (Zh Zw rfl (Zgx _) hS Xw trivial Zan) ?_
   refine LtK.put rfl rfl rfl (Y5 rfl rfl) ?_
   refine LtK.put rfl rfl rfl (Zx rfl) ?_
   refine LtK.nil ?_
   refine Z4 (by kernel_rfl) ?_
   refine Zb hK72 ?_
   refine Zk ?_
   refine Zl rfl (RV.tmp rfl RV.nil) rfl ?_
   obtain rfl := QJ H
   replace hS := hS.cut 0
   exact ⟨rfl, hS⟩
  replace H := Zp H hb
  refine Za rfl rfl rfl (Zd Yr rfl) ?_
  refine Za rfl rfl rfl (Zd Vr rfl) ?_
  refine Za rfl rfl rfl (Zh Zw rfl (Zgw _) hS Xw trivial J7) ?_
  refine Za rfl rfl rfl (Xe rfl rfl) ?_
  refine Zc 1 rfl ?_
  refine Zs 162 rfl (fun hb => ?_) (fun hb => ?_)
  ·replace H := Zp H hb
   refine Zc 8 rfl ?_
   refine Zg ?_
   refine Zb hK65 ?_
   refine Zt rfl rfl ?_
   refine Ze (fun K hK66 => ?_)
   refine Zf ?_
   refine Zc 1 rfl ?_
   refine Zg ?_
   refine Zb hK66 ?_
   refine Zk ?_
   refine Zi ?_
   refine Zl rfl (RV.tmp rfl RV.nil) rfl ?_
   obtain rfl := QJ H
   replace hS := hS.cut 0
   exact ⟨rfl, hS⟩
  replace H := Zo H hb
  refine Za rfl rfl rfl (Zd Yr rfl) ?_
  refine Za rfl rfl rfl (Zd Zar rfl) ?_
  refine Za rfl rfl rfl (Zh Zw rfl (Zgw _) hS Xw trivial sg11_1) ?_
  refine Za rfl rfl rfl (Zd Zbb rfl) ?_
  refine Za rfl rfl rfl (Zh Zw rfl (Zgw _) hS Xw trivial Y8) ?_
  refine Za rfl rfl rfl (Xh rfl rfl) ?_
  refine Zc 2 rfl ?_
  refine Zg ?_
  refine Zb hK65 ?_
  refine Zz rfl (fun hb => ?_) (fun hb => ?_)
  ·replace H := Zp H hb
   refine Ze (fun K hK67 => ?_)
   refine Zf ?_
   refine Zc 1 rfl ?_
   refine Zg ?_
   refine Zb hK67 ?_
   refine Zk ?_
   refine Zi ?_
   refine Zl rfl (RV.tmp rfl RV.nil) rfl ?_
   obtain rfl := QJ H
   replace hS := hS.cut 0
   exact ⟨rfl, hS⟩
  replace H := Zo H hb
  refine Zr ?_
  refine Zb hK64 ?_
  refine Ze (fun K hK68 => ?_)
  refine Yi 11 [] (fun _ _ => True) ⟨by kernel_rfl, by kernel_rfl⟩ hS (fun w hS hB => ?_)
  refine Zn [true, true, true, true, true, true, true, true, true, true, true] (by decide +kernel) PFC.h ?_
  refine LtK.put rfl rfl rfl (Zd Jn rfl) ?_
  refine LtK.put rfl rfl rfl (Zh Xt rfl (Zgx _) hS Xw trivial Zde) ?_
  refine LtK.put rfl rfl rfl (Zd Zbb rfl) ?_
  refine LtK.put rfl rfl rfl (Zh Zw rfl (Zgx _) hS Xw trivial Y8) ?_
  refine LtK.put rfl rfl rfl (Za6 rfl rfl) ?_
  obtain ⟨e69, hi71, H⟩ := bind_some H
  obtain ⟨j70, hi71a, hi71b, hi71c⟩ := Ym hi71
  refine LtK.put rfl rfl rfl (Y1 Xl rfl rfl hi71a hi71c (Rd.el (hS.rd0 s4_.rd) Z9 hi71b)) ?_
  refine LtK.put rfl rfl rfl (Xn Zw rfl (Zgx _) (Rd.el (hS.rd0 s4_.rd) Z9 hi71b) rfl) ?_
  refine LtK.put rfl rfl rfl (Zd Zej rfl) ?_
  refine LtK.put rfl rfl rfl (Zh Zw rfl (Zgx _) hS Xw trivial Zan) ?_
  refine LtK.put rfl rfl rfl (Y5 rfl rfl) ?_
  refine LtK.put rfl rfl rfl (Zx rfl) ?_
  refine LtK.nil ?_
  refine Z4 (by kernel_rfl) ?_
  refine Zb hK68 ?_
  refine Zk ?_
  refine Zl rfl (RV.tmp rfl RV.nil) rfl ?_
  obtain rfl := QJ H
  replace hS := hS.cut 0
  exact ⟨rfl, hS⟩
 replace H := Zp H hb
 refine Zr ?_
 refine Zb hK36 ?_
 refine Ze (fun K hK38 => ?_)
 refine Yf ?_
 refine Ze (fun K hK39 => ?_)
 refine Zf ?_
 refine Za rfl rfl rfl (Zd Vo rfl) ?_
 refine Za rfl rfl rfl (Zh Xt rfl (Zgw _) hS Xw trivial Jr) ?_
 refine Zc 1 rfl ?_
 obtain ⟨e40, hi42, H⟩ := bind_some H
 obtain ⟨j41, hi42a, hi42b, hi42c⟩ := Ym hi42
 refine Za rfl rfl rfl (Y1 Xl rfl rfl hi42a hi42c (Rd.el (hS.rd0 s2_.rd) Z9 hi42b)) ?_
 refine Za rfl rfl rfl (Xn Zw rfl (Zgw _) (Rd.el (hS.rd0 s2_.rd) Z9 hi42b) rfl) ?_
 refine Za rfl rfl rfl (Xe rfl rfl) ?_
 refine Zc 1 rfl ?_
 refine Zs 111 rfl (fun hb => ?_) (fun hb => ?_)
 ·replace H := Zp H hb
  refine Zc 42 rfl ?_
  refine Zg ?_
  refine Zb hK39 ?_
  refine Zt rfl rfl ?_
  refine Ze (fun K hK43 => ?_)
  refine Zf ?_
  refine Zc 1 rfl ?_
  refine Zg ?_
  refine Zb hK43 ?_
  refine Zk ?_
  refine Zv ?_
  refine Zi ?_
  refine Zi ?_
  refine Zv ?_
  refine Zi ?_
  refine Zl rfl (RV.tmp rfl RV.nil) rfl ?_
  obtain rfl := QJ H
  replace hS := hS.cut 0
  exact ⟨rfl, hS⟩
 replace H := Zo H hb
 refine Za rfl rfl rfl (Zd Vo rfl) ?_
 refine Za rfl rfl rfl (Zh Xt rfl (Zgw _) hS Xw trivial Jr) ?_
 refine Zc 1 rfl ?_
 obtain ⟨e44, hi46, H⟩ := bind_some H
 obtain ⟨j45, hi46a, hi46b, hi46c⟩ := Ym hi46
 refine Za rfl rfl rfl (Y1 Xl rfl rfl hi46a hi46c (Rd.el (hS.rd0 s2_.rd) Z9 hi46b)) ?_
 refine Za rfl rfl rfl (Xn Zw rfl (Zgw _) (Rd.el (hS.rd0 s2_.rd) Z9 hi46b) rfl) ?_
 refine Zc 1 rfl ?_
 refine Za rfl rfl rfl (Xc rfl rfl) ?_
 refine Za rfl rfl rfl (Y9 rfl rfl) ?_
 refine Zc 2 rfl ?_
 refine Zs 121 rfl (fun hb => ?_) (fun hb => ?_)
 ·replace H := Zp H hb
  refine Zc 32 rfl ?_
  refine Zg ?_
  refine Zb hK39 ?_
  refine Zt rfl rfl ?_
  refine Ze (fun K hK47 => ?_)
  refine Zf ?_
  refine Zc 1 rfl ?_
  refine Zg ?_
  refine Zb hK47 ?_
  refine Zk ?_
  refine Zv ?_
  refine Zi ?_
  refine Zi ?_
  refine Zv ?_
  refine Zi ?_
  refine Zl rfl (RV.tmp rfl RV.nil) rfl ?_
  obtain rfl := QJ H
  replace hS := hS.cut 0
  exact ⟨rfl, hS⟩
 replace H := Zo H hb
 refine Za rfl rfl rfl (Zd Vt rfl) ?_
 refine Za rfl rfl rfl (Zh Xt rfl (Zgw _) hS Xw trivial Jz) ?_
 refine Zc 1 rfl ?_
 obtain ⟨e48, hi50, H⟩ := bind_some H
 obtain ⟨j49, hi50a, hi50b, hi50c⟩ := Ym hi50
 refine Za rfl rfl rfl (Y1 Xl rfl rfl hi50a hi50c (Rd.el (hS.rd0 s3_.rd) Z9 hi50b)) ?_
 refine Za rfl rfl rfl (Xn Zw rfl (Zgw _) (Rd.el (hS.rd0 s3_.rd) Z9 hi50b) rfl) ?_
 refine Za rfl rfl rfl (Xe rfl rfl) ?_
 refine Zc 2 rfl ?_
 refine Zs 129 rfl (fun hb => ?_) (fun hb => ?_)
 ·replace H := Zp H hb
  refine Zc 24 rfl ?_
  refine Zg ?_
  refine Zb hK39 ?_
  refine Zt rfl rfl ?_
  refine Ze (fun K hK51 => ?_)
  refine Zf ?_
  refine Zc 1 rfl ?_
  refine Zg ?_
  refine Zb hK51 ?_
  refine Zk ?_
  refine Zv ?_
  refine Zi ?_
  refine Zi ?_
  refine Zv ?_
  refine Zi ?_
  refine Zl rfl (RV.tmp rfl RV.nil) rfl ?_
  obtain rfl := QJ H
  replace hS := hS.cut 0
  exact ⟨rfl, hS⟩
 replace H := Zo H hb
 refine Za rfl rfl rfl (Zd Vt rfl) ?_
 refine Za rfl rfl rfl (Zh Xt rfl (Zgw _) hS Xw trivial Jz) ?_
 refine Zc 1 rfl ?_
 obtain ⟨e52, hi54, H⟩ := bind_some H
 obtain ⟨j53, hi54a, hi54b, hi54c⟩ := Ym hi54
 refine Za rfl rfl rfl (Y1 Xl rfl rfl hi54a hi54c (Rd.el (hS.rd0 s3_.rd) Z9 hi54b)) ?_
 refine Za rfl rfl rfl (Xn Zw rfl (Zgw _) (Rd.el (hS.rd0 s3_.rd) Z9 hi54b) rfl) ?_
 refine Zc 1 rfl ?_
 refine Za rfl rfl rfl (Y9 rfl rfl) ?_
 refine Zc 2 rfl ?_
 refine Zs 138 rfl (fun hb => ?_) (fun hb => ?_)
 ·replace H := Zp H hb
  refine Zc 15 rfl ?_
  refine Zg ?_
  refine Zb hK39 ?_
  refine Zt rfl rfl ?_
  refine Ze (fun K hK55 => ?_)
  refine Zf ?_
  refine Zc 1 rfl ?_
  refine Zg ?_
  refine Zb hK55 ?_
  refine Zk ?_
  refine Zv ?_
  refine Zi ?_
  refine Zi ?_
  refine Zv ?_
  refine Zi ?_
  refine Zl rfl (RV.tmp rfl RV.nil) rfl ?_
  obtain rfl := QJ H
  replace hS := hS.cut 0
  exact ⟨rfl, hS⟩
 replace H := Zo H hb
 refine Za rfl rfl rfl (Zd Jn rfl) ?_
 refine Za rfl rfl rfl (Zh Xt rfl (Zgw _) hS Xw trivial Zde) ?_
 refine Zc 1 rfl ?_
 obtain ⟨e56, hi58, H⟩ := bind_some H
 obtain ⟨j57, hi58a, hi58b, hi58c⟩ := Ym hi58
 refine Za rfl rfl rfl (Y1 Xl rfl rfl hi58a hi58c (Rd.el (hS.rd0 s4_.rd) Z9 hi58b)) ?_
 refine Za rfl rfl rfl (Xn Zw rfl (Zgw _) (Rd.el (hS.rd0 s4_.rd) Z9 hi58b) rfl) ?_
 refine Za rfl rfl rfl (Xe rfl rfl) ?_
 refine Zc 2 rfl ?_
 refine Zs 146 rfl (fun hb => ?_) (fun hb => ?_)
 ·replace H := Zp H hb
  refine Zc 7 rfl ?_
  refine Zg ?_
  refine Zb hK39 ?_
  refine Zt rfl rfl ?_
  refine Ze (fun K hK59 => ?_)
  refine Zf ?_
  refine Zc 1 rfl ?_
  refine Zg ?_
  refine Zb hK59 ?_
  refine Zk ?_
  refine Zv ?_
  refine Zi ?_
  refine Zi ?_
  refine Zv ?_
  refine Zi ?_
  refine Zl rfl (RV.tmp rfl RV.nil) rfl ?_
  obtain rfl := QJ H
  replace hS := hS.cut 0
  exact ⟨rfl, hS⟩
 replace H := Zo H hb
 refine Za rfl rfl rfl (Zd Jn rfl) ?_
 refine Za rfl rfl rfl (Zh Xt rfl (Zgw _) hS Xw trivial Zde) ?_
 refine Zc 1 rfl ?_
 obtain ⟨e60, hi62, H⟩ := bind_some H
 obtain ⟨j61, hi62a, hi62b, hi62c⟩ := Ym hi62
 refine Za rfl rfl rfl (Y1 Xl rfl rfl hi62a hi62c (Rd.el (hS.rd0 s4_.rd) Z9 hi62b)) ?_
 refine Za rfl rfl rfl (Xn Zw rfl (Zgw _) (Rd.el (hS.rd0 s4_.rd) Z9 hi62b) rfl) ?_
 refine Za rfl rfl rfl (Y9 rfl rfl) ?_
 refine Zc 1 rfl ?_
 refine Zg ?_
 refine Zb hK39 ?_
 refine Zz rfl (fun hb => ?_) (fun hb => ?_)
 rotate_left
 ·replace H := Zo H hb
  refine Zr ?_
  refine Z1 ?_
  refine Zb hK38 ?_
  refine Zf ?_
  refine Zc 1 rfl ?_
  refine Za rfl rfl rfl (Xc rfl rfl) ?_
  refine Zc 1 rfl ?_
  refine Zg ?_
  exact X3 (n, v34, (IntKind.wrap .i64 (v35 + 1))) (by repeat (first | exact Sub.nil | refine Sub.cons rfl ?_)) ⟨hS, H⟩ (Nat.lt_succ_self _)
 replace H := Zp H hb
 refine Ze (fun K hK63 => ?_)
 refine Zf ?_
 refine Zc 1 rfl ?_
 refine Zg ?_
 refine Zb hK63 ?_
 refine Zk ?_
 refine Zv ?_
 refine Zi ?_
 refine Zi ?_
 refine Zv ?_
 refine Zi ?_
 refine Zl rfl (RV.tmp rfl RV.nil) rfl ?_
 obtain rfl := QJ H
 replace hS := hS.cut 0
 exact ⟨rfl, hS⟩
theorem c_ref12_At (x0 : Tu) (x1 : Int) (A0_ : OA) (c0_ : Nat) (w0 : World) (s0_ : SlI w0 Jj A0_ c0_ x0.log) {r : En × Bool} (H : Zcb x0 x1 = some r) : Calls Tryz.prog 40 #[.agg #[.int .i64 x0.snap.index, .int .i64 x0.snap.term, .int .i64 x0.snap.sum, .int .i64 x0.snap.level, .bool x0.snap.final, .slice A0_ x0.log.length c0_, .int .i64 x0.term, .int .i64 x0.vote], .int .i64 x1] w0 fun e w' => e = .returned (.tuple #[.agg #[.int .i64 r.1.term, .int .i64 r.1.kind, .int .i64 r.1.value], .bool r.2]) ∧ St0 All w0 w' [] := by
 unfold Zcb at H
 refine Yt Tryz.func40 rfl Tryz.ntmps40 rfl ?_
 have hS := St0.start All w0
 refine Ze (fun K hK1 => ?_)
 refine Zf ?_
 refine Yd rfl rfl rfl CellsOf.agg hS (fun b2 w hS hB => ?_)
 refine Yh rfl rfl Zcr hS (fun b4 w hS hB => ?_)
 refine Zc 1 rfl ?_
 refine Zg ?_
 refine Zb hK1 ?_
 refine Ze (fun K hK6 => ?_)
 refine Ze (fun K hK7 => ?_)
 refine Zf ?_
 refine Zc 1 rfl ?_
 refine Za rfl rfl rfl (Zd Xj rfl) ?_
 refine Za rfl rfl rfl (Zd Yj rfl) ?_
 refine Za rfl rfl rfl (Zh Zw rfl (Zgw _) hS Xw trivial Y8) ?_
 refine Za rfl rfl rfl (Zbn rfl rfl) ?_
 refine Zc 1 rfl ?_
 refine Zs 11 rfl (fun hb => ?_) (fun hb => ?_)
 ·replace H := Zp H hb
  refine Zc 5 rfl ?_
  refine Zg ?_
  refine Zb hK7 ?_
  refine Zt rfl rfl ?_
  refine Ze (fun K hK8 => ?_)
  refine Zf ?_
  refine Za rfl rfl rfl (X1 (cells := [.int .i64 0, .int .i64 0, .int .i64 0]) rfl (by kernel_rfl)) ?_
  refine Zm rfl rfl rfl CellsOf.agg hS ps0 Zf8 (by kernel_rfl) rfl (fun w hS hB => ?_)
  refine Zc 1 rfl ?_
  refine Zg ?_
  refine Zb hK8 ?_
  refine Zk ?_
  refine Zi ?_
  refine Zl rfl (RV.cell rfl (Z0 V8 hS hs0 Zb8) (RV.tmp rfl RV.nil)) rfl ?_
  obtain rfl := QJ H
  replace hS := hS.cut 0
  exact ⟨rfl, hS⟩
 replace H := Zo H hb
 refine Zc 1 rfl ?_
 refine Za rfl rfl rfl (Zj Y7 rfl (Zgw _) hS Xw trivial Zbr) ?_
 obtain ⟨r9, hm10, H⟩ := bind_some H
 refine Zq rfl rfl rfl rfl (by kernel_rfl) rfl (Zck x0 A0_ c0_ _ (Zgz s0_.k (hS.rd0 s0_.rd) (hS.blk0 s0_.blk)) hm10) ?_
 rintro e w ⟨rfl, hN⟩; refine ⟨_, rfl, ?_⟩; obtain ⟨hB, hS⟩ := hS.jn hN
 refine Za rfl rfl rfl (Y9 rfl rfl) ?_
 refine Zc 1 rfl ?_
 refine Zg ?_
 refine Zb hK7 ?_
 refine Zz rfl (fun hb => ?_) (fun hb => ?_)
 ·replace H := Zp H hb
  refine Ze (fun K hK11 => ?_)
  refine Zf ?_
  refine Za rfl rfl rfl (X1 (cells := [.int .i64 0, .int .i64 0, .int .i64 0]) rfl (by kernel_rfl)) ?_
  refine Zm rfl rfl rfl CellsOf.agg hS ps0 Zf8 (by kernel_rfl) rfl (fun w hS hB => ?_)
  refine Zc 1 rfl ?_
  refine Zg ?_
  refine Zb hK11 ?_
  refine Zk ?_
  refine Zi ?_
  refine Zl rfl (RV.cell rfl (Z0 V8 hS hs0 Zb8) (RV.tmp rfl RV.nil)) rfl ?_
  obtain rfl := QJ H
  replace hS := hS.cut 0
  exact ⟨rfl, hS⟩
 replace H := Zo H hb
 refine Zr ?_
 refine Zb hK6 ?_
 refine Ze (fun K hK12 => ?_)
 refine Zf ?_
 refine Za rfl rfl rfl (Zd X0 rfl) ?_
 refine Za rfl rfl rfl (Zh Xq rfl (Zgw _) hS Xw trivial V7) ?_
 refine Zc 1 rfl ?_
 refine Za rfl rfl rfl (Zd Xj rfl) ?_
 refine Za rfl rfl rfl (Zd Yj rfl) ?_
 refine Za rfl rfl rfl (Zh Zw rfl (Zgw _) hS Xw trivial Y8) ?_
 refine Za rfl rfl rfl (Za6 rfl rfl) ?_
 refine Za rfl rfl rfl (Za6 rfl rfl) ?_
 obtain ⟨e13, hi15, H⟩ := bind_some H
 obtain ⟨j14, hi15a, hi15b, hi15c⟩ := Ym hi15
 refine Za rfl rfl rfl (Y1 Y4 rfl rfl hi15a hi15c (Rd.el (hS.rd0 s0_.rd) X6 hi15b)) ?_
 refine Za rfl rfl rfl (Zc8 V8 rfl (Zgw _) (Rd.el (hS.rd0 s0_.rd) X6 hi15b) Zb8) ?_
 refine Zm rfl rfl rfl CellsOf.agg hS ps0 Zf8 (by kernel_rfl) rfl (fun w hS hB => ?_)
 refine Zc 1 rfl ?_
 refine Zg ?_
 refine Zb hK12 ?_
 refine Zk ?_
 refine Zl rfl (RV.cell rfl (Z0 V8 hS hs0 Zb8) (RV.tmp rfl RV.nil)) rfl ?_
 obtain rfl := QJ H
 replace hS := hS.cut 0
 exact ⟨rfl, hS⟩
theorem c_ref06_Same (x0 : List En) (x1 : List En) (A0_ : OA) (c0_ : Nat) (A1_ : OA) (c1_ : Nat) (w0 : World) (s0_ : SlI w0 Jj A0_ c0_ x0) (s1_ : SlI w0 Jj A1_ c1_ x1) {r : Bool} (H : Zbm x0 x1 = some r) : Calls Tryz.prog 44 #[.slice A0_ x0.length c0_, .slice A1_ x1.length c1_] w0 fun e w' => e = .returned (.bool r) ∧ St0 All w0 w' [] := by
 unfold Zbm at H
 refine Yt Tryz.func44 rfl Tryz.ntmps44 rfl ?_
 have hS := St0.start All w0
 refine Ze (fun K hK1 => ?_)
 refine Zf ?_
 refine Zc 1 rfl ?_
 refine Zg ?_
 refine Zb hK1 ?_
 refine Ze (fun K hK2 => ?_)
 refine Ze (fun K hK3 => ?_)
 refine Zf ?_
 refine Zc 1 rfl ?_
 refine Za rfl rfl rfl (Yw Y4 rfl) ?_
 refine Zc 1 rfl ?_
 refine Za rfl rfl rfl (Yw Y4 rfl) ?_
 refine Za rfl rfl rfl (Xh rfl rfl) ?_
 refine Zg ?_
 refine Zb hK3 ?_
 refine Zz rfl (fun hb => ?_) (fun hb => ?_)
 ·replace H := Zp H hb
  refine Ze (fun K hK4 => ?_)
  refine Zf ?_
  refine Zc 1 rfl ?_
  refine Zg ?_
  refine Zb hK4 ?_
  refine Zk ?_
  refine Zi ?_
  refine Zl rfl (RV.tmp rfl RV.nil) rfl ?_
  obtain rfl := QJ H
  replace hS := hS.cut 0
  exact ⟨rfl, hS⟩
 replace H := Zo H hb
 refine Zr ?_
 refine Zb hK2 ?_
 refine Ze (fun K hK5 => ?_)
 refine Ze (fun K hK6 => ?_)
 refine Zf ?_
 refine Zc 1 rfl ?_
 refine Zg ?_
 refine Zb hK6 ?_
 refine Yf ?_
 refine Vz (X := Nat × Bool × Int) (fun x => (0, .slice A0_ x0.length c0_) :: (1, .slice A1_ x1.length c1_) :: (4, .bool x.2.1) :: (5, .int .i64 x.2.2) :: []) (fun x w => St0 All w0 w ([]) ∧ J8 x0 x1 x.1 x.2.1 x.2.2 = some r) (fun x => x.1) (Xo, false, 0) (by repeat (first | exact Sub.nil | refine Sub.cons rfl ?_)) ⟨hS, H⟩ ?_
 rintro ⟨n, v7, v8⟩ w ⟨hS, H⟩
 dsimp only at hS H ⊢
 obtain _ | n := n
 ·have H0 : none = some r := H
  cases H0
 rw [J8] at H
 refine Ze (fun K hK9 => ?_)
 refine Ze (fun K hK10 => ?_)
 refine Zf ?_
 refine Zc 2 rfl ?_
 refine Za rfl rfl rfl (Yw Y4 rfl) ?_
 refine Za rfl rfl rfl (Xe rfl rfl) ?_
 refine Zg ?_
 refine Zb hK10 ?_
 refine Zz rfl (fun hb => ?_) (fun hb => ?_)
 rotate_left
 ·replace H := Zo H hb
  refine Vl ?_
  refine Yb ?_
  refine Yb ?_
  refine Y6 ?_
  refine Zb hK5 ?_
  refine Ze (fun K hK20 => ?_)
  refine Zf ?_
  refine Zc 1 rfl ?_
  refine Zg ?_
  refine Zb hK20 ?_
  refine Zk ?_
  refine Zl rfl (RV.tmp rfl RV.nil) rfl ?_
  obtain rfl := QJ H
  replace hS := hS.cut 0
  exact ⟨rfl, hS⟩
 replace H := Zp H hb
 refine Zr ?_
 refine Zb hK9 ?_
 refine Ze (fun K hK11 => ?_)
 refine Yf ?_
 refine Ze (fun K hK12 => ?_)
 refine Yi 9 [] (fun _ _ => True) ⟨by kernel_rfl, by kernel_rfl⟩ hS (fun w hS hB => ?_)
 refine Zn [true, true, true, true, true, true, true, true, true] (by decide +kernel) PFC.h ?_
 refine LtK.put rfl rfl rfl (Zu rfl) ?_
 refine LtK.put rfl rfl rfl (Zu rfl) ?_
 obtain ⟨e13, hi15, H⟩ := bind_some H
 obtain ⟨j14, hi15a, hi15b, hi15c⟩ := Ym hi15
 refine LtK.put rfl rfl rfl (Y1 Y4 rfl rfl hi15a hi15c (Rd.el (hS.rd0 s0_.rd) X6 hi15b)) ?_
 refine LtK.put rfl rfl rfl (Zc8 V8 rfl (Zgx _) (Rd.el (hS.rd0 s0_.rd) X6 hi15b) Zb8) ?_
 refine LtK.put rfl rfl rfl (Zu rfl) ?_
 refine LtK.put rfl rfl rfl (Zu rfl) ?_
 obtain ⟨e16, hi18, H⟩ := bind_some H
 obtain ⟨j17, hi18a, hi18b, hi18c⟩ := Ym hi18
 refine LtK.put rfl rfl rfl (Y1 Y4 rfl rfl hi18a hi18c (Rd.el (hS.rd0 s1_.rd) X6 hi18b)) ?_
 refine LtK.put rfl rfl rfl (Zc8 V8 rfl (Zgx _) (Rd.el (hS.rd0 s1_.rd) X6 hi18b) Zb8) ?_
 refine LtK.put rfl rfl rfl (yv_neqS (by kernel_rfl) rfl rfl (eqT_53 _ _ _ _ _ _)) ?_
 refine LtK.nil ?_
 refine Z4 (by kernel_rfl) ?_
 refine Zb hK12 ?_
 refine Zz rfl (fun hb => ?_) (fun hb => ?_)
 rotate_left
 ·replace H := Zo H hb
  refine Zr ?_
  refine Z1 ?_
  refine Zb hK11 ?_
  refine Zf ?_
  refine Zc 1 rfl ?_
  refine Za rfl rfl rfl (Xc rfl rfl) ?_
  refine Zc 1 rfl ?_
  refine Zg ?_
  exact X3 (n, v7, (IntKind.wrap .i64 (v8 + 1))) (by repeat (first | exact Sub.nil | refine Sub.cons rfl ?_)) ⟨hS, H⟩ (Nat.lt_succ_self _)
 replace H := Zp H hb
 refine Ze (fun K hK19 => ?_)
 refine Zf ?_
 refine Zc 1 rfl ?_
 refine Zg ?_
 refine Zb hK19 ?_
 refine Zk ?_
 refine Zv ?_
 refine Zi ?_
 refine Zi ?_
 refine Zv ?_
 refine Zi ?_
 refine Zl rfl (RV.tmp rfl RV.nil) rfl ?_
 obtain rfl := QJ H
 replace hS := hS.cut 0
 exact ⟨rfl, hS⟩
theorem c_ref12_Same (x0 : Tu) (x1 : Tu) (A0_ : OA) (c0_ : Nat) (A1_ : OA) (c1_ : Nat) (w0 : World) (s0_ : SlI w0 Jj A0_ c0_ x0.log) (s1_ : SlI w0 Jj A1_ c1_ x1.log) {r : Bool} (H : Zds x0 x1 = some r) : Calls Tryz.prog 57 #[.agg #[.int .i64 x0.snap.index, .int .i64 x0.snap.term, .int .i64 x0.snap.sum, .int .i64 x0.snap.level, .bool x0.snap.final, .slice A0_ x0.log.length c0_, .int .i64 x0.term, .int .i64 x0.vote], .agg #[.int .i64 x1.snap.index, .int .i64 x1.snap.term, .int .i64 x1.snap.sum, .int .i64 x1.snap.level, .bool x1.snap.final, .slice A1_ x1.log.length c1_, .int .i64 x1.term, .int .i64 x1.vote]] w0 fun e w' => e = .returned (.bool r) ∧ St0 All w0 w' [] := by
 unfold Zds at H
 refine Yt Tryz.func57 rfl Tryz.ntmps57 rfl ?_
 have hS := St0.start All w0
 refine Ze (fun K hK1 => ?_)
 refine Zf ?_
 refine Yd rfl rfl rfl CellsOf.agg hS (fun b2 w hS hB => ?_)
 refine Yd rfl rfl rfl CellsOf.agg hS (fun b4 w hS hB => ?_)
 refine Zc 1 rfl ?_
 refine Zg ?_
 refine Zb hK1 ?_
 refine Ze (fun K hK6 => ?_)
 refine Zf ?_
 refine Za rfl rfl rfl (Zd Xj rfl) ?_
 refine Za rfl rfl rfl (Zj Y3 rfl (Zgw _) hS Xw trivial Je) ?_
 refine Za rfl rfl rfl (Zd Xj rfl) ?_
 refine Za rfl rfl rfl (Zj Y3 rfl (Zgw _) hS hs0 trivial Je) ?_
 refine Za rfl rfl rfl (J6 (by kernel_rfl) rfl rfl (Zap _ _ _ _ _ _ _ _ _ _)) ?_
 refine Zc 1 rfl ?_
 refine Zs 10 rfl (fun hb => ?_) (fun hb => ?_)
 rotate_left
 ·replace H := Zo H hb
  refine Zc 21 rfl ?_
  refine Zg ?_
  refine Zb hK6 ?_
  refine Zk ?_
  refine Zl rfl (RV.tmp rfl RV.nil) rfl ?_
  obtain rfl := QJ H
  replace hS := hS.cut 0
  exact ⟨rfl, hS⟩
 replace H := Zp H hb
 refine Za rfl rfl rfl (Zd Vr rfl) ?_
 refine Za rfl rfl rfl (Zh Zw rfl (Zgw _) hS Xw trivial sg6_1) ?_
 refine Za rfl rfl rfl (Zd Vr rfl) ?_
 refine Za rfl rfl rfl (Zh Zw rfl (Zgw _) hS hs0 trivial sg6_1) ?_
 refine Za rfl rfl rfl (Y5 rfl rfl) ?_
 refine Zc 2 rfl ?_
 refine Zs 17 rfl (fun hb => ?_) (fun hb => ?_)
 rotate_left
 ·replace H := Zo H hb
  refine Zc 14 rfl ?_
  refine Zg ?_
  refine Zb hK6 ?_
  refine Zk ?_
  refine Zl rfl (RV.tmp rfl RV.nil) rfl ?_
  obtain rfl := QJ H
  replace hS := hS.cut 0
  exact ⟨rfl, hS⟩
 replace H := Zp H hb
 refine Za rfl rfl rfl (Zd Zar rfl) ?_
 refine Za rfl rfl rfl (Zh Zw rfl (Zgw _) hS Xw trivial Zey) ?_
 refine Za rfl rfl rfl (Zd Zar rfl) ?_
 refine Za rfl rfl rfl (Zh Zw rfl (Zgw _) hS hs0 trivial Zey) ?_
 refine Za rfl rfl rfl (Y5 rfl rfl) ?_
 refine Zc 2 rfl ?_
 refine Zs 24 rfl (fun hb => ?_) (fun hb => ?_)
 rotate_left
 ·replace H := Zo H hb
  refine Zc 7 rfl ?_
  refine Zg ?_
  refine Zb hK6 ?_
  refine Zk ?_
  refine Zl rfl (RV.tmp rfl RV.nil) rfl ?_
  obtain rfl := QJ H
  replace hS := hS.cut 0
  exact ⟨rfl, hS⟩
 replace H := Zp H hb
 refine Za rfl rfl rfl (Zd X0 rfl) ?_
 refine Za rfl rfl rfl (Zh Xq rfl (Zgw _) hS Xw trivial V7) ?_
 refine Za rfl rfl rfl (Zd X0 rfl) ?_
 refine Za rfl rfl rfl (Zh Xq rfl (Zgw _) hS hs0 trivial V7) ?_
 obtain ⟨r7, hm8, H⟩ := bind_some H
 refine Zq rfl rfl rfl rfl (by kernel_rfl) rfl (c_ref06_Same x0.log x1.log A0_ c0_ A1_ c1_ _ (Zgz s0_.k (hS.rd0 s0_.rd) (hS.blk0 s0_.blk)) (Zgz s1_.k (hS.rd0 s1_.rd) (hS.blk0 s1_.blk)) hm8) ?_
 rintro e w ⟨rfl, hN⟩; refine ⟨_, rfl, ?_⟩; obtain ⟨hB, hS⟩ := hS.jn hN
 refine Zc 2 rfl ?_
 refine Zg ?_
 refine Zb hK6 ?_
 refine Zk ?_
 refine Zl rfl (RV.tmp rfl RV.nil) rfl ?_
 obtain rfl := QJ H
 replace hS := hS.cut 0
 exact ⟨rfl, hS⟩
theorem c_ref20_ints (x0 : List Int) (x1 : List Int) (A0_ : OA) (c0_ : Nat) (A1_ : OA) (c1_ : Nat) (w0 : World) (s0_ : SlI w0 V1 A0_ c0_ x0) (s1_ : SlI w0 V1 A1_ c1_ x1) {r : Bool} (H : Zbl x0 x1 = some r) : Calls Tryz.prog 58 #[.slice A0_ x0.length c0_, .slice A1_ x1.length c1_] w0 fun e w' => e = .returned (.bool r) ∧ St0 All w0 w' [] := by
 unfold Zbl at H
 refine Yt Tryz.func58 rfl Tryz.ntmps58 rfl ?_
 have hS := St0.start All w0
 refine Ze (fun K hK1 => ?_)
 refine Zf ?_
 refine Zc 1 rfl ?_
 refine Zg ?_
 refine Zb hK1 ?_
 refine Ze (fun K hK2 => ?_)
 refine Ze (fun K hK3 => ?_)
 refine Zf ?_
 refine Zc 1 rfl ?_
 refine Za rfl rfl rfl (Yw Xl rfl) ?_
 refine Zc 1 rfl ?_
 refine Za rfl rfl rfl (Yw Xl rfl) ?_
 refine Za rfl rfl rfl (Xh rfl rfl) ?_
 refine Zg ?_
 refine Zb hK3 ?_
 refine Zz rfl (fun hb => ?_) (fun hb => ?_)
 ·replace H := Zp H hb
  refine Ze (fun K hK4 => ?_)
  refine Zf ?_
  refine Zc 1 rfl ?_
  refine Zg ?_
  refine Zb hK4 ?_
  refine Zk ?_
  refine Zi ?_
  refine Zl rfl (RV.tmp rfl RV.nil) rfl ?_
  obtain rfl := QJ H
  replace hS := hS.cut 0
  exact ⟨rfl, hS⟩
 replace H := Zo H hb
 refine Zr ?_
 refine Zb hK2 ?_
 refine Ze (fun K hK5 => ?_)
 refine Ze (fun K hK6 => ?_)
 refine Zf ?_
 refine Zc 1 rfl ?_
 refine Zg ?_
 refine Zb hK6 ?_
 refine Yf ?_
 refine Vz (X := Nat × Bool × Int) (fun x => (0, .slice A0_ x0.length c0_) :: (1, .slice A1_ x1.length c1_) :: (4, .bool x.2.1) :: (5, .int .i64 x.2.2) :: []) (fun x w => St0 All w0 w ([]) ∧ Zab x0 x1 x.1 x.2.1 x.2.2 = some r) (fun x => x.1) (Xo, false, 0) (by repeat (first | exact Sub.nil | refine Sub.cons rfl ?_)) ⟨hS, H⟩ ?_
 rintro ⟨n, v7, v8⟩ w ⟨hS, H⟩
 dsimp only at hS H ⊢
 obtain _ | n := n
 ·have H0 : none = some r := H
  cases H0
 rw [Zab] at H
 refine Ze (fun K hK9 => ?_)
 refine Ze (fun K hK10 => ?_)
 refine Zf ?_
 refine Zc 2 rfl ?_
 refine Za rfl rfl rfl (Yw Xl rfl) ?_
 refine Za rfl rfl rfl (Xe rfl rfl) ?_
 refine Zg ?_
 refine Zb hK10 ?_
 refine Zz rfl (fun hb => ?_) (fun hb => ?_)
 rotate_left
 ·replace H := Zo H hb
  refine Vl ?_
  refine Yb ?_
  refine Yb ?_
  refine Y6 ?_
  refine Zb hK5 ?_
  refine Ze (fun K hK20 => ?_)
  refine Zf ?_
  refine Zc 1 rfl ?_
  refine Zg ?_
  refine Zb hK20 ?_
  refine Zk ?_
  refine Zl rfl (RV.tmp rfl RV.nil) rfl ?_
  obtain rfl := QJ H
  replace hS := hS.cut 0
  exact ⟨rfl, hS⟩
 replace H := Zp H hb
 refine Zr ?_
 refine Zb hK9 ?_
 refine Ze (fun K hK11 => ?_)
 refine Yf ?_
 refine Ze (fun K hK12 => ?_)
 refine Yi 9 [] (fun _ _ => True) ⟨by kernel_rfl, by kernel_rfl⟩ hS (fun w hS hB => ?_)
 refine Zn [true, true, true, true, true, true, true, true, true] (by decide +kernel) PFC.h ?_
 refine LtK.put rfl rfl rfl (Zu rfl) ?_
 refine LtK.put rfl rfl rfl (Zu rfl) ?_
 obtain ⟨e13, hi15, H⟩ := bind_some H
 obtain ⟨j14, hi15a, hi15b, hi15c⟩ := Ym hi15
 refine LtK.put rfl rfl rfl (Y1 Xl rfl rfl hi15a hi15c (Rd.el (hS.rd0 s0_.rd) Z9 hi15b)) ?_
 refine LtK.put rfl rfl rfl (Xn Zw rfl (Zgx _) (Rd.el (hS.rd0 s0_.rd) Z9 hi15b) rfl) ?_
 refine LtK.put rfl rfl rfl (Zu rfl) ?_
 refine LtK.put rfl rfl rfl (Zu rfl) ?_
 obtain ⟨e16, hi18, H⟩ := bind_some H
 obtain ⟨j17, hi18a, hi18b, hi18c⟩ := Ym hi18
 refine LtK.put rfl rfl rfl (Y1 Xl rfl rfl hi18a hi18c (Rd.el (hS.rd0 s1_.rd) Z9 hi18b)) ?_
 refine LtK.put rfl rfl rfl (Xn Zw rfl (Zgx _) (Rd.el (hS.rd0 s1_.rd) Z9 hi18b) rfl) ?_
 refine LtK.put rfl rfl rfl (Xh rfl rfl) ?_
 refine LtK.nil ?_
 refine Z4 (by kernel_rfl) ?_
 refine Zb hK12 ?_
 refine Zz rfl (fun hb => ?_) (fun hb => ?_)
 rotate_left
 ·replace H := Zo H hb
  refine Zr ?_
  refine Z1 ?_
  refine Zb hK11 ?_
  refine Zf ?_
  refine Zc 1 rfl ?_
  refine Za rfl rfl rfl (Xc rfl rfl) ?_
  refine Zc 1 rfl ?_
  refine Zg ?_
  exact X3 (n, v7, (IntKind.wrap .i64 (v8 + 1))) (by repeat (first | exact Sub.nil | refine Sub.cons rfl ?_)) ⟨hS, H⟩ (Nat.lt_succ_self _)
 replace H := Zp H hb
 refine Ze (fun K hK19 => ?_)
 refine Zf ?_
 refine Zc 1 rfl ?_
 refine Zg ?_
 refine Zb hK19 ?_
 refine Zk ?_
 refine Zv ?_
 refine Zi ?_
 refine Zi ?_
 refine Zv ?_
 refine Zi ?_
 refine Zl rfl (RV.tmp rfl RV.nil) rfl ?_
 obtain rfl := QJ H
 replace hS := hS.cut 0
 exact ⟨rfl, hS⟩
theorem Zfd (x0 : Co) (x1 : Co) (A0_ : OA) (c0_ : Nat) (A1_ : OA) (c1_ : Nat) (A2_ : OA) (c2_ : Nat) (A3_ : OA) (c3_ : Nat) (A4_ : OA) (c4_ : Nat) (A5_ : OA) (c5_ : Nat) (A6_ : OA) (c6_ : Nat) (A7_ : OA) (c7_ : Nat) (A8_ : OA) (c8_ : Nat) (A9_ : OA) (c9_ : Nat) (w0 : World) (s0_ : SlI w0 Jj A0_ c0_ x0.tuple.log) (s1_ : SlI w0 enO A1_ c1_ x0.votes) (s2_ : SlI w0 V1 A2_ c2_ x0.next) (s3_ : SlI w0 V1 A3_ c3_ x0.mtch) (s4_ : SlI w0 V1 A4_ c4_ x0.caps) (s5_ : SlI w0 Jj A5_ c5_ x1.tuple.log) (s6_ : SlI w0 enO A6_ c6_ x1.votes) (s7_ : SlI w0 V1 A7_ c7_ x1.next) (s8_ : SlI w0 V1 A8_ c8_ x1.mtch) (s9_ : SlI w0 V1 A9_ c9_ x1.caps) {r : Bool} (H : Zaz x0 x1 = some r) : Calls Tryz.prog 11 #[.agg #[.int .i64 x0.id, .int .i64 x0.n, .int .u8 x0.role, .int .i64 x0.binary, .int .i64 x0.tuple.snap.index, .int .i64 x0.tuple.snap.term, .int .i64 x0.tuple.snap.sum, .int .i64 x0.tuple.snap.level, .bool x0.tuple.snap.final, .slice A0_ x0.tuple.log.length c0_, .int .i64 x0.tuple.term, .int .i64 x0.tuple.vote, .int .i64 x0.commit, .int .i64 x0.applied.index, .int .i64 x0.applied.term, .int .i64 x0.applied.sum, .int .i64 x0.applied.level, .bool x0.applied.final, .slice A1_ x0.votes.length c1_, .slice A2_ x0.next.length c2_, .slice A3_ x0.mtch.length c3_, .slice A4_ x0.caps.length c4_], .agg #[.int .i64 x1.id, .int .i64 x1.n, .int .u8 x1.role, .int .i64 x1.binary, .int .i64 x1.tuple.snap.index, .int .i64 x1.tuple.snap.term, .int .i64 x1.tuple.snap.sum, .int .i64 x1.tuple.snap.level, .bool x1.tuple.snap.final, .slice A5_ x1.tuple.log.length c5_, .int .i64 x1.tuple.term, .int .i64 x1.tuple.vote, .int .i64 x1.commit, .int .i64 x1.applied.index, .int .i64 x1.applied.term, .int .i64 x1.applied.sum, .int .i64 x1.applied.level, .bool x1.applied.final, .slice A6_ x1.votes.length c6_, .slice A7_ x1.next.length c7_, .slice A8_ x1.mtch.length c8_, .slice A9_ x1.caps.length c9_]] w0 fun e w' => e = .returned (.bool r) ∧ St0 All w0 w' [] := by
 unfold Zaz at H
 refine Yt Tryz.func11 rfl Tryz.ntmps11 rfl ?_
 have hS := St0.start All w0
 refine Ze (fun K hK1 => ?_)
 refine Zf ?_
 refine Yd rfl rfl rfl CellsOf.agg hS (fun b2 w hS hB => ?_)
 refine Yd rfl rfl rfl CellsOf.agg hS (fun b4 w hS hB => ?_)
 refine Zc 1 rfl ?_
 refine Zg ?_
 refine Zb hK1 ?_
 refine Ze (fun K hK6 => ?_)
 refine Ze (fun K hK7 => ?_)
 refine Zf ?_
 refine Za rfl rfl rfl (Zd Zbb rfl) ?_
 refine Za rfl rfl rfl (Zh Zw rfl (Zgw _) hS Xw trivial Y8) ?_
 refine Za rfl rfl rfl (Zd Zbb rfl) ?_
 refine Za rfl rfl rfl (Zh Zw rfl (Zgw _) hS hs0 trivial Y8) ?_
 refine Za rfl rfl rfl (Xh rfl rfl) ?_
 refine Zc 1 rfl ?_
 refine Zs 11 rfl (fun hb => ?_) (fun hb => ?_)
 ·replace H := Zp H hb
  refine Zc 51 rfl ?_
  refine Zg ?_
  refine Zb hK7 ?_
  refine Zt rfl rfl ?_
  refine Ze (fun K hK8 => ?_)
  refine Zf ?_
  refine Zc 1 rfl ?_
  refine Zg ?_
  refine Zb hK8 ?_
  refine Zk ?_
  refine Zi ?_
  refine Zl rfl (RV.tmp rfl RV.nil) rfl ?_
  obtain rfl := QJ H
  replace hS := hS.cut 0
  exact ⟨rfl, hS⟩
 replace H := Zo H hb
 refine Za rfl rfl rfl (Zd Ja rfl) ?_
 refine Za rfl rfl rfl (Zh Zw rfl (Zgw _) hS Xw trivial Vp) ?_
 refine Za rfl rfl rfl (Zd Ja rfl) ?_
 refine Za rfl rfl rfl (Zh Zw rfl (Zgw _) hS hs0 trivial Vp) ?_
 refine Za rfl rfl rfl (Xh rfl rfl) ?_
 refine Zc 2 rfl ?_
 refine Zs 18 rfl (fun hb => ?_) (fun hb => ?_)
 ·replace H := Zp H hb
  refine Zc 44 rfl ?_
  refine Zg ?_
  refine Zb hK7 ?_
  refine Zt rfl rfl ?_
  refine Ze (fun K hK9 => ?_)
  refine Zf ?_
  refine Zc 1 rfl ?_
  refine Zg ?_
  refine Zb hK9 ?_
  refine Zk ?_
  refine Zi ?_
  refine Zl rfl (RV.tmp rfl RV.nil) rfl ?_
  obtain rfl := QJ H
  replace hS := hS.cut 0
  exact ⟨rfl, hS⟩
 replace H := Zo H hb
 refine Za rfl rfl rfl (Zd Zb0 rfl) ?_
 refine Za rfl rfl rfl (Zh Zbd rfl (Zgw _) hS Xw trivial Zav) ?_
 refine Za rfl rfl rfl (Zd Zb0 rfl) ?_
 refine Za rfl rfl rfl (Zh Zbd rfl (Zgw _) hS hs0 trivial Zav) ?_
 refine Za rfl rfl rfl (Xh rfl rfl) ?_
 refine Zc 2 rfl ?_
 refine Zs 25 rfl (fun hb => ?_) (fun hb => ?_)
 ·replace H := Zp H hb
  refine Zc 37 rfl ?_
  refine Zg ?_
  refine Zb hK7 ?_
  refine Zt rfl rfl ?_
  refine Ze (fun K hK10 => ?_)
  refine Zf ?_
  refine Zc 1 rfl ?_
  refine Zg ?_
  refine Zb hK10 ?_
  refine Zk ?_
  refine Zi ?_
  refine Zl rfl (RV.tmp rfl RV.nil) rfl ?_
  obtain rfl := QJ H
  replace hS := hS.cut 0
  exact ⟨rfl, hS⟩
 replace H := Zo H hb
 refine Za rfl rfl rfl (Zd Zej rfl) ?_
 refine Za rfl rfl rfl (Zh Zw rfl (Zgw _) hS Xw trivial Zan) ?_
 refine Za rfl rfl rfl (Zd Zej rfl) ?_
 refine Za rfl rfl rfl (Zh Zw rfl (Zgw _) hS hs0 trivial Zan) ?_
 refine Za rfl rfl rfl (Xh rfl rfl) ?_
 refine Zc 2 rfl ?_
 refine Zs 32 rfl (fun hb => ?_) (fun hb => ?_)
 ·replace H := Zp H hb
  refine Zc 30 rfl ?_
  refine Zg ?_
  refine Zb hK7 ?_
  refine Zt rfl rfl ?_
  refine Ze (fun K hK11 => ?_)
  refine Zf ?_
  refine Zc 1 rfl ?_
  refine Zg ?_
  refine Zb hK11 ?_
  refine Zk ?_
  refine Zi ?_
  refine Zl rfl (RV.tmp rfl RV.nil) rfl ?_
  obtain rfl := QJ H
  replace hS := hS.cut 0
  exact ⟨rfl, hS⟩
 replace H := Zo H hb
 refine Za rfl rfl rfl (Zd Yr rfl) ?_
 refine Za rfl rfl rfl (Zj Y7 rfl (Zgw _) hS Xw trivial Zak) ?_
 refine Za rfl rfl rfl (Zd Yr rfl) ?_
 refine Za rfl rfl rfl (Zj Y7 rfl (Zgw _) hS hs0 trivial Zak) ?_
 obtain ⟨r12, hm13, H⟩ := bind_some H
 refine Zq rfl rfl rfl rfl (by kernel_rfl) rfl (c_ref12_Same x0.tuple x1.tuple A0_ c0_ A5_ c5_ _ (Zgz s0_.k (hS.rd0 s0_.rd) (hS.blk0 s0_.blk)) (Zgz s5_.k (hS.rd0 s5_.rd) (hS.blk0 s5_.blk)) hm13) ?_
 rintro e w ⟨rfl, hN⟩; refine ⟨_, rfl, ?_⟩; obtain ⟨hB, hS⟩ := hS.jn hN
 refine Za rfl rfl rfl (Yy rfl) ?_
 refine Zc 2 rfl ?_
 refine Zs 40 rfl (fun hb => ?_) (fun hb => ?_)
 ·replace H := Zp H hb
  refine Zc 22 rfl ?_
  refine Zg ?_
  refine Zb hK7 ?_
  refine Zt rfl rfl ?_
  refine Ze (fun K hK14 => ?_)
  refine Zf ?_
  refine Zc 1 rfl ?_
  refine Zg ?_
  refine Zb hK14 ?_
  refine Zk ?_
  refine Zi ?_
  refine Zl rfl (RV.tmp rfl RV.nil) rfl ?_
  obtain rfl := QJ H
  replace hS := hS.cut 0
  exact ⟨rfl, hS⟩
 replace H := Zo H hb
 refine Za rfl rfl rfl (Zd Vd rfl) ?_
 refine Za rfl rfl rfl (Zh Zw rfl (Zgw _) hS Xw trivial Jl) ?_
 refine Za rfl rfl rfl (Zd Vd rfl) ?_
 refine Za rfl rfl rfl (Zh Zw rfl (Zgw _) hS hs0 trivial Jl) ?_
 refine Za rfl rfl rfl (Xh rfl rfl) ?_
 refine Zc 2 rfl ?_
 refine Zs 47 rfl (fun hb => ?_) (fun hb => ?_)
 ·replace H := Zp H hb
  refine Zc 15 rfl ?_
  refine Zg ?_
  refine Zb hK7 ?_
  refine Zt rfl rfl ?_
  refine Ze (fun K hK15 => ?_)
  refine Zf ?_
  refine Zc 1 rfl ?_
  refine Zg ?_
  refine Zb hK15 ?_
  refine Zk ?_
  refine Zi ?_
  refine Zl rfl (RV.tmp rfl RV.nil) rfl ?_
  obtain rfl := QJ H
  replace hS := hS.cut 0
  exact ⟨rfl, hS⟩
 replace H := Zo H hb
 refine Za rfl rfl rfl (Zd Zei rfl) ?_
 refine Za rfl rfl rfl (Zj Y3 rfl (Zgw _) hS Xw trivial sg13_5) ?_
 refine Za rfl rfl rfl (Zd Zei rfl) ?_
 refine Za rfl rfl rfl (Zj Y3 rfl (Zgw _) hS hs0 trivial sg13_5) ?_
 refine Za rfl rfl rfl (yv_neqS (by kernel_rfl) rfl rfl (Zap _ _ _ _ _ _ _ _ _ _)) ?_
 refine Zc 2 rfl ?_
 refine Zs 54 rfl (fun hb => ?_) (fun hb => ?_)
 ·replace H := Zp H hb
  refine Zc 8 rfl ?_
  refine Zg ?_
  refine Zb hK7 ?_
  refine Zt rfl rfl ?_
  refine Ze (fun K hK16 => ?_)
  refine Zf ?_
  refine Zc 1 rfl ?_
  refine Zg ?_
  refine Zb hK16 ?_
  refine Zk ?_
  refine Zi ?_
  refine Zl rfl (RV.tmp rfl RV.nil) rfl ?_
  obtain rfl := QJ H
  replace hS := hS.cut 0
  exact ⟨rfl, hS⟩
 replace H := Zo H hb
 refine Za rfl rfl rfl (Zd Za9 rfl) ?_
 refine Za rfl rfl rfl (Zh sc_27 rfl (Zgw _) hS Xw trivial Zfu) ?_
 refine Za rfl rfl rfl (Yw el_27 rfl) ?_
 refine Za rfl rfl rfl (Zd Za9 rfl) ?_
 refine Za rfl rfl rfl (Zh sc_27 rfl (Zgw _) hS hs0 trivial Zfu) ?_
 refine Za rfl rfl rfl (Yw el_27 rfl) ?_
 refine Za rfl rfl rfl (Xh rfl rfl) ?_
 refine Zc 1 rfl ?_
 refine Zg ?_
 refine Zb hK7 ?_
 refine Zz rfl (fun hb => ?_) (fun hb => ?_)
 ·replace H := Zp H hb
  refine Ze (fun K hK17 => ?_)
  refine Zf ?_
  refine Zc 1 rfl ?_
  refine Zg ?_
  refine Zb hK17 ?_
  refine Zk ?_
  refine Zi ?_
  refine Zl rfl (RV.tmp rfl RV.nil) rfl ?_
  obtain rfl := QJ H
  replace hS := hS.cut 0
  exact ⟨rfl, hS⟩
 replace H := Zo H hb
 refine Zr ?_
 refine Zb hK6 ?_
 refine Ze (fun K hK18 => ?_)
 refine Ze (fun K hK19 => ?_)
 refine Zf ?_
 refine Zc 1 rfl ?_
 refine Zg ?_
 refine Zb hK19 ?_
 refine Yf ?_
 refine Vz (X := Nat × Bool × Int) (fun x => (2, .pointer (some ⟨b2, 0, none⟩)) :: (3, .pointer (some ⟨b4, 0, none⟩)) :: (4, .bool x.2.1) :: (5, .int .i64 x.2.2) :: []) (fun x w => St0 All w0 w (.box b4 [.int .i64 x1.id, .int .i64 x1.n, .int .u8 x1.role, .int .i64 x1.binary, .int .i64 x1.tuple.snap.index, .int .i64 x1.tuple.snap.term, .int .i64 x1.tuple.snap.sum, .int .i64 x1.tuple.snap.level, .bool x1.tuple.snap.final, .slice A5_ x1.tuple.log.length c5_, .int .i64 x1.tuple.term, .int .i64 x1.tuple.vote, .int .i64 x1.commit, .int .i64 x1.applied.index, .int .i64 x1.applied.term, .int .i64 x1.applied.sum, .int .i64 x1.applied.level, .bool x1.applied.final, .slice A6_ x1.votes.length c6_, .slice A7_ x1.next.length c7_, .slice A8_ x1.mtch.length c8_, .slice A9_ x1.caps.length c9_] 30 :: .box b2 [.int .i64 x0.id, .int .i64 x0.n, .int .u8 x0.role, .int .i64 x0.binary, .int .i64 x0.tuple.snap.index, .int .i64 x0.tuple.snap.term, .int .i64 x0.tuple.snap.sum, .int .i64 x0.tuple.snap.level, .bool x0.tuple.snap.final, .slice A0_ x0.tuple.log.length c0_, .int .i64 x0.tuple.term, .int .i64 x0.tuple.vote, .int .i64 x0.commit, .int .i64 x0.applied.index, .int .i64 x0.applied.term, .int .i64 x0.applied.sum, .int .i64 x0.applied.level, .bool x0.applied.final, .slice A1_ x0.votes.length c1_, .slice A2_ x0.next.length c2_, .slice A3_ x0.mtch.length c3_, .slice A4_ x0.caps.length c4_] 30 :: []) ∧ J9 x0 x1 x.1 x.2.1 x.2.2 = some r) (fun x => x.1) (Xo, false, 0) (by repeat (first | exact Sub.nil | refine Sub.cons rfl ?_)) ⟨hS, H⟩ ?_
 rintro ⟨n, v20, v21⟩ w ⟨hS, H⟩
 dsimp only at hS H ⊢
 obtain _ | n := n
 ·have H0 : none = some r := H
  cases H0
 rw [J9] at H
 refine Ze (fun K hK22 => ?_)
 refine Ze (fun K hK23 => ?_)
 refine Zf ?_
 refine Zc 1 rfl ?_
 refine Za rfl rfl rfl (Zd Za9 rfl) ?_
 refine Za rfl rfl rfl (Zh sc_27 rfl (Zgw _) hS Xw trivial Zfu) ?_
 refine Za rfl rfl rfl (Yw el_27 rfl) ?_
 refine Za rfl rfl rfl (Xe rfl rfl) ?_
 refine Zg ?_
 refine Zb hK23 ?_
 refine Zz rfl (fun hb => ?_) (fun hb => ?_)
 ·replace H := Zp H hb
  refine Zr ?_
  refine Zb hK22 ?_
  refine Ze (fun K hK24 => ?_)
  refine Yf ?_
  refine Ze (fun K hK25 => ?_)
  refine Yi 11 [] (fun _ _ => True) ⟨by kernel_rfl, by kernel_rfl⟩ hS (fun w hS hB => ?_)
  refine Zn [true, true, true, true, true, true, true, true, true, true, true] (by decide +kernel) PFC.h ?_
  refine LtK.put rfl rfl rfl (Zd Za9 rfl) ?_
  refine LtK.put rfl rfl rfl (Zh sc_27 rfl (Zgx _) hS Xw trivial Zfu) ?_
  refine LtK.put rfl rfl rfl (Zu rfl) ?_
  obtain ⟨e26, hi28, H⟩ := bind_some H
  obtain ⟨j27, hi28a, hi28b, hi28c⟩ := Ym hi28
  refine LtK.put rfl rfl rfl (Y1 el_27 rfl rfl hi28a hi28c (Rd.el (hS.rd0 s1_.rd) he_enO hi28b)) ?_
  refine LtK.put rfl rfl rfl (Xn sc_4 rfl (Zgx _) (Rd.el (hS.rd0 s1_.rd) he_enO hi28b) rfl) ?_
  refine LtK.put rfl rfl rfl (Zd Za9 rfl) ?_
  refine LtK.put rfl rfl rfl (Zh sc_27 rfl (Zgx _) hS hs0 trivial Zfu) ?_
  refine LtK.put rfl rfl rfl (Zu rfl) ?_
  obtain ⟨e29, hi31, H⟩ := bind_some H
  obtain ⟨j30, hi31a, hi31b, hi31c⟩ := Ym hi31
  refine LtK.put rfl rfl rfl (Y1 el_27 rfl rfl hi31a hi31c (Rd.el (hS.rd0 s6_.rd) he_enO hi31b)) ?_
  refine LtK.put rfl rfl rfl (Xn sc_4 rfl (Zgx _) (Rd.el (hS.rd0 s6_.rd) he_enO hi31b) rfl) ?_
  refine LtK.put rfl rfl rfl (yv_neqB (by kernel_rfl) rfl rfl) ?_
  refine LtK.nil ?_
  refine Z4 (by kernel_rfl) ?_
  refine Zb hK25 ?_
  refine Zz rfl (fun hb => ?_) (fun hb => ?_)
  rotate_left
  ·replace H := Zo H hb
   refine Zr ?_
   refine Z1 ?_
   refine Zb hK24 ?_
   refine Zf ?_
   refine Zc 1 rfl ?_
   refine Za rfl rfl rfl (Xc rfl rfl) ?_
   refine Zc 1 rfl ?_
   refine Zg ?_
   exact X3 (n, v20, (IntKind.wrap .i64 (v21 + 1))) (by repeat (first | exact Sub.nil | refine Sub.cons rfl ?_)) ⟨hS, H⟩ (Nat.lt_succ_self _)
  replace H := Zp H hb
  refine Ze (fun K hK32 => ?_)
  refine Zf ?_
  refine Zc 1 rfl ?_
  refine Zg ?_
  refine Zb hK32 ?_
  refine Zk ?_
  refine Zv ?_
  refine Zi ?_
  refine Zi ?_
  refine Zv ?_
  refine Zi ?_
  refine Zl rfl (RV.tmp rfl RV.nil) rfl ?_
  obtain rfl := QJ H
  replace hS := hS.cut 0
  exact ⟨rfl, hS⟩
 replace H := Zo H hb
 refine Vl ?_
 refine Yb ?_
 refine Yb ?_
 refine Y6 ?_
 refine Zb hK18 ?_
 refine Ze (fun K hK33 => ?_)
 refine Zf ?_
 refine Za rfl rfl rfl (Zd Vo rfl) ?_
 refine Za rfl rfl rfl (Zh Xt rfl (Zgw _) hS Xw trivial Jr) ?_
 refine Za rfl rfl rfl (Zd Vo rfl) ?_
 refine Za rfl rfl rfl (Zh Xt rfl (Zgw _) hS hs0 trivial Jr) ?_
 obtain ⟨r34, hm35, H⟩ := bind_some H
 refine Zq rfl rfl rfl rfl (by kernel_rfl) rfl (c_ref20_ints x0.next x1.next A2_ c2_ A7_ c7_ _ (Zgz s2_.k (hS.rd0 s2_.rd) (hS.blk0 s2_.blk)) (Zgz s7_.k (hS.rd0 s7_.rd) (hS.blk0 s7_.blk)) hm35) ?_
 rintro e w ⟨rfl, hN⟩; refine ⟨_, rfl, ?_⟩; obtain ⟨hB, hS⟩ := hS.jn hN
 refine Zc 1 rfl ?_
 refine Zs 86 rfl (fun hb => ?_) (fun hb => ?_)
 rotate_left
 ·replace H := Zo H hb
  refine Zc 14 rfl ?_
  refine Zg ?_
  refine Zb hK33 ?_
  refine Zk ?_
  refine Zl rfl (RV.tmp rfl RV.nil) rfl ?_
  obtain rfl := QJ H
  replace hS := hS.cut 0
  exact ⟨rfl, hS⟩
 replace H := Zp H hb
 refine Za rfl rfl rfl (Zd Vt rfl) ?_
 refine Za rfl rfl rfl (Zh Xt rfl (Zgw _) hS Xw trivial Jz) ?_
 refine Za rfl rfl rfl (Zd Vt rfl) ?_
 refine Za rfl rfl rfl (Zh Xt rfl (Zgw _) hS hs0 trivial Jz) ?_
 obtain ⟨r36, hm37, H⟩ := bind_some H
 refine Zq rfl rfl rfl rfl (by kernel_rfl) rfl (c_ref20_ints x0.mtch x1.mtch A3_ c3_ A8_ c8_ _ (Zgz s3_.k (hS.rd0 s3_.rd) (hS.blk0 s3_.blk)) (Zgz s8_.k (hS.rd0 s8_.rd) (hS.blk0 s8_.blk)) hm37) ?_
 rintro e w ⟨rfl, hN⟩; refine ⟨_, rfl, ?_⟩; obtain ⟨hB, hS⟩ := hS.jn hN
 refine Zc 2 rfl ?_
 refine Zs 93 rfl (fun hb => ?_) (fun hb => ?_)
 rotate_left
 ·replace H := Zo H hb
  refine Zc 7 rfl ?_
  refine Zg ?_
  refine Zb hK33 ?_
  refine Zk ?_
  refine Zl rfl (RV.tmp rfl RV.nil) rfl ?_
  obtain rfl := QJ H
  replace hS := hS.cut 0
  exact ⟨rfl, hS⟩
 replace H := Zp H hb
 refine Za rfl rfl rfl (Zd Jn rfl) ?_
 refine Za rfl rfl rfl (Zh Xt rfl (Zgw _) hS Xw trivial Zde) ?_
 refine Za rfl rfl rfl (Zd Jn rfl) ?_
 refine Za rfl rfl rfl (Zh Xt rfl (Zgw _) hS hs0 trivial Zde) ?_
 obtain ⟨r38, hm39, H⟩ := bind_some H
 refine Zq rfl rfl rfl rfl (by kernel_rfl) rfl (c_ref20_ints x0.caps x1.caps A4_ c4_ A9_ c9_ _ (Zgz s4_.k (hS.rd0 s4_.rd) (hS.blk0 s4_.blk)) (Zgz s9_.k (hS.rd0 s9_.rd) (hS.blk0 s9_.blk)) hm39) ?_
 rintro e w ⟨rfl, hN⟩; refine ⟨_, rfl, ?_⟩; obtain ⟨hB, hS⟩ := hS.jn hN
 refine Zc 2 rfl ?_
 refine Zg ?_
 refine Zb hK33 ?_
 refine Zk ?_
 refine Zl rfl (RV.tmp rfl RV.nil) rfl ?_
 obtain rfl := QJ H
 replace hS := hS.cut 0
 exact ⟨rfl, hS⟩
theorem c_ref20_Alike (x0 : Ms) (x1 : Ms) (A0_ : OA) (c0_ : Nat) (A1_ : OA) (c1_ : Nat) (w0 : World) (s0_ : SlI w0 Jj A0_ c0_ x0.entries) (s1_ : SlI w0 Jj A1_ c1_ x1.entries) {r : Bool} (H : Zc3 x0 x1 = some r) : Calls Tryz.prog 31 #[.agg #[.int .u8 x0.kind, .int .i64 x0.frm, .int .i64 x0.dst, .int .i64 x0.term, .int .i64 x0.cap, .int .i64 x0.last, .int .i64 x0.lastTerm, .int .i64 x0.commit, .bool x0.okk, .slice A0_ x0.entries.length c0_, .int .i64 x0.snap.index, .int .i64 x0.snap.term, .int .i64 x0.snap.sum, .int .i64 x0.snap.level, .bool x0.snap.final], .agg #[.int .u8 x1.kind, .int .i64 x1.frm, .int .i64 x1.dst, .int .i64 x1.term, .int .i64 x1.cap, .int .i64 x1.last, .int .i64 x1.lastTerm, .int .i64 x1.commit, .bool x1.okk, .slice A1_ x1.entries.length c1_, .int .i64 x1.snap.index, .int .i64 x1.snap.term, .int .i64 x1.snap.sum, .int .i64 x1.snap.level, .bool x1.snap.final]] w0 fun e w' => e = .returned (.bool r) ∧ St0 All w0 w' [] := by
 unfold Zc3 at H
 refine Yt Tryz.func31 rfl Tryz.ntmps31 rfl ?_
 have hS := St0.start All w0
 refine Ze (fun K hK1 => ?_)
 refine Zf ?_
 refine Yd rfl rfl rfl CellsOf.agg hS (fun b2 w hS hB => ?_)
 refine Yd rfl rfl rfl CellsOf.agg hS (fun b4 w hS hB => ?_)
 refine Zc 1 rfl ?_
 refine Zg ?_
 refine Zb hK1 ?_
 refine Ze (fun K hK6 => ?_)
 refine Zf ?_
 refine Za rfl rfl rfl (Zd Vq rfl) ?_
 refine Za rfl rfl rfl (Zh Zbd rfl (Zgw _) hS Xw trivial Y8) ?_
 refine Za rfl rfl rfl (Zd Vq rfl) ?_
 refine Za rfl rfl rfl (Zh Zbd rfl (Zgw _) hS hs0 trivial Y8) ?_
 refine Za rfl rfl rfl (Y5 rfl rfl) ?_
 refine Zc 1 rfl ?_
 refine Zs 10 rfl (fun hb => ?_) (fun hb => ?_)
 rotate_left
 ·replace H := Zo H hb
  refine Zc 70 rfl ?_
  refine Zg ?_
  refine Zb hK6 ?_
  refine Zk ?_
  refine Zl rfl (RV.tmp rfl RV.nil) rfl ?_
  obtain rfl := QJ H
  replace hS := hS.cut 0
  exact ⟨rfl, hS⟩
 replace H := Zp H hb
 refine Za rfl rfl rfl (Zd Zby rfl) ?_
 refine Za rfl rfl rfl (Zh Zw rfl (Zgw _) hS Xw trivial Vp) ?_
 refine Za rfl rfl rfl (Zd Zby rfl) ?_
 refine Za rfl rfl rfl (Zh Zw rfl (Zgw _) hS hs0 trivial Vp) ?_
 refine Za rfl rfl rfl (Y5 rfl rfl) ?_
 refine Zc 2 rfl ?_
 refine Zs 17 rfl (fun hb => ?_) (fun hb => ?_)
 rotate_left
 ·replace H := Zo H hb
  refine Zc 63 rfl ?_
  refine Zg ?_
  refine Zb hK6 ?_
  refine Zk ?_
  refine Zl rfl (RV.tmp rfl RV.nil) rfl ?_
  obtain rfl := QJ H
  replace hS := hS.cut 0
  exact ⟨rfl, hS⟩
 replace H := Zp H hb
 refine Za rfl rfl rfl (Zd Zdy rfl) ?_
 refine Za rfl rfl rfl (Zh Zw rfl (Zgw _) hS Xw trivial Zav) ?_
 refine Za rfl rfl rfl (Zd Zdy rfl) ?_
 refine Za rfl rfl rfl (Zh Zw rfl (Zgw _) hS hs0 trivial Zav) ?_
 refine Za rfl rfl rfl (Y5 rfl rfl) ?_
 refine Zc 2 rfl ?_
 refine Zs 24 rfl (fun hb => ?_) (fun hb => ?_)
 rotate_left
 ·replace H := Zo H hb
  refine Zc 56 rfl ?_
  refine Zg ?_
  refine Zb hK6 ?_
  refine Zk ?_
  refine Zl rfl (RV.tmp rfl RV.nil) rfl ?_
  obtain rfl := QJ H
  replace hS := hS.cut 0
  exact ⟨rfl, hS⟩
 replace H := Zp H hb
 refine Za rfl rfl rfl (Zd Zb1 rfl) ?_
 refine Za rfl rfl rfl (Zh Zw rfl (Zgw _) hS Xw trivial Zan) ?_
 refine Za rfl rfl rfl (Zd Zb1 rfl) ?_
 refine Za rfl rfl rfl (Zh Zw rfl (Zgw _) hS hs0 trivial Zan) ?_
 refine Za rfl rfl rfl (Y5 rfl rfl) ?_
 refine Zc 2 rfl ?_
 refine Zs 31 rfl (fun hb => ?_) (fun hb => ?_)
 rotate_left
 ·replace H := Zo H hb
  refine Zc 49 rfl ?_
  refine Zg ?_
  refine Zb hK6 ?_
  refine Zk ?_
  refine Zl rfl (RV.tmp rfl RV.nil) rfl ?_
  obtain rfl := QJ H
  replace hS := hS.cut 0
  exact ⟨rfl, hS⟩
 replace H := Zp H hb
 refine Za rfl rfl rfl (Zd fo_32_4 rfl) ?_
 refine Za rfl rfl rfl (Zh Zw rfl (Zgw _) hS Xw trivial Zew) ?_
 refine Za rfl rfl rfl (Zd fo_32_4 rfl) ?_
 refine Za rfl rfl rfl (Zh Zw rfl (Zgw _) hS hs0 trivial Zew) ?_
 refine Za rfl rfl rfl (Y5 rfl rfl) ?_
 refine Zc 2 rfl ?_
 refine Zs 38 rfl (fun hb => ?_) (fun hb => ?_)
 rotate_left
 ·replace H := Zo H hb
  refine Zc 42 rfl ?_
  refine Zg ?_
  refine Zb hK6 ?_
  refine Zk ?_
  refine Zl rfl (RV.tmp rfl RV.nil) rfl ?_
  obtain rfl := QJ H
  replace hS := hS.cut 0
  exact ⟨rfl, hS⟩
 replace H := Zp H hb
 refine Za rfl rfl rfl (Zd Vu rfl) ?_
 refine Za rfl rfl rfl (Zh Zw rfl (Zgw _) hS Xw trivial V7) ?_
 refine Za rfl rfl rfl (Zd Vu rfl) ?_
 refine Za rfl rfl rfl (Zh Zw rfl (Zgw _) hS hs0 trivial V7) ?_
 refine Za rfl rfl rfl (Y5 rfl rfl) ?_
 refine Zc 2 rfl ?_
 refine Zs 45 rfl (fun hb => ?_) (fun hb => ?_)
 rotate_left
 ·replace H := Zo H hb
  refine Zc 35 rfl ?_
  refine Zg ?_
  refine Zb hK6 ?_
  refine Zk ?_
  refine Zl rfl (RV.tmp rfl RV.nil) rfl ?_
  obtain rfl := QJ H
  replace hS := hS.cut 0
  exact ⟨rfl, hS⟩
 replace H := Zp H hb
 refine Za rfl rfl rfl (Zd Zf4 rfl) ?_
 refine Za rfl rfl rfl (Zh Zw rfl (Zgw _) hS Xw trivial sg6_1) ?_
 refine Za rfl rfl rfl (Zd Zf4 rfl) ?_
 refine Za rfl rfl rfl (Zh Zw rfl (Zgw _) hS hs0 trivial sg6_1) ?_
 refine Za rfl rfl rfl (Y5 rfl rfl) ?_
 refine Zc 2 rfl ?_
 refine Zs 52 rfl (fun hb => ?_) (fun hb => ?_)
 rotate_left
 ·replace H := Zo H hb
  refine Zc 28 rfl ?_
  refine Zg ?_
  refine Zb hK6 ?_
  refine Zk ?_
  refine Zl rfl (RV.tmp rfl RV.nil) rfl ?_
  obtain rfl := QJ H
  replace hS := hS.cut 0
  exact ⟨rfl, hS⟩
 replace H := Zp H hb
 refine Za rfl rfl rfl (Zd Zcl rfl) ?_
 refine Za rfl rfl rfl (Zh Zw rfl (Zgw _) hS Xw trivial Zey) ?_
 refine Za rfl rfl rfl (Zd Zcl rfl) ?_
 refine Za rfl rfl rfl (Zh Zw rfl (Zgw _) hS hs0 trivial Zey) ?_
 refine Za rfl rfl rfl (Y5 rfl rfl) ?_
 refine Zc 2 rfl ?_
 refine Zs 59 rfl (fun hb => ?_) (fun hb => ?_)
 rotate_left
 ·replace H := Zo H hb
  refine Zc 21 rfl ?_
  refine Zg ?_
  refine Zb hK6 ?_
  refine Zk ?_
  refine Zl rfl (RV.tmp rfl RV.nil) rfl ?_
  obtain rfl := QJ H
  replace hS := hS.cut 0
  exact ⟨rfl, hS⟩
 replace H := Zp H hb
 refine Za rfl rfl rfl (Zd Zel rfl) ?_
 refine Za rfl rfl rfl (Zh sc_4 rfl (Zgw _) hS Xw trivial sg8_1) ?_
 refine Za rfl rfl rfl (Zd Zel rfl) ?_
 refine Za rfl rfl rfl (Zh sc_4 rfl (Zgw _) hS hs0 trivial sg8_1) ?_
 refine Za rfl rfl rfl (yv_eqlB (by kernel_rfl) rfl rfl) ?_
 refine Zc 2 rfl ?_
 refine Zs 66 rfl (fun hb => ?_) (fun hb => ?_)
 rotate_left
 ·replace H := Zo H hb
  refine Zc 14 rfl ?_
  refine Zg ?_
  refine Zb hK6 ?_
  refine Zk ?_
  refine Zl rfl (RV.tmp rfl RV.nil) rfl ?_
  obtain rfl := QJ H
  replace hS := hS.cut 0
  exact ⟨rfl, hS⟩
 replace H := Zp H hb
 refine Za rfl rfl rfl (Zd Xk rfl) ?_
 refine Za rfl rfl rfl (Zj Y3 rfl (Zgw _) hS Xw trivial J3) ?_
 refine Za rfl rfl rfl (Zd Xk rfl) ?_
 refine Za rfl rfl rfl (Zj Y3 rfl (Zgw _) hS hs0 trivial J3) ?_
 refine Za rfl rfl rfl (J6 (by kernel_rfl) rfl rfl (Zap _ _ _ _ _ _ _ _ _ _)) ?_
 refine Zc 2 rfl ?_
 refine Zs 73 rfl (fun hb => ?_) (fun hb => ?_)
 rotate_left
 ·replace H := Zo H hb
  refine Zc 7 rfl ?_
  refine Zg ?_
  refine Zb hK6 ?_
  refine Zk ?_
  refine Zl rfl (RV.tmp rfl RV.nil) rfl ?_
  obtain rfl := QJ H
  replace hS := hS.cut 0
  exact ⟨rfl, hS⟩
 replace H := Zp H hb
 refine Za rfl rfl rfl (Zd X5 rfl) ?_
 refine Za rfl rfl rfl (Zh Xq rfl (Zgw _) hS Xw trivial Jg) ?_
 refine Za rfl rfl rfl (Zd X5 rfl) ?_
 refine Za rfl rfl rfl (Zh Xq rfl (Zgw _) hS hs0 trivial Jg) ?_
 obtain ⟨r7, hm8, H⟩ := bind_some H
 refine Zq rfl rfl rfl rfl (by kernel_rfl) rfl (c_ref06_Same x0.entries x1.entries A0_ c0_ A1_ c1_ _ (Zgz s0_.k (hS.rd0 s0_.rd) (hS.blk0 s0_.blk)) (Zgz s1_.k (hS.rd0 s1_.rd) (hS.blk0 s1_.blk)) hm8) ?_
 rintro e w ⟨rfl, hN⟩; refine ⟨_, rfl, ?_⟩; obtain ⟨hB, hS⟩ := hS.jn hN
 refine Zc 2 rfl ?_
 refine Zg ?_
 refine Zb hK6 ?_
 refine Zk ?_
 refine Zl rfl (RV.tmp rfl RV.nil) rfl ?_
 obtain rfl := QJ H
 replace hS := hS.cut 0
 exact ⟨rfl, hS⟩
theorem c_ref20_All (x0 : List Ms) (x1 : List Ms) (A0_ : OA) (c0_ : Nat) (q0_ : List Mq) (A1_ : OA) (c1_ : Nat) (q1_ : List Mq) (w0 : World) (s0_ : SlI w0 enQ A0_ c0_ q0_) (s0_q : q0_.map Mq.m = x0) (s0_n : ∀ y ∈ q0_, SlI w0 Jj y.A y.c y.m.entries) (s1_ : SlI w0 enQ A1_ c1_ q1_) (s1_q : q1_.map Mq.m = x1) (s1_n : ∀ y ∈ q1_, SlI w0 Jj y.A y.c y.m.entries) {r : Bool} (H : Zbi x0 x1 = some r) : Calls Tryz.prog 12 #[.slice A0_ x0.length c0_, .slice A1_ x1.length c1_] w0 fun e w' => e = .returned (.bool r) ∧ St0 All w0 w' [] := by
 unfold Zbi at H
 refine Yt Tryz.func12 rfl Tryz.ntmps12 rfl ?_
 have hS := St0.start All w0
 refine Ze (fun K hK1 => ?_)
 refine Zf ?_
 refine Zc 1 rfl ?_
 refine Zg ?_
 refine Zb hK1 ?_
 refine Ze (fun K hK2 => ?_)
 refine Ze (fun K hK3 => ?_)
 refine Zf ?_
 refine Zc 1 rfl ?_
 refine Za rfl rfl rfl (Yw V0 rfl) ?_
 refine Zc 1 rfl ?_
 refine Za rfl rfl rfl (Yw V0 rfl) ?_
 refine Za rfl rfl rfl (Xh rfl rfl) ?_
 refine Zg ?_
 refine Zb hK3 ?_
 refine Zz rfl (fun hb => ?_) (fun hb => ?_)
 ·replace H := Zp H hb
  refine Ze (fun K hK4 => ?_)
  refine Zf ?_
  refine Zc 1 rfl ?_
  refine Zg ?_
  refine Zb hK4 ?_
  refine Zk ?_
  refine Zi ?_
  refine Zl rfl (RV.tmp rfl RV.nil) rfl ?_
  obtain rfl := QJ H
  replace hS := hS.cut 0
  exact ⟨rfl, hS⟩
 replace H := Zo H hb
 refine Zr ?_
 refine Zb hK2 ?_
 refine Ze (fun K hK5 => ?_)
 refine Ze (fun K hK6 => ?_)
 refine Zf ?_
 refine Zc 1 rfl ?_
 refine Zg ?_
 refine Zb hK6 ?_
 refine Yf ?_
 refine Vz (X := Nat × Bool × Int) (fun x => (0, .slice A0_ x0.length c0_) :: (1, .slice A1_ x1.length c1_) :: (4, .bool x.2.1) :: (5, .int .i64 x.2.2) :: []) (fun x w => St0 All w0 w ([]) ∧ Zaq x0 x1 x.1 x.2.1 x.2.2 = some r) (fun x => x.1) (Xo, false, 0) (by repeat (first | exact Sub.nil | refine Sub.cons rfl ?_)) ⟨hS, H⟩ ?_
 rintro ⟨n, v7, v8⟩ w ⟨hS, H⟩
 dsimp only at hS H ⊢
 obtain _ | n := n
 ·have H0 : none = some r := H
  cases H0
 rw [Zaq] at H
 refine Ze (fun K hK9 => ?_)
 refine Ze (fun K hK10 => ?_)
 refine Zf ?_
 refine Zc 2 rfl ?_
 refine Za rfl rfl rfl (Yw V0 rfl) ?_
 refine Za rfl rfl rfl (Xe rfl rfl) ?_
 refine Zg ?_
 refine Zb hK10 ?_
 refine Zz rfl (fun hb => ?_) (fun hb => ?_)
 rotate_left
 ·replace H := Zo H hb
  refine Vl ?_
  refine Yb ?_
  refine Yb ?_
  refine Y6 ?_
  refine Zb hK5 ?_
  refine Ze (fun K hK26 => ?_)
  refine Zf ?_
  refine Zc 1 rfl ?_
  refine Zg ?_
  refine Zb hK26 ?_
  refine Zk ?_
  refine Zl rfl (RV.tmp rfl RV.nil) rfl ?_
  obtain rfl := QJ H
  replace hS := hS.cut 0
  exact ⟨rfl, hS⟩
 replace H := Zp H hb
 refine Zr ?_
 refine Zb hK9 ?_
 refine Ze (fun K hK11 => ?_)
 refine Yf ?_
 refine Ze (fun K hK12 => ?_)
 refine Yi 10 [] (fun _ _ => True) ⟨by kernel_rfl, by kernel_rfl⟩ hS (fun w hS hB => ?_)
 refine Zn [true, true, true, true, true, true, true, true] (by decide +kernel) PFC.h ?_
 refine LtK.put rfl rfl rfl (Zu rfl) ?_
 refine LtK.put rfl rfl rfl (Zu rfl) ?_
 obtain ⟨e13, hi15, H⟩ := bind_some H
 obtain ⟨j14, A16, c17, hi15a, hi15b, hi15c⟩ := idxQ (q := q0_) s0_q hi15
 refine LtK.put rfl rfl rfl (Y1 V0 rfl rfl hi15a hi15c (Rd.el (hS.rd0 s0_.rd) Jb hi15b)) ?_
 refine LtK.put rfl rfl rfl (Zc8 Vi rfl (Zgx _) (Rd.el (hS.rd0 s0_.rd) Jb hi15b) Xp) ?_
 refine LtK.put rfl rfl rfl (Zu rfl) ?_
 refine LtK.put rfl rfl rfl (Zu rfl) ?_
 obtain ⟨e18, hi20, H⟩ := bind_some H
 obtain ⟨j19, A21, c22, hi20a, hi20b, hi20c⟩ := idxQ (q := q1_) s1_q hi20
 refine LtK.put rfl rfl rfl (Y1 V0 rfl rfl hi20a hi20c (Rd.el (hS.rd0 s1_.rd) Jb hi20b)) ?_
 refine LtK.put rfl rfl rfl (Zc8 Vi rfl (Zgx _) (Rd.el (hS.rd0 s1_.rd) Jb hi20b) Xp) ?_
 refine LtK.nil ?_
 refine Z6 [false, false, false, false, false, false, false, false, true] 8 ⟨by decide, by kernel_rfl, by kernel_rfl⟩ rfl rfl ?_
 try dsimp only [Zy]
 obtain ⟨r23, hm24, H⟩ := bind_some H
 refine Zq rfl rfl rfl rfl (by kernel_rfl) rfl (c_ref20_Alike e13 e18 A16 c17 A21 c22 _ (Zgz ((s0_n _ (List.mem_of_getElem? hi15b)).k) (hS.rd0 (s0_n _ (List.mem_of_getElem? hi15b)).rd) (hS.blk0 (s0_n _ (List.mem_of_getElem? hi15b)).blk)) (Zgz ((s1_n _ (List.mem_of_getElem? hi20b)).k) (hS.rd0 (s1_n _ (List.mem_of_getElem? hi20b)).rd) (hS.blk0 (s1_n _ (List.mem_of_getElem? hi20b)).blk)) hm24) ?_
 rintro e w ⟨rfl, hN⟩; refine ⟨_, rfl, ?_⟩; obtain ⟨hB, hS⟩ := hS.jn hN
 refine Zg ?_
 refine Z8 hB ?_
 refine Zn [false, false, false, false, false, false, false, false, false, true] (by decide +kernel) PFC.h ?_
 refine LtK.put rfl rfl rfl (Yy rfl) ?_
 refine LtK.nil ?_
 refine Z4 (by kernel_rfl) ?_
 refine Zb hK12 ?_
 refine Zz rfl (fun hb => ?_) (fun hb => ?_)
 rotate_left
 ·replace H := Zo H hb
  refine Zr ?_
  refine Z1 ?_
  refine Zb hK11 ?_
  refine Zf ?_
  refine Zc 1 rfl ?_
  refine Za rfl rfl rfl (Xc rfl rfl) ?_
  refine Zc 1 rfl ?_
  refine Zg ?_
  exact X3 (n, v7, (IntKind.wrap .i64 (v8 + 1))) (by repeat (first | exact Sub.nil | refine Sub.cons rfl ?_)) ⟨hS, H⟩ (Nat.lt_succ_self _)
 replace H := Zp H hb
 refine Ze (fun K hK25 => ?_)
 refine Zf ?_
 refine Zc 1 rfl ?_
 refine Zg ?_
 refine Zb hK25 ?_
 refine Zk ?_
 refine Zv ?_
 refine Zi ?_
 refine Zi ?_
 refine Zv ?_
 refine Zi ?_
 refine Zl rfl (RV.tmp rfl RV.nil) rfl ?_
 obtain rfl := QJ H
 replace hS := hS.cut 0
 exact ⟨rfl, hS⟩
theorem Zfy (x0 : Int) (w0 : World) {r : Bool} (H : Zam x0 = some r) : Calls Tryz.prog 85 #[.int .i64 x0] w0 fun e w' => e = .returned (.bool r) ∧ St0 All w0 w' [] := by
 unfold Zam at H
 refine Yo Tryz.func85 rfl Tryz.ntmps85 rfl ?_
 have hS := St0.start All w0
 refine Ze (fun K hK1 => ?_)
 refine Zf ?_
 refine Zc 1 rfl ?_
 refine Zg ?_
 refine Zb hK1 ?_
 refine Ze (fun K hK2 => ?_)
 refine Zf ?_
 refine Zc 1 rfl ?_
 refine Za rfl rfl rfl (Zcu rfl rfl) ?_
 refine Zc 1 rfl ?_
 refine Zs 5 rfl (fun hb => ?_) (fun hb => ?_)
 rotate_left
 ·replace H := Zo H hb
  refine Zc 4 rfl ?_
  refine Zg ?_
  refine Zb hK2 ?_
  refine Zk ?_
  refine Zl rfl (RV.tmp rfl RV.nil) rfl ?_
  obtain rfl := QJ H
  replace hS := hS.cut 0
  exact ⟨rfl, hS⟩
 replace H := Zp H hb
 refine Zc 1 rfl ?_
 refine Za rfl rfl rfl (Zbn rfl rfl) ?_
 refine Zc 2 rfl ?_
 refine Zg ?_
 refine Zb hK2 ?_
 refine Zk ?_
 refine Zl rfl (RV.tmp rfl RV.nil) rfl ?_
 obtain rfl := QJ H
 replace hS := hS.cut 0
 exact ⟨rfl, hS⟩
theorem c_ref20_entries (x0 : Ms) (A0_ : OA) (c0_ : Nat) (w0 : World) (s0_ : SlI w0 Jj A0_ c0_ x0.entries) {r : Bool} (H : Zbs x0 = some r) : Calls Tryz.prog 86 #[.agg #[.int .u8 x0.kind, .int .i64 x0.frm, .int .i64 x0.dst, .int .i64 x0.term, .int .i64 x0.cap, .int .i64 x0.last, .int .i64 x0.lastTerm, .int .i64 x0.commit, .bool x0.okk, .slice A0_ x0.entries.length c0_, .int .i64 x0.snap.index, .int .i64 x0.snap.term, .int .i64 x0.snap.sum, .int .i64 x0.snap.level, .bool x0.snap.final]] w0 fun e w' => e = .returned (.bool r) ∧ St0 All w0 w' [] := by
 unfold Zbs at H
 refine Yo Tryz.func86 rfl Tryz.ntmps86 rfl ?_
 have hS := St0.start All w0
 refine Ze (fun K hK1 => ?_)
 refine Zf ?_
 refine Yd rfl rfl rfl CellsOf.agg hS (fun b2 w hS hB => ?_)
 refine Zc 1 rfl ?_
 refine Zg ?_
 refine Zb hK1 ?_
 refine Ze (fun K hK4 => ?_)
 refine Zf ?_
 refine Za rfl rfl rfl (Zd Zf4 rfl) ?_
 refine Za rfl rfl rfl (Zh Zw rfl (Zgw _) hS hs0 trivial sg6_1) ?_
 refine Zc 1 rfl ?_
 refine Zg ?_
 refine Zb hK4 ?_
 refine Ze (fun K hK5 => ?_)
 refine Ze (fun K hK6 => ?_)
 refine Zf ?_
 refine Zc 1 rfl ?_
 refine Zg ?_
 refine Zb hK6 ?_
 refine Yf ?_
 refine Vz (X := Nat × Bool × Int × Int) (fun x => (1, .pointer (some ⟨b2, 0, none⟩)) :: (2, .bool x.2.1) :: (3, .int .i64 x.2.2.1) :: (4, .int .i64 x.2.2.2) :: []) (fun x w => St0 All w0 w (.box b2 [.int .u8 x0.kind, .int .i64 x0.frm, .int .i64 x0.dst, .int .i64 x0.term, .int .i64 x0.cap, .int .i64 x0.last, .int .i64 x0.lastTerm, .int .i64 x0.commit, .bool x0.okk, .slice A0_ x0.entries.length c0_, .int .i64 x0.snap.index, .int .i64 x0.snap.term, .int .i64 x0.snap.sum, .int .i64 x0.snap.level, .bool x0.snap.final] 32 :: []) ∧ V6 x0 x.1 x.2.1 x.2.2.1 x.2.2.2 = some r) (fun x => x.1) (Xo, false, x0.lastTerm, 0) (by repeat (first | exact Sub.nil | refine Sub.cons rfl ?_)) ⟨hS, H⟩ ?_
 rintro ⟨n, v7, v8, v9⟩ w ⟨hS, H⟩
 dsimp only at hS H ⊢
 obtain _ | n := n
 ·have H0 : none = some r := H
  cases H0
 rw [V6] at H
 refine Ze (fun K hK10 => ?_)
 refine Ze (fun K hK11 => ?_)
 refine Zf ?_
 refine Zc 1 rfl ?_
 refine Za rfl rfl rfl (Zd X5 rfl) ?_
 refine Za rfl rfl rfl (Zh Xq rfl (Zgw _) hS hs0 trivial Jg) ?_
 refine Za rfl rfl rfl (Yw Y4 rfl) ?_
 refine Za rfl rfl rfl (Xe rfl rfl) ?_
 refine Zg ?_
 refine Zb hK11 ?_
 refine Zz rfl (fun hb => ?_) (fun hb => ?_)
 rotate_left
 ·replace H := Zo H hb
  refine Vl ?_
  refine Yb ?_
  refine Yb ?_
  refine Y6 ?_
  refine Zb hK5 ?_
  refine Ze (fun K hK32 => ?_)
  refine Zf ?_
  refine Za rfl rfl rfl (Zd X5 rfl) ?_
  refine Za rfl rfl rfl (Zh Xq rfl (Zgw _) hS hs0 trivial Jg) ?_
  refine Za rfl rfl rfl (Yw Y4 rfl) ?_
  refine Za rfl rfl rfl (Zbn rfl rfl) ?_
  refine Zc 1 rfl ?_
  refine Zg ?_
  refine Zb hK32 ?_
  refine Zk ?_
  refine Zl rfl (RV.tmp rfl RV.nil) rfl ?_
  obtain rfl := QJ H
  replace hS := hS.cut 0
  exact ⟨rfl, hS⟩
 replace H := Zp H hb
 refine Zr ?_
 refine Zb hK10 ?_
 refine Ze (fun K hK12 => ?_)
 refine Yf ?_
 refine Ze (fun K hK13 => ?_)
 refine Ze (fun K hK14 => ?_)
 refine Yi 28 [] (fun _ _ => True) ⟨by kernel_rfl, by kernel_rfl⟩ hS (fun w hS hB => ?_)
 refine Zn [true, true, true, true, true] (by decide +kernel) PFC.h ?_
 refine LtK.put rfl rfl rfl (Zd X5 rfl) ?_
 refine LtK.put rfl rfl rfl (Zh Xq rfl (Zgx _) hS hs0 trivial Jg) ?_
 refine LtK.put rfl rfl rfl (Zu rfl) ?_
 obtain ⟨e15, hi17, H⟩ := bind_some H
 obtain ⟨j16, hi17a, hi17b, hi17c⟩ := Ym hi17
 refine LtK.put rfl rfl rfl (Y1 Y4 rfl rfl hi17a hi17c (Rd.el (hS.rd0 s0_.rd) X6 hi17b)) ?_
 refine LtK.put rfl rfl rfl (Zc8 V8 rfl (Zgx _) (Rd.el (hS.rd0 s0_.rd) X6 hi17b) Zb8) ?_
 refine LtK.nil ?_
 refine Z6 [false, false, false, false, false, true] 5 ⟨by decide, by kernel_rfl, by kernel_rfl⟩ rfl rfl ?_
 try dsimp only [Zy]
 obtain ⟨r18, hm19, H⟩ := bind_some H
 refine Zq rfl rfl rfl rfl (by kernel_rfl) rfl (Zgi e15 _ hm19) ?_
 rintro e w ⟨rfl, hN⟩; refine ⟨_, rfl, ?_⟩; obtain ⟨hB, hS⟩ := hS.jn hN
 refine Zg ?_
 refine Z8 hB ?_
 refine Zn [false, false, false, false, false, false, true, true] (by decide +kernel) PFC.h ?_
 refine LtK.put rfl rfl rfl (Yy rfl) ?_
 refine LtK.put rfl rfl rfl (Zu rfl) ?_
 refine LtK.nil ?_
 refine Xx 21 rfl (fun hb => ?_) (fun hb => ?_)
 ·replace H := Zp H hb
  refine Zn [false, false, false, false, false, false, false, false, true, true, true, true, true, true, true, true, true, true, true, true, true, true, true, true, true, true, true, true] (by decide +kernel) PFC.h ?_
  refine LtK.skip rfl rfl rfl ?_
  refine LtK.skip rfl rfl rfl ?_
  refine LtK.skip rfl rfl rfl ?_
  refine LtK.skip rfl rfl rfl ?_
  refine LtK.skip rfl rfl rfl ?_
  refine LtK.skip rfl rfl rfl ?_
  refine LtK.skip rfl rfl rfl ?_
  refine LtK.skip rfl rfl rfl ?_
  refine LtK.put rfl rfl rfl (Ya rfl rfl rfl) ?_
  refine LtK.put rfl rfl rfl (Zu rfl) ?_
  refine LtK.skip rfl rfl rfl ?_
  refine LtK.skip rfl rfl rfl ?_
  refine LtK.skip rfl rfl rfl ?_
  refine LtK.skip rfl rfl rfl ?_
  refine LtK.skip rfl rfl rfl ?_
  refine LtK.skip rfl rfl rfl ?_
  refine LtK.skip rfl rfl rfl ?_
  refine LtK.skip rfl rfl rfl ?_
  refine LtK.skip rfl rfl rfl ?_
  refine LtK.put rfl rfl rfl (Ya rfl rfl rfl) ?_
  refine LtK.nil ?_
  refine Z4 (by kernel_rfl) ?_
  refine Zb hK14 ?_
  refine Zt rfl rfl ?_
  refine Ze (fun K hK20 => ?_)
  refine Zf ?_
  refine Zc 1 rfl ?_
  refine Zg ?_
  refine Zb hK20 ?_
  refine Zk ?_
  refine Zi ?_
  refine Zv ?_
  refine Zi ?_
  refine Zi ?_
  refine Zv ?_
  refine Zi ?_
  refine Zl rfl (RV.tmp rfl RV.nil) rfl ?_
  obtain rfl := QJ H
  replace hS := hS.cut 0
  exact ⟨rfl, hS⟩
 replace H := Zo H hb
 refine Zn [false, false, false, false, false, false, false, false, true, true, true, true, true, true, true, true, true, true] (by decide +kernel) PFC.h ?_
 refine LtK.put rfl rfl rfl (Zd X5 rfl) ?_
 refine LtK.put rfl rfl rfl (Zh Xq rfl (Zgx _) hS hs0 trivial Jg) ?_
 refine LtK.put rfl rfl rfl (Zu rfl) ?_
 obtain ⟨e21, hi23, H⟩ := bind_some H
 obtain ⟨j22, hi23a, hi23b, hi23c⟩ := Ym hi23
 refine LtK.put rfl rfl rfl (Y1 Y4 rfl rfl hi23a hi23c (Rd.el (hS.rd0 s0_.rd) X6 hi23b)) ?_
 refine LtK.put rfl rfl rfl (Vv Zba rfl (Rd.el (hS.rd0 s0_.rd) X6 hi23b)) ?_
 refine LtK.put rfl rfl rfl (Xn Zw rfl (Zgx _) (Rd.el (hS.rd0 s0_.rd) X6 hi23b) rfl) ?_
 refine LtK.put rfl rfl rfl (Zu rfl) ?_
 refine LtK.put rfl rfl rfl (Xe rfl rfl) ?_
 refine LtK.put rfl rfl rfl (Yc rfl rfl rfl) ?_
 refine LtK.put rfl rfl rfl (Zu rfl) ?_
 refine LtK.nil ?_
 refine Xx 31 rfl (fun hb => ?_) (fun hb => ?_)
 ·replace H := Zp H hb
  refine Zn [false, false, false, false, false, false, false, false, false, false, false, false, false, false, false, false, false, false, true, true, true, true, true, true, true, true, true, true] (by decide +kernel) PFC.h ?_
  refine LtK.skip rfl rfl rfl ?_
  refine LtK.skip rfl rfl rfl ?_
  refine LtK.skip rfl rfl rfl ?_
  refine LtK.skip rfl rfl rfl ?_
  refine LtK.skip rfl rfl rfl ?_
  refine LtK.skip rfl rfl rfl ?_
  refine LtK.skip rfl rfl rfl ?_
  refine LtK.skip rfl rfl rfl ?_
  refine LtK.skip rfl rfl rfl ?_
  refine LtK.put rfl rfl rfl (Ya rfl rfl rfl) ?_
  refine LtK.nil ?_
  refine Z4 (by kernel_rfl) ?_
  refine Zb hK14 ?_
  refine Zt rfl rfl ?_
  refine Ze (fun K hK24 => ?_)
  refine Zf ?_
  refine Zc 1 rfl ?_
  refine Zg ?_
  refine Zb hK24 ?_
  refine Zk ?_
  refine Zi ?_
  refine Zv ?_
  refine Zi ?_
  refine Zi ?_
  refine Zv ?_
  refine Zi ?_
  refine Zl rfl (RV.tmp rfl RV.nil) rfl ?_
  obtain rfl := QJ H
  replace hS := hS.cut 0
  exact ⟨rfl, hS⟩
 replace H := Zo H hb
 refine Zn [false, false, false, false, false, false, false, false, false, false, false, false, false, false, false, false, false, false, true, true, true, true, true, true, true, true, true, true] (by decide +kernel) PFC.h ?_
 refine LtK.put rfl rfl rfl (Zd X5 rfl) ?_
 refine LtK.put rfl rfl rfl (Zh Xq rfl (Zgx _) hS hs0 trivial Jg) ?_
 refine LtK.put rfl rfl rfl (Zu rfl) ?_
 obtain ⟨e25, hi27, H⟩ := bind_some H
 obtain ⟨j26, hi27a, hi27b, hi27c⟩ := Ym hi27
 refine LtK.put rfl rfl rfl (Y1 Y4 rfl rfl hi27a hi27c (Rd.el (hS.rd0 s0_.rd) X6 hi27b)) ?_
 refine LtK.put rfl rfl rfl (Vv Zba rfl (Rd.el (hS.rd0 s0_.rd) X6 hi27b)) ?_
 refine LtK.put rfl rfl rfl (Xn Zw rfl (Zgx _) (Rd.el (hS.rd0 s0_.rd) X6 hi27b) rfl) ?_
 refine LtK.put rfl rfl rfl (Zd Zb1 rfl) ?_
 refine LtK.put rfl rfl rfl (Zh Zw rfl (Zgx _) hS hs0 trivial Zan) ?_
 refine LtK.put rfl rfl rfl (Y9 rfl rfl) ?_
 refine LtK.put rfl rfl rfl (Yc rfl rfl rfl) ?_
 refine LtK.nil ?_
 refine Z4 (by kernel_rfl) ?_
 refine Zb hK14 ?_
 refine Zz rfl (fun hb => ?_) (fun hb => ?_)
 ·replace H := Zp H hb
  refine Ze (fun K hK28 => ?_)
  refine Zf ?_
  refine Zc 1 rfl ?_
  refine Zg ?_
  refine Zb hK28 ?_
  refine Zk ?_
  refine Zi ?_
  refine Zv ?_
  refine Zi ?_
  refine Zi ?_
  refine Zv ?_
  refine Zi ?_
  refine Zl rfl (RV.tmp rfl RV.nil) rfl ?_
  obtain rfl := QJ H
  replace hS := hS.cut 0
  exact ⟨rfl, hS⟩
 replace H := Zo H hb
 refine Zr ?_
 refine Zb hK13 ?_
 refine Zf ?_
 refine Za rfl rfl rfl (Zd X5 rfl) ?_
 refine Za rfl rfl rfl (Zh Xq rfl (Zgw _) hS hs0 trivial Jg) ?_
 refine Zc 1 rfl ?_
 obtain ⟨e29, hi31, H⟩ := bind_some H
 obtain ⟨j30, hi31a, hi31b, hi31c⟩ := Ym hi31
 refine Za rfl rfl rfl (Y1 Y4 rfl rfl hi31a hi31c (Rd.el (hS.rd0 s0_.rd) X6 hi31b)) ?_
 refine Za rfl rfl rfl (Vv Zba rfl (Rd.el (hS.rd0 s0_.rd) X6 hi31b)) ?_
 refine Za rfl rfl rfl (Xn Zw rfl (Zgw _) (Rd.el (hS.rd0 s0_.rd) X6 hi31b) rfl) ?_
 refine Zc 1 rfl ?_
 refine Zg ?_
 refine Z1 ?_
 refine Zb hK12 ?_
 refine Zf ?_
 refine Zc 1 rfl ?_
 refine Za rfl rfl rfl (Xc rfl rfl) ?_
 refine Zc 1 rfl ?_
 refine Zg ?_
 exact X3 (n, v7, e29.term, (IntKind.wrap .i64 (v9 + 1))) (by repeat (first | exact Sub.nil | refine Sub.cons rfl ?_)) ⟨hS, H⟩ (Nat.lt_succ_self _)
theorem c_ref20_Fine (x0 : Ms) (x1 : Int) (A0_ : OA) (c0_ : Nat) (w0 : World) (s0_ : SlI w0 Jj A0_ c0_ x0.entries) {r : Bool} (H : Zcf x0 x1 = some r) : Calls Tryz.prog 42 #[.agg #[.int .u8 x0.kind, .int .i64 x0.frm, .int .i64 x0.dst, .int .i64 x0.term, .int .i64 x0.cap, .int .i64 x0.last, .int .i64 x0.lastTerm, .int .i64 x0.commit, .bool x0.okk, .slice A0_ x0.entries.length c0_, .int .i64 x0.snap.index, .int .i64 x0.snap.term, .int .i64 x0.snap.sum, .int .i64 x0.snap.level, .bool x0.snap.final], .int .i64 x1] w0 fun e w' => e = .returned (.bool r) ∧ St0 All w0 w' [] := by
 unfold Zcf at H
 refine Yt Tryz.func42 rfl Tryz.ntmps42 rfl ?_
 have hS := St0.start All w0
 refine Ze (fun K hK1 => ?_)
 refine Zf ?_
 refine Yd rfl rfl rfl CellsOf.agg hS (fun b2 w hS hB => ?_)
 refine Zc 1 rfl ?_
 refine Zg ?_
 refine Zb hK1 ?_
 refine Ze (fun K hK4 => ?_)
 refine Ze (fun K hK5 => ?_)
 refine Zf ?_
 refine Zc 1 rfl ?_
 refine Za rfl rfl rfl (Xe rfl rfl) ?_
 refine Zc 1 rfl ?_
 refine Zs 7 rfl (fun hb => ?_) (fun hb => ?_)
 ·replace H := Zp H hb
  refine Zc 62 rfl ?_
  refine Zg ?_
  refine Zb hK5 ?_
  refine Zt rfl rfl ?_
  refine Ze (fun K hK6 => ?_)
  refine Zf ?_
  refine Zc 1 rfl ?_
  refine Zg ?_
  refine Zb hK6 ?_
  refine Zk ?_
  refine Zi ?_
  refine Zl rfl (RV.tmp rfl RV.nil) rfl ?_
  obtain rfl := QJ H
  replace hS := hS.cut 0
  exact ⟨rfl, hS⟩
 replace H := Zo H hb
 refine Zc 1 rfl ?_
 refine Za rfl rfl rfl (Y9 rfl rfl) ?_
 refine Zc 2 rfl ?_
 refine Zs 11 rfl (fun hb => ?_) (fun hb => ?_)
 ·replace H := Zp H hb
  refine Zc 58 rfl ?_
  refine Zg ?_
  refine Zb hK5 ?_
  refine Zt rfl rfl ?_
  refine Ze (fun K hK7 => ?_)
  refine Zf ?_
  refine Zc 1 rfl ?_
  refine Zg ?_
  refine Zb hK7 ?_
  refine Zk ?_
  refine Zi ?_
  refine Zl rfl (RV.tmp rfl RV.nil) rfl ?_
  obtain rfl := QJ H
  replace hS := hS.cut 0
  exact ⟨rfl, hS⟩
 replace H := Zo H hb
 refine Za rfl rfl rfl (Zd Zby rfl) ?_
 refine Za rfl rfl rfl (Zh Zw rfl (Zgw _) hS hs0 trivial Vp) ?_
 refine Za rfl rfl rfl (Xe rfl rfl) ?_
 refine Zc 2 rfl ?_
 refine Zs 16 rfl (fun hb => ?_) (fun hb => ?_)
 ·replace H := Zp H hb
  refine Zc 53 rfl ?_
  refine Zg ?_
  refine Zb hK5 ?_
  refine Zt rfl rfl ?_
  refine Ze (fun K hK8 => ?_)
  refine Zf ?_
  refine Zc 1 rfl ?_
  refine Zg ?_
  refine Zb hK8 ?_
  refine Zk ?_
  refine Zi ?_
  refine Zl rfl (RV.tmp rfl RV.nil) rfl ?_
  obtain rfl := QJ H
  replace hS := hS.cut 0
  exact ⟨rfl, hS⟩
 replace H := Zo H hb
 refine Za rfl rfl rfl (Zd Zby rfl) ?_
 refine Za rfl rfl rfl (Zh Zw rfl (Zgw _) hS hs0 trivial Vp) ?_
 refine Zc 1 rfl ?_
 refine Za rfl rfl rfl (Y9 rfl rfl) ?_
 refine Zc 2 rfl ?_
 refine Zs 22 rfl (fun hb => ?_) (fun hb => ?_)
 ·replace H := Zp H hb
  refine Zc 47 rfl ?_
  refine Zg ?_
  refine Zb hK5 ?_
  refine Zt rfl rfl ?_
  refine Ze (fun K hK9 => ?_)
  refine Zf ?_
  refine Zc 1 rfl ?_
  refine Zg ?_
  refine Zb hK9 ?_
  refine Zk ?_
  refine Zi ?_
  refine Zl rfl (RV.tmp rfl RV.nil) rfl ?_
  obtain rfl := QJ H
  replace hS := hS.cut 0
  exact ⟨rfl, hS⟩
 replace H := Zo H hb
 refine Za rfl rfl rfl (Zd Zdy rfl) ?_
 refine Za rfl rfl rfl (Zh Zw rfl (Zgw _) hS hs0 trivial Zav) ?_
 refine Za rfl rfl rfl (Xe rfl rfl) ?_
 refine Zc 2 rfl ?_
 refine Zs 27 rfl (fun hb => ?_) (fun hb => ?_)
 ·replace H := Zp H hb
  refine Zc 42 rfl ?_
  refine Zg ?_
  refine Zb hK5 ?_
  refine Zt rfl rfl ?_
  refine Ze (fun K hK10 => ?_)
  refine Zf ?_
  refine Zc 1 rfl ?_
  refine Zg ?_
  refine Zb hK10 ?_
  refine Zk ?_
  refine Zi ?_
  refine Zl rfl (RV.tmp rfl RV.nil) rfl ?_
  obtain rfl := QJ H
  replace hS := hS.cut 0
  exact ⟨rfl, hS⟩
 replace H := Zo H hb
 refine Za rfl rfl rfl (Zd Zdy rfl) ?_
 refine Za rfl rfl rfl (Zh Zw rfl (Zgw _) hS hs0 trivial Zav) ?_
 refine Zc 1 rfl ?_
 refine Za rfl rfl rfl (Y9 rfl rfl) ?_
 refine Zc 2 rfl ?_
 refine Zs 33 rfl (fun hb => ?_) (fun hb => ?_)
 ·replace H := Zp H hb
  refine Zc 36 rfl ?_
  refine Zg ?_
  refine Zb hK5 ?_
  refine Zt rfl rfl ?_
  refine Ze (fun K hK11 => ?_)
  refine Zf ?_
  refine Zc 1 rfl ?_
  refine Zg ?_
  refine Zb hK11 ?_
  refine Zk ?_
  refine Zi ?_
  refine Zl rfl (RV.tmp rfl RV.nil) rfl ?_
  obtain rfl := QJ H
  replace hS := hS.cut 0
  exact ⟨rfl, hS⟩
 replace H := Zo H hb
 refine Za rfl rfl rfl (Zd Zby rfl) ?_
 refine Za rfl rfl rfl (Zh Zw rfl (Zgw _) hS hs0 trivial Vp) ?_
 refine Za rfl rfl rfl (Zd Zdy rfl) ?_
 refine Za rfl rfl rfl (Zh Zw rfl (Zgw _) hS hs0 trivial Zav) ?_
 refine Za rfl rfl rfl (Y5 rfl rfl) ?_
 refine Zc 2 rfl ?_
 refine Zs 40 rfl (fun hb => ?_) (fun hb => ?_)
 ·replace H := Zp H hb
  refine Zc 29 rfl ?_
  refine Zg ?_
  refine Zb hK5 ?_
  refine Zt rfl rfl ?_
  refine Ze (fun K hK12 => ?_)
  refine Zf ?_
  refine Zc 1 rfl ?_
  refine Zg ?_
  refine Zb hK12 ?_
  refine Zk ?_
  refine Zi ?_
  refine Zl rfl (RV.tmp rfl RV.nil) rfl ?_
  obtain rfl := QJ H
  replace hS := hS.cut 0
  exact ⟨rfl, hS⟩
 replace H := Zo H hb
 refine Za rfl rfl rfl (Zd Vq rfl) ?_
 refine Za rfl rfl rfl (Zh Zbd rfl (Zgw _) hS hs0 trivial Y8) ?_
 refine Za rfl rfl rfl (Xe rfl rfl) ?_
 refine Zc 2 rfl ?_
 refine Zs 45 rfl (fun hb => ?_) (fun hb => ?_)
 ·replace H := Zp H hb
  refine Zc 24 rfl ?_
  refine Zg ?_
  refine Zb hK5 ?_
  refine Zt rfl rfl ?_
  refine Ze (fun K hK13 => ?_)
  refine Zf ?_
  refine Zc 1 rfl ?_
  refine Zg ?_
  refine Zb hK13 ?_
  refine Zk ?_
  refine Zi ?_
  refine Zl rfl (RV.tmp rfl RV.nil) rfl ?_
  obtain rfl := QJ H
  replace hS := hS.cut 0
  exact ⟨rfl, hS⟩
 replace H := Zo H hb
 refine Za rfl rfl rfl (Zd Vq rfl) ?_
 refine Za rfl rfl rfl (Zh Zbd rfl (Zgw _) hS hs0 trivial Y8) ?_
 refine Za rfl rfl rfl (Zcu rfl rfl) ?_
 refine Zc 2 rfl ?_
 refine Zs 50 rfl (fun hb => ?_) (fun hb => ?_)
 ·replace H := Zp H hb
  refine Zc 19 rfl ?_
  refine Zg ?_
  refine Zb hK5 ?_
  refine Zt rfl rfl ?_
  refine Ze (fun K hK14 => ?_)
  refine Zf ?_
  refine Zc 1 rfl ?_
  refine Zg ?_
  refine Zb hK14 ?_
  refine Zk ?_
  refine Zi ?_
  refine Zl rfl (RV.tmp rfl RV.nil) rfl ?_
  obtain rfl := QJ H
  replace hS := hS.cut 0
  exact ⟨rfl, hS⟩
 replace H := Zo H hb
 refine Za rfl rfl rfl (Zd Zb1 rfl) ?_
 refine Za rfl rfl rfl (Zh Zw rfl (Zgw _) hS hs0 trivial Zan) ?_
 refine Za rfl rfl rfl (Xe rfl rfl) ?_
 refine Zc 2 rfl ?_
 refine Zs 55 rfl (fun hb => ?_) (fun hb => ?_)
 ·replace H := Zp H hb
  refine Zc 14 rfl ?_
  refine Zg ?_
  refine Zb hK5 ?_
  refine Zt rfl rfl ?_
  refine Ze (fun K hK15 => ?_)
  refine Zf ?_
  refine Zc 1 rfl ?_
  refine Zg ?_
  refine Zb hK15 ?_
  refine Zk ?_
  refine Zi ?_
  refine Zl rfl (RV.tmp rfl RV.nil) rfl ?_
  obtain rfl := QJ H
  replace hS := hS.cut 0
  exact ⟨rfl, hS⟩
 replace H := Zo H hb
 refine Za rfl rfl rfl (Zd Zb1 rfl) ?_
 refine Za rfl rfl rfl (Zh Zw rfl (Zgw _) hS hs0 trivial Zan) ?_
 refine Za rfl rfl rfl (Y9 rfl rfl) ?_
 refine Zc 2 rfl ?_
 refine Zs 60 rfl (fun hb => ?_) (fun hb => ?_)
 ·replace H := Zp H hb
  refine Zc 9 rfl ?_
  refine Zg ?_
  refine Zb hK5 ?_
  refine Zt rfl rfl ?_
  refine Ze (fun K hK16 => ?_)
  refine Zf ?_
  refine Zc 1 rfl ?_
  refine Zg ?_
  refine Zb hK16 ?_
  refine Zk ?_
  refine Zi ?_
  refine Zl rfl (RV.tmp rfl RV.nil) rfl ?_
  obtain rfl := QJ H
  replace hS := hS.cut 0
  exact ⟨rfl, hS⟩
 replace H := Zo H hb
 refine Za rfl rfl rfl (Zd fo_32_4 rfl) ?_
 refine Za rfl rfl rfl (Zh Zw rfl (Zgw _) hS hs0 trivial Zew) ?_
 refine Za rfl rfl rfl (Xe rfl rfl) ?_
 refine Zc 2 rfl ?_
 refine Zs 65 rfl (fun hb => ?_) (fun hb => ?_)
 ·replace H := Zp H hb
  refine Zc 4 rfl ?_
  refine Zg ?_
  refine Zb hK5 ?_
  refine Zt rfl rfl ?_
  refine Ze (fun K hK17 => ?_)
  refine Zf ?_
  refine Zc 1 rfl ?_
  refine Zg ?_
  refine Zb hK17 ?_
  refine Zk ?_
  refine Zi ?_
  refine Zl rfl (RV.tmp rfl RV.nil) rfl ?_
  obtain rfl := QJ H
  replace hS := hS.cut 0
  exact ⟨rfl, hS⟩
 replace H := Zo H hb
 refine Za rfl rfl rfl (Zd fo_32_4 rfl) ?_
 refine Za rfl rfl rfl (Zh Zw rfl (Zgw _) hS hs0 trivial Zew) ?_
 refine Za rfl rfl rfl (Y9 rfl rfl) ?_
 refine Zc 1 rfl ?_
 refine Zg ?_
 refine Zb hK5 ?_
 refine Zz rfl (fun hb => ?_) (fun hb => ?_)
 ·replace H := Zp H hb
  refine Ze (fun K hK18 => ?_)
  refine Zf ?_
  refine Zc 1 rfl ?_
  refine Zg ?_
  refine Zb hK18 ?_
  refine Zk ?_
  refine Zi ?_
  refine Zl rfl (RV.tmp rfl RV.nil) rfl ?_
  obtain rfl := QJ H
  replace hS := hS.cut 0
  exact ⟨rfl, hS⟩
 replace H := Zo H hb
 refine Zr ?_
 refine Zb hK4 ?_
 refine Ze (fun K hK19 => ?_)
 refine Ze (fun K hK20 => ?_)
 refine Zf ?_
 refine Za rfl rfl rfl (Zd Vu rfl) ?_
 refine Za rfl rfl rfl (Zh Zw rfl (Zgw _) hS hs0 trivial V7) ?_
 obtain ⟨r21, hm22, H⟩ := bind_some H
 refine Zq rfl rfl rfl rfl (by kernel_rfl) rfl (Zfy x0.last _ hm22) ?_
 rintro e w ⟨rfl, hN⟩; refine ⟨_, rfl, ?_⟩; obtain ⟨hB, hS⟩ := hS.jn hN
 refine Za rfl rfl rfl (Yy rfl) ?_
 refine Zc 1 rfl ?_
 refine Zs 74 rfl (fun hb => ?_) (fun hb => ?_)
 ·replace H := Zp H hb
  refine Zc 16 rfl ?_
  refine Zg ?_
  refine Zb hK20 ?_
  refine Zt rfl rfl ?_
  refine Ze (fun K hK23 => ?_)
  refine Zf ?_
  refine Zc 1 rfl ?_
  refine Zg ?_
  refine Zb hK23 ?_
  refine Zk ?_
  refine Zi ?_
  refine Zl rfl (RV.tmp rfl RV.nil) rfl ?_
  obtain rfl := QJ H
  replace hS := hS.cut 0
  exact ⟨rfl, hS⟩
 replace H := Zo H hb
 refine Za rfl rfl rfl (Zd Zf4 rfl) ?_
 refine Za rfl rfl rfl (Zh Zw rfl (Zgw _) hS hs0 trivial sg6_1) ?_
 obtain ⟨r24, hm25, H⟩ := bind_some H
 refine Zq rfl rfl rfl rfl (by kernel_rfl) rfl (Zfy x0.lastTerm _ hm25) ?_
 rintro e w ⟨rfl, hN⟩; refine ⟨_, rfl, ?_⟩; obtain ⟨hB, hS⟩ := hS.jn hN
 refine Za rfl rfl rfl (Yy rfl) ?_
 refine Zc 2 rfl ?_
 refine Zs 80 rfl (fun hb => ?_) (fun hb => ?_)
 ·replace H := Zp H hb
  refine Zc 10 rfl ?_
  refine Zg ?_
  refine Zb hK20 ?_
  refine Zt rfl rfl ?_
  refine Ze (fun K hK26 => ?_)
  refine Zf ?_
  refine Zc 1 rfl ?_
  refine Zg ?_
  refine Zb hK26 ?_
  refine Zk ?_
  refine Zi ?_
  refine Zl rfl (RV.tmp rfl RV.nil) rfl ?_
  obtain rfl := QJ H
  replace hS := hS.cut 0
  exact ⟨rfl, hS⟩
 replace H := Zo H hb
 refine Za rfl rfl rfl (Zd Zcl rfl) ?_
 refine Za rfl rfl rfl (Zh Zw rfl (Zgw _) hS hs0 trivial Zey) ?_
 obtain ⟨r27, hm28, H⟩ := bind_some H
 refine Zq rfl rfl rfl rfl (by kernel_rfl) rfl (Zfy x0.commit _ hm28) ?_
 rintro e w ⟨rfl, hN⟩; refine ⟨_, rfl, ?_⟩; obtain ⟨hB, hS⟩ := hS.jn hN
 refine Za rfl rfl rfl (Yy rfl) ?_
 refine Zc 2 rfl ?_
 refine Zs 86 rfl (fun hb => ?_) (fun hb => ?_)
 ·replace H := Zp H hb
  refine Zc 4 rfl ?_
  refine Zg ?_
  refine Zb hK20 ?_
  refine Zt rfl rfl ?_
  refine Ze (fun K hK29 => ?_)
  refine Zf ?_
  refine Zc 1 rfl ?_
  refine Zg ?_
  refine Zb hK29 ?_
  refine Zk ?_
  refine Zi ?_
  refine Zl rfl (RV.tmp rfl RV.nil) rfl ?_
  obtain rfl := QJ H
  replace hS := hS.cut 0
  exact ⟨rfl, hS⟩
 replace H := Zo H hb
 refine Za rfl rfl rfl (Zj Vi rfl (Zgw _) hS hs0 trivial Xp) ?_
 obtain ⟨r30, hm31, H⟩ := bind_some H
 refine Zq rfl rfl rfl rfl (by kernel_rfl) rfl (c_ref20_entries x0 A0_ c0_ _ (Zgz s0_.k (hS.rd0 s0_.rd) (hS.blk0 s0_.blk)) hm31) ?_
 rintro e w ⟨rfl, hN⟩; refine ⟨_, rfl, ?_⟩; obtain ⟨hB, hS⟩ := hS.jn hN
 refine Za rfl rfl rfl (Yy rfl) ?_
 refine Zc 1 rfl ?_
 refine Zg ?_
 refine Zb hK20 ?_
 refine Zz rfl (fun hb => ?_) (fun hb => ?_)
 ·replace H := Zp H hb
  refine Ze (fun K hK32 => ?_)
  refine Zf ?_
  refine Zc 1 rfl ?_
  refine Zg ?_
  refine Zb hK32 ?_
  refine Zk ?_
  refine Zi ?_
  refine Zl rfl (RV.tmp rfl RV.nil) rfl ?_
  obtain rfl := QJ H
  replace hS := hS.cut 0
  exact ⟨rfl, hS⟩
 replace H := Zo H hb
 refine Zr ?_
 refine Zb hK19 ?_
 refine Ze (fun K hK33 => ?_)
 refine Ze (fun K hK34 => ?_)
 refine Zf ?_
 refine Za rfl rfl rfl (Zd Vq rfl) ?_
 refine Za rfl rfl rfl (Zh Zbd rfl (Zgw _) hS hs0 trivial Y8) ?_
 refine Za rfl rfl rfl (Xh rfl rfl) ?_
 refine Zc 1 rfl ?_
 refine Zs 94 rfl (fun hb => ?_) (fun hb => ?_)
 rotate_left
 ·replace H := Zo H hb
  refine Zc 11 rfl ?_
  refine Za rfl rfl rfl (Zd Zel rfl) ?_
  refine Za rfl rfl rfl (Zh sc_4 rfl (Zgw _) hS hs0 trivial sg8_1) ?_
  refine Zc 1 rfl ?_
  refine Zs 108 rfl (fun hb => ?_) (fun hb => ?_)
  rotate_left
  ·replace H := Zo H hb
   refine Zc 10 rfl ?_
   refine Zg ?_
   refine Zb hK34 ?_
   refine Yp rfl rfl ?_
   refine Zr ?_
   refine Zb hK33 ?_
   refine Ze (fun K hK69 => ?_)
   refine Ze (fun K hK70 => ?_)
   refine Zf ?_
   refine Za rfl rfl rfl (Zd Vq rfl) ?_
   refine Za rfl rfl rfl (Zh Zbd rfl (Zgw _) hS hs0 trivial Y8) ?_
   refine Za rfl rfl rfl (Y5 rfl rfl) ?_
   refine Zg ?_
   refine Zb hK70 ?_
   refine Zz rfl (fun hb => ?_) (fun hb => ?_)
   rotate_left
   ·replace H := Zo H hb
    refine Zr ?_
    refine Zb hK69 ?_
    refine Ze (fun K hK74 => ?_)
    refine Zf ?_
    refine Za rfl rfl rfl (Zd Xk rfl) ?_
    refine Za rfl rfl rfl (Zj Y3 rfl (Zgw _) hS hs0 trivial J3) ?_
    refine Za rfl rfl rfl (X1 (cells := [.int .i64 0, .int .i64 0, .int .i64 0, .int .i64 0, .bool false]) rfl (by kernel_rfl)) ?_
    refine Za rfl rfl rfl (J6 (by kernel_rfl) rfl rfl (Zap _ _ _ _ _ _ _ _ _ _)) ?_
    refine Zc 1 rfl ?_
    refine Zg ?_
    refine Zb hK74 ?_
    refine Zk ?_
    refine Zl rfl (RV.tmp rfl RV.nil) rfl ?_
    obtain rfl := QJ H
    replace hS := hS.cut 0
    exact ⟨rfl, hS⟩
   replace H := Zp H hb
   refine Ze (fun K hK71 => ?_)
   refine Zf ?_
   refine Za rfl rfl rfl (Zd Xk rfl) ?_
   refine Za rfl rfl rfl (Zj Y3 rfl (Zgw _) hS hs0 trivial J3) ?_
   obtain ⟨r72, hm73, H⟩ := bind_some H
   refine Zq rfl rfl rfl rfl (by kernel_rfl) rfl (Zax x0.snap _ hm73) ?_
   rintro e w ⟨rfl, hN⟩; refine ⟨_, rfl, ?_⟩; obtain ⟨hB, hS⟩ := hS.jn hN
   refine Zc 1 rfl ?_
   refine Zs 125 rfl (fun hb => ?_) (fun hb => ?_)
   rotate_left
   ·replace H := Zo H hb
    refine Zc 6 rfl ?_
    refine Zg ?_
    refine Zb hK71 ?_
    refine Zk ?_
    refine Zi ?_
    refine Zl rfl (RV.tmp rfl RV.nil) rfl ?_
    obtain rfl := QJ H
    replace hS := hS.cut 0
    exact ⟨rfl, hS⟩
   replace H := Zp H hb
   refine Za rfl rfl rfl (Zd Xk rfl) ?_
   refine Za rfl rfl rfl (Zd Yj rfl) ?_
   refine Za rfl rfl rfl (Zh Zw rfl (Zgw _) hS hs0 trivial J7) ?_
   refine Za rfl rfl rfl (Y9 rfl rfl) ?_
   refine Zc 2 rfl ?_
   refine Zg ?_
   refine Zb hK71 ?_
   refine Zk ?_
   refine Zi ?_
   refine Zl rfl (RV.tmp rfl RV.nil) rfl ?_
   obtain rfl := QJ H
   replace hS := hS.cut 0
   exact ⟨rfl, hS⟩
  replace H := Zp H hb
  refine Za rfl rfl rfl (Zd Vq rfl) ?_
  refine Za rfl rfl rfl (Zh Zbd rfl (Zgw _) hS hs0 trivial Y8) ?_
  refine Za rfl rfl rfl (Xh rfl rfl) ?_
  refine Zc 2 rfl ?_
  refine Zs 113 rfl (fun hb => ?_) (fun hb => ?_)
  rotate_left
  ·replace H := Zo H hb
   refine Zc 5 rfl ?_
   refine Zg ?_
   refine Zb hK34 ?_
   refine Yp rfl rfl ?_
   refine Zr ?_
   refine Zb hK33 ?_
   refine Ze (fun K hK63 => ?_)
   refine Ze (fun K hK64 => ?_)
   refine Zf ?_
   refine Za rfl rfl rfl (Zd Vq rfl) ?_
   refine Za rfl rfl rfl (Zh Zbd rfl (Zgw _) hS hs0 trivial Y8) ?_
   refine Za rfl rfl rfl (Y5 rfl rfl) ?_
   refine Zg ?_
   refine Zb hK64 ?_
   refine Zz rfl (fun hb => ?_) (fun hb => ?_)
   rotate_left
   ·replace H := Zo H hb
    refine Zr ?_
    refine Zb hK63 ?_
    refine Ze (fun K hK68 => ?_)
    refine Zf ?_
    refine Za rfl rfl rfl (Zd Xk rfl) ?_
    refine Za rfl rfl rfl (Zj Y3 rfl (Zgw _) hS hs0 trivial J3) ?_
    refine Za rfl rfl rfl (X1 (cells := [.int .i64 0, .int .i64 0, .int .i64 0, .int .i64 0, .bool false]) rfl (by kernel_rfl)) ?_
    refine Za rfl rfl rfl (J6 (by kernel_rfl) rfl rfl (Zap _ _ _ _ _ _ _ _ _ _)) ?_
    refine Zc 1 rfl ?_
    refine Zg ?_
    refine Zb hK68 ?_
    refine Zk ?_
    refine Zl rfl (RV.tmp rfl RV.nil) rfl ?_
    obtain rfl := QJ H
    replace hS := hS.cut 0
    exact ⟨rfl, hS⟩
   replace H := Zp H hb
   refine Ze (fun K hK65 => ?_)
   refine Zf ?_
   refine Za rfl rfl rfl (Zd Xk rfl) ?_
   refine Za rfl rfl rfl (Zj Y3 rfl (Zgw _) hS hs0 trivial J3) ?_
   obtain ⟨r66, hm67, H⟩ := bind_some H
   refine Zq rfl rfl rfl rfl (by kernel_rfl) rfl (Zax x0.snap _ hm67) ?_
   rintro e w ⟨rfl, hN⟩; refine ⟨_, rfl, ?_⟩; obtain ⟨hB, hS⟩ := hS.jn hN
   refine Zc 1 rfl ?_
   refine Zs 125 rfl (fun hb => ?_) (fun hb => ?_)
   rotate_left
   ·replace H := Zo H hb
    refine Zc 6 rfl ?_
    refine Zg ?_
    refine Zb hK65 ?_
    refine Zk ?_
    refine Zi ?_
    refine Zl rfl (RV.tmp rfl RV.nil) rfl ?_
    obtain rfl := QJ H
    replace hS := hS.cut 0
    exact ⟨rfl, hS⟩
   replace H := Zp H hb
   refine Za rfl rfl rfl (Zd Xk rfl) ?_
   refine Za rfl rfl rfl (Zd Yj rfl) ?_
   refine Za rfl rfl rfl (Zh Zw rfl (Zgw _) hS hs0 trivial J7) ?_
   refine Za rfl rfl rfl (Y9 rfl rfl) ?_
   refine Zc 2 rfl ?_
   refine Zg ?_
   refine Zb hK65 ?_
   refine Zk ?_
   refine Zi ?_
   refine Zl rfl (RV.tmp rfl RV.nil) rfl ?_
   obtain rfl := QJ H
   replace hS := hS.cut 0
   exact ⟨rfl, hS⟩
  replace H := Zp H hb
  refine Za rfl rfl rfl (Zd Vq rfl) ?_
  refine Za rfl rfl rfl (Zh Zbd rfl (Zgw _) hS hs0 trivial Y8) ?_
  refine Za rfl rfl rfl (Xh rfl rfl) ?_
  refine Zc 2 rfl ?_
  refine Zg ?_
  refine Zb hK34 ?_
  refine Zz rfl (fun hb => ?_) (fun hb => ?_)
  ·replace H := Zp H hb
   refine Ze (fun K hK56 => ?_)
   refine Zf ?_
   refine Zc 1 rfl ?_
   refine Zg ?_
   refine Zb hK56 ?_
   refine Zk ?_
   refine Zi ?_
   refine Zl rfl (RV.tmp rfl RV.nil) rfl ?_
   obtain rfl := QJ H
   replace hS := hS.cut 0
   exact ⟨rfl, hS⟩
  replace H := Zo H hb
  refine Zr ?_
  refine Zb hK33 ?_
  refine Ze (fun K hK57 => ?_)
  refine Ze (fun K hK58 => ?_)
  refine Zf ?_
  refine Za rfl rfl rfl (Zd Vq rfl) ?_
  refine Za rfl rfl rfl (Zh Zbd rfl (Zgw _) hS hs0 trivial Y8) ?_
  refine Za rfl rfl rfl (Y5 rfl rfl) ?_
  refine Zg ?_
  refine Zb hK58 ?_
  refine Zz rfl (fun hb => ?_) (fun hb => ?_)
  rotate_left
  ·replace H := Zo H hb
   refine Zr ?_
   refine Zb hK57 ?_
   refine Ze (fun K hK62 => ?_)
   refine Zf ?_
   refine Za rfl rfl rfl (Zd Xk rfl) ?_
   refine Za rfl rfl rfl (Zj Y3 rfl (Zgw _) hS hs0 trivial J3) ?_
   refine Za rfl rfl rfl (X1 (cells := [.int .i64 0, .int .i64 0, .int .i64 0, .int .i64 0, .bool false]) rfl (by kernel_rfl)) ?_
   refine Za rfl rfl rfl (J6 (by kernel_rfl) rfl rfl (Zap _ _ _ _ _ _ _ _ _ _)) ?_
   refine Zc 1 rfl ?_
   refine Zg ?_
   refine Zb hK62 ?_
   refine Zk ?_
   refine Zl rfl (RV.tmp rfl RV.nil) rfl ?_
   obtain rfl := QJ H
   replace hS := hS.cut 0
   exact ⟨rfl, hS⟩
  replace H := Zp H hb
  refine Ze (fun K hK59 => ?_)
  refine Zf ?_
  refine Za rfl rfl rfl (Zd Xk rfl) ?_
  refine Za rfl rfl rfl (Zj Y3 rfl (Zgw _) hS hs0 trivial J3) ?_
  obtain ⟨r60, hm61, H⟩ := bind_some H
  refine Zq rfl rfl rfl rfl (by kernel_rfl) rfl (Zax x0.snap _ hm61) ?_
  rintro e w ⟨rfl, hN⟩; refine ⟨_, rfl, ?_⟩; obtain ⟨hB, hS⟩ := hS.jn hN
  refine Zc 1 rfl ?_
  refine Zs 125 rfl (fun hb => ?_) (fun hb => ?_)
  rotate_left
  ·replace H := Zo H hb
   refine Zc 6 rfl ?_
   refine Zg ?_
   refine Zb hK59 ?_
   refine Zk ?_
   refine Zi ?_
   refine Zl rfl (RV.tmp rfl RV.nil) rfl ?_
   obtain rfl := QJ H
   replace hS := hS.cut 0
   exact ⟨rfl, hS⟩
  replace H := Zp H hb
  refine Za rfl rfl rfl (Zd Xk rfl) ?_
  refine Za rfl rfl rfl (Zd Yj rfl) ?_
  refine Za rfl rfl rfl (Zh Zw rfl (Zgw _) hS hs0 trivial J7) ?_
  refine Za rfl rfl rfl (Y9 rfl rfl) ?_
  refine Zc 2 rfl ?_
  refine Zg ?_
  refine Zb hK59 ?_
  refine Zk ?_
  refine Zi ?_
  refine Zl rfl (RV.tmp rfl RV.nil) rfl ?_
  obtain rfl := QJ H
  replace hS := hS.cut 0
  exact ⟨rfl, hS⟩
 replace H := Zp H hb
 refine Za rfl rfl rfl (Zd X5 rfl) ?_
 refine Za rfl rfl rfl (Zh Xq rfl (Zgw _) hS hs0 trivial Jg) ?_
 refine Za rfl rfl rfl (Yw Y4 rfl) ?_
 refine Za rfl rfl rfl (Y9 rfl rfl) ?_
 refine Zc 1 rfl ?_
 refine Zs 99 rfl (fun hb => ?_) (fun hb => ?_)
 ·replace H := Zp H hb
  refine Zc 19 rfl ?_
  refine Zg ?_
  refine Zb hK34 ?_
  refine Zt rfl rfl ?_
  refine Ze (fun K hK35 => ?_)
  refine Zf ?_
  refine Zc 1 rfl ?_
  refine Zg ?_
  refine Zb hK35 ?_
  refine Zk ?_
  refine Zi ?_
  refine Zl rfl (RV.tmp rfl RV.nil) rfl ?_
  obtain rfl := QJ H
  replace hS := hS.cut 0
  exact ⟨rfl, hS⟩
 replace H := Zo H hb
 refine Za rfl rfl rfl (Zd Zcl rfl) ?_
 refine Za rfl rfl rfl (Zh Zw rfl (Zgw _) hS hs0 trivial Zey) ?_
 refine Za rfl rfl rfl (Y9 rfl rfl) ?_
 refine Zc 3 rfl ?_
 refine Zs 105 rfl (fun hb => ?_) (fun hb => ?_)
 ·replace H := Zp H hb
  refine Zc 13 rfl ?_
  refine Zg ?_
  refine Zb hK34 ?_
  refine Zt rfl rfl ?_
  refine Ze (fun K hK36 => ?_)
  refine Zf ?_
  refine Zc 1 rfl ?_
  refine Zg ?_
  refine Zb hK36 ?_
  refine Zk ?_
  refine Zi ?_
  refine Zl rfl (RV.tmp rfl RV.nil) rfl ?_
  obtain rfl := QJ H
  replace hS := hS.cut 0
  exact ⟨rfl, hS⟩
 replace H := Zo H hb
 refine Za rfl rfl rfl (Zd Zel rfl) ?_
 refine Za rfl rfl rfl (Zh sc_4 rfl (Zgw _) hS hs0 trivial sg8_1) ?_
 refine Zc 1 rfl ?_
 refine Zs 108 rfl (fun hb => ?_) (fun hb => ?_)
 rotate_left
 ·replace H := Zo H hb
  refine Zc 10 rfl ?_
  refine Zg ?_
  refine Zb hK34 ?_
  refine Yp rfl rfl ?_
  refine Zr ?_
  refine Zb hK33 ?_
  refine Ze (fun K hK50 => ?_)
  refine Ze (fun K hK51 => ?_)
  refine Zf ?_
  refine Za rfl rfl rfl (Zd Vq rfl) ?_
  refine Za rfl rfl rfl (Zh Zbd rfl (Zgw _) hS hs0 trivial Y8) ?_
  refine Za rfl rfl rfl (Y5 rfl rfl) ?_
  refine Zg ?_
  refine Zb hK51 ?_
  refine Zz rfl (fun hb => ?_) (fun hb => ?_)
  rotate_left
  ·replace H := Zo H hb
   refine Zr ?_
   refine Zb hK50 ?_
   refine Ze (fun K hK55 => ?_)
   refine Zf ?_
   refine Za rfl rfl rfl (Zd Xk rfl) ?_
   refine Za rfl rfl rfl (Zj Y3 rfl (Zgw _) hS hs0 trivial J3) ?_
   refine Za rfl rfl rfl (X1 (cells := [.int .i64 0, .int .i64 0, .int .i64 0, .int .i64 0, .bool false]) rfl (by kernel_rfl)) ?_
   refine Za rfl rfl rfl (J6 (by kernel_rfl) rfl rfl (Zap _ _ _ _ _ _ _ _ _ _)) ?_
   refine Zc 1 rfl ?_
   refine Zg ?_
   refine Zb hK55 ?_
   refine Zk ?_
   refine Zl rfl (RV.tmp rfl RV.nil) rfl ?_
   obtain rfl := QJ H
   replace hS := hS.cut 0
   exact ⟨rfl, hS⟩
  replace H := Zp H hb
  refine Ze (fun K hK52 => ?_)
  refine Zf ?_
  refine Za rfl rfl rfl (Zd Xk rfl) ?_
  refine Za rfl rfl rfl (Zj Y3 rfl (Zgw _) hS hs0 trivial J3) ?_
  obtain ⟨r53, hm54, H⟩ := bind_some H
  refine Zq rfl rfl rfl rfl (by kernel_rfl) rfl (Zax x0.snap _ hm54) ?_
  rintro e w ⟨rfl, hN⟩; refine ⟨_, rfl, ?_⟩; obtain ⟨hB, hS⟩ := hS.jn hN
  refine Zc 1 rfl ?_
  refine Zs 125 rfl (fun hb => ?_) (fun hb => ?_)
  rotate_left
  ·replace H := Zo H hb
   refine Zc 6 rfl ?_
   refine Zg ?_
   refine Zb hK52 ?_
   refine Zk ?_
   refine Zi ?_
   refine Zl rfl (RV.tmp rfl RV.nil) rfl ?_
   obtain rfl := QJ H
   replace hS := hS.cut 0
   exact ⟨rfl, hS⟩
  replace H := Zp H hb
  refine Za rfl rfl rfl (Zd Xk rfl) ?_
  refine Za rfl rfl rfl (Zd Yj rfl) ?_
  refine Za rfl rfl rfl (Zh Zw rfl (Zgw _) hS hs0 trivial J7) ?_
  refine Za rfl rfl rfl (Y9 rfl rfl) ?_
  refine Zc 2 rfl ?_
  refine Zg ?_
  refine Zb hK52 ?_
  refine Zk ?_
  refine Zi ?_
  refine Zl rfl (RV.tmp rfl RV.nil) rfl ?_
  obtain rfl := QJ H
  replace hS := hS.cut 0
  exact ⟨rfl, hS⟩
 replace H := Zp H hb
 refine Za rfl rfl rfl (Zd Vq rfl) ?_
 refine Za rfl rfl rfl (Zh Zbd rfl (Zgw _) hS hs0 trivial Y8) ?_
 refine Za rfl rfl rfl (Xh rfl rfl) ?_
 refine Zc 2 rfl ?_
 refine Zs 113 rfl (fun hb => ?_) (fun hb => ?_)
 rotate_left
 ·replace H := Zo H hb
  refine Zc 5 rfl ?_
  refine Zg ?_
  refine Zb hK34 ?_
  refine Yp rfl rfl ?_
  refine Zr ?_
  refine Zb hK33 ?_
  refine Ze (fun K hK44 => ?_)
  refine Ze (fun K hK45 => ?_)
  refine Zf ?_
  refine Za rfl rfl rfl (Zd Vq rfl) ?_
  refine Za rfl rfl rfl (Zh Zbd rfl (Zgw _) hS hs0 trivial Y8) ?_
  refine Za rfl rfl rfl (Y5 rfl rfl) ?_
  refine Zg ?_
  refine Zb hK45 ?_
  refine Zz rfl (fun hb => ?_) (fun hb => ?_)
  rotate_left
  ·replace H := Zo H hb
   refine Zr ?_
   refine Zb hK44 ?_
   refine Ze (fun K hK49 => ?_)
   refine Zf ?_
   refine Za rfl rfl rfl (Zd Xk rfl) ?_
   refine Za rfl rfl rfl (Zj Y3 rfl (Zgw _) hS hs0 trivial J3) ?_
   refine Za rfl rfl rfl (X1 (cells := [.int .i64 0, .int .i64 0, .int .i64 0, .int .i64 0, .bool false]) rfl (by kernel_rfl)) ?_
   refine Za rfl rfl rfl (J6 (by kernel_rfl) rfl rfl (Zap _ _ _ _ _ _ _ _ _ _)) ?_
   refine Zc 1 rfl ?_
   refine Zg ?_
   refine Zb hK49 ?_
   refine Zk ?_
   refine Zl rfl (RV.tmp rfl RV.nil) rfl ?_
   obtain rfl := QJ H
   replace hS := hS.cut 0
   exact ⟨rfl, hS⟩
  replace H := Zp H hb
  refine Ze (fun K hK46 => ?_)
  refine Zf ?_
  refine Za rfl rfl rfl (Zd Xk rfl) ?_
  refine Za rfl rfl rfl (Zj Y3 rfl (Zgw _) hS hs0 trivial J3) ?_
  obtain ⟨r47, hm48, H⟩ := bind_some H
  refine Zq rfl rfl rfl rfl (by kernel_rfl) rfl (Zax x0.snap _ hm48) ?_
  rintro e w ⟨rfl, hN⟩; refine ⟨_, rfl, ?_⟩; obtain ⟨hB, hS⟩ := hS.jn hN
  refine Zc 1 rfl ?_
  refine Zs 125 rfl (fun hb => ?_) (fun hb => ?_)
  rotate_left
  ·replace H := Zo H hb
   refine Zc 6 rfl ?_
   refine Zg ?_
   refine Zb hK46 ?_
   refine Zk ?_
   refine Zi ?_
   refine Zl rfl (RV.tmp rfl RV.nil) rfl ?_
   obtain rfl := QJ H
   replace hS := hS.cut 0
   exact ⟨rfl, hS⟩
  replace H := Zp H hb
  refine Za rfl rfl rfl (Zd Xk rfl) ?_
  refine Za rfl rfl rfl (Zd Yj rfl) ?_
  refine Za rfl rfl rfl (Zh Zw rfl (Zgw _) hS hs0 trivial J7) ?_
  refine Za rfl rfl rfl (Y9 rfl rfl) ?_
  refine Zc 2 rfl ?_
  refine Zg ?_
  refine Zb hK46 ?_
  refine Zk ?_
  refine Zi ?_
  refine Zl rfl (RV.tmp rfl RV.nil) rfl ?_
  obtain rfl := QJ H
  replace hS := hS.cut 0
  exact ⟨rfl, hS⟩
 replace H := Zp H hb
 refine Za rfl rfl rfl (Zd Vq rfl) ?_
 refine Za rfl rfl rfl (Zh Zbd rfl (Zgw _) hS hs0 trivial Y8) ?_
 refine Za rfl rfl rfl (Xh rfl rfl) ?_
 refine Zc 2 rfl ?_
 refine Zg ?_
 refine Zb hK34 ?_
 refine Zz rfl (fun hb => ?_) (fun hb => ?_)
 ·replace H := Zp H hb
  refine Ze (fun K hK37 => ?_)
  refine Zf ?_
  refine Zc 1 rfl ?_
  refine Zg ?_
  refine Zb hK37 ?_
  refine Zk ?_
  refine Zi ?_
  refine Zl rfl (RV.tmp rfl RV.nil) rfl ?_
  obtain rfl := QJ H
  replace hS := hS.cut 0
  exact ⟨rfl, hS⟩
 replace H := Zo H hb
 refine Zr ?_
 refine Zb hK33 ?_
 refine Ze (fun K hK38 => ?_)
 refine Ze (fun K hK39 => ?_)
 refine Zf ?_
 refine Za rfl rfl rfl (Zd Vq rfl) ?_
 refine Za rfl rfl rfl (Zh Zbd rfl (Zgw _) hS hs0 trivial Y8) ?_
 refine Za rfl rfl rfl (Y5 rfl rfl) ?_
 refine Zg ?_
 refine Zb hK39 ?_
 refine Zz rfl (fun hb => ?_) (fun hb => ?_)
 rotate_left
 ·replace H := Zo H hb
  refine Zr ?_
  refine Zb hK38 ?_
  refine Ze (fun K hK43 => ?_)
  refine Zf ?_
  refine Za rfl rfl rfl (Zd Xk rfl) ?_
  refine Za rfl rfl rfl (Zj Y3 rfl (Zgw _) hS hs0 trivial J3) ?_
  refine Za rfl rfl rfl (X1 (cells := [.int .i64 0, .int .i64 0, .int .i64 0, .int .i64 0, .bool false]) rfl (by kernel_rfl)) ?_
  refine Za rfl rfl rfl (J6 (by kernel_rfl) rfl rfl (Zap _ _ _ _ _ _ _ _ _ _)) ?_
  refine Zc 1 rfl ?_
  refine Zg ?_
  refine Zb hK43 ?_
  refine Zk ?_
  refine Zl rfl (RV.tmp rfl RV.nil) rfl ?_
  obtain rfl := QJ H
  replace hS := hS.cut 0
  exact ⟨rfl, hS⟩
 replace H := Zp H hb
 refine Ze (fun K hK40 => ?_)
 refine Zf ?_
 refine Za rfl rfl rfl (Zd Xk rfl) ?_
 refine Za rfl rfl rfl (Zj Y3 rfl (Zgw _) hS hs0 trivial J3) ?_
 obtain ⟨r41, hm42, H⟩ := bind_some H
 refine Zq rfl rfl rfl rfl (by kernel_rfl) rfl (Zax x0.snap _ hm42) ?_
 rintro e w ⟨rfl, hN⟩; refine ⟨_, rfl, ?_⟩; obtain ⟨hB, hS⟩ := hS.jn hN
 refine Zc 1 rfl ?_
 refine Zs 125 rfl (fun hb => ?_) (fun hb => ?_)
 rotate_left
 ·replace H := Zo H hb
  refine Zc 6 rfl ?_
  refine Zg ?_
  refine Zb hK40 ?_
  refine Zk ?_
  refine Zi ?_
  refine Zl rfl (RV.tmp rfl RV.nil) rfl ?_
  obtain rfl := QJ H
  replace hS := hS.cut 0
  exact ⟨rfl, hS⟩
 replace H := Zp H hb
 refine Za rfl rfl rfl (Zd Xk rfl) ?_
 refine Za rfl rfl rfl (Zd Yj rfl) ?_
 refine Za rfl rfl rfl (Zh Zw rfl (Zgw _) hS hs0 trivial J7) ?_
 refine Za rfl rfl rfl (Y9 rfl rfl) ?_
 refine Zc 2 rfl ?_
 refine Zg ?_
 refine Zb hK40 ?_
 refine Zk ?_
 refine Zi ?_
 refine Zl rfl (RV.tmp rfl RV.nil) rfl ?_
 obtain rfl := QJ H
 replace hS := hS.cut 0
 exact ⟨rfl, hS⟩
theorem c_ref21_To (x0 : Co) (x1 : Ms) (A0_ : OA) (c0_ : Nat) (A1_ : OA) (c1_ : Nat) (A2_ : OA) (c2_ : Nat) (A3_ : OA) (c3_ : Nat) (A4_ : OA) (c4_ : Nat) (A5_ : OA) (c5_ : Nat) (w0 : World) (s0_ : SlI w0 Jj A0_ c0_ x0.tuple.log) (s1_ : SlI w0 enO A1_ c1_ x0.votes) (s2_ : SlI w0 V1 A2_ c2_ x0.next) (s3_ : SlI w0 V1 A3_ c3_ x0.mtch) (s4_ : SlI w0 V1 A4_ c4_ x0.caps) (s5_ : SlI w0 Jj A5_ c5_ x1.entries) {r : Bool} (H : Zfv x0 x1 = some r) : Calls Tryz.prog 45 #[.agg #[.int .i64 x0.id, .int .i64 x0.n, .int .u8 x0.role, .int .i64 x0.binary, .int .i64 x0.tuple.snap.index, .int .i64 x0.tuple.snap.term, .int .i64 x0.tuple.snap.sum, .int .i64 x0.tuple.snap.level, .bool x0.tuple.snap.final, .slice A0_ x0.tuple.log.length c0_, .int .i64 x0.tuple.term, .int .i64 x0.tuple.vote, .int .i64 x0.commit, .int .i64 x0.applied.index, .int .i64 x0.applied.term, .int .i64 x0.applied.sum, .int .i64 x0.applied.level, .bool x0.applied.final, .slice A1_ x0.votes.length c1_, .slice A2_ x0.next.length c2_, .slice A3_ x0.mtch.length c3_, .slice A4_ x0.caps.length c4_], .agg #[.int .u8 x1.kind, .int .i64 x1.frm, .int .i64 x1.dst, .int .i64 x1.term, .int .i64 x1.cap, .int .i64 x1.last, .int .i64 x1.lastTerm, .int .i64 x1.commit, .bool x1.okk, .slice A5_ x1.entries.length c5_, .int .i64 x1.snap.index, .int .i64 x1.snap.term, .int .i64 x1.snap.sum, .int .i64 x1.snap.level, .bool x1.snap.final]] w0 fun e w' => e = .returned (.bool r) ∧ St0 All w0 w' [] := by
 unfold Zfv at H
 refine Yt Tryz.func45 rfl Tryz.ntmps45 rfl ?_
 have hS := St0.start All w0
 refine Ze (fun K hK1 => ?_)
 refine Zf ?_
 refine Yd rfl rfl rfl CellsOf.agg hS (fun b2 w hS hB => ?_)
 refine Yd rfl rfl rfl CellsOf.agg hS (fun b4 w hS hB => ?_)
 refine Zc 1 rfl ?_
 refine Zg ?_
 refine Zb hK1 ?_
 refine Ze (fun K hK6 => ?_)
 refine Zf ?_
 refine Za rfl rfl rfl (Zj Ye rfl (Zgw _) hS Xw trivial Z3) ?_
 obtain ⟨r7, hm8, H⟩ := bind_some H
 refine Zq rfl rfl rfl rfl (by kernel_rfl) rfl (Zcv x0 A0_ c0_ A1_ c1_ A2_ c2_ A3_ c3_ A4_ c4_ _ (Zgz s0_.k (hS.rd0 s0_.rd) (hS.blk0 s0_.blk)) (Zgz s1_.k (hS.rd0 s1_.rd) (hS.blk0 s1_.blk)) (Zgz s2_.k (hS.rd0 s2_.rd) (hS.blk0 s2_.blk)) (Zgz s3_.k (hS.rd0 s3_.rd) (hS.blk0 s3_.blk)) (Zgz s4_.k (hS.rd0 s4_.rd) (hS.blk0 s4_.blk)) hm8) ?_
 rintro e w ⟨rfl, hN⟩; refine ⟨_, rfl, ?_⟩; obtain ⟨hB, hS⟩ := hS.jn hN
 refine Zc 1 rfl ?_
 refine Zs 7 rfl (fun hb => ?_) (fun hb => ?_)
 rotate_left
 ·replace H := Zo H hb
  refine Zc 13 rfl ?_
  refine Zg ?_
  refine Zb hK6 ?_
  refine Zk ?_
  refine Zl rfl (RV.tmp rfl RV.nil) rfl ?_
  obtain rfl := QJ H
  replace hS := hS.cut 0
  exact ⟨rfl, hS⟩
 replace H := Zp H hb
 refine Za rfl rfl rfl (Zj Vi rfl (Zgw _) hS hs0 trivial Xp) ?_
 refine Za rfl rfl rfl (Zd Ja rfl) ?_
 refine Za rfl rfl rfl (Zh Zw rfl (Zgw _) hS Xw trivial Vp) ?_
 obtain ⟨r9, hm10, H⟩ := bind_some H
 refine Zq rfl rfl rfl rfl (by kernel_rfl) rfl (c_ref20_Fine x1 x0.n A5_ c5_ _ (Zgz s5_.k (hS.rd0 s5_.rd) (hS.blk0 s5_.blk)) hm10) ?_
 rintro e w ⟨rfl, hN⟩; refine ⟨_, rfl, ?_⟩; obtain ⟨hB, hS⟩ := hS.jn hN
 refine Zc 2 rfl ?_
 refine Zs 13 rfl (fun hb => ?_) (fun hb => ?_)
 rotate_left
 ·replace H := Zo H hb
  refine Zc 7 rfl ?_
  refine Zg ?_
  refine Zb hK6 ?_
  refine Zk ?_
  refine Zl rfl (RV.tmp rfl RV.nil) rfl ?_
  obtain rfl := QJ H
  replace hS := hS.cut 0
  exact ⟨rfl, hS⟩
 replace H := Zp H hb
 refine Za rfl rfl rfl (Zd Zdy rfl) ?_
 refine Za rfl rfl rfl (Zh Zw rfl (Zgw _) hS hs0 trivial Zav) ?_
 refine Za rfl rfl rfl (Zd Zbb rfl) ?_
 refine Za rfl rfl rfl (Zh Zw rfl (Zgw _) hS Xw trivial Y8) ?_
 refine Za rfl rfl rfl (Y5 rfl rfl) ?_
 refine Zc 2 rfl ?_
 refine Zg ?_
 refine Zb hK6 ?_
 refine Zk ?_
 refine Zl rfl (RV.tmp rfl RV.nil) rfl ?_
 obtain rfl := QJ H
 replace hS := hS.cut 0
 exact ⟨rfl, hS⟩
theorem c_law23_great (x0 : Co) (x1 : Ms) (A0_ : OA) (c0_ : Nat) (A1_ : OA) (c1_ : Nat) (A2_ : OA) (c2_ : Nat) (A3_ : OA) (c3_ : Nat) (A4_ : OA) (c4_ : Nat) (A5_ : OA) (c5_ : Nat) (w0 : World) (s0_ : SlI w0 Jj A0_ c0_ x0.tuple.log) (s1_ : SlI w0 enO A1_ c1_ x0.votes) (s2_ : SlI w0 V1 A2_ c2_ x0.next) (s3_ : SlI w0 V1 A3_ c3_ x0.mtch) (s4_ : SlI w0 V1 A4_ c4_ x0.caps) (s5_ : SlI w0 Jj A5_ c5_ x1.entries) {r : Bool} (H : Zbu x0 x1 = some r) : Calls Tryz.prog 25 #[.agg #[.int .i64 x0.id, .int .i64 x0.n, .int .u8 x0.role, .int .i64 x0.binary, .int .i64 x0.tuple.snap.index, .int .i64 x0.tuple.snap.term, .int .i64 x0.tuple.snap.sum, .int .i64 x0.tuple.snap.level, .bool x0.tuple.snap.final, .slice A0_ x0.tuple.log.length c0_, .int .i64 x0.tuple.term, .int .i64 x0.tuple.vote, .int .i64 x0.commit, .int .i64 x0.applied.index, .int .i64 x0.applied.term, .int .i64 x0.applied.sum, .int .i64 x0.applied.level, .bool x0.applied.final, .slice A1_ x0.votes.length c1_, .slice A2_ x0.next.length c2_, .slice A3_ x0.mtch.length c3_, .slice A4_ x0.caps.length c4_], .agg #[.int .u8 x1.kind, .int .i64 x1.frm, .int .i64 x1.dst, .int .i64 x1.term, .int .i64 x1.cap, .int .i64 x1.last, .int .i64 x1.lastTerm, .int .i64 x1.commit, .bool x1.okk, .slice A5_ x1.entries.length c5_, .int .i64 x1.snap.index, .int .i64 x1.snap.term, .int .i64 x1.snap.sum, .int .i64 x1.snap.level, .bool x1.snap.final]] w0 fun e w' => e = .returned (.bool r) ∧ St0 All w0 w' [] := by
 unfold Zbu at H
 refine Yt Tryz.func25 rfl Tryz.ntmps25 rfl ?_
 have hS := St0.start All w0
 refine Ze (fun K hK1 => ?_)
 refine Zf ?_
 refine Yd rfl rfl rfl CellsOf.agg hS (fun b2 w hS hB => ?_)
 refine Yd rfl rfl rfl CellsOf.agg hS (fun b4 w hS hB => ?_)
 refine Zc 1 rfl ?_
 refine Zg ?_
 refine Zb hK1 ?_
 refine Ze (fun K hK6 => ?_)
 refine Zf ?_
 refine Za rfl rfl rfl (Zj Ye rfl (Zgw _) hS Xw trivial Z3) ?_
 obtain ⟨r7, hm8, H⟩ := bind_some H
 refine Zq rfl rfl rfl rfl (by kernel_rfl) rfl (c_ref20_Great x0 A0_ c0_ A1_ c1_ A2_ c2_ A3_ c3_ A4_ c4_ _ (Zgz s0_.k (hS.rd0 s0_.rd) (hS.blk0 s0_.blk)) (Zgz s1_.k (hS.rd0 s1_.rd) (hS.blk0 s1_.blk)) (Zgz s2_.k (hS.rd0 s2_.rd) (hS.blk0 s2_.blk)) (Zgz s3_.k (hS.rd0 s3_.rd) (hS.blk0 s3_.blk)) (Zgz s4_.k (hS.rd0 s4_.rd) (hS.blk0 s4_.blk)) hm8) ?_
 rintro e w ⟨rfl, hN⟩; refine ⟨_, rfl, ?_⟩; obtain ⟨hB, hS⟩ := hS.jn hN
 refine Zc 1 rfl ?_
 refine Zs 7 rfl (fun hb => ?_) (fun hb => ?_)
 ·replace H := Zp H hb
  refine Zc 6 rfl ?_
  refine Zg ?_
  refine Zb hK6 ?_
  refine Zk ?_
  refine Zl rfl (RV.tmp rfl RV.nil) rfl ?_
  obtain rfl := QJ H
  replace hS := hS.cut 0
  exact ⟨rfl, hS⟩
 replace H := Zo H hb
 refine Za rfl rfl rfl (Zd X5 rfl) ?_
 refine Za rfl rfl rfl (Zh Xq rfl (Zgw _) hS hs0 trivial Jg) ?_
 refine Za rfl rfl rfl (Yw Y4 rfl) ?_
 refine Za rfl rfl rfl (Y9 rfl rfl) ?_
 refine Zc 2 rfl ?_
 refine Zg ?_
 refine Zb hK6 ?_
 refine Zk ?_
 refine Zl rfl (RV.tmp rfl RV.nil) rfl ?_
 obtain rfl := QJ H
 replace hS := hS.cut 0
 exact ⟨rfl, hS⟩
theorem c_repl_from (x0 : Tu) (x1 : Int) (x2 : Int) (A0_ : OA) (c0_ : Nat) (w0 : World) (s0_ : SlI w0 Jj A0_ c0_ x0.log) : Calls Tryz.prog 71 #[.agg #[.int .i64 x0.snap.index, .int .i64 x0.snap.term, .int .i64 x0.snap.sum, .int .i64 x0.snap.level, .bool x0.snap.final, .slice A0_ x0.log.length c0_, .int .i64 x0.term, .int .i64 x0.vote], .int .i64 x1, .int .i64 x2] w0 fun e w' => ∃ (b0_ : Nat) (b1_ : Nat) (b2_ : Nat), e = .returned (.func (.func 114) #[] #[.pointer (some ⟨b0_, 0, none⟩), .pointer (some ⟨b1_, 0, none⟩), .pointer (some ⟨b2_, 0, none⟩)]) ∧ St0 All w0 w' [.box b0_ [.int .i64 x0.snap.index, .int .i64 x0.snap.term, .int .i64 x0.snap.sum, .int .i64 x0.snap.level, .bool x0.snap.final, .slice A0_ x0.log.length c0_, .int .i64 x0.term, .int .i64 x0.vote] 26, .box b1_ [.int .i64 x1] 3, .box b2_ [.int .i64 x2] 3] := by
 refine Zcj Tryz.func71 rfl Tryz.ntmps71 rfl ?_
 have hS := St0.start All w0
 refine Ze (fun K hK1 => ?_)
 refine Zf ?_
 refine Yd rfl rfl rfl CellsOf.agg hS (fun b2 w hS hB => ?_)
 refine Yd rfl rfl rfl CellsOf.int hS (fun b4 w hS hB => ?_)
 refine Yd rfl rfl rfl CellsOf.int hS (fun b6 w hS hB => ?_)
 refine Zc 1 rfl ?_
 refine Zg ?_
 refine Zb hK1 ?_
 refine Ze (fun K hK8 => ?_)
 refine Zf ?_
 refine Za rfl rfl rfl (X8 rfl rfl) ?_
 refine Zc 1 rfl ?_
 refine Zg ?_
 refine Zb hK8 ?_
 refine Zk ?_
 refine Zl rfl (RV.tmp rfl RV.nil) rfl ?_
 have hS := hS.front 0 rfl
 have hS := hS.front 1 rfl
 have hS := hS.front 2 rfl
 exact ⟨b2, b4, b6, rfl, hS.sub (List.Sublist.cons_cons _ (List.Sublist.cons_cons _ (List.Sublist.cons_cons _ List.Sublist.slnil)))⟩
end Go.Proofs.YtamjlcaoieliaaaGreat
