/- Texts of one claim put together. -/
import Derived.Test.YtamjlcaoieliaaaGreatMe1
import Derived.Test.YtamjlcaoieliaaaGreatMe2
import Derived.Test.YtamjlcaoieliaaaGreatMe4
namespace Go.Proofs.YtamjlcaoieliaaaGreat
open Go Go.RowKit
set_option maxRecDepth 100000
set_option maxHeartbeats 4000000
theorem Zbd (x0 : St) (w0 : World) {r : Bool} (H : V0 x0 = some r) : Calls Tryz.prog 87 #[.agg #[.int .i64 x0.index, .int .i64 x0.term, .int .i64 x0.sum, .int .i64 x0.level, .bool x0.final]] w0 fun e w' => e = .returned (.bool r) ∧ St0 All w0 w' [] := by
 unfold V0 at H
 refine Yh Tryz.func87 rfl Tryz.ntmps87 rfl ?_
 have hS := St0.start All w0
 refine Zd (fun K hK1 => ?_)
 refine Zf ?_
 refine Z7 rfl rfl rfl CellsOf.agg hS (fun b2 w hS hB => ?_)
 refine Zb 1 rfl ?_
 refine Zg ?_
 refine Zc hK1 ?_
 refine Zd (fun K hK4 => ?_)
 refine Zd (fun K hK5 => ?_)
 refine Zf ?_
 refine Za rfl rfl rfl (Ze Yl rfl) ?_
 refine Za rfl rfl rfl (Zh Z3 rfl (Zhe _) hS hs0 trivial Yx) ?_
 obtain ⟨r6, hm7, H⟩ := bind_some H
 refine Zn rfl rfl rfl rfl (by kernel_rfl) rfl (Zc2 x0.index _ hm7) ?_
 rintro e w ⟨rfl, hN⟩; refine ⟨_, rfl, ?_⟩; obtain ⟨hB, hS⟩ := hS.jn hN
 refine Za rfl rfl rfl (Yo rfl) ?_
 refine Zb 1 rfl ?_
 refine Zq 7 rfl (fun hb => ?_) (fun hb => ?_)
 ·replace H := Zo H hb
  refine Zb 39 rfl ?_
  refine Zg ?_
  refine Zc hK5 ?_
  refine Zu rfl rfl ?_
  refine Zd (fun K hK8 => ?_)
  refine Zf ?_
  refine Zb 1 rfl ?_
  refine Zg ?_
  refine Zc hK8 ?_
  refine Zk ?_
  refine Zj ?_
  refine Zm rfl (RV.tmp rfl RV.nil) rfl ?_
  obtain rfl := QJ H
  replace hS := hS.cut 0
  exact ⟨rfl, hS⟩
 replace H := Zp H hb
 refine Za rfl rfl rfl (Ze Zdi rfl) ?_
 refine Za rfl rfl rfl (Zh Z3 rfl (Zhe _) hS hs0 trivial Xu) ?_
 obtain ⟨r9, hm10, H⟩ := bind_some H
 refine Zn rfl rfl rfl rfl (by kernel_rfl) rfl (Zc2 x0.term _ hm10) ?_
 rintro e w ⟨rfl, hN⟩; refine ⟨_, rfl, ?_⟩; obtain ⟨hB, hS⟩ := hS.jn hN
 refine Za rfl rfl rfl (Yo rfl) ?_
 refine Zb 2 rfl ?_
 refine Zq 13 rfl (fun hb => ?_) (fun hb => ?_)
 ·replace H := Zo H hb
  refine Zb 33 rfl ?_
  refine Zg ?_
  refine Zc hK5 ?_
  refine Zu rfl rfl ?_
  refine Zd (fun K hK11 => ?_)
  refine Zf ?_
  refine Zb 1 rfl ?_
  refine Zg ?_
  refine Zc hK11 ?_
  refine Zk ?_
  refine Zj ?_
  refine Zm rfl (RV.tmp rfl RV.nil) rfl ?_
  obtain rfl := QJ H
  replace hS := hS.cut 0
  exact ⟨rfl, hS⟩
 replace H := Zp H hb
 refine Za rfl rfl rfl (Ze fo_23_2 rfl) ?_
 refine Za rfl rfl rfl (Zh Z3 rfl (Zhe _) hS hs0 trivial Jt) ?_
 obtain ⟨r12, hm13, H⟩ := bind_some H
 refine Zn rfl rfl rfl rfl (by kernel_rfl) rfl (Zc2 x0.sum _ hm13) ?_
 rintro e w ⟨rfl, hN⟩; refine ⟨_, rfl, ?_⟩; obtain ⟨hB, hS⟩ := hS.jn hN
 refine Za rfl rfl rfl (Yo rfl) ?_
 refine Zb 2 rfl ?_
 refine Zq 19 rfl (fun hb => ?_) (fun hb => ?_)
 ·replace H := Zo H hb
  refine Zb 27 rfl ?_
  refine Zg ?_
  refine Zc hK5 ?_
  refine Zu rfl rfl ?_
  refine Zd (fun K hK14 => ?_)
  refine Zf ?_
  refine Zb 1 rfl ?_
  refine Zg ?_
  refine Zc hK14 ?_
  refine Zk ?_
  refine Zj ?_
  refine Zm rfl (RV.tmp rfl RV.nil) rfl ?_
  obtain rfl := QJ H
  replace hS := hS.cut 0
  exact ⟨rfl, hS⟩
 replace H := Zp H hb
 refine Za rfl rfl rfl (Ze Zdi rfl) ?_
 refine Za rfl rfl rfl (Zh Z3 rfl (Zhe _) hS hs0 trivial Xu) ?_
 refine Za rfl rfl rfl (Yr rfl rfl) ?_
 refine Za rfl rfl rfl (Ze Yl rfl) ?_
 refine Za rfl rfl rfl (Zh Z3 rfl (Zhe _) hS hs0 trivial Yx) ?_
 refine Za rfl rfl rfl (Yr rfl rfl) ?_
 refine Za rfl rfl rfl (yv_neqB (by kernel_rfl) rfl rfl) ?_
 refine Zb 2 rfl ?_
 refine Zq 28 rfl (fun hb => ?_) (fun hb => ?_)
 ·replace H := Zo H hb
  refine Zb 18 rfl ?_
  refine Zg ?_
  refine Zc hK5 ?_
  refine Zu rfl rfl ?_
  refine Zd (fun K hK15 => ?_)
  refine Zf ?_
  refine Zb 1 rfl ?_
  refine Zg ?_
  refine Zc hK15 ?_
  refine Zk ?_
  refine Zj ?_
  refine Zm rfl (RV.tmp rfl RV.nil) rfl ?_
  obtain rfl := QJ H
  replace hS := hS.cut 0
  exact ⟨rfl, hS⟩
 replace H := Zp H hb
 refine Za rfl rfl rfl (Ze Ze1 rfl) ?_
 refine Za rfl rfl rfl (Zh Z3 rfl (Zhe _) hS hs0 trivial Jb) ?_
 refine Za rfl rfl rfl (Xm rfl rfl) ?_
 refine Zb 1 rfl ?_
 refine Zq 32 rfl (fun hb => ?_) (fun hb => ?_)
 rotate_left
 ·replace H := Zp H hb
  refine Zb 6 rfl ?_
  refine Za rfl rfl rfl (Ze fo_23_4 rfl) ?_
  refine Za rfl rfl rfl (Zh sc_4 rfl (Zhe _) hS hs0 trivial Zg7) ?_
  refine Zb 1 rfl ?_
  refine Zq 41 rfl (fun hb => ?_) (fun hb => ?_)
  rotate_left
  ·replace H := Zp H hb
   refine Zb 5 rfl ?_
   refine Zg ?_
   refine Zc hK5 ?_
   refine Yg rfl rfl ?_
   refine Zs ?_
   refine Zc hK4 ?_
   refine Zd (fun K hK28 => ?_)
   refine Yn 9 [] (fun _ _ => True) ⟨by kernel_rfl, by kernel_rfl⟩ hS (fun w hS hB => ?_)
   refine Zr [true, true, true, true] (by decide +kernel) PFC.h ?_
   refine LtK.put rfl rfl rfl (Ze Yl rfl) ?_
   refine LtK.put rfl rfl rfl (Zh Z3 rfl (Zhf _) hS hs0 trivial Yx) ?_
   refine LtK.put rfl rfl rfl (Y7 rfl rfl) ?_
   refine LtK.put rfl rfl rfl (Zy rfl) ?_
   refine LtK.nil ?_
   refine Zc3 50 rfl (fun hb => ?_) (fun hb => ?_)
   ·replace H := Zo H hb
    refine Zr [false, false, false, false, true] (by decide +kernel) PFC.h ?_
    refine LtK.skip rfl rfl rfl ?_
    refine LtK.nil ?_
    refine Z5 [false, false, false, false, false, true] 5 ⟨by decide, by kernel_rfl, by kernel_rfl⟩ rfl rfl ?_
    try dsimp only [Zw]
    refine Xr rfl rfl rfl ?_
    refine Zg ?_
    refine Z6 (Below.refl _ _) ?_
    refine Zr [false, false, false, false, false, false, true, true, true] (by decide +kernel) PFC.h ?_
    refine LtK.skip rfl rfl rfl ?_
    refine LtK.put rfl rfl rfl (Xf rfl rfl rfl) ?_
    refine LtK.put rfl rfl rfl (Z2 rfl) ?_
    refine LtK.nil ?_
    refine Ye (by kernel_rfl) ?_
    refine Zc hK28 ?_
    refine Zk ?_
    refine Zm rfl (RV.tmp rfl RV.nil) rfl ?_
    obtain rfl := QJ H
    replace hS := hS.cut 0
    exact ⟨rfl, hS⟩
   replace H := Zp H hb
   refine Zr [false, false, false, false, true] (by decide +kernel) PFC.h ?_
   refine LtK.put rfl rfl rfl (Zi Y3 rfl (Zhf _) hS hs0 trivial Jh) ?_
   refine LtK.nil ?_
   refine Z5 [false, false, false, false, false, true] 5 ⟨by decide, by kernel_rfl, by kernel_rfl⟩ rfl rfl ?_
   try dsimp only [Zw]
   obtain ⟨r29, hm30, H⟩ := bind_some H
   refine Zn rfl rfl rfl rfl (by kernel_rfl) rfl (Zds _ hm30) ?_
   rintro e w ⟨rfl, hN⟩; refine ⟨_, rfl, ?_⟩; obtain ⟨hB, hS⟩ := hS.jn hN
   refine Zg ?_
   refine Z6 hB ?_
   refine Zr [false, false, false, false, false, false, true, true, true] (by decide +kernel) PFC.h ?_
   refine LtK.put rfl rfl rfl (Zal (by kernel_rfl) rfl rfl (Za8 _ _ _ _ _ _ _ _ _ _)) ?_
   refine LtK.put rfl rfl rfl (Xd rfl rfl rfl) ?_
   refine LtK.put rfl rfl rfl (Z2 rfl) ?_
   refine LtK.nil ?_
   refine Ye (by kernel_rfl) ?_
   refine Zc hK28 ?_
   refine Zk ?_
   refine Zm rfl (RV.tmp rfl RV.nil) rfl ?_
   obtain rfl := QJ H
   replace hS := hS.cut 0
   exact ⟨rfl, hS⟩
  replace H := Zo H hb
  refine Za rfl rfl rfl (Ze Ze1 rfl) ?_
  refine Za rfl rfl rfl (Zh Z3 rfl (Zhe _) hS hs0 trivial Jb) ?_
  refine Za rfl rfl rfl (Xm rfl rfl) ?_
  refine Zb 2 rfl ?_
  refine Zg ?_
  refine Zc hK5 ?_
  refine Z1 rfl (fun hb => ?_) (fun hb => ?_)
  ·replace H := Zo H hb
   refine Zd (fun K hK24 => ?_)
   refine Zf ?_
   refine Zb 1 rfl ?_
   refine Zg ?_
   refine Zc hK24 ?_
   refine Zk ?_
   refine Zj ?_
   refine Zm rfl (RV.tmp rfl RV.nil) rfl ?_
   obtain rfl := QJ H
   replace hS := hS.cut 0
   exact ⟨rfl, hS⟩
  replace H := Zp H hb
  refine Zs ?_
  refine Zc hK4 ?_
  refine Zd (fun K hK25 => ?_)
  refine Yn 9 [] (fun _ _ => True) ⟨by kernel_rfl, by kernel_rfl⟩ hS (fun w hS hB => ?_)
  refine Zr [true, true, true, true] (by decide +kernel) PFC.h ?_
  refine LtK.put rfl rfl rfl (Ze Yl rfl) ?_
  refine LtK.put rfl rfl rfl (Zh Z3 rfl (Zhf _) hS hs0 trivial Yx) ?_
  refine LtK.put rfl rfl rfl (Y7 rfl rfl) ?_
  refine LtK.put rfl rfl rfl (Zy rfl) ?_
  refine LtK.nil ?_
  refine Zc3 50 rfl (fun hb => ?_) (fun hb => ?_)
  ·replace H := Zo H hb
   refine Zr [false, false, false, false, true] (by decide +kernel) PFC.h ?_
   refine LtK.skip rfl rfl rfl ?_
   refine LtK.nil ?_
   refine Z5 [false, false, false, false, false, true] 5 ⟨by decide, by kernel_rfl, by kernel_rfl⟩ rfl rfl ?_
   try dsimp only [Zw]
   refine Xr rfl rfl rfl ?_
   refine Zg ?_
   refine Z6 (Below.refl _ _) ?_
   refine Zr [false, false, false, false, false, false, true, true, true] (by decide +kernel) PFC.h ?_
   refine LtK.skip rfl rfl rfl ?_
   refine LtK.put rfl rfl rfl (Xf rfl rfl rfl) ?_
   refine LtK.put rfl rfl rfl (Z2 rfl) ?_
   refine LtK.nil ?_
   refine Ye (by kernel_rfl) ?_
   refine Zc hK25 ?_
   refine Zk ?_
   refine Zm rfl (RV.tmp rfl RV.nil) rfl ?_
   obtain rfl := QJ H
   replace hS := hS.cut 0
   exact ⟨rfl, hS⟩
  replace H := Zp H hb
  refine Zr [false, false, false, false, true] (by decide +kernel) PFC.h ?_
  refine LtK.put rfl rfl rfl (Zi Y3 rfl (Zhf _) hS hs0 trivial Jh) ?_
  refine LtK.nil ?_
  refine Z5 [false, false, false, false, false, true] 5 ⟨by decide, by kernel_rfl, by kernel_rfl⟩ rfl rfl ?_
  try dsimp only [Zw]
  obtain ⟨r26, hm27, H⟩ := bind_some H
  refine Zn rfl rfl rfl rfl (by kernel_rfl) rfl (Zds _ hm27) ?_
  rintro e w ⟨rfl, hN⟩; refine ⟨_, rfl, ?_⟩; obtain ⟨hB, hS⟩ := hS.jn hN
  refine Zg ?_
  refine Z6 hB ?_
  refine Zr [false, false, false, false, false, false, true, true, true] (by decide +kernel) PFC.h ?_
  refine LtK.put rfl rfl rfl (Zal (by kernel_rfl) rfl rfl (Za8 _ _ _ _ _ _ _ _ _ _)) ?_
  refine LtK.put rfl rfl rfl (Xd rfl rfl rfl) ?_
  refine LtK.put rfl rfl rfl (Z2 rfl) ?_
  refine LtK.nil ?_
  refine Ye (by kernel_rfl) ?_
  refine Zc hK25 ?_
  refine Zk ?_
  refine Zm rfl (RV.tmp rfl RV.nil) rfl ?_
  obtain rfl := QJ H
  replace hS := hS.cut 0
  exact ⟨rfl, hS⟩
 replace H := Zo H hb
 refine Za rfl rfl rfl (Ze Ze1 rfl) ?_
 refine Za rfl rfl rfl (Zh Z3 rfl (Zhe _) hS hs0 trivial Jb) ?_
 refine Za rfl rfl rfl (Xm rfl rfl) ?_
 refine Zb 3 rfl ?_
 refine Zq 38 rfl (fun hb => ?_) (fun hb => ?_)
 ·replace H := Zo H hb
  refine Zb 8 rfl ?_
  refine Zg ?_
  refine Zc hK5 ?_
  refine Zu rfl rfl ?_
  refine Zd (fun K hK16 => ?_)
  refine Zf ?_
  refine Zb 1 rfl ?_
  refine Zg ?_
  refine Zc hK16 ?_
  refine Zk ?_
  refine Zj ?_
  refine Zm rfl (RV.tmp rfl RV.nil) rfl ?_
  obtain rfl := QJ H
  replace hS := hS.cut 0
  exact ⟨rfl, hS⟩
 replace H := Zp H hb
 refine Za rfl rfl rfl (Ze fo_23_4 rfl) ?_
 refine Za rfl rfl rfl (Zh sc_4 rfl (Zhe _) hS hs0 trivial Zg7) ?_
 refine Zb 1 rfl ?_
 refine Zq 41 rfl (fun hb => ?_) (fun hb => ?_)
 rotate_left
 ·replace H := Zp H hb
  refine Zb 5 rfl ?_
  refine Zg ?_
  refine Zc hK5 ?_
  refine Yg rfl rfl ?_
  refine Zs ?_
  refine Zc hK4 ?_
  refine Zd (fun K hK21 => ?_)
  refine Yn 9 [] (fun _ _ => True) ⟨by kernel_rfl, by kernel_rfl⟩ hS (fun w hS hB => ?_)
  refine Zr [true, true, true, true] (by decide +kernel) PFC.h ?_
  refine LtK.put rfl rfl rfl (Ze Yl rfl) ?_
  refine LtK.put rfl rfl rfl (Zh Z3 rfl (Zhf _) hS hs0 trivial Yx) ?_
  refine LtK.put rfl rfl rfl (Y7 rfl rfl) ?_
  refine LtK.put rfl rfl rfl (Zy rfl) ?_
  refine LtK.nil ?_
  refine Zc3 50 rfl (fun hb => ?_) (fun hb => ?_)
  ·replace H := Zo H hb
   refine Zr [false, false, false, false, true] (by decide +kernel) PFC.h ?_
   refine LtK.skip rfl rfl rfl ?_
   refine LtK.nil ?_
   refine Z5 [false, false, false, false, false, true] 5 ⟨by decide, by kernel_rfl, by kernel_rfl⟩ rfl rfl ?_
   try dsimp only [Zw]
   refine Xr rfl rfl rfl ?_
   refine Zg ?_
   refine Z6 (Below.refl _ _) ?_
   refine Zr [false, false, false, false, false, false, true, true, true] (by decide +kernel) PFC.h ?_
   refine LtK.skip rfl rfl rfl ?_
   refine LtK.put rfl rfl rfl (Xf rfl rfl rfl) ?_
   refine LtK.put rfl rfl rfl (Z2 rfl) ?_
   refine LtK.nil ?_
   refine Ye (by kernel_rfl) ?_
   refine Zc hK21 ?_
   refine Zk ?_
   refine Zm rfl (RV.tmp rfl RV.nil) rfl ?_
   obtain rfl := QJ H
   replace hS := hS.cut 0
   exact ⟨rfl, hS⟩
  replace H := Zp H hb
  refine Zr [false, false, false, false, true] (by decide +kernel) PFC.h ?_
  refine LtK.put rfl rfl rfl (Zi Y3 rfl (Zhf _) hS hs0 trivial Jh) ?_
  refine LtK.nil ?_
  refine Z5 [false, false, false, false, false, true] 5 ⟨by decide, by kernel_rfl, by kernel_rfl⟩ rfl rfl ?_
  try dsimp only [Zw]
  obtain ⟨r22, hm23, H⟩ := bind_some H
  refine Zn rfl rfl rfl rfl (by kernel_rfl) rfl (Zds _ hm23) ?_
  rintro e w ⟨rfl, hN⟩; refine ⟨_, rfl, ?_⟩; obtain ⟨hB, hS⟩ := hS.jn hN
  refine Zg ?_
  refine Z6 hB ?_
  refine Zr [false, false, false, false, false, false, true, true, true] (by decide +kernel) PFC.h ?_
  refine LtK.put rfl rfl rfl (Zal (by kernel_rfl) rfl rfl (Za8 _ _ _ _ _ _ _ _ _ _)) ?_
  refine LtK.put rfl rfl rfl (Xd rfl rfl rfl) ?_
  refine LtK.put rfl rfl rfl (Z2 rfl) ?_
  refine LtK.nil ?_
  refine Ye (by kernel_rfl) ?_
  refine Zc hK21 ?_
  refine Zk ?_
  refine Zm rfl (RV.tmp rfl RV.nil) rfl ?_
  obtain rfl := QJ H
  replace hS := hS.cut 0
  exact ⟨rfl, hS⟩
 replace H := Zo H hb
 refine Za rfl rfl rfl (Ze Ze1 rfl) ?_
 refine Za rfl rfl rfl (Zh Z3 rfl (Zhe _) hS hs0 trivial Jb) ?_
 refine Za rfl rfl rfl (Xm rfl rfl) ?_
 refine Zb 2 rfl ?_
 refine Zg ?_
 refine Zc hK5 ?_
 refine Z1 rfl (fun hb => ?_) (fun hb => ?_)
 ·replace H := Zo H hb
  refine Zd (fun K hK17 => ?_)
  refine Zf ?_
  refine Zb 1 rfl ?_
  refine Zg ?_
  refine Zc hK17 ?_
  refine Zk ?_
  refine Zj ?_
  refine Zm rfl (RV.tmp rfl RV.nil) rfl ?_
  obtain rfl := QJ H
  replace hS := hS.cut 0
  exact ⟨rfl, hS⟩
 replace H := Zp H hb
 refine Zs ?_
 refine Zc hK4 ?_
 refine Zd (fun K hK18 => ?_)
 refine Yn 9 [] (fun _ _ => True) ⟨by kernel_rfl, by kernel_rfl⟩ hS (fun w hS hB => ?_)
 refine Zr [true, true, true, true] (by decide +kernel) PFC.h ?_
 refine LtK.put rfl rfl rfl (Ze Yl rfl) ?_
 refine LtK.put rfl rfl rfl (Zh Z3 rfl (Zhf _) hS hs0 trivial Yx) ?_
 refine LtK.put rfl rfl rfl (Y7 rfl rfl) ?_
 refine LtK.put rfl rfl rfl (Zy rfl) ?_
 refine LtK.nil ?_
 refine Zc3 50 rfl (fun hb => ?_) (fun hb => ?_)
 ·replace H := Zo H hb
  refine Zr [false, false, false, false, true] (by decide +kernel) PFC.h ?_
  refine LtK.skip rfl rfl rfl ?_
  refine LtK.nil ?_
  refine Z5 [false, false, false, false, false, true] 5 ⟨by decide, by kernel_rfl, by kernel_rfl⟩ rfl rfl ?_
  try dsimp only [Zw]
  refine Xr rfl rfl rfl ?_
  refine Zg ?_
  refine Z6 (Below.refl _ _) ?_
  refine Zr [false, false, false, false, false, false, true, true, true] (by decide +kernel) PFC.h ?_
  refine LtK.skip rfl rfl rfl ?_
  refine LtK.put rfl rfl rfl (Xf rfl rfl rfl) ?_
  refine LtK.put rfl rfl rfl (Z2 rfl) ?_
  refine LtK.nil ?_
  refine Ye (by kernel_rfl) ?_
  refine Zc hK18 ?_
  refine Zk ?_
  refine Zm rfl (RV.tmp rfl RV.nil) rfl ?_
  obtain rfl := QJ H
  replace hS := hS.cut 0
  exact ⟨rfl, hS⟩
 replace H := Zp H hb
 refine Zr [false, false, false, false, true] (by decide +kernel) PFC.h ?_
 refine LtK.put rfl rfl rfl (Zi Y3 rfl (Zhf _) hS hs0 trivial Jh) ?_
 refine LtK.nil ?_
 refine Z5 [false, false, false, false, false, true] 5 ⟨by decide, by kernel_rfl, by kernel_rfl⟩ rfl rfl ?_
 try dsimp only [Zw]
 obtain ⟨r19, hm20, H⟩ := bind_some H
 refine Zn rfl rfl rfl rfl (by kernel_rfl) rfl (Zds _ hm20) ?_
 rintro e w ⟨rfl, hN⟩; refine ⟨_, rfl, ?_⟩; obtain ⟨hB, hS⟩ := hS.jn hN
 refine Zg ?_
 refine Z6 hB ?_
 refine Zr [false, false, false, false, false, false, true, true, true] (by decide +kernel) PFC.h ?_
 refine LtK.put rfl rfl rfl (Zal (by kernel_rfl) rfl rfl (Za8 _ _ _ _ _ _ _ _ _ _)) ?_
 refine LtK.put rfl rfl rfl (Xd rfl rfl rfl) ?_
 refine LtK.put rfl rfl rfl (Z2 rfl) ?_
 refine LtK.nil ?_
 refine Ye (by kernel_rfl) ?_
 refine Zc hK18 ?_
 refine Zk ?_
 refine Zm rfl (RV.tmp rfl RV.nil) rfl ?_
 obtain rfl := QJ H
 replace hS := hS.cut 0
 exact ⟨rfl, hS⟩
theorem Zgx (x0 : En) (w0 : World) {r : Bool} (H : Zbi x0 = some r) : Calls Tryz.prog 123 #[.agg #[.int .i64 x0.term, .int .i64 x0.kind, .int .i64 x0.value]] w0 fun e w' => e = .returned (.bool r) ∧ St0 All w0 w' [] := by
 unfold Zbi at H
 refine Yh Tryz.func123 rfl Tryz.ntmps123 rfl ?_
 have hS := St0.start All w0
 refine Zd (fun K hK1 => ?_)
 refine Zf ?_
 refine Z7 rfl rfl rfl CellsOf.agg hS (fun b2 w hS hB => ?_)
 refine Zb 1 rfl ?_
 refine Zg ?_
 refine Zc hK1 ?_
 refine Zd (fun K hK4 => ?_)
 refine Zf ?_
 refine Za rfl rfl rfl (Ze Zcp rfl) ?_
 refine Za rfl rfl rfl (Zh Z3 rfl (Zhe _) hS hs0 trivial Yx) ?_
 refine Za rfl rfl rfl (Zcz rfl rfl) ?_
 refine Zb 1 rfl ?_
 refine Zq 6 rfl (fun hb => ?_) (fun hb => ?_)
 rotate_left
 ·replace H := Zp H hb
  refine Zb 30 rfl ?_
  refine Zg ?_
  refine Zc hK4 ?_
  refine Zk ?_
  refine Zm rfl (RV.tmp rfl RV.nil) rfl ?_
  obtain rfl := QJ H
  replace hS := hS.cut 0
  exact ⟨rfl, hS⟩
 replace H := Zo H hb
 refine Za rfl rfl rfl (Ze Zcp rfl) ?_
 refine Za rfl rfl rfl (Zh Z3 rfl (Zhe _) hS hs0 trivial Yx) ?_
 obtain ⟨r5, hm6, H⟩ := bind_some H
 refine Zn rfl rfl rfl rfl (by kernel_rfl) rfl (Zc2 x0.term _ hm6) ?_
 rintro e w ⟨rfl, hN⟩; refine ⟨_, rfl, ?_⟩; obtain ⟨hB, hS⟩ := hS.jn hN
 refine Zb 2 rfl ?_
 refine Zq 11 rfl (fun hb => ?_) (fun hb => ?_)
 rotate_left
 ·replace H := Zp H hb
  refine Zb 25 rfl ?_
  refine Zg ?_
  refine Zc hK4 ?_
  refine Zk ?_
  refine Zm rfl (RV.tmp rfl RV.nil) rfl ?_
  obtain rfl := QJ H
  replace hS := hS.cut 0
  exact ⟨rfl, hS⟩
 replace H := Zo H hb
 refine Za rfl rfl rfl (Ze fo_53_1 rfl) ?_
 refine Za rfl rfl rfl (Zh Z3 rfl (Zhe _) hS hs0 trivial Xu) ?_
 refine Za rfl rfl rfl (Zcz rfl rfl) ?_
 refine Zb 2 rfl ?_
 refine Zq 16 rfl (fun hb => ?_) (fun hb => ?_)
 rotate_left
 ·replace H := Zp H hb
  refine Zb 20 rfl ?_
  refine Zg ?_
  refine Zc hK4 ?_
  refine Zk ?_
  refine Zm rfl (RV.tmp rfl RV.nil) rfl ?_
  obtain rfl := QJ H
  replace hS := hS.cut 0
  exact ⟨rfl, hS⟩
 replace H := Zo H hb
 refine Za rfl rfl rfl (Ze fo_53_1 rfl) ?_
 refine Za rfl rfl rfl (Zh Z3 rfl (Zhe _) hS hs0 trivial Xu) ?_
 refine Za rfl rfl rfl (Xk rfl rfl) ?_
 refine Zb 2 rfl ?_
 refine Zq 21 rfl (fun hb => ?_) (fun hb => ?_)
 rotate_left
 ·replace H := Zp H hb
  refine Zb 15 rfl ?_
  refine Zg ?_
  refine Zc hK4 ?_
  refine Zk ?_
  refine Zm rfl (RV.tmp rfl RV.nil) rfl ?_
  obtain rfl := QJ H
  replace hS := hS.cut 0
  exact ⟨rfl, hS⟩
 replace H := Zo H hb
 refine Za rfl rfl rfl (Ze fo_53_2 rfl) ?_
 refine Za rfl rfl rfl (Zh Z3 rfl (Zhe _) hS hs0 trivial Jt) ?_
 obtain ⟨r7, hm8, H⟩ := bind_some H
 refine Zn rfl rfl rfl rfl (by kernel_rfl) rfl (Zc2 x0.value _ hm8) ?_
 rintro e w ⟨rfl, hN⟩; refine ⟨_, rfl, ?_⟩; obtain ⟨hB, hS⟩ := hS.jn hN
 refine Zb 2 rfl ?_
 refine Zq 26 rfl (fun hb => ?_) (fun hb => ?_)
 rotate_left
 ·replace H := Zp H hb
  refine Zb 10 rfl ?_
  refine Zg ?_
  refine Zc hK4 ?_
  refine Zk ?_
  refine Zm rfl (RV.tmp rfl RV.nil) rfl ?_
  obtain rfl := QJ H
  replace hS := hS.cut 0
  exact ⟨rfl, hS⟩
 replace H := Zo H hb
 refine Za rfl rfl rfl (Ze fo_53_1 rfl) ?_
 refine Za rfl rfl rfl (Zh Z3 rfl (Zhe _) hS hs0 trivial Xu) ?_
 refine Za rfl rfl rfl (Yr rfl rfl) ?_
 refine Zb 1 rfl ?_
 refine Zq 30 rfl (fun hb => ?_) (fun hb => ?_)
 ·replace H := Zo H hb
  refine Zb 6 rfl ?_
  refine Zg ?_
  refine Zc hK4 ?_
  refine Zk ?_
  refine Zm rfl (RV.tmp rfl RV.nil) rfl ?_
  obtain rfl := QJ H
  replace hS := hS.cut 0
  exact ⟨rfl, hS⟩
 replace H := Zp H hb
 refine Za rfl rfl rfl (Ze fo_53_2 rfl) ?_
 refine Za rfl rfl rfl (Zh Z3 rfl (Zhe _) hS hs0 trivial Jt) ?_
 refine Za rfl rfl rfl (Yr rfl rfl) ?_
 refine Zb 3 rfl ?_
 refine Zg ?_
 refine Zc hK4 ?_
 refine Zk ?_
 refine Zm rfl (RV.tmp rfl RV.nil) rfl ?_
 obtain rfl := QJ H
 replace hS := hS.cut 0
 exact ⟨rfl, hS⟩
theorem Zae (x0 : Tu) (A0_ : OA) (c0_ : Nat) (w0 : World) (s0_ : SlI w0 V3 A0_ c0_ x0.log) {r : Bool} (H : Vg x0 = some r) : Calls Tryz.prog 83 #[.agg #[.int .i64 x0.snap.index, .int .i64 x0.snap.term, .int .i64 x0.snap.sum, .int .i64 x0.snap.level, .bool x0.snap.final, .slice A0_ x0.log.length c0_, .int .i64 x0.term, .int .i64 x0.vote]] w0 fun e w' => e = .returned (.bool r) ∧ St0 All w0 w' [] := by
 unfold Vg at H
 refine Yh Tryz.func83 rfl Tryz.ntmps83 rfl ?_
 have hS := St0.start All w0
 refine Zd (fun K hK1 => ?_)
 refine Zf ?_
 refine Z7 rfl rfl rfl CellsOf.agg hS (fun b2 w hS hB => ?_)
 refine Zb 1 rfl ?_
 refine Zg ?_
 refine Zc hK1 ?_
 refine Zd (fun K hK4 => ?_)
 refine Zd (fun K hK5 => ?_)
 refine Zf ?_
 refine Za rfl rfl rfl (Ze Xy rfl) ?_
 refine Za rfl rfl rfl (Zi Y3 rfl (Zhe _) hS hs0 trivial Jh) ?_
 obtain ⟨r6, hm7, H⟩ := bind_some H
 refine Zn rfl rfl rfl rfl (by kernel_rfl) rfl (Zbd x0.snap _ hm7) ?_
 rintro e w ⟨rfl, hN⟩; refine ⟨_, rfl, ?_⟩; obtain ⟨hB, hS⟩ := hS.jn hN
 refine Za rfl rfl rfl (Yo rfl) ?_
 refine Zb 1 rfl ?_
 refine Zq 9 rfl (fun hb => ?_) (fun hb => ?_)
 ·replace H := Zo H hb
  refine Zb 21 rfl ?_
  refine Zg ?_
  refine Zc hK5 ?_
  refine Zu rfl rfl ?_
  refine Zd (fun K hK8 => ?_)
  refine Zf ?_
  refine Zb 1 rfl ?_
  refine Zg ?_
  refine Zc hK8 ?_
  refine Zk ?_
  refine Zj ?_
  refine Zm rfl (RV.tmp rfl RV.nil) rfl ?_
  obtain rfl := QJ H
  replace hS := hS.cut 0
  exact ⟨rfl, hS⟩
 replace H := Zp H hb
 refine Za rfl rfl rfl (Ze Xy rfl) ?_
 refine Za rfl rfl rfl (Ze Yl rfl) ?_
 refine Za rfl rfl rfl (Zh Z3 rfl (Zhe _) hS hs0 trivial Yx) ?_
 refine Za rfl rfl rfl (Y7 rfl rfl) ?_
 refine Zb 2 rfl ?_
 refine Zq 15 rfl (fun hb => ?_) (fun hb => ?_)
 ·replace H := Zo H hb
  refine Zb 15 rfl ?_
  refine Zg ?_
  refine Zc hK5 ?_
  refine Zu rfl rfl ?_
  refine Zd (fun K hK9 => ?_)
  refine Zf ?_
  refine Zb 1 rfl ?_
  refine Zg ?_
  refine Zc hK9 ?_
  refine Zk ?_
  refine Zj ?_
  refine Zm rfl (RV.tmp rfl RV.nil) rfl ?_
  obtain rfl := QJ H
  replace hS := hS.cut 0
  exact ⟨rfl, hS⟩
 replace H := Zp H hb
 refine Za rfl rfl rfl (Ze X7 rfl) ?_
 refine Za rfl rfl rfl (Zh Vm rfl (Zhe _) hS hs0 trivial Zcq) ?_
 refine Za rfl rfl rfl (Yz Xq rfl) ?_
 refine Za rfl rfl rfl (Y7 rfl rfl) ?_
 refine Zb 2 rfl ?_
 refine Zq 21 rfl (fun hb => ?_) (fun hb => ?_)
 ·replace H := Zo H hb
  refine Zb 9 rfl ?_
  refine Zg ?_
  refine Zc hK5 ?_
  refine Zu rfl rfl ?_
  refine Zd (fun K hK10 => ?_)
  refine Zf ?_
  refine Zb 1 rfl ?_
  refine Zg ?_
  refine Zc hK10 ?_
  refine Zk ?_
  refine Zj ?_
  refine Zm rfl (RV.tmp rfl RV.nil) rfl ?_
  obtain rfl := QJ H
  replace hS := hS.cut 0
  exact ⟨rfl, hS⟩
 replace H := Zp H hb
 refine Za rfl rfl rfl (Ze Vp rfl) ?_
 refine Za rfl rfl rfl (Zh Z3 rfl (Zhe _) hS hs0 trivial sg7_1) ?_
 refine Za rfl rfl rfl (Xk rfl rfl) ?_
 refine Zb 2 rfl ?_
 refine Zq 26 rfl (fun hb => ?_) (fun hb => ?_)
 ·replace H := Zo H hb
  refine Zb 4 rfl ?_
  refine Zg ?_
  refine Zc hK5 ?_
  refine Zu rfl rfl ?_
  refine Zd (fun K hK11 => ?_)
  refine Zf ?_
  refine Zb 1 rfl ?_
  refine Zg ?_
  refine Zc hK11 ?_
  refine Zk ?_
  refine Zj ?_
  refine Zm rfl (RV.tmp rfl RV.nil) rfl ?_
  obtain rfl := QJ H
  replace hS := hS.cut 0
  exact ⟨rfl, hS⟩
 replace H := Zp H hb
 refine Za rfl rfl rfl (Ze Vp rfl) ?_
 refine Za rfl rfl rfl (Zh Z3 rfl (Zhe _) hS hs0 trivial sg7_1) ?_
 refine Za rfl rfl rfl (Y7 rfl rfl) ?_
 refine Zb 1 rfl ?_
 refine Zg ?_
 refine Zc hK5 ?_
 refine Z1 rfl (fun hb => ?_) (fun hb => ?_)
 ·replace H := Zo H hb
  refine Zd (fun K hK12 => ?_)
  refine Zf ?_
  refine Zb 1 rfl ?_
  refine Zg ?_
  refine Zc hK12 ?_
  refine Zk ?_
  refine Zj ?_
  refine Zm rfl (RV.tmp rfl RV.nil) rfl ?_
  obtain rfl := QJ H
  replace hS := hS.cut 0
  exact ⟨rfl, hS⟩
 replace H := Zp H hb
 refine Zs ?_
 refine Zc hK4 ?_
 refine Zd (fun K hK13 => ?_)
 refine Zf ?_
 refine Za rfl rfl rfl (Ze Xy rfl) ?_
 refine Za rfl rfl rfl (Ze Zdi rfl) ?_
 refine Za rfl rfl rfl (Zh Z3 rfl (Zhe _) hS hs0 trivial Xu) ?_
 refine Zb 1 rfl ?_
 refine Zg ?_
 refine Zc hK13 ?_
 refine Zd (fun K hK14 => ?_)
 refine Zd (fun K hK15 => ?_)
 refine Zf ?_
 refine Zb 1 rfl ?_
 refine Zg ?_
 refine Zc hK15 ?_
 refine Yc ?_
 refine V7 (X := Nat × Bool × Int × Int) (fun x => (1, .pointer (some ⟨b2, 0, none⟩)) :: (2, .bool x.2.1) :: (3, .int .i64 x.2.2.1) :: (4, .int .i64 x.2.2.2) :: []) (fun x w => St0 All w0 w (.box b2 [.int .i64 x0.snap.index, .int .i64 x0.snap.term, .int .i64 x0.snap.sum, .int .i64 x0.snap.level, .bool x0.snap.final, .slice A0_ x0.log.length c0_, .int .i64 x0.term, .int .i64 x0.vote] 26 :: []) ∧ J4 x0 x.1 x.2.1 x.2.2.1 x.2.2.2 = some r) (fun x => x.1) (Xw, false, x0.snap.term, 0) (by repeat (first | exact Sub.nil | refine Sub.cons rfl ?_)) ⟨hS, H⟩ ?_
 rintro ⟨n, v16, v17, v18⟩ w ⟨hS, H⟩
 dsimp only at hS H ⊢
 obtain _ | n := n
 ·have H0 : none = some r := H
  cases H0
 rw [J4] at H
 refine Zd (fun K hK19 => ?_)
 refine Zd (fun K hK20 => ?_)
 refine Zf ?_
 refine Zb 1 rfl ?_
 refine Za rfl rfl rfl (Ze X7 rfl) ?_
 refine Za rfl rfl rfl (Zh Vm rfl (Zhe _) hS hs0 trivial Zcq) ?_
 refine Za rfl rfl rfl (Yz Xq rfl) ?_
 refine Za rfl rfl rfl (Xk rfl rfl) ?_
 refine Zg ?_
 refine Zc hK20 ?_
 refine Z1 rfl (fun hb => ?_) (fun hb => ?_)
 rotate_left
 ·replace H := Zp H hb
  refine X0 ?_
  refine Z9 ?_
  refine Z9 ?_
  refine Yy ?_
  refine Zc hK14 ?_
  refine Zd (fun K hK37 => ?_)
  refine Zf ?_
  refine Za rfl rfl rfl (Ze Xl rfl) ?_
  refine Za rfl rfl rfl (Zh Z3 rfl (Zhe _) hS hs0 trivial Ze9) ?_
  refine Zb 1 rfl ?_
  refine Za rfl rfl rfl (Zcz rfl rfl) ?_
  refine Zb 1 rfl ?_
  refine Zq 68 rfl (fun hb => ?_) (fun hb => ?_)
  rotate_left
  ·replace H := Zp H hb
   refine Zb 10 rfl ?_
   refine Zg ?_
   refine Zc hK37 ?_
   refine Zk ?_
   refine Zm rfl (RV.tmp rfl RV.nil) rfl ?_
   obtain rfl := QJ H
   replace hS := hS.cut 0
   exact ⟨rfl, hS⟩
  replace H := Zo H hb
  refine Za rfl rfl rfl (Ze Xl rfl) ?_
  refine Za rfl rfl rfl (Zh Z3 rfl (Zhe _) hS hs0 trivial Ze9) ?_
  refine Za rfl rfl rfl (Zcz rfl rfl) ?_
  refine Zb 2 rfl ?_
  refine Zq 73 rfl (fun hb => ?_) (fun hb => ?_)
  rotate_left
  ·replace H := Zp H hb
   refine Zb 5 rfl ?_
   refine Zg ?_
   refine Zc hK37 ?_
   refine Zk ?_
   refine Zm rfl (RV.tmp rfl RV.nil) rfl ?_
   obtain rfl := QJ H
   replace hS := hS.cut 0
   exact ⟨rfl, hS⟩
  replace H := Zo H hb
  refine Za rfl rfl rfl (Ze Xl rfl) ?_
  refine Za rfl rfl rfl (Zh Z3 rfl (Zhe _) hS hs0 trivial Ze9) ?_
  refine Za rfl rfl rfl (Zdj rfl rfl) ?_
  refine Zb 2 rfl ?_
  refine Zg ?_
  refine Zc hK37 ?_
  refine Zk ?_
  refine Zm rfl (RV.tmp rfl RV.nil) rfl ?_
  obtain rfl := QJ H
  replace hS := hS.cut 0
  exact ⟨rfl, hS⟩
 replace H := Zo H hb
 refine Zs ?_
 refine Zc hK19 ?_
 refine Zd (fun K hK21 => ?_)
 refine Yc ?_
 refine Zd (fun K hK22 => ?_)
 refine Zd (fun K hK23 => ?_)
 refine Zf ?_
 refine Za rfl rfl rfl (Ze X7 rfl) ?_
 refine Za rfl rfl rfl (Zh Vm rfl (Zhe _) hS hs0 trivial Zcq) ?_
 refine Zb 1 rfl ?_
 obtain ⟨e24, hi26, H⟩ := bind_some H
 obtain ⟨j25, hi26a, hi26b, hi26c⟩ := Y0 hi26
 refine Za rfl rfl rfl (Xh Xq rfl rfl hi26a hi26c (Rd.el (hS.rd0 s0_.rd) Vj hi26b)) ?_
 refine Za rfl rfl rfl (Zdz Zbw rfl (Zhe _) (Rd.el (hS.rd0 s0_.rd) Vj hi26b) Zep) ?_
 obtain ⟨r27, hm28, H⟩ := bind_some H
 refine Zn rfl rfl rfl rfl (by kernel_rfl) rfl (Zgx e24 _ hm28) ?_
 rintro e w ⟨rfl, hN⟩; refine ⟨_, rfl, ?_⟩; obtain ⟨hB, hS⟩ := hS.jn hN
 refine Za rfl rfl rfl (Yo rfl) ?_
 refine Zb 1 rfl ?_
 refine Zq 48 rfl (fun hb => ?_) (fun hb => ?_)
 ·replace H := Zo H hb
  refine Zb 9 rfl ?_
  refine Zg ?_
  refine Zc hK23 ?_
  refine Zu rfl rfl ?_
  refine Zd (fun K hK29 => ?_)
  refine Zf ?_
  refine Zb 1 rfl ?_
  refine Zg ?_
  refine Zc hK29 ?_
  refine Zk ?_
  refine Zj ?_
  refine Zz ?_
  refine Zj ?_
  refine Zj ?_
  refine Zz ?_
  refine Zj ?_
  refine Zm rfl (RV.tmp rfl RV.nil) rfl ?_
  obtain rfl := QJ H
  replace hS := hS.cut 0
  exact ⟨rfl, hS⟩
 replace H := Zp H hb
 refine Za rfl rfl rfl (Ze X7 rfl) ?_
 refine Za rfl rfl rfl (Zh Vm rfl (Zhe _) hS hs0 trivial Zcq) ?_
 refine Zb 1 rfl ?_
 obtain ⟨e30, hi32, H⟩ := bind_some H
 obtain ⟨j31, hi32a, hi32b, hi32c⟩ := Y0 hi32
 refine Za rfl rfl rfl (Xh Xq rfl rfl hi32a hi32c (Rd.el (hS.rd0 s0_.rd) Vj hi32b)) ?_
 refine Za rfl rfl rfl (Zb9 Zcp rfl (Rd.el (hS.rd0 s0_.rd) Vj hi32b)) ?_
 refine Za rfl rfl rfl (Zap Z3 rfl (Zhe _) (Rd.el (hS.rd0 s0_.rd) Vj hi32b) rfl) ?_
 refine Zb 1 rfl ?_
 refine Za rfl rfl rfl (Xk rfl rfl) ?_
 refine Zb 1 rfl ?_
 refine Zg ?_
 refine Zc hK23 ?_
 refine Z1 rfl (fun hb => ?_) (fun hb => ?_)
 ·replace H := Zo H hb
  refine Zd (fun K hK33 => ?_)
  refine Zf ?_
  refine Zb 1 rfl ?_
  refine Zg ?_
  refine Zc hK33 ?_
  refine Zk ?_
  refine Zj ?_
  refine Zz ?_
  refine Zj ?_
  refine Zj ?_
  refine Zz ?_
  refine Zj ?_
  refine Zm rfl (RV.tmp rfl RV.nil) rfl ?_
  obtain rfl := QJ H
  replace hS := hS.cut 0
  exact ⟨rfl, hS⟩
 replace H := Zp H hb
 refine Zs ?_
 refine Zc hK22 ?_
 refine Zf ?_
 refine Za rfl rfl rfl (Ze X7 rfl) ?_
 refine Za rfl rfl rfl (Zh Vm rfl (Zhe _) hS hs0 trivial Zcq) ?_
 refine Zb 1 rfl ?_
 obtain ⟨e34, hi36, H⟩ := bind_some H
 obtain ⟨j35, hi36a, hi36b, hi36c⟩ := Y0 hi36
 refine Za rfl rfl rfl (Xh Xq rfl rfl hi36a hi36c (Rd.el (hS.rd0 s0_.rd) Vj hi36b)) ?_
 refine Za rfl rfl rfl (Zb9 Zcp rfl (Rd.el (hS.rd0 s0_.rd) Vj hi36b)) ?_
 refine Za rfl rfl rfl (Zap Z3 rfl (Zhe _) (Rd.el (hS.rd0 s0_.rd) Vj hi36b) rfl) ?_
 refine Zb 1 rfl ?_
 refine Zg ?_
 refine Z4 ?_
 refine Zc hK21 ?_
 refine Zf ?_
 refine Zb 1 rfl ?_
 refine Za rfl rfl rfl (X8 rfl rfl) ?_
 refine Zb 1 rfl ?_
 refine Zg ?_
 exact X9 (n, v16, e34.term, (IntKind.wrap .i64 (v18 + 1))) (by repeat (first | exact Sub.nil | refine Sub.cons rfl ?_)) ⟨hS, H⟩ (Nat.lt_succ_self _)
theorem c_ref06_Next (x0 : St) (x1 : En) (w0 : World) {r : St} (H : Zdf x0 x1 = some r) : Calls Tryz.prog 139 #[.agg #[.int .i64 x0.index, .int .i64 x0.term, .int .i64 x0.sum, .int .i64 x0.level, .bool x0.final], .agg #[.int .i64 x1.term, .int .i64 x1.kind, .int .i64 x1.value]] w0 fun e w' => e = .returned (.agg #[.int .i64 r.index, .int .i64 r.term, .int .i64 r.sum, .int .i64 r.level, .bool r.final]) ∧ St0 All w0 w' [] := by
 unfold Zdf at H
 refine Ys Tryz.func139 rfl Tryz.ntmps139 rfl ?_
 have hS := St0.start All w0
 refine Zd (fun K hK1 => ?_)
 refine Zf ?_
 refine Z7 rfl rfl rfl CellsOf.agg hS (fun b2 w hS hB => ?_)
 refine Z7 rfl rfl rfl CellsOf.agg hS (fun b4 w hS hB => ?_)
 refine Yd rfl rfl zc_23 hS (fun b6 w hS hB => ?_)
 refine Zg ?_
 refine Zc hK1 ?_
 refine Zd (fun K hK8 => ?_)
 refine Zd (fun K hK9 => ?_)
 refine Zf ?_
 refine Za rfl rfl rfl (Zi Zbw rfl (Zhe _) hS Y2 trivial Zep) ?_
 obtain ⟨r10, hm11, H⟩ := bind_some H
 refine Zn rfl rfl rfl rfl (by kernel_rfl) rfl (Zgx x1 _ hm11) ?_
 rintro e w ⟨rfl, hN⟩; refine ⟨_, rfl, ?_⟩; obtain ⟨hB, hS⟩ := hS.jn hN
 refine Za rfl rfl rfl (Yo rfl) ?_
 refine Zb 1 rfl ?_
 refine Zq 8 rfl (fun hb => ?_) (fun hb => ?_)
 ·replace H := Zo H hb
  refine Zb 9 rfl ?_
  refine Zg ?_
  refine Zc hK9 ?_
  refine Zu rfl rfl ?_
  refine Zd (fun K hK12 => ?_)
  refine Zf ?_
  refine Za rfl rfl rfl (Zi Y3 rfl (Zhe _) hS Xi trivial Jh) ?_
  refine Zl rfl rfl rfl CellsOf.agg hS ps0 Zeo (by kernel_rfl) rfl (fun w hS hB => ?_)
  refine Zg ?_
  refine Zc hK12 ?_
  refine Zk ?_
  refine Zj ?_
  refine Zm rfl (RV.cell rfl (Zt Y3 hS hs0 Jh) RV.nil) rfl ?_
  obtain rfl := QJ H
  replace hS := hS.cut 0
  exact ⟨rfl, hS⟩
 replace H := Zp H hb
 refine Za rfl rfl rfl (Zi Y3 rfl (Zhe _) hS Xi trivial Jh) ?_
 obtain ⟨r13, hm14, H⟩ := bind_some H
 refine Zn rfl rfl rfl rfl (by kernel_rfl) rfl (Zbd x0 _ hm14) ?_
 rintro e w ⟨rfl, hN⟩; refine ⟨_, rfl, ?_⟩; obtain ⟨hB, hS⟩ := hS.jn hN
 refine Za rfl rfl rfl (Yo rfl) ?_
 refine Zb 2 rfl ?_
 refine Zq 13 rfl (fun hb => ?_) (fun hb => ?_)
 ·replace H := Zo H hb
  refine Zb 4 rfl ?_
  refine Zg ?_
  refine Zc hK9 ?_
  refine Zu rfl rfl ?_
  refine Zd (fun K hK15 => ?_)
  refine Zf ?_
  refine Za rfl rfl rfl (Zi Y3 rfl (Zhe _) hS Xi trivial Jh) ?_
  refine Zl rfl rfl rfl CellsOf.agg hS ps0 Zeo (by kernel_rfl) rfl (fun w hS hB => ?_)
  refine Zg ?_
  refine Zc hK15 ?_
  refine Zk ?_
  refine Zj ?_
  refine Zm rfl (RV.cell rfl (Zt Y3 hS hs0 Jh) RV.nil) rfl ?_
  obtain rfl := QJ H
  replace hS := hS.cut 0
  exact ⟨rfl, hS⟩
 replace H := Zp H hb
 refine Za rfl rfl rfl (Ze Yl rfl) ?_
 refine Za rfl rfl rfl (Zh Z3 rfl (Zhe _) hS Xi trivial Yx) ?_
 refine Za rfl rfl rfl (Zcz rfl rfl) ?_
 refine Zb 1 rfl ?_
 refine Zg ?_
 refine Zc hK9 ?_
 refine Z1 rfl (fun hb => ?_) (fun hb => ?_)
 ·replace H := Zo H hb
  refine Zd (fun K hK16 => ?_)
  refine Zf ?_
  refine Za rfl rfl rfl (Zi Y3 rfl (Zhe _) hS Xi trivial Jh) ?_
  refine Zl rfl rfl rfl CellsOf.agg hS ps0 Zeo (by kernel_rfl) rfl (fun w hS hB => ?_)
  refine Zg ?_
  refine Zc hK16 ?_
  refine Zk ?_
  refine Zj ?_
  refine Zm rfl (RV.cell rfl (Zt Y3 hS hs0 Jh) RV.nil) rfl ?_
  obtain rfl := QJ H
  replace hS := hS.cut 0
  exact ⟨rfl, hS⟩
 replace H := Zp H hb
 refine Zs ?_
 refine Zc hK8 ?_
 refine Zd (fun K hK17 => ?_)
 refine Zf ?_
 refine Za rfl rfl rfl (Ze Yl rfl) ?_
 refine Za rfl rfl rfl (Zh Z3 rfl (Zhe _) hS Xi trivial Yx) ?_
 refine Za rfl rfl rfl (X8 rfl rfl) ?_
 refine Za rfl rfl rfl (Ze Yl rfl) ?_
 refine Zl rfl rfl rfl CellsOf.int hS ps2 Zeb (by kernel_rfl) rfl (fun w hS hB => ?_)
 refine Zg ?_
 refine Zc hK17 ?_
 refine Zd (fun K hK18 => ?_)
 refine Zf ?_
 refine Za rfl rfl rfl (Ze Zcp rfl) ?_
 refine Za rfl rfl rfl (Zh Z3 rfl (Zhe _) hS Y2 trivial Yx) ?_
 refine Za rfl rfl rfl (Ze Zdi rfl) ?_
 refine Zl rfl rfl rfl CellsOf.int hS ps2 st1_1 (by kernel_rfl) rfl (fun w hS hB => ?_)
 refine Zg ?_
 refine Zc hK18 ?_
 refine Zd (fun K hK19 => ?_)
 refine Zd (fun K hK20 => ?_)
 refine Zf ?_
 refine Za rfl rfl rfl (Ze fo_53_1 rfl) ?_
 refine Za rfl rfl rfl (Zh Z3 rfl (Zhe _) hS Y2 trivial Xu) ?_
 refine Zg ?_
 refine Zc hK20 ?_
 refine Yc ?_
 refine Zd (fun K hK21 => ?_)
 refine Zf ?_
 refine Za rfl rfl rfl (Yr rfl rfl) ?_
 refine Zb 1 rfl ?_
 refine Zg ?_
 refine Zc hK21 ?_
 refine Z1 rfl (fun hb => ?_) (fun hb => ?_)
 ·replace H := Zo H hb
  refine Zf ?_
  refine Za rfl rfl rfl (Ze fo_23_2 rfl) ?_
  refine Za rfl rfl rfl (Zh Z3 rfl (Zhe _) hS Xi trivial Jt) ?_
  refine Za rfl rfl rfl (yx_mul rfl rfl) ?_
  refine Za rfl rfl rfl (Ze fo_53_2 rfl) ?_
  refine Za rfl rfl rfl (Zh Z3 rfl (Zhe _) hS Y2 trivial Jt) ?_
  refine Za rfl rfl rfl (X8 rfl rfl) ?_
  refine Za rfl rfl rfl (X8 rfl rfl) ?_
  refine Za rfl rfl rfl (yx_rem rfl rfl (by decide)) ?_
  refine Za rfl rfl rfl (Ze fo_23_2 rfl) ?_
  refine Zl rfl rfl rfl CellsOf.int hS ps2 Zgz (by kernel_rfl) rfl (fun w hS hB => ?_)
  refine Zg ?_
  refine Z4 ?_
  refine Zc hK19 ?_
  refine Zd (fun K hK22 => ?_)
  refine Zf ?_
  refine Za rfl rfl rfl (Zi Y3 rfl (Zhe _) hS Xi trivial Jh) ?_
  refine Zl rfl rfl rfl CellsOf.agg hS ps0 Zeo (by kernel_rfl) rfl (fun w hS hB => ?_)
  refine Zg ?_
  refine Zc hK22 ?_
  refine Zk ?_
  refine Zm rfl (RV.cell rfl (Zt Y3 hS hs0 Jh) RV.nil) rfl ?_
  obtain rfl := QJ H
  replace hS := hS.cut 0
  exact ⟨rfl, hS⟩
 replace H := Zp H hb
 refine Zd (fun K hK23 => ?_)
 refine Zf ?_
 refine Za rfl rfl rfl (Yr rfl rfl) ?_
 refine Zb 1 rfl ?_
 refine Zg ?_
 refine Zc hK23 ?_
 refine Z1 rfl (fun hb => ?_) (fun hb => ?_)
 ·replace H := Zo H hb
  refine Zf ?_
  refine Za rfl rfl rfl (Ze Ze1 rfl) ?_
  refine Zl rfl rfl rfl CellsOf.int hS ps2 st3_1 (by kernel_rfl) rfl (fun w hS hB => ?_)
  refine Zg ?_
  refine Z4 ?_
  refine Zc hK19 ?_
  refine Zd (fun K hK24 => ?_)
  refine Zf ?_
  refine Za rfl rfl rfl (Zi Y3 rfl (Zhe _) hS Xi trivial Jh) ?_
  refine Zl rfl rfl rfl CellsOf.agg hS ps0 Zeo (by kernel_rfl) rfl (fun w hS hB => ?_)
  refine Zg ?_
  refine Zc hK24 ?_
  refine Zk ?_
  refine Zm rfl (RV.cell rfl (Zt Y3 hS hs0 Jh) RV.nil) rfl ?_
  obtain rfl := QJ H
  replace hS := hS.cut 0
  exact ⟨rfl, hS⟩
 replace H := Zp H hb
 refine Zd (fun K hK25 => ?_)
 refine Zf ?_
 refine Za rfl rfl rfl (Yr rfl rfl) ?_
 refine Zb 1 rfl ?_
 refine Zg ?_
 refine Zc hK25 ?_
 refine Z1 rfl (fun hb => ?_) (fun hb => ?_)
 ·replace H := Zo H hb
  refine Zd (fun K hK26 => ?_)
  refine Zf ?_
  refine Za rfl rfl rfl (Ze fo_23_4 rfl) ?_
  refine Za rfl rfl rfl (Zh sc_4 rfl (Zhe _) hS Xi trivial Zg7) ?_
  refine Za rfl rfl rfl (Yo rfl) ?_
  refine Zg ?_
  refine Zc hK26 ?_
  refine Z1 rfl (fun hb => ?_) (fun hb => ?_)
  rotate_left
  ·replace H := Zp H hb
   refine Zs ?_
   refine Z4 ?_
   refine Zc hK19 ?_
   refine Zd (fun K hK28 => ?_)
   refine Zf ?_
   refine Za rfl rfl rfl (Zi Y3 rfl (Zhe _) hS Xi trivial Jh) ?_
   refine Zl rfl rfl rfl CellsOf.agg hS ps0 Zeo (by kernel_rfl) rfl (fun w hS hB => ?_)
   refine Zg ?_
   refine Zc hK28 ?_
   refine Zk ?_
   refine Zm rfl (RV.cell rfl (Zt Y3 hS hs0 Jh) RV.nil) rfl ?_
   obtain rfl := QJ H
   replace hS := hS.cut 0
   exact ⟨rfl, hS⟩
  replace H := Zo H hb
  refine Zf ?_
  refine Za rfl rfl rfl (Ze Ze1 rfl) ?_
  refine Zl rfl rfl rfl CellsOf.int hS ps2 st3_1 (by kernel_rfl) rfl (fun w hS hB => ?_)
  refine Zg ?_
  refine Z4 ?_
  refine Zc hK19 ?_
  refine Zd (fun K hK27 => ?_)
  refine Zf ?_
  refine Za rfl rfl rfl (Zi Y3 rfl (Zhe _) hS Xi trivial Jh) ?_
  refine Zl rfl rfl rfl CellsOf.agg hS ps0 Zeo (by kernel_rfl) rfl (fun w hS hB => ?_)
  refine Zg ?_
  refine Zc hK27 ?_
  refine Zk ?_
  refine Zm rfl (RV.cell rfl (Zt Y3 hS hs0 Jh) RV.nil) rfl ?_
  obtain rfl := QJ H
  replace hS := hS.cut 0
  exact ⟨rfl, hS⟩
 replace H := Zp H hb
 refine Zd (fun K hK29 => ?_)
 refine Zf ?_
 refine Za rfl rfl rfl (Yr rfl rfl) ?_
 refine Zb 1 rfl ?_
 refine Zg ?_
 refine Zc hK29 ?_
 refine Z1 rfl (fun hb => ?_) (fun hb => ?_)
 rotate_left
 ·replace H := Zp H hb
  refine Zs ?_
  refine Z4 ?_
  refine Zc hK19 ?_
  refine Zd (fun K hK31 => ?_)
  refine Zf ?_
  refine Za rfl rfl rfl (Zi Y3 rfl (Zhe _) hS Xi trivial Jh) ?_
  refine Zl rfl rfl rfl CellsOf.agg hS ps0 Zeo (by kernel_rfl) rfl (fun w hS hB => ?_)
  refine Zg ?_
  refine Zc hK31 ?_
  refine Zk ?_
  refine Zm rfl (RV.cell rfl (Zt Y3 hS hs0 Jh) RV.nil) rfl ?_
  obtain rfl := QJ H
  replace hS := hS.cut 0
  exact ⟨rfl, hS⟩
 replace H := Zo H hb
 refine Zf ?_
 refine Za rfl rfl rfl (Ze Ze1 rfl) ?_
 refine Za rfl rfl rfl (Zh Z3 rfl (Zhe _) hS Xi trivial Jb) ?_
 refine Za rfl rfl rfl (Yr rfl rfl) ?_
 refine Za rfl rfl rfl (Ze fo_23_4 rfl) ?_
 refine Zl rfl rfl rfl CellsOf.bool hS ps2 st4_1 (by kernel_rfl) rfl (fun w hS hB => ?_)
 refine Zg ?_
 refine Z4 ?_
 refine Zc hK19 ?_
 refine Zd (fun K hK30 => ?_)
 refine Zf ?_
 refine Za rfl rfl rfl (Zi Y3 rfl (Zhe _) hS Xi trivial Jh) ?_
 refine Zl rfl rfl rfl CellsOf.agg hS ps0 Zeo (by kernel_rfl) rfl (fun w hS hB => ?_)
 refine Zg ?_
 refine Zc hK30 ?_
 refine Zk ?_
 refine Zm rfl (RV.cell rfl (Zt Y3 hS hs0 Jh) RV.nil) rfl ?_
 obtain rfl := QJ H
 replace hS := hS.cut 0
 exact ⟨rfl, hS⟩
theorem c_ref06_All (x0 : St) (x1 : List En) (A0_ : OA) (c0_ : Nat) (w0 : World) (s0_ : SlI w0 V3 A0_ c0_ x1) {r : St} (H : Zgk x0 x1 = some r) : Calls Tryz.prog 122 #[.agg #[.int .i64 x0.index, .int .i64 x0.term, .int .i64 x0.sum, .int .i64 x0.level, .bool x0.final], .slice A0_ x1.length c0_] w0 fun e w' => e = .returned (.agg #[.int .i64 r.index, .int .i64 r.term, .int .i64 r.sum, .int .i64 r.level, .bool r.final]) ∧ St0 All w0 w' [] := by
 unfold Zgk at H
 refine Ys Tryz.func122 rfl Tryz.ntmps122 rfl ?_
 have hS := St0.start All w0
 refine Zd (fun K hK1 => ?_)
 refine Zf ?_
 refine Z7 rfl rfl rfl CellsOf.agg hS (fun b2 w hS hB => ?_)
 refine Yd rfl rfl zc_23 hS (fun b4 w hS hB => ?_)
 refine Zg ?_
 refine Zc hK1 ?_
 refine Zd (fun K hK6 => ?_)
 refine Zd (fun K hK7 => ?_)
 refine Zf ?_
 refine Zb 1 rfl ?_
 refine Zg ?_
 refine Zc hK7 ?_
 refine Yc ?_
 refine V7 (X := Nat × Int × Int × Int × Int × Int × Bool) (fun x => (1, .slice A0_ x1.length c0_) :: (2, .pointer (some ⟨b2, 0, none⟩)) :: (4, .pointer (some ⟨b4, 0, none⟩)) :: (5, .int .i64 x.2.1) :: []) (fun x w => St0 All w0 w (.box b4 [.int .i64 0, .int .i64 0, .int .i64 0, .int .i64 0, .bool false] 23 :: .box b2 [.int .i64 x.2.2.1, .int .i64 x.2.2.2.1, .int .i64 x.2.2.2.2.1, .int .i64 x.2.2.2.2.2.1, .bool x.2.2.2.2.2.2] 23 :: []) ∧ Za3 x1 x.1 x.2.1 x.2.2.1 x.2.2.2.1 x.2.2.2.2.1 x.2.2.2.2.2.1 x.2.2.2.2.2.2 = some r) (fun x => x.1) (Xw, 0, x0.index, x0.term, x0.sum, x0.level, x0.final) (by repeat (first | exact Sub.nil | refine Sub.cons rfl ?_)) ⟨hS, H⟩ ?_
 rintro ⟨n, v8, v9, v10, v11, v12, v13⟩ w ⟨hS, H⟩
 dsimp only at hS H ⊢
 obtain _ | n := n
 ·have H0 : none = some r := H
  cases H0
 rw [Za3] at H
 refine Zd (fun K hK14 => ?_)
 refine Zd (fun K hK15 => ?_)
 refine Zf ?_
 refine Zb 2 rfl ?_
 refine Za rfl rfl rfl (Yz Xq rfl) ?_
 refine Za rfl rfl rfl (Xk rfl rfl) ?_
 refine Zg ?_
 refine Zc hK15 ?_
 refine Z1 rfl (fun hb => ?_) (fun hb => ?_)
 rotate_left
 ·replace H := Zp H hb
  refine X0 ?_
  refine Z9 ?_
  refine Z9 ?_
  refine Yy ?_
  refine Zc hK6 ?_
  refine Zd (fun K hK22 => ?_)
  refine Zf ?_
  refine Za rfl rfl rfl (Zi Y3 rfl (Zhe _) hS Y2 trivial Jh) ?_
  refine Zl rfl rfl rfl CellsOf.agg hS ps0 Zeo (by kernel_rfl) rfl (fun w hS hB => ?_)
  refine Zg ?_
  refine Zc hK22 ?_
  refine Zk ?_
  refine Zm rfl (RV.cell rfl (Zt Y3 hS hs0 Jh) RV.nil) rfl ?_
  obtain rfl := QJ H
  replace hS := hS.cut 0
  exact ⟨rfl, hS⟩
 replace H := Zo H hb
 refine Zs ?_
 refine Zc hK14 ?_
 refine Zd (fun K hK16 => ?_)
 refine Yc ?_
 refine Yn 7 [6] (fun i b => (i = 6 → b ≠ b2)) ⟨by kernel_rfl, by kernel_rfl⟩ hS (fun w hS hB => ?_)
 refine Zr [true, true, true, true, true] (by decide +kernel) PFC.h ?_
 refine LtK.put rfl rfl rfl (Zi Y3 rfl (Zhf _) hS Y2 trivial Jh) ?_
 refine LtK.put rfl rfl rfl (Zy rfl) ?_
 refine LtK.put rfl rfl rfl (Zy rfl) ?_
 obtain ⟨e17, hi19, H⟩ := bind_some H
 obtain ⟨j18, hi19a, hi19b, hi19c⟩ := Y0 hi19
 refine LtK.put rfl rfl rfl (Xh Xq rfl rfl hi19a hi19c (Rd.el (hS.rd0 s0_.rd) Vj hi19b)) ?_
 refine LtK.put rfl rfl rfl (Zdz Zbw rfl (Zhf _) (Rd.el (hS.rd0 s0_.rd) Vj hi19b) Zep) ?_
 refine LtK.nil ?_
 refine Z5 [false, false, false, false, false, true] 5 ⟨by decide, by kernel_rfl, by kernel_rfl⟩ rfl rfl ?_
 try dsimp only [Zw]
 obtain ⟨r20, hm21, H⟩ := bind_some H
 refine Zn rfl rfl rfl rfl (by kernel_rfl) rfl (c_ref06_Next (⟨v9, v10, v11, v12, v13⟩ : St) e17 _ hm21) ?_
 rintro e w ⟨rfl, hN⟩; refine ⟨_, rfl, ?_⟩; obtain ⟨hB, hS⟩ := hS.jn hN
 refine Zg ?_
 refine Z6 hB ?_
 refine Yk [false, false, false, false, false, false, true] 6 ⟨by decide, by kernel_rfl, by kernel_rfl⟩ rfl rfl ?_
 try dsimp only [Zw]
 refine Zl rfl rfl rfl CellsOf.agg hS ps1 Zeo (by kernel_rfl) rfl (fun w hS hB => ?_)
 refine Zg ?_
 refine Yb (hB.sub (fun _ _ h => by simpa using h)) ?_
 refine Ye (by kernel_rfl) ?_
 refine Z4 ?_
 refine Zc hK16 ?_
 refine Zf ?_
 refine Zb 1 rfl ?_
 refine Za rfl rfl rfl (X8 rfl rfl) ?_
 refine Zb 1 rfl ?_
 refine Zg ?_
 exact X9 (n, (IntKind.wrap .i64 (v8 + 1)), r20.index, r20.term, r20.sum, r20.level, r20.final) (by repeat (first | exact Sub.nil | refine Sub.cons rfl ?_)) ⟨hS, H⟩ (Nat.lt_succ_self _)
theorem c_ref12_State (x0 : Tu) (x1 : Int) (A0_ : OA) (c0_ : Nat) (w0 : World) (s0_ : SlI w0 V3 A0_ c0_ x0.log) {r : St × Bool} (H : Zck x0 x1 = some r) : Calls Tryz.prog 79 #[.agg #[.int .i64 x0.snap.index, .int .i64 x0.snap.term, .int .i64 x0.snap.sum, .int .i64 x0.snap.level, .bool x0.snap.final, .slice A0_ x0.log.length c0_, .int .i64 x0.term, .int .i64 x0.vote], .int .i64 x1] w0 fun e w' => e = .returned (.tuple #[.agg #[.int .i64 r.1.index, .int .i64 r.1.term, .int .i64 r.1.sum, .int .i64 r.1.level, .bool r.1.final], .bool r.2]) ∧ St0 All w0 w' [] := by
 unfold Zck at H
 refine Ys Tryz.func79 rfl Tryz.ntmps79 rfl ?_
 have hS := St0.start All w0
 refine Zd (fun K hK1 => ?_)
 refine Zf ?_
 refine Z7 rfl rfl rfl CellsOf.agg hS (fun b2 w hS hB => ?_)
 refine Yd rfl rfl zc_23 hS (fun b4 w hS hB => ?_)
 refine Zb 1 rfl ?_
 refine Zg ?_
 refine Zc hK1 ?_
 refine Zd (fun K hK6 => ?_)
 refine Zd (fun K hK7 => ?_)
 refine Zf ?_
 refine Zb 1 rfl ?_
 refine Za rfl rfl rfl (Ze Xy rfl) ?_
 refine Za rfl rfl rfl (Ze Yl rfl) ?_
 refine Za rfl rfl rfl (Zh Z3 rfl (Zhe _) hS Y2 trivial Yx) ?_
 refine Za rfl rfl rfl (Xk rfl rfl) ?_
 refine Zb 1 rfl ?_
 refine Zq 11 rfl (fun hb => ?_) (fun hb => ?_)
 ·replace H := Zo H hb
  refine Zb 5 rfl ?_
  refine Zg ?_
  refine Zc hK7 ?_
  refine Zu rfl rfl ?_
  refine Zd (fun K hK8 => ?_)
  refine Zf ?_
  refine Za rfl rfl rfl (Xn (cells := [.int .i64 0, .int .i64 0, .int .i64 0, .int .i64 0, .bool false]) rfl (by kernel_rfl)) ?_
  refine Zl rfl rfl rfl CellsOf.agg hS ps0 Zeo (by kernel_rfl) rfl (fun w hS hB => ?_)
  refine Zb 1 rfl ?_
  refine Zg ?_
  refine Zc hK8 ?_
  refine Zk ?_
  refine Zj ?_
  refine Zm rfl (RV.cell rfl (Zt Y3 hS hs0 Jh) (RV.tmp rfl RV.nil)) rfl ?_
  obtain rfl := QJ H
  replace hS := hS.cut 0
  exact ⟨rfl, hS⟩
 replace H := Zp H hb
 refine Zb 1 rfl ?_
 refine Za rfl rfl rfl (Zi Yp rfl (Zhe _) hS Y2 trivial Xe) ?_
 obtain ⟨r9, hm10, H⟩ := bind_some H
 refine Zn rfl rfl rfl rfl (by kernel_rfl) rfl (Zaw x0 A0_ c0_ _ (Zhh s0_.k (hS.rd0 s0_.rd) (hS.blk0 s0_.blk)) hm10) ?_
 rintro e w ⟨rfl, hN⟩; refine ⟨_, rfl, ?_⟩; obtain ⟨hB, hS⟩ := hS.jn hN
 refine Za rfl rfl rfl (Y7 rfl rfl) ?_
 refine Zb 1 rfl ?_
 refine Zg ?_
 refine Zc hK7 ?_
 refine Z1 rfl (fun hb => ?_) (fun hb => ?_)
 ·replace H := Zo H hb
  refine Zd (fun K hK11 => ?_)
  refine Zf ?_
  refine Za rfl rfl rfl (Xn (cells := [.int .i64 0, .int .i64 0, .int .i64 0, .int .i64 0, .bool false]) rfl (by kernel_rfl)) ?_
  refine Zl rfl rfl rfl CellsOf.agg hS ps0 Zeo (by kernel_rfl) rfl (fun w hS hB => ?_)
  refine Zb 1 rfl ?_
  refine Zg ?_
  refine Zc hK11 ?_
  refine Zk ?_
  refine Zj ?_
  refine Zm rfl (RV.cell rfl (Zt Y3 hS hs0 Jh) (RV.tmp rfl RV.nil)) rfl ?_
  obtain rfl := QJ H
  replace hS := hS.cut 0
  exact ⟨rfl, hS⟩
 replace H := Zp H hb
 refine Zs ?_
 refine Zc hK6 ?_
 refine Zd (fun K hK12 => ?_)
 refine Yn 13 [11] (fun i b => (i = 11 → b ≠ b4)) ⟨by kernel_rfl, by kernel_rfl⟩ hS (fun w hS hB => ?_)
 refine Zr [true, true, true, true, true, true, true, true, true, true] (by decide +kernel) PFC.h ?_
 refine LtK.put rfl rfl rfl (Ze Xy rfl) ?_
 refine LtK.put rfl rfl rfl (Zi Y3 rfl (Zhf _) hS Y2 trivial Jh) ?_
 refine LtK.put rfl rfl rfl (Ze X7 rfl) ?_
 refine LtK.put rfl rfl rfl (Zh Vm rfl (Zhf _) hS Y2 trivial Zcq) ?_
 refine LtK.put rfl rfl rfl (Zy rfl) ?_
 refine LtK.put rfl rfl rfl (Ze Xy rfl) ?_
 refine LtK.put rfl rfl rfl (Ze Yl rfl) ?_
 refine LtK.put rfl rfl rfl (Zh Z3 rfl (Zhf _) hS Y2 trivial Yx) ?_
 refine LtK.put rfl rfl rfl (Zcn rfl rfl) ?_
 obtain ⟨l13, ht14, H⟩ := bind_some H
 refine LtK.put rfl rfl rfl (yx_slice_h Xq rfl rfl s0_.k.1 ht14) ?_
 refine LtK.nil ?_
 refine Z5 [false, false, false, false, false, false, false, false, false, false, true] 10 ⟨by decide, by kernel_rfl, by kernel_rfl⟩ rfl rfl ?_
 try dsimp only [Zw]
 obtain ⟨r15, hm16, H⟩ := bind_some H
 refine Zn rfl rfl rfl rfl (by kernel_rfl) rfl (c_ref06_All x0.snap l13 A0_ c0_ _ (Zhh (k_take s0_.k ht14) (Rd.takeI Vj (hS.rd0 s0_.rd) ht14) (hS.blk0 s0_.blk)) hm16) ?_
 rintro e w ⟨rfl, hN⟩; refine ⟨_, rfl, ?_⟩; obtain ⟨hB, hS⟩ := hS.jn hN
 refine Zg ?_
 refine Z6 hB ?_
 refine Yk [false, false, false, false, false, false, false, false, false, false, false, true] 11 ⟨by decide, by kernel_rfl, by kernel_rfl⟩ rfl rfl ?_
 try dsimp only [Zw]
 refine Zl rfl rfl rfl CellsOf.agg hS ps0 Zeo (by kernel_rfl) rfl (fun w hS hB => ?_)
 refine Zg ?_
 refine Yb (hB.sub (fun _ _ h => by simpa using h)) ?_
 refine Zr [false, false, false, false, false, false, false, false, false, false, false, false, true] (by decide +kernel) PFC.h ?_
 refine LtK.put rfl rfl rfl (Z2 rfl) ?_
 refine LtK.nil ?_
 refine Ye (by kernel_rfl) ?_
 refine Zc hK12 ?_
 refine Zk ?_
 refine Zm rfl (RV.cell rfl (Zt Y3 hS hs0 Jh) (RV.tmp rfl RV.nil)) rfl ?_
 obtain rfl := QJ H
 replace hS := hS.cut 0
 exact ⟨rfl, hS⟩
theorem Zdu (x0 : Co) (A0_ : OA) (c0_ : Nat) (A1_ : OA) (c1_ : Nat) (A2_ : OA) (c2_ : Nat) (A3_ : OA) (c3_ : Nat) (A4_ : OA) (c4_ : Nat) (w0 : World) (s0_ : SlI w0 V3 A0_ c0_ x0.tuple.log) (s1_ : SlI w0 enO A1_ c1_ x0.votes) (s2_ : SlI w0 X2 A2_ c2_ x0.next) (s3_ : SlI w0 X2 A3_ c3_ x0.mtch) (s4_ : SlI w0 X2 A4_ c4_ x0.caps) {r : Bool} (H : J9 x0 = some r) : Calls Tryz.prog 38 #[.agg #[.int .i64 x0.id, .int .i64 x0.n, .int .u8 x0.role, .int .i64 x0.binary, .int .i64 x0.tuple.snap.index, .int .i64 x0.tuple.snap.term, .int .i64 x0.tuple.snap.sum, .int .i64 x0.tuple.snap.level, .bool x0.tuple.snap.final, .slice A0_ x0.tuple.log.length c0_, .int .i64 x0.tuple.term, .int .i64 x0.tuple.vote, .int .i64 x0.commit, .int .i64 x0.applied.index, .int .i64 x0.applied.term, .int .i64 x0.applied.sum, .int .i64 x0.applied.level, .bool x0.applied.final, .slice A1_ x0.votes.length c1_, .slice A2_ x0.next.length c2_, .slice A3_ x0.mtch.length c3_, .slice A4_ x0.caps.length c4_]] w0 fun e w' => e = .returned (.bool r) ∧ St0 All w0 w' [] := by
 unfold J9 at H
 refine Yh Tryz.func38 rfl Tryz.ntmps38 rfl ?_
 have hS := St0.start All w0
 refine Zd (fun K hK1 => ?_)
 refine Zf ?_
 refine Z7 rfl rfl rfl CellsOf.agg hS (fun b2 w hS hB => ?_)
 refine Zb 1 rfl ?_
 refine Zg ?_
 refine Zc hK1 ?_
 refine Zd (fun K hK4 => ?_)
 refine Zd (fun K hK5 => ?_)
 refine Zf ?_
 refine Za rfl rfl rfl (Ze Vf rfl) ?_
 refine Za rfl rfl rfl (Zh Z3 rfl (Zhe _) hS hs0 trivial Xu) ?_
 refine Za rfl rfl rfl (Xk rfl rfl) ?_
 refine Zb 1 rfl ?_
 refine Zq 10 rfl (fun hb => ?_) (fun hb => ?_)
 ·replace H := Zo H hb
  refine Zb 37 rfl ?_
  refine Zg ?_
  refine Zc hK5 ?_
  refine Zu rfl rfl ?_
  refine Zd (fun K hK6 => ?_)
  refine Zf ?_
  refine Zb 1 rfl ?_
  refine Zg ?_
  refine Zc hK6 ?_
  refine Zk ?_
  refine Zj ?_
  refine Zm rfl (RV.tmp rfl RV.nil) rfl ?_
  obtain rfl := QJ H
  replace hS := hS.cut 0
  exact ⟨rfl, hS⟩
 replace H := Zp H hb
 refine Za rfl rfl rfl (Ze Vf rfl) ?_
 refine Za rfl rfl rfl (Zh Z3 rfl (Zhe _) hS hs0 trivial Xu) ?_
 refine Za rfl rfl rfl (Y7 rfl rfl) ?_
 refine Zb 2 rfl ?_
 refine Zq 15 rfl (fun hb => ?_) (fun hb => ?_)
 ·replace H := Zo H hb
  refine Zb 32 rfl ?_
  refine Zg ?_
  refine Zc hK5 ?_
  refine Zu rfl rfl ?_
  refine Zd (fun K hK7 => ?_)
  refine Zf ?_
  refine Zb 1 rfl ?_
  refine Zg ?_
  refine Zc hK7 ?_
  refine Zk ?_
  refine Zj ?_
  refine Zm rfl (RV.tmp rfl RV.nil) rfl ?_
  obtain rfl := QJ H
  replace hS := hS.cut 0
  exact ⟨rfl, hS⟩
 replace H := Zp H hb
 refine Za rfl rfl rfl (Ze Vo rfl) ?_
 refine Za rfl rfl rfl (Zh Z3 rfl (Zhe _) hS hs0 trivial Yx) ?_
 refine Za rfl rfl rfl (Xk rfl rfl) ?_
 refine Zb 2 rfl ?_
 refine Zq 20 rfl (fun hb => ?_) (fun hb => ?_)
 ·replace H := Zo H hb
  refine Zb 27 rfl ?_
  refine Zg ?_
  refine Zc hK5 ?_
  refine Zu rfl rfl ?_
  refine Zd (fun K hK8 => ?_)
  refine Zf ?_
  refine Zb 1 rfl ?_
  refine Zg ?_
  refine Zc hK8 ?_
  refine Zk ?_
  refine Zj ?_
  refine Zm rfl (RV.tmp rfl RV.nil) rfl ?_
  obtain rfl := QJ H
  replace hS := hS.cut 0
  exact ⟨rfl, hS⟩
 replace H := Zp H hb
 refine Za rfl rfl rfl (Ze Vo rfl) ?_
 refine Za rfl rfl rfl (Zh Z3 rfl (Zhe _) hS hs0 trivial Yx) ?_
 refine Za rfl rfl rfl (Ze Vf rfl) ?_
 refine Za rfl rfl rfl (Zh Z3 rfl (Zhe _) hS hs0 trivial Xu) ?_
 refine Za rfl rfl rfl (Y7 rfl rfl) ?_
 refine Zb 2 rfl ?_
 refine Zq 27 rfl (fun hb => ?_) (fun hb => ?_)
 ·replace H := Zo H hb
  refine Zb 20 rfl ?_
  refine Zg ?_
  refine Zc hK5 ?_
  refine Zu rfl rfl ?_
  refine Zd (fun K hK9 => ?_)
  refine Zf ?_
  refine Zb 1 rfl ?_
  refine Zg ?_
  refine Zc hK9 ?_
  refine Zk ?_
  refine Zj ?_
  refine Zm rfl (RV.tmp rfl RV.nil) rfl ?_
  obtain rfl := QJ H
  replace hS := hS.cut 0
  exact ⟨rfl, hS⟩
 replace H := Zp H hb
 refine Za rfl rfl rfl (Ze Vv rfl) ?_
 refine Za rfl rfl rfl (Zh Zas rfl (Zhe _) hS hs0 trivial Jt) ?_
 refine Za rfl rfl rfl (Y7 rfl rfl) ?_
 refine Zb 2 rfl ?_
 refine Zq 32 rfl (fun hb => ?_) (fun hb => ?_)
 ·replace H := Zo H hb
  refine Zb 15 rfl ?_
  refine Zg ?_
  refine Zc hK5 ?_
  refine Zu rfl rfl ?_
  refine Zd (fun K hK10 => ?_)
  refine Zf ?_
  refine Zb 1 rfl ?_
  refine Zg ?_
  refine Zc hK10 ?_
  refine Zk ?_
  refine Zj ?_
  refine Zm rfl (RV.tmp rfl RV.nil) rfl ?_
  obtain rfl := QJ H
  replace hS := hS.cut 0
  exact ⟨rfl, hS⟩
 replace H := Zp H hb
 refine Za rfl rfl rfl (Ze Zdy rfl) ?_
 refine Za rfl rfl rfl (Zh Z3 rfl (Zhe _) hS hs0 trivial Jb) ?_
 refine Za rfl rfl rfl (Xk rfl rfl) ?_
 refine Zb 2 rfl ?_
 refine Zq 37 rfl (fun hb => ?_) (fun hb => ?_)
 ·replace H := Zo H hb
  refine Zb 10 rfl ?_
  refine Zg ?_
  refine Zc hK5 ?_
  refine Zu rfl rfl ?_
  refine Zd (fun K hK11 => ?_)
  refine Zf ?_
  refine Zb 1 rfl ?_
  refine Zg ?_
  refine Zc hK11 ?_
  refine Zk ?_
  refine Zj ?_
  refine Zm rfl (RV.tmp rfl RV.nil) rfl ?_
  obtain rfl := QJ H
  replace hS := hS.cut 0
  exact ⟨rfl, hS⟩
 replace H := Zp H hb
 refine Za rfl rfl rfl (Ze Zdy rfl) ?_
 refine Za rfl rfl rfl (Zh Z3 rfl (Zhe _) hS hs0 trivial Jb) ?_
 refine Za rfl rfl rfl (Y7 rfl rfl) ?_
 refine Zb 2 rfl ?_
 refine Zq 42 rfl (fun hb => ?_) (fun hb => ?_)
 ·replace H := Zo H hb
  refine Zb 5 rfl ?_
  refine Zg ?_
  refine Zc hK5 ?_
  refine Zu rfl rfl ?_
  refine Zd (fun K hK12 => ?_)
  refine Zf ?_
  refine Zb 1 rfl ?_
  refine Zg ?_
  refine Zc hK12 ?_
  refine Zk ?_
  refine Zj ?_
  refine Zm rfl (RV.tmp rfl RV.nil) rfl ?_
  obtain rfl := QJ H
  replace hS := hS.cut 0
  exact ⟨rfl, hS⟩
 replace H := Zp H hb
 refine Za rfl rfl rfl (Ze Yq rfl) ?_
 refine Za rfl rfl rfl (Zi Yp rfl (Zhe _) hS hs0 trivial Zbt) ?_
 obtain ⟨r13, hm14, H⟩ := bind_some H
 refine Zn rfl rfl rfl rfl (by kernel_rfl) rfl (Zae x0.tuple A0_ c0_ _ (Zhh s0_.k (hS.rd0 s0_.rd) (hS.blk0 s0_.blk)) hm14) ?_
 rintro e w ⟨rfl, hN⟩; refine ⟨_, rfl, ?_⟩; obtain ⟨hB, hS⟩ := hS.jn hN
 refine Za rfl rfl rfl (Yo rfl) ?_
 refine Zb 1 rfl ?_
 refine Zg ?_
 refine Zc hK5 ?_
 refine Z1 rfl (fun hb => ?_) (fun hb => ?_)
 ·replace H := Zo H hb
  refine Zd (fun K hK15 => ?_)
  refine Zf ?_
  refine Zb 1 rfl ?_
  refine Zg ?_
  refine Zc hK15 ?_
  refine Zk ?_
  refine Zj ?_
  refine Zm rfl (RV.tmp rfl RV.nil) rfl ?_
  obtain rfl := QJ H
  replace hS := hS.cut 0
  exact ⟨rfl, hS⟩
 replace H := Zp H hb
 refine Zs ?_
 refine Zc hK4 ?_
 refine Zd (fun K hK16 => ?_)
 refine Zf ?_
 refine Za rfl rfl rfl (Ze Yq rfl) ?_
 refine Za rfl rfl rfl (Zi Yp rfl (Zhe _) hS hs0 trivial Zbt) ?_
 refine Za rfl rfl rfl (Ze fo_30_5 rfl) ?_
 refine Za rfl rfl rfl (Zh Z3 rfl (Zhe _) hS hs0 trivial sg12_1) ?_
 obtain ⟨r17, hm18, H⟩ := bind_some H
 refine Zn rfl rfl rfl rfl (by kernel_rfl) rfl (c_ref12_State x0.tuple x0.commit A0_ c0_ _ (Zhh s0_.k (hS.rd0 s0_.rd) (hS.blk0 s0_.blk)) hm18) ?_
 rintro e w ⟨rfl, hN⟩; refine ⟨_, rfl, ?_⟩; obtain ⟨hB, hS⟩ := hS.jn hN
 refine Zb 1 rfl ?_
 refine Za rfl rfl rfl (Z0 rfl rfl) ?_
 refine Za rfl rfl rfl (Z0 rfl rfl) ?_
 refine Yd rfl rfl zc_23 hS (fun b19 w hS hB => ?_)
 refine Zl rfl rfl rfl CellsOf.agg hS ps0 Zeo (by kernel_rfl) rfl (fun w hS hB => ?_)
 refine Zb 1 rfl ?_
 refine Zg ?_
 refine Zc hK16 ?_
 refine Zd (fun K hK21 => ?_)
 refine Zd (fun K hK22 => ?_)
 refine Zf ?_
 refine Zb 1 rfl ?_
 refine Za rfl rfl rfl (Yo rfl) ?_
 refine Zb 1 rfl ?_
 refine Zq 58 rfl (fun hb => ?_) (fun hb => ?_)
 ·replace H := Zo H hb
  refine Zb 37 rfl ?_
  refine Zg ?_
  refine Zc hK22 ?_
  refine Zu rfl rfl ?_
  refine Zd (fun K hK23 => ?_)
  refine Zf ?_
  refine Zb 1 rfl ?_
  refine Zg ?_
  refine Zc hK23 ?_
  refine Zk ?_
  refine Zj ?_
  refine Zm rfl (RV.tmp rfl RV.nil) rfl ?_
  obtain rfl := QJ H
  replace hS := hS.cut 0
  exact ⟨rfl, hS⟩
 replace H := Zp H hb
 refine Za rfl rfl rfl (Zi Y3 rfl (Zhe _) hS hs0 trivial Jh) ?_
 refine Za rfl rfl rfl (Ze fo_30_6 rfl) ?_
 refine Za rfl rfl rfl (Zi Y3 rfl (Zhe _) hS Y2 trivial sg13_5) ?_
 refine Za rfl rfl rfl (yv_neqS (by kernel_rfl) rfl rfl (Za8 _ _ _ _ _ _ _ _ _ _)) ?_
 refine Zb 2 rfl ?_
 refine Zq 64 rfl (fun hb => ?_) (fun hb => ?_)
 ·replace H := Zo H hb
  refine Zb 31 rfl ?_
  refine Zg ?_
  refine Zc hK22 ?_
  refine Zu rfl rfl ?_
  refine Zd (fun K hK24 => ?_)
  refine Zf ?_
  refine Zb 1 rfl ?_
  refine Zg ?_
  refine Zc hK24 ?_
  refine Zk ?_
  refine Zj ?_
  refine Zm rfl (RV.tmp rfl RV.nil) rfl ?_
  obtain rfl := QJ H
  replace hS := hS.cut 0
  exact ⟨rfl, hS⟩
 replace H := Zp H hb
 refine Za rfl rfl rfl (Ze Vd rfl) ?_
 refine Za rfl rfl rfl (Zh Zc1 rfl (Zhe _) hS Y2 trivial Zba) ?_
 refine Za rfl rfl rfl (Yz Zbs rfl) ?_
 refine Za rfl rfl rfl (Ze Vf rfl) ?_
 refine Za rfl rfl rfl (Zh Z3 rfl (Zhe _) hS Y2 trivial Xu) ?_
 refine Za rfl rfl rfl (Xm rfl rfl) ?_
 refine Zb 2 rfl ?_
 refine Zq 72 rfl (fun hb => ?_) (fun hb => ?_)
 ·replace H := Zo H hb
  refine Zb 23 rfl ?_
  refine Zg ?_
  refine Zc hK22 ?_
  refine Zu rfl rfl ?_
  refine Zd (fun K hK25 => ?_)
  refine Zf ?_
  refine Zb 1 rfl ?_
  refine Zg ?_
  refine Zc hK25 ?_
  refine Zk ?_
  refine Zj ?_
  refine Zm rfl (RV.tmp rfl RV.nil) rfl ?_
  obtain rfl := QJ H
  replace hS := hS.cut 0
  exact ⟨rfl, hS⟩
 replace H := Zp H hb
 refine Za rfl rfl rfl (Ze Zce rfl) ?_
 refine Za rfl rfl rfl (Zh Vy rfl (Zhe _) hS Y2 trivial Zfm) ?_
 refine Za rfl rfl rfl (Yz Vh rfl) ?_
 refine Za rfl rfl rfl (Ze Vf rfl) ?_
 refine Za rfl rfl rfl (Zh Z3 rfl (Zhe _) hS Y2 trivial Xu) ?_
 refine Za rfl rfl rfl (Xm rfl rfl) ?_
 refine Zb 2 rfl ?_
 refine Zq 80 rfl (fun hb => ?_) (fun hb => ?_)
 ·replace H := Zo H hb
  refine Zb 15 rfl ?_
  refine Zg ?_
  refine Zc hK22 ?_
  refine Zu rfl rfl ?_
  refine Zd (fun K hK26 => ?_)
  refine Zf ?_
  refine Zb 1 rfl ?_
  refine Zg ?_
  refine Zc hK26 ?_
  refine Zk ?_
  refine Zj ?_
  refine Zm rfl (RV.tmp rfl RV.nil) rfl ?_
  obtain rfl := QJ H
  replace hS := hS.cut 0
  exact ⟨rfl, hS⟩
 replace H := Zp H hb
 refine Za rfl rfl rfl (Ze Zbf rfl) ?_
 refine Za rfl rfl rfl (Zh Vy rfl (Zhe _) hS Y2 trivial Zec) ?_
 refine Za rfl rfl rfl (Yz Vh rfl) ?_
 refine Za rfl rfl rfl (Ze Vf rfl) ?_
 refine Za rfl rfl rfl (Zh Z3 rfl (Zhe _) hS Y2 trivial Xu) ?_
 refine Za rfl rfl rfl (Xm rfl rfl) ?_
 refine Zb 2 rfl ?_
 refine Zq 88 rfl (fun hb => ?_) (fun hb => ?_)
 ·replace H := Zo H hb
  refine Zb 7 rfl ?_
  refine Zg ?_
  refine Zc hK22 ?_
  refine Zu rfl rfl ?_
  refine Zd (fun K hK27 => ?_)
  refine Zf ?_
  refine Zb 1 rfl ?_
  refine Zg ?_
  refine Zc hK27 ?_
  refine Zk ?_
  refine Zj ?_
  refine Zm rfl (RV.tmp rfl RV.nil) rfl ?_
  obtain rfl := QJ H
  replace hS := hS.cut 0
  exact ⟨rfl, hS⟩
 replace H := Zp H hb
 refine Za rfl rfl rfl (Ze V8 rfl) ?_
 refine Za rfl rfl rfl (Zh Vy rfl (Zhe _) hS Y2 trivial Zc7) ?_
 refine Za rfl rfl rfl (Yz Vh rfl) ?_
 refine Za rfl rfl rfl (Ze Vf rfl) ?_
 refine Za rfl rfl rfl (Zh Z3 rfl (Zhe _) hS Y2 trivial Xu) ?_
 refine Za rfl rfl rfl (Xm rfl rfl) ?_
 refine Zb 1 rfl ?_
 refine Zg ?_
 refine Zc hK22 ?_
 refine Z1 rfl (fun hb => ?_) (fun hb => ?_)
 ·replace H := Zo H hb
  refine Zd (fun K hK28 => ?_)
  refine Zf ?_
  refine Zb 1 rfl ?_
  refine Zg ?_
  refine Zc hK28 ?_
  refine Zk ?_
  refine Zj ?_
  refine Zm rfl (RV.tmp rfl RV.nil) rfl ?_
  obtain rfl := QJ H
  replace hS := hS.cut 0
  exact ⟨rfl, hS⟩
 replace H := Zp H hb
 refine Zs ?_
 refine Zc hK21 ?_
 refine Zd (fun K hK29 => ?_)
 refine Zf ?_
 refine Za rfl rfl rfl (Ze Yq rfl) ?_
 refine Za rfl rfl rfl (Zi Yp rfl (Zhe _) hS Y2 trivial Zbt) ?_
 obtain ⟨r30, hm31, H⟩ := bind_some H
 refine Zn rfl rfl rfl rfl (by kernel_rfl) rfl (Zaw x0.tuple A0_ c0_ _ (Zhh s0_.k (hS.rd0 s0_.rd) (hS.blk0 s0_.blk)) hm31) ?_
 rintro e w ⟨rfl, hN⟩; refine ⟨_, rfl, ?_⟩; obtain ⟨hB, hS⟩ := hS.jn hN
 refine Zb 1 rfl ?_
 refine Zg ?_
 refine Zc hK29 ?_
 refine Zd (fun K hK32 => ?_)
 refine Zd (fun K hK33 => ?_)
 refine Zf ?_
 refine Zb 1 rfl ?_
 refine Zg ?_
 refine Zc hK33 ?_
 refine Yc ?_
 refine V7 (X := Nat × Bool × Int) (fun x => (1, .pointer (some ⟨b2, 0, none⟩)) :: (2, .bool x.2.1) :: (5, .int .i64 r30) :: (6, .int .i64 x.2.2) :: []) (fun x w => St0 All w0 w (.box b19 [.int .i64 r17.1.index, .int .i64 r17.1.term, .int .i64 r17.1.sum, .int .i64 r17.1.level, .bool r17.1.final] 23 :: .box b2 [.int .i64 x0.id, .int .i64 x0.n, .int .u8 x0.role, .int .i64 x0.binary, .int .i64 x0.tuple.snap.index, .int .i64 x0.tuple.snap.term, .int .i64 x0.tuple.snap.sum, .int .i64 x0.tuple.snap.level, .bool x0.tuple.snap.final, .slice A0_ x0.tuple.log.length c0_, .int .i64 x0.tuple.term, .int .i64 x0.tuple.vote, .int .i64 x0.commit, .int .i64 x0.applied.index, .int .i64 x0.applied.term, .int .i64 x0.applied.sum, .int .i64 x0.applied.level, .bool x0.applied.final, .slice A1_ x0.votes.length c1_, .slice A2_ x0.next.length c2_, .slice A3_ x0.mtch.length c3_, .slice A4_ x0.caps.length c4_] 30 :: []) ∧ J3 x0 r30 x.1 x.2.1 x.2.2 = some r) (fun x => x.1) (Xw, false, 0) (by repeat (first | exact Sub.nil | refine Sub.cons rfl ?_)) ⟨hS, H⟩ ?_
 rintro ⟨n, v34, v35⟩ w ⟨hS, H⟩
 dsimp only at hS H ⊢
 obtain _ | n := n
 ·have H0 : none = some r := H
  cases H0
 rw [J3] at H
 refine Zd (fun K hK36 => ?_)
 refine Zd (fun K hK37 => ?_)
 refine Zf ?_
 refine Zb 1 rfl ?_
 refine Za rfl rfl rfl (Ze Vf rfl) ?_
 refine Za rfl rfl rfl (Zh Z3 rfl (Zhe _) hS Y2 trivial Xu) ?_
 refine Za rfl rfl rfl (Xk rfl rfl) ?_
 refine Zg ?_
 refine Zc hK37 ?_
 refine Z1 rfl (fun hb => ?_) (fun hb => ?_)
 rotate_left
 ·replace H := Zp H hb
  refine X0 ?_
  refine Z9 ?_
  refine Z9 ?_
  refine Yy ?_
  refine Zc hK32 ?_
  refine Zd (fun K hK64 => ?_)
  refine Zd (fun K hK65 => ?_)
  refine Zf ?_
  refine Za rfl rfl rfl (Ze Vv rfl) ?_
  refine Za rfl rfl rfl (Zh Zas rfl (Zhe _) hS Y2 trivial Jt) ?_
  refine Za rfl rfl rfl (Xm rfl rfl) ?_
  refine Zb 1 rfl ?_
  refine Zq 157 rfl (fun hb => ?_) (fun hb => ?_)
  rotate_left
  ·replace H := Zp H hb
   refine Zb 13 rfl ?_
   refine Zg ?_
   refine Zc hK65 ?_
   refine Yg rfl rfl ?_
   refine Zs ?_
   refine Zc hK64 ?_
   refine Zd (fun K hK72 => ?_)
   refine Yn 11 [] (fun _ _ => True) ⟨by kernel_rfl, by kernel_rfl⟩ hS (fun w hS hB => ?_)
   refine Zr [true, true, true, true, true, true, true, true, true, true, true] (by decide +kernel) PFC.h ?_
   refine LtK.put rfl rfl rfl (Ze V8 rfl) ?_
   refine LtK.put rfl rfl rfl (Zh Vy rfl (Zhf _) hS Y2 trivial Zc7) ?_
   refine LtK.put rfl rfl rfl (Ze Vo rfl) ?_
   refine LtK.put rfl rfl rfl (Zh Z3 rfl (Zhf _) hS Y2 trivial Yx) ?_
   refine LtK.put rfl rfl rfl (Zcn rfl rfl) ?_
   obtain ⟨e73, hi75, H⟩ := bind_some H
   obtain ⟨j74, hi75a, hi75b, hi75c⟩ := Y0 hi75
   refine LtK.put rfl rfl rfl (Xh Vh rfl rfl hi75a hi75c (Rd.el (hS.rd0 s4_.rd) Y6 hi75b)) ?_
   refine LtK.put rfl rfl rfl (Zap Z3 rfl (Zhf _) (Rd.el (hS.rd0 s4_.rd) Y6 hi75b) rfl) ?_
   refine LtK.put rfl rfl rfl (Ze Zdy rfl) ?_
   refine LtK.put rfl rfl rfl (Zh Z3 rfl (Zhf _) hS Y2 trivial Jb) ?_
   refine LtK.put rfl rfl rfl (Yr rfl rfl) ?_
   refine LtK.put rfl rfl rfl (Z2 rfl) ?_
   refine LtK.nil ?_
   refine Ye (by kernel_rfl) ?_
   refine Zc hK72 ?_
   refine Zk ?_
   refine Zm rfl (RV.tmp rfl RV.nil) rfl ?_
   obtain rfl := QJ H
   replace hS := hS.cut 0
   exact ⟨rfl, hS⟩
  replace H := Zo H hb
  refine Za rfl rfl rfl (Ze Yq rfl) ?_
  refine Za rfl rfl rfl (Ze Xl rfl) ?_
  refine Za rfl rfl rfl (Zh Z3 rfl (Zhe _) hS Y2 trivial Vz) ?_
  refine Za rfl rfl rfl (Xk rfl rfl) ?_
  refine Zb 1 rfl ?_
  refine Zq 162 rfl (fun hb => ?_) (fun hb => ?_)
  ·replace H := Zo H hb
   refine Zb 8 rfl ?_
   refine Zg ?_
   refine Zc hK65 ?_
   refine Zu rfl rfl ?_
   refine Zd (fun K hK66 => ?_)
   refine Zf ?_
   refine Zb 1 rfl ?_
   refine Zg ?_
   refine Zc hK66 ?_
   refine Zk ?_
   refine Zj ?_
   refine Zm rfl (RV.tmp rfl RV.nil) rfl ?_
   obtain rfl := QJ H
   replace hS := hS.cut 0
   exact ⟨rfl, hS⟩
  replace H := Zp H hb
  refine Za rfl rfl rfl (Ze Yq rfl) ?_
  refine Za rfl rfl rfl (Ze Vp rfl) ?_
  refine Za rfl rfl rfl (Zh Z3 rfl (Zhe _) hS Y2 trivial sg11_1) ?_
  refine Za rfl rfl rfl (Ze Vo rfl) ?_
  refine Za rfl rfl rfl (Zh Z3 rfl (Zhe _) hS Y2 trivial Yx) ?_
  refine Za rfl rfl rfl (Xm rfl rfl) ?_
  refine Zb 2 rfl ?_
  refine Zg ?_
  refine Zc hK65 ?_
  refine Z1 rfl (fun hb => ?_) (fun hb => ?_)
  ·replace H := Zo H hb
   refine Zd (fun K hK67 => ?_)
   refine Zf ?_
   refine Zb 1 rfl ?_
   refine Zg ?_
   refine Zc hK67 ?_
   refine Zk ?_
   refine Zj ?_
   refine Zm rfl (RV.tmp rfl RV.nil) rfl ?_
   obtain rfl := QJ H
   replace hS := hS.cut 0
   exact ⟨rfl, hS⟩
  replace H := Zp H hb
  refine Zs ?_
  refine Zc hK64 ?_
  refine Zd (fun K hK68 => ?_)
  refine Yn 11 [] (fun _ _ => True) ⟨by kernel_rfl, by kernel_rfl⟩ hS (fun w hS hB => ?_)
  refine Zr [true, true, true, true, true, true, true, true, true, true, true] (by decide +kernel) PFC.h ?_
  refine LtK.put rfl rfl rfl (Ze V8 rfl) ?_
  refine LtK.put rfl rfl rfl (Zh Vy rfl (Zhf _) hS Y2 trivial Zc7) ?_
  refine LtK.put rfl rfl rfl (Ze Vo rfl) ?_
  refine LtK.put rfl rfl rfl (Zh Z3 rfl (Zhf _) hS Y2 trivial Yx) ?_
  refine LtK.put rfl rfl rfl (Zcn rfl rfl) ?_
  obtain ⟨e69, hi71, H⟩ := bind_some H
  obtain ⟨j70, hi71a, hi71b, hi71c⟩ := Y0 hi71
  refine LtK.put rfl rfl rfl (Xh Vh rfl rfl hi71a hi71c (Rd.el (hS.rd0 s4_.rd) Y6 hi71b)) ?_
  refine LtK.put rfl rfl rfl (Zap Z3 rfl (Zhf _) (Rd.el (hS.rd0 s4_.rd) Y6 hi71b) rfl) ?_
  refine LtK.put rfl rfl rfl (Ze Zdy rfl) ?_
  refine LtK.put rfl rfl rfl (Zh Z3 rfl (Zhf _) hS Y2 trivial Jb) ?_
  refine LtK.put rfl rfl rfl (Yr rfl rfl) ?_
  refine LtK.put rfl rfl rfl (Z2 rfl) ?_
  refine LtK.nil ?_
  refine Ye (by kernel_rfl) ?_
  refine Zc hK68 ?_
  refine Zk ?_
  refine Zm rfl (RV.tmp rfl RV.nil) rfl ?_
  obtain rfl := QJ H
  replace hS := hS.cut 0
  exact ⟨rfl, hS⟩
 replace H := Zo H hb
 refine Zs ?_
 refine Zc hK36 ?_
 refine Zd (fun K hK38 => ?_)
 refine Yc ?_
 refine Zd (fun K hK39 => ?_)
 refine Zf ?_
 refine Za rfl rfl rfl (Ze Zce rfl) ?_
 refine Za rfl rfl rfl (Zh Vy rfl (Zhe _) hS Y2 trivial Zfm) ?_
 refine Zb 1 rfl ?_
 obtain ⟨e40, hi42, H⟩ := bind_some H
 obtain ⟨j41, hi42a, hi42b, hi42c⟩ := Y0 hi42
 refine Za rfl rfl rfl (Xh Vh rfl rfl hi42a hi42c (Rd.el (hS.rd0 s2_.rd) Y6 hi42b)) ?_
 refine Za rfl rfl rfl (Zap Z3 rfl (Zhe _) (Rd.el (hS.rd0 s2_.rd) Y6 hi42b) rfl) ?_
 refine Za rfl rfl rfl (Xk rfl rfl) ?_
 refine Zb 1 rfl ?_
 refine Zq 111 rfl (fun hb => ?_) (fun hb => ?_)
 ·replace H := Zo H hb
  refine Zb 42 rfl ?_
  refine Zg ?_
  refine Zc hK39 ?_
  refine Zu rfl rfl ?_
  refine Zd (fun K hK43 => ?_)
  refine Zf ?_
  refine Zb 1 rfl ?_
  refine Zg ?_
  refine Zc hK43 ?_
  refine Zk ?_
  refine Zz ?_
  refine Zj ?_
  refine Zj ?_
  refine Zz ?_
  refine Zj ?_
  refine Zm rfl (RV.tmp rfl RV.nil) rfl ?_
  obtain rfl := QJ H
  replace hS := hS.cut 0
  exact ⟨rfl, hS⟩
 replace H := Zp H hb
 refine Za rfl rfl rfl (Ze Zce rfl) ?_
 refine Za rfl rfl rfl (Zh Vy rfl (Zhe _) hS Y2 trivial Zfm) ?_
 refine Zb 1 rfl ?_
 obtain ⟨e44, hi46, H⟩ := bind_some H
 obtain ⟨j45, hi46a, hi46b, hi46c⟩ := Y0 hi46
 refine Za rfl rfl rfl (Xh Vh rfl rfl hi46a hi46c (Rd.el (hS.rd0 s2_.rd) Y6 hi46b)) ?_
 refine Za rfl rfl rfl (Zap Z3 rfl (Zhe _) (Rd.el (hS.rd0 s2_.rd) Y6 hi46b) rfl) ?_
 refine Zb 1 rfl ?_
 refine Za rfl rfl rfl (X8 rfl rfl) ?_
 refine Za rfl rfl rfl (Y7 rfl rfl) ?_
 refine Zb 2 rfl ?_
 refine Zq 121 rfl (fun hb => ?_) (fun hb => ?_)
 ·replace H := Zo H hb
  refine Zb 32 rfl ?_
  refine Zg ?_
  refine Zc hK39 ?_
  refine Zu rfl rfl ?_
  refine Zd (fun K hK47 => ?_)
  refine Zf ?_
  refine Zb 1 rfl ?_
  refine Zg ?_
  refine Zc hK47 ?_
  refine Zk ?_
  refine Zz ?_
  refine Zj ?_
  refine Zj ?_
  refine Zz ?_
  refine Zj ?_
  refine Zm rfl (RV.tmp rfl RV.nil) rfl ?_
  obtain rfl := QJ H
  replace hS := hS.cut 0
  exact ⟨rfl, hS⟩
 replace H := Zp H hb
 refine Za rfl rfl rfl (Ze Zbf rfl) ?_
 refine Za rfl rfl rfl (Zh Vy rfl (Zhe _) hS Y2 trivial Zec) ?_
 refine Zb 1 rfl ?_
 obtain ⟨e48, hi50, H⟩ := bind_some H
 obtain ⟨j49, hi50a, hi50b, hi50c⟩ := Y0 hi50
 refine Za rfl rfl rfl (Xh Vh rfl rfl hi50a hi50c (Rd.el (hS.rd0 s3_.rd) Y6 hi50b)) ?_
 refine Za rfl rfl rfl (Zap Z3 rfl (Zhe _) (Rd.el (hS.rd0 s3_.rd) Y6 hi50b) rfl) ?_
 refine Za rfl rfl rfl (Xk rfl rfl) ?_
 refine Zb 2 rfl ?_
 refine Zq 129 rfl (fun hb => ?_) (fun hb => ?_)
 ·replace H := Zo H hb
  refine Zb 24 rfl ?_
  refine Zg ?_
  refine Zc hK39 ?_
  refine Zu rfl rfl ?_
  refine Zd (fun K hK51 => ?_)
  refine Zf ?_
  refine Zb 1 rfl ?_
  refine Zg ?_
  refine Zc hK51 ?_
  refine Zk ?_
  refine Zz ?_
  refine Zj ?_
  refine Zj ?_
  refine Zz ?_
  refine Zj ?_
  refine Zm rfl (RV.tmp rfl RV.nil) rfl ?_
  obtain rfl := QJ H
  replace hS := hS.cut 0
  exact ⟨rfl, hS⟩
 replace H := Zp H hb
 refine Za rfl rfl rfl (Ze Zbf rfl) ?_
 refine Za rfl rfl rfl (Zh Vy rfl (Zhe _) hS Y2 trivial Zec) ?_
 refine Zb 1 rfl ?_
 obtain ⟨e52, hi54, H⟩ := bind_some H
 obtain ⟨j53, hi54a, hi54b, hi54c⟩ := Y0 hi54
 refine Za rfl rfl rfl (Xh Vh rfl rfl hi54a hi54c (Rd.el (hS.rd0 s3_.rd) Y6 hi54b)) ?_
 refine Za rfl rfl rfl (Zap Z3 rfl (Zhe _) (Rd.el (hS.rd0 s3_.rd) Y6 hi54b) rfl) ?_
 refine Zb 1 rfl ?_
 refine Za rfl rfl rfl (Y7 rfl rfl) ?_
 refine Zb 2 rfl ?_
 refine Zq 138 rfl (fun hb => ?_) (fun hb => ?_)
 ·replace H := Zo H hb
  refine Zb 15 rfl ?_
  refine Zg ?_
  refine Zc hK39 ?_
  refine Zu rfl rfl ?_
  refine Zd (fun K hK55 => ?_)
  refine Zf ?_
  refine Zb 1 rfl ?_
  refine Zg ?_
  refine Zc hK55 ?_
  refine Zk ?_
  refine Zz ?_
  refine Zj ?_
  refine Zj ?_
  refine Zz ?_
  refine Zj ?_
  refine Zm rfl (RV.tmp rfl RV.nil) rfl ?_
  obtain rfl := QJ H
  replace hS := hS.cut 0
  exact ⟨rfl, hS⟩
 replace H := Zp H hb
 refine Za rfl rfl rfl (Ze V8 rfl) ?_
 refine Za rfl rfl rfl (Zh Vy rfl (Zhe _) hS Y2 trivial Zc7) ?_
 refine Zb 1 rfl ?_
 obtain ⟨e56, hi58, H⟩ := bind_some H
 obtain ⟨j57, hi58a, hi58b, hi58c⟩ := Y0 hi58
 refine Za rfl rfl rfl (Xh Vh rfl rfl hi58a hi58c (Rd.el (hS.rd0 s4_.rd) Y6 hi58b)) ?_
 refine Za rfl rfl rfl (Zap Z3 rfl (Zhe _) (Rd.el (hS.rd0 s4_.rd) Y6 hi58b) rfl) ?_
 refine Za rfl rfl rfl (Xk rfl rfl) ?_
 refine Zb 2 rfl ?_
 refine Zq 146 rfl (fun hb => ?_) (fun hb => ?_)
 ·replace H := Zo H hb
  refine Zb 7 rfl ?_
  refine Zg ?_
  refine Zc hK39 ?_
  refine Zu rfl rfl ?_
  refine Zd (fun K hK59 => ?_)
  refine Zf ?_
  refine Zb 1 rfl ?_
  refine Zg ?_
  refine Zc hK59 ?_
  refine Zk ?_
  refine Zz ?_
  refine Zj ?_
  refine Zj ?_
  refine Zz ?_
  refine Zj ?_
  refine Zm rfl (RV.tmp rfl RV.nil) rfl ?_
  obtain rfl := QJ H
  replace hS := hS.cut 0
  exact ⟨rfl, hS⟩
 replace H := Zp H hb
 refine Za rfl rfl rfl (Ze V8 rfl) ?_
 refine Za rfl rfl rfl (Zh Vy rfl (Zhe _) hS Y2 trivial Zc7) ?_
 refine Zb 1 rfl ?_
 obtain ⟨e60, hi62, H⟩ := bind_some H
 obtain ⟨j61, hi62a, hi62b, hi62c⟩ := Y0 hi62
 refine Za rfl rfl rfl (Xh Vh rfl rfl hi62a hi62c (Rd.el (hS.rd0 s4_.rd) Y6 hi62b)) ?_
 refine Za rfl rfl rfl (Zap Z3 rfl (Zhe _) (Rd.el (hS.rd0 s4_.rd) Y6 hi62b) rfl) ?_
 refine Za rfl rfl rfl (Y7 rfl rfl) ?_
 refine Zb 1 rfl ?_
 refine Zg ?_
 refine Zc hK39 ?_
 refine Z1 rfl (fun hb => ?_) (fun hb => ?_)
 rotate_left
 ·replace H := Zp H hb
  refine Zs ?_
  refine Z4 ?_
  refine Zc hK38 ?_
  refine Zf ?_
  refine Zb 1 rfl ?_
  refine Za rfl rfl rfl (X8 rfl rfl) ?_
  refine Zb 1 rfl ?_
  refine Zg ?_
  exact X9 (n, v34, (IntKind.wrap .i64 (v35 + 1))) (by repeat (first | exact Sub.nil | refine Sub.cons rfl ?_)) ⟨hS, H⟩ (Nat.lt_succ_self _)
 replace H := Zo H hb
 refine Zd (fun K hK63 => ?_)
 refine Zf ?_
 refine Zb 1 rfl ?_
 refine Zg ?_
 refine Zc hK63 ?_
 refine Zk ?_
 refine Zz ?_
 refine Zj ?_
 refine Zj ?_
 refine Zz ?_
 refine Zj ?_
 refine Zm rfl (RV.tmp rfl RV.nil) rfl ?_
 obtain rfl := QJ H
 replace hS := hS.cut 0
 exact ⟨rfl, hS⟩
theorem Zfv (x0 : Tu) (x1 : Int) (x2 : Int) (A0_ : OA) (c0_ : Nat) (w0 : World) (s0_ : SlI w0 V3 A0_ c0_ x0.log) {r : Tu × Int} (H : J6 x0 x1 x2 = some r) : Calls Tryz.prog 54 #[.agg #[.int .i64 x0.snap.index, .int .i64 x0.snap.term, .int .i64 x0.snap.sum, .int .i64 x0.snap.level, .bool x0.snap.final, .slice A0_ x0.log.length c0_, .int .i64 x0.term, .int .i64 x0.vote], .int .i64 x1, .int .i64 x2] w0 fun e w' => ∃ (A0 : OA) (c0 : Nat), e = .returned (.tuple #[.agg #[.int .i64 r.1.snap.index, .int .i64 r.1.snap.term, .int .i64 r.1.snap.sum, .int .i64 r.1.snap.level, .bool r.1.snap.final, .slice A0 r.1.log.length c0, .int .i64 r.1.term, .int .i64 r.1.vote], .int .i64 r.2]) ∧ (r.1.log.length ≤ c0 ∧ c0 ≤ maxLen) ∧ St0 All w0 w' [.row (.slice A0 r.1.log.length c0) 53 3 r.1.log.length (Yf V3 r.1.log)] := by
 unfold J6 at H
 refine Zaj Tryz.func54 rfl Tryz.ntmps54 rfl ?_
 have hS := St0.start All w0
 refine Zd (fun K hK1 => ?_)
 refine Zf ?_
 refine Z7 rfl rfl rfl CellsOf.agg hS (fun b2 w hS hB => ?_)
 refine Yd rfl rfl Zeq hS (fun b4 w hS hB => ?_)
 refine Zb 1 rfl ?_
 refine Zg ?_
 refine Zc hK1 ?_
 refine Zd (fun K hK6 => ?_)
 refine Zf ?_
 refine Za rfl rfl rfl (Zi Yp rfl (Zhe _) hS Y2 trivial Xe) ?_
 obtain ⟨r7, hm8, H⟩ := bind_some H
 refine Zn rfl rfl rfl rfl (by kernel_rfl) rfl (Vs x0 A0_ c0_ _ (Zhh s0_.k (hS.rd0 s0_.rd) (hS.blk0 s0_.blk)) hm8) ?_
 rintro e w ⟨A9, c10, rfl, k11, hN⟩; refine ⟨_, rfl, ?_⟩; obtain ⟨hB, hS⟩ := hS.jn hN
 refine Yd rfl rfl Zeq hS (fun b13 w hS hB => ?_)
 refine Zl rfl rfl rfl CellsOf.agg hS ps0 Zag (by kernel_rfl) rfl (fun w hS hB => ?_)
 refine Zg ?_
 refine Zc hK6 ?_
 refine Zd (fun K hK15 => ?_)
 refine Zf ?_
 refine Zb 2 rfl ?_
 refine Za rfl rfl rfl (Ze Xl rfl) ?_
 refine Zl rfl rfl rfl CellsOf.int hS ps0 st6_1 (by kernel_rfl) rfl (fun w hS hB => ?_)
 refine Za rfl rfl rfl (Ze Vp rfl) ?_
 refine Zl rfl rfl rfl CellsOf.int hS ps0 st7_1 (by kernel_rfl) rfl (fun w hS hB => ?_)
 refine Zg ?_
 refine Zc hK15 ?_
 refine Zd (fun K hK16 => ?_)
 refine Zf ?_
 refine Za rfl rfl rfl (Zi Yp rfl (Zhe _) hS hs3 trivial Xe) ?_
 refine Za rfl rfl rfl (Zi Yp rfl (Zhe _) hS hs0 trivial Xe) ?_
 refine Zb 1 rfl ?_
 refine Za rfl rfl rfl (Ze Xl rfl) ?_
 refine Za rfl rfl rfl (Zh Z3 rfl (Zhe _) hS hs3 trivial Ze9) ?_
 refine Za rfl rfl rfl (Y7 rfl rfl) ?_
 refine Zb 1 rfl ?_
 refine Zq 21 rfl (fun hb => ?_) (fun hb => ?_)
 ·replace H := Zo H hb
  refine Zb 16 rfl ?_
  refine Zcm rfl rfl rfl rfl (by kernel_rfl) rfl ?_
  show Calls _ _ #[_, _, _] _ _
  refine Zaj Tryz.func103 rfl Tryz.ntmps103 rfl ?_
  refine Zd (fun K hK17 => ?_)
  refine Zf ?_
  refine Z7 rfl rfl rfl CellsOf.agg hS (fun b18 w hS hB => ?_)
  refine Z7 rfl rfl rfl CellsOf.agg hS (fun b20 w hS hB => ?_)
  refine Yd rfl rfl Zeq hS (fun b22 w hS hB => ?_)
  refine Zb 1 rfl ?_
  refine Zg ?_
  refine Zc hK17 ?_
  refine Zd (fun K hK24 => ?_)
  refine Zd (fun K hK25 => ?_)
  refine Zf ?_
  refine Zb 1 rfl ?_
  refine Za rfl rfl rfl (Yo rfl) ?_
  refine Zb 1 rfl ?_
  refine Za rfl rfl rfl (Zi Yp rfl (Zhe _) hS Xi trivial Xe) ?_
  obtain ⟨r26, hm27, H⟩ := bind_some H
  refine Zn rfl rfl rfl rfl (by kernel_rfl) rfl (Zae x0 A0_ c0_ _ (Zhh s0_.k (hS.rd0 s0_.rd) (hS.blk0 s0_.blk)) hm27) ?_
  rintro e w ⟨rfl, hN⟩; refine ⟨_, rfl, ?_⟩; obtain ⟨hB, hS⟩ := hS.jn hN
  refine Za rfl rfl rfl (Yo rfl) ?_
  refine Zb 2 rfl ?_
  refine Zq 15 rfl (fun hb => ?_) (fun hb => ?_)
  ·replace H := Zo H hb
   refine Zb 4 rfl ?_
   refine Zg ?_
   refine Zc hK25 ?_
   refine Zu rfl rfl ?_
   refine Zd (fun K hK28 => ?_)
   refine Zf ?_
   refine Za rfl rfl rfl (Zi Yp rfl (Zhe _) hS Xi trivial Xe) ?_
   obtain ⟨r29, hm30, H⟩ := bind_some H
   refine Zn rfl rfl rfl rfl (by kernel_rfl) rfl (Vs x0 A0_ c0_ _ (Zhh s0_.k (hS.rd0 s0_.rd) (hS.blk0 s0_.blk)) hm30) ?_
   rintro e w ⟨A31, c32, rfl, k33, hN⟩; refine ⟨_, rfl, ?_⟩; obtain ⟨hB, hS⟩ := hS.jn hN
   refine Zl rfl rfl rfl CellsOf.agg hS ps1 Zag (by kernel_rfl) rfl (fun w hS hB => ?_)
   refine Zb 1 rfl ?_
   refine Zg ?_
   refine Zc hK28 ?_
   refine Zk ?_
   refine Zj ?_
   refine Zm rfl (RV.cell rfl (Zt Yp hS Y2 Xe) (RV.tmp rfl RV.nil)) rfl ?_
   refine ⟨_, rfl, ?_⟩
   refine Za rfl rfl rfl (Z0 rfl rfl) ?_
   refine Za rfl rfl rfl (Z0 rfl rfl) ?_
   refine Zl rfl rfl rfl CellsOf.agg hS ps6 Zag (by kernel_rfl) rfl (fun w hS hB => ?_)
   refine Zb 1 rfl ?_
   refine Zg ?_
   refine Zc hK16 ?_
   refine Zk ?_
   refine Zm rfl (RV.cell rfl (Zt Yp hS Jy Xe) (RV.tmp rfl RV.nil)) rfl ?_
   obtain rfl := QJ H
   have hS := hS.front 0 rfl
   replace hS := hS.cut 1
   exact ⟨A31, c32, rfl, k33, hS⟩
  replace H := Zp H hb
  refine Za rfl rfl rfl (Zi Yp rfl (Zhe _) hS Y2 trivial Xe) ?_
  obtain ⟨r35, hm36, H⟩ := bind_some H
  refine Zn rfl rfl rfl rfl (by kernel_rfl) rfl (Zae (⟨r7.snap, r7.log, x1, x2⟩ : Tu) A9 c10 _ (Zhh k11 (hS.row_rd Jq) (hS.row_blk Jq)) hm36) ?_
  rintro e w ⟨rfl, hN⟩; refine ⟨_, rfl, ?_⟩; obtain ⟨hB, hS⟩ := hS.jn hN
  refine Za rfl rfl rfl (Yo rfl) ?_
  refine Zb 1 rfl ?_
  refine Zg ?_
  refine Zc hK25 ?_
  refine Z1 rfl (fun hb => ?_) (fun hb => ?_)
  rotate_left
  ·replace H := Zp H hb
   refine Zs ?_
   refine Zc hK24 ?_
   refine Zd (fun K hK44 => ?_)
   refine Zf ?_
   refine Za rfl rfl rfl (Zi Yp rfl (Zhe _) hS Y2 trivial Xe) ?_
   refine Zl rfl rfl rfl CellsOf.agg hS ps0 Zag (by kernel_rfl) rfl (fun w hS hB => ?_)
   refine Zb 1 rfl ?_
   refine Zg ?_
   refine Zc hK44 ?_
   refine Zk ?_
   refine Zm rfl (RV.cell rfl (Zt Yp hS hs0 Xe) (RV.tmp rfl RV.nil)) rfl ?_
   refine ⟨_, rfl, ?_⟩
   refine Za rfl rfl rfl (Z0 rfl rfl) ?_
   refine Za rfl rfl rfl (Z0 rfl rfl) ?_
   refine Zl rfl rfl rfl CellsOf.agg hS ps5 Zag (by kernel_rfl) rfl (fun w hS hB => ?_)
   refine Zb 1 rfl ?_
   refine Zg ?_
   refine Zc hK16 ?_
   refine Zk ?_
   refine Zm rfl (RV.cell rfl (Zt Yp hS hs5 Xe) (RV.tmp rfl RV.nil)) rfl ?_
   obtain rfl := QJ H
   have hS := hS.front 4 rfl
   replace hS := hS.cut 1
   exact ⟨A9, c10, rfl, k11, hS⟩
  replace H := Zo H hb
  refine Zd (fun K hK37 => ?_)
  refine Zf ?_
  refine Za rfl rfl rfl (Zi Yp rfl (Zhe _) hS Xi trivial Xe) ?_
  obtain ⟨r38, hm39, H⟩ := bind_some H
  refine Zn rfl rfl rfl rfl (by kernel_rfl) rfl (Vs x0 A0_ c0_ _ (Zhh s0_.k (hS.rd0 s0_.rd) (hS.blk0 s0_.blk)) hm39) ?_
  rintro e w ⟨A40, c41, rfl, k42, hN⟩; refine ⟨_, rfl, ?_⟩; obtain ⟨hB, hS⟩ := hS.jn hN
  refine Zl rfl rfl rfl CellsOf.agg hS ps1 Zag (by kernel_rfl) rfl (fun w hS hB => ?_)
  refine Zb 1 rfl ?_
  refine Zg ?_
  refine Zc hK37 ?_
  refine Zk ?_
  refine Zj ?_
  refine Zm rfl (RV.cell rfl (Zt Yp hS Y2 Xe) (RV.tmp rfl RV.nil)) rfl ?_
  refine ⟨_, rfl, ?_⟩
  refine Za rfl rfl rfl (Z0 rfl rfl) ?_
  refine Za rfl rfl rfl (Z0 rfl rfl) ?_
  refine Zl rfl rfl rfl CellsOf.agg hS ps6 Zag (by kernel_rfl) rfl (fun w hS hB => ?_)
  refine Zb 1 rfl ?_
  refine Zg ?_
  refine Zc hK16 ?_
  refine Zk ?_
  refine Zm rfl (RV.cell rfl (Zt Yp hS Jy Xe) (RV.tmp rfl RV.nil)) rfl ?_
  obtain rfl := QJ H
  have hS := hS.front 0 rfl
  replace hS := hS.cut 1
  exact ⟨A40, c41, rfl, k42, hS⟩
 replace H := Zp H hb
 refine Zb 1 rfl ?_
 refine Za rfl rfl rfl (Ze Xl rfl) ?_
 refine Za rfl rfl rfl (Zh Z3 rfl (Zhe _) hS hs3 trivial Ze9) ?_
 refine Za rfl rfl rfl (Yr rfl rfl) ?_
 refine Zb 1 rfl ?_
 refine Zq 26 rfl (fun hb => ?_) (fun hb => ?_)
 rotate_left
 ·replace H := Zp H hb
  refine Zb 11 rfl ?_
  refine Zcm rfl rfl rfl rfl (by kernel_rfl) rfl ?_
  show Calls _ _ #[_, _, _] _ _
  refine Zaj Tryz.func103 rfl Tryz.ntmps103 rfl ?_
  refine Zd (fun K hK108 => ?_)
  refine Zf ?_
  refine Z7 rfl rfl rfl CellsOf.agg hS (fun b109 w hS hB => ?_)
  refine Z7 rfl rfl rfl CellsOf.agg hS (fun b111 w hS hB => ?_)
  refine Yd rfl rfl Zeq hS (fun b113 w hS hB => ?_)
  refine Zb 1 rfl ?_
  refine Zg ?_
  refine Zc hK108 ?_
  refine Zd (fun K hK115 => ?_)
  refine Zd (fun K hK116 => ?_)
  refine Zf ?_
  refine Zb 1 rfl ?_
  refine Za rfl rfl rfl (Yo rfl) ?_
  refine Zb 10 rfl ?_
  refine Zg ?_
  refine Zc hK116 ?_
  refine Zu rfl rfl ?_
  refine Zd (fun K hK117 => ?_)
  refine Zf ?_
  refine Za rfl rfl rfl (Zi Yp rfl (Zhe _) hS Xi trivial Xe) ?_
  obtain ⟨r118, hm119, H⟩ := bind_some H
  refine Zn rfl rfl rfl rfl (by kernel_rfl) rfl (Vs x0 A0_ c0_ _ (Zhh s0_.k (hS.rd0 s0_.rd) (hS.blk0 s0_.blk)) hm119) ?_
  rintro e w ⟨A120, c121, rfl, k122, hN⟩; refine ⟨_, rfl, ?_⟩; obtain ⟨hB, hS⟩ := hS.jn hN
  refine Zl rfl rfl rfl CellsOf.agg hS ps1 Zag (by kernel_rfl) rfl (fun w hS hB => ?_)
  refine Zb 1 rfl ?_
  refine Zg ?_
  refine Zc hK117 ?_
  refine Zk ?_
  refine Zj ?_
  refine Zm rfl (RV.cell rfl (Zt Yp hS Y2 Xe) (RV.tmp rfl RV.nil)) rfl ?_
  refine ⟨_, rfl, ?_⟩
  refine Za rfl rfl rfl (Z0 rfl rfl) ?_
  refine Za rfl rfl rfl (Z0 rfl rfl) ?_
  refine Zl rfl rfl rfl CellsOf.agg hS ps6 Zag (by kernel_rfl) rfl (fun w hS hB => ?_)
  refine Zb 1 rfl ?_
  refine Zg ?_
  refine Zc hK16 ?_
  refine Zk ?_
  refine Zm rfl (RV.cell rfl (Zt Yp hS Jy Xe) (RV.tmp rfl RV.nil)) rfl ?_
  obtain rfl := QJ H
  have hS := hS.front 0 rfl
  replace hS := hS.cut 1
  exact ⟨A120, c121, rfl, k122, hS⟩
 replace H := Zo H hb
 refine Za rfl rfl rfl (Ze Vp rfl) ?_
 refine Za rfl rfl rfl (Zh Z3 rfl (Zhe _) hS hs3 trivial sg7_1) ?_
 refine Za rfl rfl rfl (Yr rfl rfl) ?_
 refine Zb 1 rfl ?_
 refine Zq 30 rfl (fun hb => ?_) (fun hb => ?_)
 ·replace H := Zo H hb
  refine Zb 7 rfl ?_
  refine Zcm rfl rfl rfl rfl (by kernel_rfl) rfl ?_
  show Calls _ _ #[_, _, _] _ _
  refine Zaj Tryz.func103 rfl Tryz.ntmps103 rfl ?_
  refine Zd (fun K hK45 => ?_)
  refine Zf ?_
  refine Z7 rfl rfl rfl CellsOf.agg hS (fun b46 w hS hB => ?_)
  refine Z7 rfl rfl rfl CellsOf.agg hS (fun b48 w hS hB => ?_)
  refine Yd rfl rfl Zeq hS (fun b50 w hS hB => ?_)
  refine Zb 1 rfl ?_
  refine Zg ?_
  refine Zc hK45 ?_
  refine Zd (fun K hK52 => ?_)
  refine Zd (fun K hK53 => ?_)
  refine Zf ?_
  refine Zb 1 rfl ?_
  refine Za rfl rfl rfl (Yo rfl) ?_
  refine Zb 1 rfl ?_
  refine Za rfl rfl rfl (Zi Yp rfl (Zhe _) hS Xi trivial Xe) ?_
  obtain ⟨r54, hm55, H⟩ := bind_some H
  refine Zn rfl rfl rfl rfl (by kernel_rfl) rfl (Zae x0 A0_ c0_ _ (Zhh s0_.k (hS.rd0 s0_.rd) (hS.blk0 s0_.blk)) hm55) ?_
  rintro e w ⟨rfl, hN⟩; refine ⟨_, rfl, ?_⟩; obtain ⟨hB, hS⟩ := hS.jn hN
  refine Za rfl rfl rfl (Yo rfl) ?_
  refine Zb 2 rfl ?_
  refine Zq 15 rfl (fun hb => ?_) (fun hb => ?_)
  ·replace H := Zo H hb
   refine Zb 4 rfl ?_
   refine Zg ?_
   refine Zc hK53 ?_
   refine Zu rfl rfl ?_
   refine Zd (fun K hK56 => ?_)
   refine Zf ?_
   refine Za rfl rfl rfl (Zi Yp rfl (Zhe _) hS Xi trivial Xe) ?_
   obtain ⟨r57, hm58, H⟩ := bind_some H
   refine Zn rfl rfl rfl rfl (by kernel_rfl) rfl (Vs x0 A0_ c0_ _ (Zhh s0_.k (hS.rd0 s0_.rd) (hS.blk0 s0_.blk)) hm58) ?_
   rintro e w ⟨A59, c60, rfl, k61, hN⟩; refine ⟨_, rfl, ?_⟩; obtain ⟨hB, hS⟩ := hS.jn hN
   refine Zl rfl rfl rfl CellsOf.agg hS ps1 Zag (by kernel_rfl) rfl (fun w hS hB => ?_)
   refine Zb 1 rfl ?_
   refine Zg ?_
   refine Zc hK56 ?_
   refine Zk ?_
   refine Zj ?_
   refine Zm rfl (RV.cell rfl (Zt Yp hS Y2 Xe) (RV.tmp rfl RV.nil)) rfl ?_
   refine ⟨_, rfl, ?_⟩
   refine Za rfl rfl rfl (Z0 rfl rfl) ?_
   refine Za rfl rfl rfl (Z0 rfl rfl) ?_
   refine Zl rfl rfl rfl CellsOf.agg hS ps6 Zag (by kernel_rfl) rfl (fun w hS hB => ?_)
   refine Zb 1 rfl ?_
   refine Zg ?_
   refine Zc hK16 ?_
   refine Zk ?_
   refine Zm rfl (RV.cell rfl (Zt Yp hS Jy Xe) (RV.tmp rfl RV.nil)) rfl ?_
   obtain rfl := QJ H
   have hS := hS.front 0 rfl
   replace hS := hS.cut 1
   exact ⟨A59, c60, rfl, k61, hS⟩
  replace H := Zp H hb
  refine Za rfl rfl rfl (Zi Yp rfl (Zhe _) hS Y2 trivial Xe) ?_
  obtain ⟨r63, hm64, H⟩ := bind_some H
  refine Zn rfl rfl rfl rfl (by kernel_rfl) rfl (Zae (⟨r7.snap, r7.log, x1, x2⟩ : Tu) A9 c10 _ (Zhh k11 (hS.row_rd Jq) (hS.row_blk Jq)) hm64) ?_
  rintro e w ⟨rfl, hN⟩; refine ⟨_, rfl, ?_⟩; obtain ⟨hB, hS⟩ := hS.jn hN
  refine Za rfl rfl rfl (Yo rfl) ?_
  refine Zb 1 rfl ?_
  refine Zg ?_
  refine Zc hK53 ?_
  refine Z1 rfl (fun hb => ?_) (fun hb => ?_)
  rotate_left
  ·replace H := Zp H hb
   refine Zs ?_
   refine Zc hK52 ?_
   refine Zd (fun K hK72 => ?_)
   refine Zf ?_
   refine Za rfl rfl rfl (Zi Yp rfl (Zhe _) hS Y2 trivial Xe) ?_
   refine Zl rfl rfl rfl CellsOf.agg hS ps0 Zag (by kernel_rfl) rfl (fun w hS hB => ?_)
   refine Zb 1 rfl ?_
   refine Zg ?_
   refine Zc hK72 ?_
   refine Zk ?_
   refine Zm rfl (RV.cell rfl (Zt Yp hS hs0 Xe) (RV.tmp rfl RV.nil)) rfl ?_
   refine ⟨_, rfl, ?_⟩
   refine Za rfl rfl rfl (Z0 rfl rfl) ?_
   refine Za rfl rfl rfl (Z0 rfl rfl) ?_
   refine Zl rfl rfl rfl CellsOf.agg hS ps5 Zag (by kernel_rfl) rfl (fun w hS hB => ?_)
   refine Zb 1 rfl ?_
   refine Zg ?_
   refine Zc hK16 ?_
   refine Zk ?_
   refine Zm rfl (RV.cell rfl (Zt Yp hS hs5 Xe) (RV.tmp rfl RV.nil)) rfl ?_
   obtain rfl := QJ H
   have hS := hS.front 4 rfl
   replace hS := hS.cut 1
   exact ⟨A9, c10, rfl, k11, hS⟩
  replace H := Zo H hb
  refine Zd (fun K hK65 => ?_)
  refine Zf ?_
  refine Za rfl rfl rfl (Zi Yp rfl (Zhe _) hS Xi trivial Xe) ?_
  obtain ⟨r66, hm67, H⟩ := bind_some H
  refine Zn rfl rfl rfl rfl (by kernel_rfl) rfl (Vs x0 A0_ c0_ _ (Zhh s0_.k (hS.rd0 s0_.rd) (hS.blk0 s0_.blk)) hm67) ?_
  rintro e w ⟨A68, c69, rfl, k70, hN⟩; refine ⟨_, rfl, ?_⟩; obtain ⟨hB, hS⟩ := hS.jn hN
  refine Zl rfl rfl rfl CellsOf.agg hS ps1 Zag (by kernel_rfl) rfl (fun w hS hB => ?_)
  refine Zb 1 rfl ?_
  refine Zg ?_
  refine Zc hK65 ?_
  refine Zk ?_
  refine Zj ?_
  refine Zm rfl (RV.cell rfl (Zt Yp hS Y2 Xe) (RV.tmp rfl RV.nil)) rfl ?_
  refine ⟨_, rfl, ?_⟩
  refine Za rfl rfl rfl (Z0 rfl rfl) ?_
  refine Za rfl rfl rfl (Z0 rfl rfl) ?_
  refine Zl rfl rfl rfl CellsOf.agg hS ps6 Zag (by kernel_rfl) rfl (fun w hS hB => ?_)
  refine Zb 1 rfl ?_
  refine Zg ?_
  refine Zc hK16 ?_
  refine Zk ?_
  refine Zm rfl (RV.cell rfl (Zt Yp hS Jy Xe) (RV.tmp rfl RV.nil)) rfl ?_
  obtain rfl := QJ H
  have hS := hS.front 0 rfl
  replace hS := hS.cut 1
  exact ⟨A68, c69, rfl, k70, hS⟩
 replace H := Zp H hb
 refine Za rfl rfl rfl (Ze Vp rfl) ?_
 refine Za rfl rfl rfl (Zh Z3 rfl (Zhe _) hS hs3 trivial sg7_1) ?_
 refine Zb 1 rfl ?_
 refine Za rfl rfl rfl (Yr rfl rfl) ?_
 refine Zb 3 rfl ?_
 refine Zcm rfl rfl rfl rfl (by kernel_rfl) rfl ?_
 show Calls _ _ #[_, _, _] _ _
 refine Zaj Tryz.func103 rfl Tryz.ntmps103 rfl ?_
 refine Zd (fun K hK73 => ?_)
 refine Zf ?_
 refine Z7 rfl rfl rfl CellsOf.agg hS (fun b74 w hS hB => ?_)
 refine Z7 rfl rfl rfl CellsOf.agg hS (fun b76 w hS hB => ?_)
 refine Yd rfl rfl Zeq hS (fun b78 w hS hB => ?_)
 refine Zb 1 rfl ?_
 refine Zg ?_
 refine Zc hK73 ?_
 refine Zd (fun K hK80 => ?_)
 refine Zd (fun K hK81 => ?_)
 refine Zf ?_
 refine Zb 1 rfl ?_
 refine Za rfl rfl rfl (Yo rfl) ?_
 refine Zb 1 rfl ?_
 refine Zq 10 rfl (fun hb => ?_) (fun hb => ?_)
 ·replace H := Zo H hb
  refine Zb 9 rfl ?_
  refine Zg ?_
  refine Zc hK81 ?_
  refine Zu rfl rfl ?_
  refine Zd (fun K hK82 => ?_)
  refine Zf ?_
  refine Za rfl rfl rfl (Zi Yp rfl (Zhe _) hS Xi trivial Xe) ?_
  obtain ⟨r83, hm84, H⟩ := bind_some H
  refine Zn rfl rfl rfl rfl (by kernel_rfl) rfl (Vs x0 A0_ c0_ _ (Zhh s0_.k (hS.rd0 s0_.rd) (hS.blk0 s0_.blk)) hm84) ?_
  rintro e w ⟨A85, c86, rfl, k87, hN⟩; refine ⟨_, rfl, ?_⟩; obtain ⟨hB, hS⟩ := hS.jn hN
  refine Zl rfl rfl rfl CellsOf.agg hS ps1 Zag (by kernel_rfl) rfl (fun w hS hB => ?_)
  refine Zb 1 rfl ?_
  refine Zg ?_
  refine Zc hK82 ?_
  refine Zk ?_
  refine Zj ?_
  refine Zm rfl (RV.cell rfl (Zt Yp hS Y2 Xe) (RV.tmp rfl RV.nil)) rfl ?_
  refine ⟨_, rfl, ?_⟩
  refine Za rfl rfl rfl (Z0 rfl rfl) ?_
  refine Za rfl rfl rfl (Z0 rfl rfl) ?_
  refine Zl rfl rfl rfl CellsOf.agg hS ps6 Zag (by kernel_rfl) rfl (fun w hS hB => ?_)
  refine Zb 1 rfl ?_
  refine Zg ?_
  refine Zc hK16 ?_
  refine Zk ?_
  refine Zm rfl (RV.cell rfl (Zt Yp hS Jy Xe) (RV.tmp rfl RV.nil)) rfl ?_
  obtain rfl := QJ H
  have hS := hS.front 0 rfl
  replace hS := hS.cut 1
  exact ⟨A85, c86, rfl, k87, hS⟩
 replace H := Zp H hb
 refine Za rfl rfl rfl (Zi Yp rfl (Zhe _) hS Xi trivial Xe) ?_
 obtain ⟨r89, hm90, H⟩ := bind_some H
 refine Zn rfl rfl rfl rfl (by kernel_rfl) rfl (Zae x0 A0_ c0_ _ (Zhh s0_.k (hS.rd0 s0_.rd) (hS.blk0 s0_.blk)) hm90) ?_
 rintro e w ⟨rfl, hN⟩; refine ⟨_, rfl, ?_⟩; obtain ⟨hB, hS⟩ := hS.jn hN
 refine Za rfl rfl rfl (Yo rfl) ?_
 refine Zb 2 rfl ?_
 refine Zq 15 rfl (fun hb => ?_) (fun hb => ?_)
 ·replace H := Zo H hb
  refine Zb 4 rfl ?_
  refine Zg ?_
  refine Zc hK81 ?_
  refine Zu rfl rfl ?_
  refine Zd (fun K hK91 => ?_)
  refine Zf ?_
  refine Za rfl rfl rfl (Zi Yp rfl (Zhe _) hS Xi trivial Xe) ?_
  obtain ⟨r92, hm93, H⟩ := bind_some H
  refine Zn rfl rfl rfl rfl (by kernel_rfl) rfl (Vs x0 A0_ c0_ _ (Zhh s0_.k (hS.rd0 s0_.rd) (hS.blk0 s0_.blk)) hm93) ?_
  rintro e w ⟨A94, c95, rfl, k96, hN⟩; refine ⟨_, rfl, ?_⟩; obtain ⟨hB, hS⟩ := hS.jn hN
  refine Zl rfl rfl rfl CellsOf.agg hS ps1 Zag (by kernel_rfl) rfl (fun w hS hB => ?_)
  refine Zb 1 rfl ?_
  refine Zg ?_
  refine Zc hK91 ?_
  refine Zk ?_
  refine Zj ?_
  refine Zm rfl (RV.cell rfl (Zt Yp hS Y2 Xe) (RV.tmp rfl RV.nil)) rfl ?_
  refine ⟨_, rfl, ?_⟩
  refine Za rfl rfl rfl (Z0 rfl rfl) ?_
  refine Za rfl rfl rfl (Z0 rfl rfl) ?_
  refine Zl rfl rfl rfl CellsOf.agg hS ps6 Zag (by kernel_rfl) rfl (fun w hS hB => ?_)
  refine Zb 1 rfl ?_
  refine Zg ?_
  refine Zc hK16 ?_
  refine Zk ?_
  refine Zm rfl (RV.cell rfl (Zt Yp hS Jy Xe) (RV.tmp rfl RV.nil)) rfl ?_
  obtain rfl := QJ H
  have hS := hS.front 0 rfl
  replace hS := hS.cut 1
  exact ⟨A94, c95, rfl, k96, hS⟩
 replace H := Zp H hb
 refine Za rfl rfl rfl (Zi Yp rfl (Zhe _) hS Y2 trivial Xe) ?_
 obtain ⟨r98, hm99, H⟩ := bind_some H
 refine Zn rfl rfl rfl rfl (by kernel_rfl) rfl (Zae (⟨r7.snap, r7.log, x1, x2⟩ : Tu) A9 c10 _ (Zhh k11 (hS.row_rd Jq) (hS.row_blk Jq)) hm99) ?_
 rintro e w ⟨rfl, hN⟩; refine ⟨_, rfl, ?_⟩; obtain ⟨hB, hS⟩ := hS.jn hN
 refine Za rfl rfl rfl (Yo rfl) ?_
 refine Zb 1 rfl ?_
 refine Zg ?_
 refine Zc hK81 ?_
 refine Z1 rfl (fun hb => ?_) (fun hb => ?_)
 rotate_left
 ·replace H := Zp H hb
  refine Zs ?_
  refine Zc hK80 ?_
  refine Zd (fun K hK107 => ?_)
  refine Zf ?_
  refine Za rfl rfl rfl (Zi Yp rfl (Zhe _) hS Y2 trivial Xe) ?_
  refine Zl rfl rfl rfl CellsOf.agg hS ps0 Zag (by kernel_rfl) rfl (fun w hS hB => ?_)
  refine Zb 1 rfl ?_
  refine Zg ?_
  refine Zc hK107 ?_
  refine Zk ?_
  refine Zm rfl (RV.cell rfl (Zt Yp hS hs0 Xe) (RV.tmp rfl RV.nil)) rfl ?_
  refine ⟨_, rfl, ?_⟩
  refine Za rfl rfl rfl (Z0 rfl rfl) ?_
  refine Za rfl rfl rfl (Z0 rfl rfl) ?_
  refine Zl rfl rfl rfl CellsOf.agg hS ps5 Zag (by kernel_rfl) rfl (fun w hS hB => ?_)
  refine Zb 1 rfl ?_
  refine Zg ?_
  refine Zc hK16 ?_
  refine Zk ?_
  refine Zm rfl (RV.cell rfl (Zt Yp hS hs5 Xe) (RV.tmp rfl RV.nil)) rfl ?_
  obtain rfl := QJ H
  have hS := hS.front 4 rfl
  replace hS := hS.cut 1
  exact ⟨A9, c10, rfl, k11, hS⟩
 replace H := Zo H hb
 refine Zd (fun K hK100 => ?_)
 refine Zf ?_
 refine Za rfl rfl rfl (Zi Yp rfl (Zhe _) hS Xi trivial Xe) ?_
 obtain ⟨r101, hm102, H⟩ := bind_some H
 refine Zn rfl rfl rfl rfl (by kernel_rfl) rfl (Vs x0 A0_ c0_ _ (Zhh s0_.k (hS.rd0 s0_.rd) (hS.blk0 s0_.blk)) hm102) ?_
 rintro e w ⟨A103, c104, rfl, k105, hN⟩; refine ⟨_, rfl, ?_⟩; obtain ⟨hB, hS⟩ := hS.jn hN
 refine Zl rfl rfl rfl CellsOf.agg hS ps1 Zag (by kernel_rfl) rfl (fun w hS hB => ?_)
 refine Zb 1 rfl ?_
 refine Zg ?_
 refine Zc hK100 ?_
 refine Zk ?_
 refine Zj ?_
 refine Zm rfl (RV.cell rfl (Zt Yp hS Y2 Xe) (RV.tmp rfl RV.nil)) rfl ?_
 refine ⟨_, rfl, ?_⟩
 refine Za rfl rfl rfl (Z0 rfl rfl) ?_
 refine Za rfl rfl rfl (Z0 rfl rfl) ?_
 refine Zl rfl rfl rfl CellsOf.agg hS ps6 Zag (by kernel_rfl) rfl (fun w hS hB => ?_)
 refine Zb 1 rfl ?_
 refine Zg ?_
 refine Zc hK16 ?_
 refine Zk ?_
 refine Zm rfl (RV.cell rfl (Zt Yp hS Jy Xe) (RV.tmp rfl RV.nil)) rfl ?_
 obtain rfl := QJ H
 have hS := hS.front 0 rfl
 replace hS := hS.cut 1
 exact ⟨A103, c104, rfl, k105, hS⟩
theorem c_ref12_At (x0 : Tu) (x1 : Int) (A0_ : OA) (c0_ : Nat) (w0 : World) (s0_ : SlI w0 V3 A0_ c0_ x0.log) {r : En × Bool} (H : m_ref12_At x0 x1 = some r) : Calls Tryz.prog 40 #[.agg #[.int .i64 x0.snap.index, .int .i64 x0.snap.term, .int .i64 x0.snap.sum, .int .i64 x0.snap.level, .bool x0.snap.final, .slice A0_ x0.log.length c0_, .int .i64 x0.term, .int .i64 x0.vote], .int .i64 x1] w0 fun e w' => e = .returned (.tuple #[.agg #[.int .i64 r.1.term, .int .i64 r.1.kind, .int .i64 r.1.value], .bool r.2]) ∧ St0 All w0 w' [] := by
 unfold m_ref12_At at H
 refine Ys Tryz.func40 rfl Tryz.ntmps40 rfl ?_
 have hS := St0.start All w0
 refine Zd (fun K hK1 => ?_)
 refine Zf ?_
 refine Z7 rfl rfl rfl CellsOf.agg hS (fun b2 w hS hB => ?_)
 refine Yd rfl rfl zc_53 hS (fun b4 w hS hB => ?_)
 refine Zb 1 rfl ?_
 refine Zg ?_
 refine Zc hK1 ?_
 refine Zd (fun K hK6 => ?_)
 refine Zd (fun K hK7 => ?_)
 refine Zf ?_
 refine Zb 1 rfl ?_
 refine Za rfl rfl rfl (Ze Xy rfl) ?_
 refine Za rfl rfl rfl (Ze Yl rfl) ?_
 refine Za rfl rfl rfl (Zh Z3 rfl (Zhe _) hS Y2 trivial Yx) ?_
 refine Za rfl rfl rfl (Zdj rfl rfl) ?_
 refine Zb 1 rfl ?_
 refine Zq 11 rfl (fun hb => ?_) (fun hb => ?_)
 ·replace H := Zo H hb
  refine Zb 5 rfl ?_
  refine Zg ?_
  refine Zc hK7 ?_
  refine Zu rfl rfl ?_
  refine Zd (fun K hK8 => ?_)
  refine Zf ?_
  refine Za rfl rfl rfl (Xn (cells := [.int .i64 0, .int .i64 0, .int .i64 0]) rfl (by kernel_rfl)) ?_
  refine Zl rfl rfl rfl CellsOf.agg hS ps0 st0_3 (by kernel_rfl) rfl (fun w hS hB => ?_)
  refine Zb 1 rfl ?_
  refine Zg ?_
  refine Zc hK8 ?_
  refine Zk ?_
  refine Zj ?_
  refine Zm rfl (RV.cell rfl (Zt Zbw hS hs0 Zep) (RV.tmp rfl RV.nil)) rfl ?_
  obtain rfl := QJ H
  replace hS := hS.cut 0
  exact ⟨rfl, hS⟩
 replace H := Zp H hb
 refine Zb 1 rfl ?_
 refine Za rfl rfl rfl (Zi Yp rfl (Zhe _) hS Y2 trivial Xe) ?_
 obtain ⟨r9, hm10, H⟩ := bind_some H
 refine Zn rfl rfl rfl rfl (by kernel_rfl) rfl (Zaw x0 A0_ c0_ _ (Zhh s0_.k (hS.rd0 s0_.rd) (hS.blk0 s0_.blk)) hm10) ?_
 rintro e w ⟨rfl, hN⟩; refine ⟨_, rfl, ?_⟩; obtain ⟨hB, hS⟩ := hS.jn hN
 refine Za rfl rfl rfl (Y7 rfl rfl) ?_
 refine Zb 1 rfl ?_
 refine Zg ?_
 refine Zc hK7 ?_
 refine Z1 rfl (fun hb => ?_) (fun hb => ?_)
 ·replace H := Zo H hb
  refine Zd (fun K hK11 => ?_)
  refine Zf ?_
  refine Za rfl rfl rfl (Xn (cells := [.int .i64 0, .int .i64 0, .int .i64 0]) rfl (by kernel_rfl)) ?_
  refine Zl rfl rfl rfl CellsOf.agg hS ps0 st0_3 (by kernel_rfl) rfl (fun w hS hB => ?_)
  refine Zb 1 rfl ?_
  refine Zg ?_
  refine Zc hK11 ?_
  refine Zk ?_
  refine Zj ?_
  refine Zm rfl (RV.cell rfl (Zt Zbw hS hs0 Zep) (RV.tmp rfl RV.nil)) rfl ?_
  obtain rfl := QJ H
  replace hS := hS.cut 0
  exact ⟨rfl, hS⟩
 replace H := Zp H hb
 refine Zs ?_
 refine Zc hK6 ?_
 refine Zd (fun K hK12 => ?_)
 refine Zf ?_
 refine Za rfl rfl rfl (Ze X7 rfl) ?_
 refine Za rfl rfl rfl (Zh Vm rfl (Zhe _) hS Y2 trivial Zcq) ?_
 refine Zb 1 rfl ?_
 refine Za rfl rfl rfl (Ze Xy rfl) ?_
 refine Za rfl rfl rfl (Ze Yl rfl) ?_
 refine Za rfl rfl rfl (Zh Z3 rfl (Zhe _) hS Y2 trivial Yx) ?_
 refine Za rfl rfl rfl (Zcn rfl rfl) ?_
 refine Za rfl rfl rfl (Zcn rfl rfl) ?_
 obtain ⟨e13, hi15, H⟩ := bind_some H
 obtain ⟨j14, hi15a, hi15b, hi15c⟩ := Y0 hi15
 refine Za rfl rfl rfl (Xh Xq rfl rfl hi15a hi15c (Rd.el (hS.rd0 s0_.rd) Vj hi15b)) ?_
 refine Za rfl rfl rfl (Zdz Zbw rfl (Zhe _) (Rd.el (hS.rd0 s0_.rd) Vj hi15b) Zep) ?_
 refine Zl rfl rfl rfl CellsOf.agg hS ps0 st0_3 (by kernel_rfl) rfl (fun w hS hB => ?_)
 refine Zb 1 rfl ?_
 refine Zg ?_
 refine Zc hK12 ?_
 refine Zk ?_
 refine Zm rfl (RV.cell rfl (Zt Zbw hS hs0 Zep) (RV.tmp rfl RV.nil)) rfl ?_
 obtain rfl := QJ H
 replace hS := hS.cut 0
 exact ⟨rfl, hS⟩
theorem c_ref12_TermAt (x0 : Tu) (x1 : Int) (A0_ : OA) (c0_ : Nat) (w0 : World) (s0_ : SlI w0 V3 A0_ c0_ x0.log) {r : Int × Bool} (H : Zem x0 x1 = some r) : Calls Tryz.prog 72 #[.agg #[.int .i64 x0.snap.index, .int .i64 x0.snap.term, .int .i64 x0.snap.sum, .int .i64 x0.snap.level, .bool x0.snap.final, .slice A0_ x0.log.length c0_, .int .i64 x0.term, .int .i64 x0.vote], .int .i64 x1] w0 fun e w' => e = .returned (.tuple #[.int .i64 r.1, .bool r.2]) ∧ St0 All w0 w' [] := by
 unfold Zem at H
 refine Ys Tryz.func72 rfl Tryz.ntmps72 rfl ?_
 have hS := St0.start All w0
 refine Zd (fun K hK1 => ?_)
 refine Zf ?_
 refine Z7 rfl rfl rfl CellsOf.agg hS (fun b2 w hS hB => ?_)
 refine Zb 2 rfl ?_
 refine Zg ?_
 refine Zc hK1 ?_
 refine Zd (fun K hK4 => ?_)
 refine Zd (fun K hK5 => ?_)
 refine Zf ?_
 refine Zb 1 rfl ?_
 refine Za rfl rfl rfl (Ze Xy rfl) ?_
 refine Za rfl rfl rfl (Ze Yl rfl) ?_
 refine Za rfl rfl rfl (Zh Z3 rfl (Zhe _) hS hs0 trivial Yx) ?_
 refine Za rfl rfl rfl (Yr rfl rfl) ?_
 refine Zg ?_
 refine Zc hK5 ?_
 refine Z1 rfl (fun hb => ?_) (fun hb => ?_)
 ·replace H := Zo H hb
  refine Zd (fun K hK6 => ?_)
  refine Zf ?_
  refine Za rfl rfl rfl (Ze Xy rfl) ?_
  refine Za rfl rfl rfl (Ze Zdi rfl) ?_
  refine Za rfl rfl rfl (Zh Z3 rfl (Zhe _) hS hs0 trivial Xu) ?_
  refine Zb 2 rfl ?_
  refine Zg ?_
  refine Zc hK6 ?_
  refine Zk ?_
  refine Zj ?_
  refine Zm rfl (RV.tmp rfl (RV.tmp rfl RV.nil)) rfl ?_
  obtain rfl := QJ H
  replace hS := hS.cut 0
  exact ⟨rfl, hS⟩
 replace H := Zp H hb
 refine Zs ?_
 refine Zc hK4 ?_
 refine Zd (fun K hK7 => ?_)
 refine Zf ?_
 refine Za rfl rfl rfl (Zi Yp rfl (Zhe _) hS hs0 trivial Xe) ?_
 refine Zb 1 rfl ?_
 obtain ⟨r8, hm9, H⟩ := bind_some H
 refine Zn rfl rfl rfl rfl (by kernel_rfl) rfl (c_ref12_At x0 x1 A0_ c0_ _ (Zhh s0_.k (hS.rd0 s0_.rd) (hS.blk0 s0_.blk)) hm9) ?_
 rintro e w ⟨rfl, hN⟩; refine ⟨_, rfl, ?_⟩; obtain ⟨hB, hS⟩ := hS.jn hN
 refine Zb 1 rfl ?_
 refine Za rfl rfl rfl (Z0 rfl rfl) ?_
 refine Za rfl rfl rfl (Z0 rfl rfl) ?_
 refine Yd rfl rfl zc_53 hS (fun b10 w hS hB => ?_)
 refine Zl rfl rfl rfl CellsOf.agg hS ps0 st0_3 (by kernel_rfl) rfl (fun w hS hB => ?_)
 refine Zb 1 rfl ?_
 refine Zg ?_
 refine Zc hK7 ?_
 refine Zd (fun K hK12 => ?_)
 refine Zf ?_
 refine Za rfl rfl rfl (Ze Zcp rfl) ?_
 refine Za rfl rfl rfl (Zh Z3 rfl (Zhe _) hS hs0 trivial Yx) ?_
 refine Zb 3 rfl ?_
 refine Zg ?_
 refine Zc hK12 ?_
 refine Zk ?_
 refine Zm rfl (RV.tmp rfl (RV.tmp rfl RV.nil)) rfl ?_
 obtain rfl := QJ H
 replace hS := hS.cut 0
 exact ⟨rfl, hS⟩
theorem Zg4 (x0 : Co) (A0_ : OA) (c0_ : Nat) (A1_ : OA) (c1_ : Nat) (A2_ : OA) (c2_ : Nat) (A3_ : OA) (c3_ : Nat) (A4_ : OA) (c4_ : Nat) (w0 : World) (s0_ : SlI w0 V3 A0_ c0_ x0.tuple.log) (s1_ : SlI w0 enO A1_ c1_ x0.votes) (s2_ : SlI w0 X2 A2_ c2_ x0.next) (s3_ : SlI w0 X2 A3_ c3_ x0.mtch) (s4_ : SlI w0 X2 A4_ c4_ x0.caps) {r : Int} (H : V9 x0 = some r) : Calls Tryz.prog 55 #[.agg #[.int .i64 x0.id, .int .i64 x0.n, .int .u8 x0.role, .int .i64 x0.binary, .int .i64 x0.tuple.snap.index, .int .i64 x0.tuple.snap.term, .int .i64 x0.tuple.snap.sum, .int .i64 x0.tuple.snap.level, .bool x0.tuple.snap.final, .slice A0_ x0.tuple.log.length c0_, .int .i64 x0.tuple.term, .int .i64 x0.tuple.vote, .int .i64 x0.commit, .int .i64 x0.applied.index, .int .i64 x0.applied.term, .int .i64 x0.applied.sum, .int .i64 x0.applied.level, .bool x0.applied.final, .slice A1_ x0.votes.length c1_, .slice A2_ x0.next.length c2_, .slice A3_ x0.mtch.length c3_, .slice A4_ x0.caps.length c4_]] w0 fun e w' => e = .returned (.int .i64 r) ∧ St0 All w0 w' [] := by
 unfold V9 at H
 refine Yh Tryz.func55 rfl Tryz.ntmps55 rfl ?_
 have hS := St0.start All w0
 refine Zd (fun K hK1 => ?_)
 refine Zf ?_
 refine Z7 rfl rfl rfl CellsOf.agg hS (fun b2 w hS hB => ?_)
 refine Zb 1 rfl ?_
 refine Zg ?_
 refine Zc hK1 ?_
 refine Zd (fun K hK4 => ?_)
 refine Yn 11 [] (fun _ _ => True) ⟨by kernel_rfl, by kernel_rfl⟩ hS (fun w hS hB => ?_)
 refine Zr [true, true, true, true] (by decide +kernel) PFC.h ?_
 refine LtK.put rfl rfl rfl (Ze Yq rfl) ?_
 refine LtK.put rfl rfl rfl (Zi Yp rfl (Zhf _) hS hs0 trivial Zbt) ?_
 refine LtK.put rfl rfl rfl (Ze Yq rfl) ?_
 refine LtK.put rfl rfl rfl (Zi Yp rfl (Zhf _) hS hs0 trivial Zbt) ?_
 refine LtK.nil ?_
 refine Z5 [false, false, false, false, true] 4 ⟨by decide, by kernel_rfl, by kernel_rfl⟩ rfl rfl ?_
 try dsimp only [Zw]
 obtain ⟨r5, hm6, H⟩ := bind_some H
 refine Zn rfl rfl rfl rfl (by kernel_rfl) rfl (Zaw x0.tuple A0_ c0_ _ (Zhh s0_.k (hS.rd0 s0_.rd) (hS.blk0 s0_.blk)) hm6) ?_
 rintro e w ⟨rfl, hN⟩; refine ⟨_, rfl, ?_⟩; obtain ⟨hB, hS⟩ := hS.jn hN
 refine Zg ?_
 refine Z6 hB ?_
 refine Z5 [false, false, false, false, false, true] 5 ⟨by decide, by kernel_rfl, by kernel_rfl⟩ rfl rfl ?_
 try dsimp only [Zw]
 obtain ⟨r7, hm8, H⟩ := bind_some H
 refine Zn rfl rfl rfl rfl (by kernel_rfl) rfl (c_ref12_TermAt x0.tuple r5 A0_ c0_ _ (Zhh s0_.k (hS.rd0 s0_.rd) (hS.blk0 s0_.blk)) hm8) ?_
 rintro e w ⟨rfl, hN⟩; refine ⟨_, rfl, ?_⟩; obtain ⟨hB, hS⟩ := hS.jn hN
 refine Zg ?_
 refine Z6 hB ?_
 refine Zr [false, false, false, false, false, false, true, true, true, true, true] (by decide +kernel) PFC.h ?_
 refine LtK.put rfl rfl rfl (Zy rfl) ?_
 refine LtK.put rfl rfl rfl (Z0 rfl rfl) ?_
 refine LtK.put rfl rfl rfl (Z0 rfl rfl) ?_
 refine LtK.put rfl rfl rfl (Z2 rfl) ?_
 refine LtK.put rfl rfl rfl (Z2 rfl) ?_
 refine LtK.nil ?_
 refine Ye (by kernel_rfl) ?_
 refine Zc hK4 ?_
 refine Zd (fun K hK9 => ?_)
 refine Zf ?_
 refine Zb 2 rfl ?_
 refine Zg ?_
 refine Zc hK9 ?_
 refine Zk ?_
 refine Zm rfl (RV.tmp rfl RV.nil) rfl ?_
 obtain rfl := QJ H
 replace hS := hS.cut 0
 exact ⟨rfl, hS⟩
theorem c_ref22_Half (x0 : List Bool) (A0_ : OA) (c0_ : Nat) (w0 : World) (s0_ : SlI w0 enO A0_ c0_ x0) {r : Bool} (H : Zdh x0 = some r) : Calls Tryz.prog 22 #[.slice A0_ x0.length c0_] w0 fun e w' => e = .returned (.bool r) ∧ St0 All w0 w' [] := by
 unfold Zdh at H
 refine Yh Tryz.func22 rfl Tryz.ntmps22 rfl ?_
 have hS := St0.start All w0
 refine Zd (fun K hK1 => ?_)
 refine Zf ?_
 refine Zb 1 rfl ?_
 refine Zg ?_
 refine Zc hK1 ?_
 refine Zd (fun K hK2 => ?_)
 refine Zf ?_
 refine Zb 1 rfl ?_
 refine Zg ?_
 refine Zc hK2 ?_
 refine Zd (fun K hK3 => ?_)
 refine Zd (fun K hK4 => ?_)
 refine Zf ?_
 refine Zb 1 rfl ?_
 refine Zg ?_
 refine Zc hK4 ?_
 refine Yc ?_
 refine V7 (X := Nat × Int × Int) (fun x => (0, .slice A0_ x0.length c0_) :: (2, .bool false) :: (3, .int .i64 x.2.1) :: (4, .int .i64 x.2.2) :: []) (fun x w => St0 All w0 w ([]) ∧ Jo x0 x.1 x.2.1 x.2.2 = some r) (fun x => x.1) (Xw, 0, 0) (by repeat (first | exact Sub.nil | refine Sub.cons rfl ?_)) ⟨hS, H⟩ ?_
 rintro ⟨n, v5, v6⟩ w ⟨hS, H⟩
 dsimp only at hS H ⊢
 obtain _ | n := n
 ·have H0 : none = some r := H
  cases H0
 rw [Jo] at H
 refine Zd (fun K hK7 => ?_)
 refine Zd (fun K hK8 => ?_)
 refine Zf ?_
 refine Zb 2 rfl ?_
 refine Za rfl rfl rfl (Yz Zbs rfl) ?_
 refine Za rfl rfl rfl (Xk rfl rfl) ?_
 refine Zg ?_
 refine Zc hK8 ?_
 refine Z1 rfl (fun hb => ?_) (fun hb => ?_)
 rotate_left
 ·replace H := Zp H hb
  refine X0 ?_
  refine Z9 ?_
  refine Z9 ?_
  refine Yy ?_
  refine Zc hK3 ?_
  refine Zd (fun K hK14 => ?_)
  refine Zf ?_
  refine Zb 1 rfl ?_
  refine Za rfl rfl rfl (yx_mul rfl rfl) ?_
  refine Zb 1 rfl ?_
  refine Za rfl rfl rfl (Yz Zbs rfl) ?_
  refine Za rfl rfl rfl (Y7 rfl rfl) ?_
  refine Zb 1 rfl ?_
  refine Zg ?_
  refine Zc hK14 ?_
  refine Zk ?_
  refine Zm rfl (RV.tmp rfl RV.nil) rfl ?_
  obtain rfl := QJ H
  replace hS := hS.cut 0
  exact ⟨rfl, hS⟩
 replace H := Zo H hb
 refine Zs ?_
 refine Zc hK7 ?_
 refine Zd (fun K hK9 => ?_)
 refine Yc ?_
 refine Zd (fun K hK10 => ?_)
 refine Zf ?_
 refine Zb 2 rfl ?_
 obtain ⟨e11, hi13, H⟩ := bind_some H
 obtain ⟨j12, hi13a, hi13b, hi13c⟩ := Y0 hi13
 refine Za rfl rfl rfl (Xh Zbs rfl rfl hi13a hi13c (Rd.el (hS.rd0 s0_.rd) V5 hi13b)) ?_
 refine Za rfl rfl rfl (Zap sc_4 rfl (Zhe _) (Rd.el (hS.rd0 s0_.rd) V5 hi13b) rfl) ?_
 refine Zg ?_
 refine Zc hK10 ?_
 refine Z1 rfl (fun hb => ?_) (fun hb => ?_)
 rotate_left
 ·replace H := Zp H hb
  refine Zs ?_
  refine Z4 ?_
  refine Zc hK9 ?_
  refine Zf ?_
  refine Zb 1 rfl ?_
  refine Za rfl rfl rfl (X8 rfl rfl) ?_
  refine Zb 1 rfl ?_
  refine Zg ?_
  exact X9 (n, v5, (IntKind.wrap .i64 (v6 + 1))) (by repeat (first | exact Sub.nil | refine Sub.cons rfl ?_)) ⟨hS, H⟩ (Nat.lt_succ_self _)
 replace H := Zo H hb
 refine Zf ?_
 refine Zb 1 rfl ?_
 refine Za rfl rfl rfl (X8 rfl rfl) ?_
 refine Zb 1 rfl ?_
 refine Zg ?_
 refine Z4 ?_
 refine Zc hK9 ?_
 refine Zf ?_
 refine Zb 1 rfl ?_
 refine Za rfl rfl rfl (X8 rfl rfl) ?_
 refine Zb 1 rfl ?_
 refine Zg ?_
 exact X9 (n, (IntKind.wrap .i64 (v5 + 1)), (IntKind.wrap .i64 (v6 + 1))) (by repeat (first | exact Sub.nil | refine Sub.cons rfl ?_)) ⟨hS, H⟩ (Nat.lt_succ_self _)
theorem c_ref12_Append (x0 : Tu) (x1 : List En) (A0_ : OA) (c0_ : Nat) (A1_ : OA) (c1_ : Nat) (w0 : World) (s0_ : SlI w0 V3 A0_ c0_ x0.log) (s1_ : SlI w0 V3 A1_ c1_ x1) {r : Tu × Int} (H : Zcv x0 x1 = some r) : Calls Tryz.prog 68 #[.agg #[.int .i64 x0.snap.index, .int .i64 x0.snap.term, .int .i64 x0.snap.sum, .int .i64 x0.snap.level, .bool x0.snap.final, .slice A0_ x0.log.length c0_, .int .i64 x0.term, .int .i64 x0.vote], .slice A1_ x1.length c1_] w0 fun e w' => ∃ (A0 : OA) (c0 : Nat), e = .returned (.tuple #[.agg #[.int .i64 r.1.snap.index, .int .i64 r.1.snap.term, .int .i64 r.1.snap.sum, .int .i64 r.1.snap.level, .bool r.1.snap.final, .slice A0 r.1.log.length c0, .int .i64 r.1.term, .int .i64 r.1.vote], .int .i64 r.2]) ∧ (r.1.log.length ≤ c0 ∧ c0 ≤ maxLen) ∧ St0 All w0 w' [.row (.slice A0 r.1.log.length c0) 53 3 r.1.log.length (Yf V3 r.1.log)] := by
 unfold Zcv at H
 refine Ys Tryz.func68 rfl Tryz.ntmps68 rfl ?_
 have hS := St0.start All w0
 refine Zd (fun K hK1 => ?_)
 refine Zf ?_
 refine Z7 rfl rfl rfl CellsOf.agg hS (fun b2 w hS hB => ?_)
 refine Yd rfl rfl Zeq hS (fun b4 w hS hB => ?_)
 refine Zb 1 rfl ?_
 refine Zg ?_
 refine Zc hK1 ?_
 refine Zd (fun K hK6 => ?_)
 refine Zf ?_
 refine Za rfl rfl rfl (Zi Yp rfl (Zhe _) hS Y2 trivial Xe) ?_
 obtain ⟨r7, hm8, H⟩ := bind_some H
 refine Zn rfl rfl rfl rfl (by kernel_rfl) rfl (Vs x0 A0_ c0_ _ (Zhh s0_.k (hS.rd0 s0_.rd) (hS.blk0 s0_.blk)) hm8) ?_
 rintro e w ⟨A9, c10, rfl, k11, hN⟩; refine ⟨_, rfl, ?_⟩; obtain ⟨hB, hS⟩ := hS.jn hN
 refine Yd rfl rfl Zeq hS (fun b13 w hS hB => ?_)
 refine Zl rfl rfl rfl CellsOf.agg hS ps0 Zag (by kernel_rfl) rfl (fun w hS hB => ?_)
 refine Zg ?_
 refine Zc hK6 ?_
 refine Zd (fun K hK15 => ?_)
 refine Zf ?_
 refine Za rfl rfl rfl (Ze X7 rfl) ?_
 refine Za rfl rfl rfl (Zh Vm rfl (Zhe _) hS hs0 trivial Zcq) ?_
 refine Zb 1 rfl ?_
 obtain ⟨l16, hf17, H⟩ := bind_some H
 refine J1 (ys := x1) Vj oc_enE em_24 (by decide) rfl rfl rfl rfl hS (fun _ => ps1) (hS.rd0 s1_.rd) hf17 (fun A18 c19 w k20 hS => ?_)
 refine Za rfl rfl rfl (Ze X7 rfl) ?_
 refine Zl rfl rfl rfl CellsOf.slice hS ps0 st5_1 (by kernel_rfl) rfl (fun w hS hB => ?_)
 refine Zg ?_
 refine Zc hK15 ?_
 refine Zd (fun K hK21 => ?_)
 refine Zf ?_
 refine Za rfl rfl rfl (Zi Yp rfl (Zhe _) hS hs3 trivial Xe) ?_
 refine Za rfl rfl rfl (Zi Yp rfl (Zhe _) hS hs0 trivial Xe) ?_
 refine Zcm rfl rfl rfl rfl (by kernel_rfl) rfl ?_
 show Calls _ _ #[_, _, _] _ _
 refine Zaj Tryz.func103 rfl Tryz.ntmps103 rfl ?_
 refine Zd (fun K hK22 => ?_)
 refine Zf ?_
 refine Z7 rfl rfl rfl CellsOf.agg hS (fun b23 w hS hB => ?_)
 refine Z7 rfl rfl rfl CellsOf.agg hS (fun b25 w hS hB => ?_)
 refine Yd rfl rfl Zeq hS (fun b27 w hS hB => ?_)
 refine Zb 1 rfl ?_
 refine Zg ?_
 refine Zc hK22 ?_
 refine Zd (fun K hK29 => ?_)
 refine Zd (fun K hK30 => ?_)
 refine Zf ?_
 refine Zb 1 rfl ?_
 refine Za rfl rfl rfl (Yo rfl) ?_
 refine Zb 1 rfl ?_
 refine Za rfl rfl rfl (Zi Yp rfl (Zhe _) hS Xi trivial Xe) ?_
 obtain ⟨r31, hm32, H⟩ := bind_some H
 refine Zn rfl rfl rfl rfl (by kernel_rfl) rfl (Zae x0 A0_ c0_ _ (Zhh s0_.k (hS.rd0 s0_.rd) (hS.blk0 s0_.blk)) hm32) ?_
 rintro e w ⟨rfl, hN⟩; refine ⟨_, rfl, ?_⟩; obtain ⟨hB, hS⟩ := hS.jn hN
 refine Za rfl rfl rfl (Yo rfl) ?_
 refine Zb 2 rfl ?_
 refine Zq 15 rfl (fun hb => ?_) (fun hb => ?_)
 ·replace H := Zo H hb
  refine Zb 4 rfl ?_
  refine Zg ?_
  refine Zc hK30 ?_
  refine Zu rfl rfl ?_
  refine Zd (fun K hK33 => ?_)
  refine Zf ?_
  refine Za rfl rfl rfl (Zi Yp rfl (Zhe _) hS Xi trivial Xe) ?_
  obtain ⟨r34, hm35, H⟩ := bind_some H
  refine Zn rfl rfl rfl rfl (by kernel_rfl) rfl (Vs x0 A0_ c0_ _ (Zhh s0_.k (hS.rd0 s0_.rd) (hS.blk0 s0_.blk)) hm35) ?_
  rintro e w ⟨A36, c37, rfl, k38, hN⟩; refine ⟨_, rfl, ?_⟩; obtain ⟨hB, hS⟩ := hS.jn hN
  refine Zl rfl rfl rfl CellsOf.agg hS ps1 Zag (by kernel_rfl) rfl (fun w hS hB => ?_)
  refine Zb 1 rfl ?_
  refine Zg ?_
  refine Zc hK33 ?_
  refine Zk ?_
  refine Zj ?_
  refine Zm rfl (RV.cell rfl (Zt Yp hS Y2 Xe) (RV.tmp rfl RV.nil)) rfl ?_
  refine ⟨_, rfl, ?_⟩
  refine Za rfl rfl rfl (Z0 rfl rfl) ?_
  refine Za rfl rfl rfl (Z0 rfl rfl) ?_
  refine Zl rfl rfl rfl CellsOf.agg hS ps6 Zag (by kernel_rfl) rfl (fun w hS hB => ?_)
  refine Zb 1 rfl ?_
  refine Zg ?_
  refine Zc hK21 ?_
  refine Zk ?_
  refine Zm rfl (RV.cell rfl (Zt Yp hS Jy Xe) (RV.tmp rfl RV.nil)) rfl ?_
  obtain rfl := QJ H
  have hS := hS.front 0 rfl
  replace hS := hS.cut 1
  exact ⟨A36, c37, rfl, k38, hS⟩
 replace H := Zp H hb
 refine Za rfl rfl rfl (Zi Yp rfl (Zhe _) hS Y2 trivial Xe) ?_
 obtain ⟨r40, hm41, H⟩ := bind_some H
 refine Zn rfl rfl rfl rfl (by kernel_rfl) rfl (Zae (⟨r7.snap, l16, r7.term, r7.vote⟩ : Tu) A18 c19 _ (Zhh k20 (hS.row_rd Jq) (hS.row_blk Jq)) hm41) ?_
 rintro e w ⟨rfl, hN⟩; refine ⟨_, rfl, ?_⟩; obtain ⟨hB, hS⟩ := hS.jn hN
 refine Za rfl rfl rfl (Yo rfl) ?_
 refine Zb 1 rfl ?_
 refine Zg ?_
 refine Zc hK30 ?_
 refine Z1 rfl (fun hb => ?_) (fun hb => ?_)
 rotate_left
 ·replace H := Zp H hb
  refine Zs ?_
  refine Zc hK29 ?_
  refine Zd (fun K hK49 => ?_)
  refine Zf ?_
  refine Za rfl rfl rfl (Zi Yp rfl (Zhe _) hS Y2 trivial Xe) ?_
  refine Zl rfl rfl rfl CellsOf.agg hS ps0 Zag (by kernel_rfl) rfl (fun w hS hB => ?_)
  refine Zb 1 rfl ?_
  refine Zg ?_
  refine Zc hK49 ?_
  refine Zk ?_
  refine Zm rfl (RV.cell rfl (Zt Yp hS hs0 Xe) (RV.tmp rfl RV.nil)) rfl ?_
  refine ⟨_, rfl, ?_⟩
  refine Za rfl rfl rfl (Z0 rfl rfl) ?_
  refine Za rfl rfl rfl (Z0 rfl rfl) ?_
  refine Zl rfl rfl rfl CellsOf.agg hS ps5 Zag (by kernel_rfl) rfl (fun w hS hB => ?_)
  refine Zb 1 rfl ?_
  refine Zg ?_
  refine Zc hK21 ?_
  refine Zk ?_
  refine Zm rfl (RV.cell rfl (Zt Yp hS hs5 Xe) (RV.tmp rfl RV.nil)) rfl ?_
  obtain rfl := QJ H
  have hS := hS.front 4 rfl
  replace hS := hS.cut 1
  exact ⟨A18, c19, rfl, k20, hS⟩
 replace H := Zo H hb
 refine Zd (fun K hK42 => ?_)
 refine Zf ?_
 refine Za rfl rfl rfl (Zi Yp rfl (Zhe _) hS Xi trivial Xe) ?_
 obtain ⟨r43, hm44, H⟩ := bind_some H
 refine Zn rfl rfl rfl rfl (by kernel_rfl) rfl (Vs x0 A0_ c0_ _ (Zhh s0_.k (hS.rd0 s0_.rd) (hS.blk0 s0_.blk)) hm44) ?_
 rintro e w ⟨A45, c46, rfl, k47, hN⟩; refine ⟨_, rfl, ?_⟩; obtain ⟨hB, hS⟩ := hS.jn hN
 refine Zl rfl rfl rfl CellsOf.agg hS ps1 Zag (by kernel_rfl) rfl (fun w hS hB => ?_)
 refine Zb 1 rfl ?_
 refine Zg ?_
 refine Zc hK42 ?_
 refine Zk ?_
 refine Zj ?_
 refine Zm rfl (RV.cell rfl (Zt Yp hS Y2 Xe) (RV.tmp rfl RV.nil)) rfl ?_
 refine ⟨_, rfl, ?_⟩
 refine Za rfl rfl rfl (Z0 rfl rfl) ?_
 refine Za rfl rfl rfl (Z0 rfl rfl) ?_
 refine Zl rfl rfl rfl CellsOf.agg hS ps6 Zag (by kernel_rfl) rfl (fun w hS hB => ?_)
 refine Zb 1 rfl ?_
 refine Zg ?_
 refine Zc hK21 ?_
 refine Zk ?_
 refine Zm rfl (RV.cell rfl (Zt Yp hS Jy Xe) (RV.tmp rfl RV.nil)) rfl ?_
 obtain rfl := QJ H
 have hS := hS.front 0 rfl
 replace hS := hS.cut 1
 exact ⟨A45, c46, rfl, k47, hS⟩
theorem c_ref22_Lead (x0 : Co) (A0_ : OA) (c0_ : Nat) (A1_ : OA) (c1_ : Nat) (A2_ : OA) (c2_ : Nat) (A3_ : OA) (c3_ : Nat) (A4_ : OA) (c4_ : Nat) (w0 : World) (s0_ : SlI w0 V3 A0_ c0_ x0.tuple.log) (s1_ : SlI w0 enO A1_ c1_ x0.votes) (s2_ : SlI w0 X2 A2_ c2_ x0.next) (s3_ : SlI w0 X2 A3_ c3_ x0.mtch) (s4_ : SlI w0 X2 A4_ c4_ x0.caps) {r : Co} (H : Ji x0 = some r) : Calls Tryz.prog 20 #[.agg #[.int .i64 x0.id, .int .i64 x0.n, .int .u8 x0.role, .int .i64 x0.binary, .int .i64 x0.tuple.snap.index, .int .i64 x0.tuple.snap.term, .int .i64 x0.tuple.snap.sum, .int .i64 x0.tuple.snap.level, .bool x0.tuple.snap.final, .slice A0_ x0.tuple.log.length c0_, .int .i64 x0.tuple.term, .int .i64 x0.tuple.vote, .int .i64 x0.commit, .int .i64 x0.applied.index, .int .i64 x0.applied.term, .int .i64 x0.applied.sum, .int .i64 x0.applied.level, .bool x0.applied.final, .slice A1_ x0.votes.length c1_, .slice A2_ x0.next.length c2_, .slice A3_ x0.mtch.length c3_, .slice A4_ x0.caps.length c4_]] w0 fun e w' => ∃ (A0 : OA) (c0 : Nat) (A1 : OA) (c1 : Nat) (A2 : OA) (c2 : Nat) (A3 : OA) (c3 : Nat) (A4 : OA) (c4 : Nat), e = .returned (.agg #[.int .i64 r.id, .int .i64 r.n, .int .u8 r.role, .int .i64 r.binary, .int .i64 r.tuple.snap.index, .int .i64 r.tuple.snap.term, .int .i64 r.tuple.snap.sum, .int .i64 r.tuple.snap.level, .bool r.tuple.snap.final, .slice A0 r.tuple.log.length c0, .int .i64 r.tuple.term, .int .i64 r.tuple.vote, .int .i64 r.commit, .int .i64 r.applied.index, .int .i64 r.applied.term, .int .i64 r.applied.sum, .int .i64 r.applied.level, .bool r.applied.final, .slice A1 r.votes.length c1, .slice A2 r.next.length c2, .slice A3 r.mtch.length c3, .slice A4 r.caps.length c4]) ∧ (r.tuple.log.length ≤ c0 ∧ c0 ≤ maxLen) ∧ (r.votes.length ≤ c1 ∧ c1 ≤ maxLen) ∧ (r.next.length ≤ c2 ∧ c2 ≤ maxLen) ∧ (r.mtch.length ≤ c3 ∧ c3 ≤ maxLen) ∧ (r.caps.length ≤ c4 ∧ c4 ≤ maxLen) ∧ St0 All w0 w' [.row (.slice A0 r.tuple.log.length c0) 53 3 r.tuple.log.length (Yf V3 r.tuple.log), .row (.slice A1 r.votes.length c1) 4 1 r.votes.length (Yf enO r.votes), .row (.slice A2 r.next.length c2) 3 1 r.next.length (Yf X2 r.next), .row (.slice A3 r.mtch.length c3) 3 1 r.mtch.length (Yf X2 r.mtch), .row (.slice A4 r.caps.length c4) 3 1 r.caps.length (Yf X2 r.caps)] := by
 unfold Ji at H
 refine Yh Tryz.func20 rfl Tryz.ntmps20 rfl ?_
 have hS := St0.start All w0
 refine Zd (fun K hK1 => ?_)
 refine Zf ?_
 refine Z7 rfl rfl rfl CellsOf.agg hS (fun b2 w hS hB => ?_)
 refine Yd rfl rfl Zbx hS (fun b4 w hS hB => ?_)
 refine Zg ?_
 refine Zc hK1 ?_
 refine Zd (fun K hK6 => ?_)
 refine Zf ?_
 refine Za rfl rfl rfl (Zi Zx rfl (Zhe _) hS Y2 trivial Zv) ?_
 obtain ⟨r7, hm8, H⟩ := bind_some H
 refine Zn rfl rfl rfl rfl (by kernel_rfl) rfl (Zea x0 A0_ c0_ A1_ c1_ A2_ c2_ A3_ c3_ A4_ c4_ _ (Zhh s0_.k (hS.rd0 s0_.rd) (hS.blk0 s0_.blk)) (Zhh s1_.k (hS.rd0 s1_.rd) (hS.blk0 s1_.blk)) (Zhh s2_.k (hS.rd0 s2_.rd) (hS.blk0 s2_.blk)) (Zhh s3_.k (hS.rd0 s3_.rd) (hS.blk0 s3_.blk)) (Zhh s4_.k (hS.rd0 s4_.rd) (hS.blk0 s4_.blk)) hm8) ?_
 rintro e w ⟨A9, c10, A13, c14, A17, c18, A21, c22, A25, c26, rfl, k11, k15, k19, k23, k27, hN⟩; refine ⟨_, rfl, ?_⟩; obtain ⟨hB, hS⟩ := hS.jn hN
 refine Zl rfl rfl rfl CellsOf.agg hS ps6 Z8 (by kernel_rfl) rfl (fun w hS hB => ?_)
 refine Zg ?_
 refine Zc hK6 ?_
 refine Zd (fun K hK29 => ?_)
 refine Zd (fun K hK30 => ?_)
 refine Zf ?_
 refine Za rfl rfl rfl (Zi Zx rfl (Zhe _) hS Jy trivial Zv) ?_
 obtain ⟨r31, hm32, H⟩ := bind_some H
 refine Zn rfl rfl rfl rfl (by kernel_rfl) rfl (Zdu r7 A9 c10 A13 c14 A17 c18 A21 c22 A25 c26 _ (Zhh k11 (hS.row_rd hs0) (hS.row_blk hs0)) (Zhh k15 (hS.row_rd Y2) (hS.row_blk Y2)) (Zhh k19 (hS.row_rd Xi) (hS.row_blk Xi)) (Zhh k23 (hS.row_rd hs3) (hS.row_blk hs3)) (Zhh k27 (hS.row_rd Jq) (hS.row_blk Jq)) hm32) ?_
 rintro e w ⟨rfl, hN⟩; refine ⟨_, rfl, ?_⟩; obtain ⟨hB, hS⟩ := hS.jn hN
 refine Za rfl rfl rfl (Yo rfl) ?_
 refine Zb 1 rfl ?_
 refine Zq 11 rfl (fun hb => ?_) (fun hb => ?_)
 ·replace H := Zo H hb
  refine Zb 4 rfl ?_
  refine Zg ?_
  refine Zc hK30 ?_
  refine Zu rfl rfl ?_
  refine Zd (fun K hK33 => ?_)
  refine Zf ?_
  refine Za rfl rfl rfl (Zi Zx rfl (Zhe _) hS Jy trivial Zv) ?_
  refine Zl rfl rfl rfl CellsOf.agg hS ps5 Z8 (by kernel_rfl) rfl (fun w hS hB => ?_)
  refine Zg ?_
  refine Zc hK33 ?_
  refine Zk ?_
  refine Zj ?_
  refine Zm rfl (RV.cell rfl (Zt Zx hS hs5 Zv) RV.nil) rfl ?_
  obtain rfl := QJ H
  have hS := hS.front 4 rfl
  have hS := hS.front 4 rfl
  have hS := hS.front 4 rfl
  have hS := hS.front 4 rfl
  have hS := hS.front 4 rfl
  replace hS := hS.cut 5
  exact ⟨A9, c10, A13, c14, A17, c18, A21, c22, A25, c26, rfl, k11, k15, k19, k23, k27, hS⟩
 replace H := Zp H hb
 refine Za rfl rfl rfl (Ze Vv rfl) ?_
 refine Za rfl rfl rfl (Zh Zas rfl (Zhe _) hS Jy trivial Jt) ?_
 refine Za rfl rfl rfl (Xm rfl rfl) ?_
 refine Zb 1 rfl ?_
 refine Zg ?_
 refine Zc hK30 ?_
 refine Z1 rfl (fun hb => ?_) (fun hb => ?_)
 ·replace H := Zo H hb
  refine Zd (fun K hK34 => ?_)
  refine Zf ?_
  refine Za rfl rfl rfl (Zi Zx rfl (Zhe _) hS Jy trivial Zv) ?_
  refine Zl rfl rfl rfl CellsOf.agg hS ps5 Z8 (by kernel_rfl) rfl (fun w hS hB => ?_)
  refine Zg ?_
  refine Zc hK34 ?_
  refine Zk ?_
  refine Zj ?_
  refine Zm rfl (RV.cell rfl (Zt Zx hS hs5 Zv) RV.nil) rfl ?_
  obtain rfl := QJ H
  have hS := hS.front 4 rfl
  have hS := hS.front 4 rfl
  have hS := hS.front 4 rfl
  have hS := hS.front 4 rfl
  have hS := hS.front 4 rfl
  replace hS := hS.cut 5
  exact ⟨A9, c10, A13, c14, A17, c18, A21, c22, A25, c26, rfl, k11, k15, k19, k23, k27, hS⟩
 replace H := Zp H hb
 refine Zs ?_
 refine Zc hK29 ?_
 refine Zd (fun K hK35 => ?_)
 refine Zf ?_
 refine Za rfl rfl rfl (Ze Yq rfl) ?_
 refine Za rfl rfl rfl (Zi Yp rfl (Zhe _) hS Jy trivial Zbt) ?_
 refine Za rfl rfl rfl (Ze Yq rfl) ?_
 refine Za rfl rfl rfl (Ze Xl rfl) ?_
 refine Za rfl rfl rfl (Zh Z3 rfl (Zhe _) hS Jy trivial Vz) ?_
 refine Za rfl rfl rfl (Xn (cells := [.int .i64 r7.tuple.term, .int .i64 0, .int .i64 0]) rfl (by kernel_rfl)) ?_
 refine Ym (ps := [(0, .tmp 23)]) [.int .i64 r7.tuple.term, .int .i64 0, .int .i64 0] Xq zc_53 rfl rfl rfl rfl rfl (by kernel_rfl) hS (fun b36 w hS hB => ?_)
 obtain ⟨r38, hm39, H⟩ := bind_some H
 refine Zn rfl rfl rfl rfl (by kernel_rfl) rfl (c_ref12_Append r7.tuple ([(⟨r7.tuple.term, 0, 0⟩ : En)] : List En) A9 c10 (some ⟨b36, 0, none⟩) 1 _ (Zhh k11 (hS.row_rd Y2) (hS.row_blk Y2)) (Zhh ⟨Nat.le_refl 1, by decide⟩ (hS.box_rd hs0) (hS.box_blk hs0)) hm39) ?_
 rintro e w ⟨A40, c41, rfl, k42, hN⟩; refine ⟨_, rfl, ?_⟩; obtain ⟨hB, hS⟩ := hS.jn hN
 refine Zb 1 rfl ?_
 refine Za rfl rfl rfl (Z0 rfl rfl) ?_
 refine Za rfl rfl rfl (Z0 rfl rfl) ?_
 refine Yd rfl rfl Zeq hS (fun b44 w hS hB => ?_)
 refine Zl rfl rfl rfl CellsOf.agg hS ps0 Zag (by kernel_rfl) rfl (fun w hS hB => ?_)
 refine Zb 1 rfl ?_
 refine Zg ?_
 refine Zc hK35 ?_
 refine Zd (fun K hK46 => ?_)
 refine Zd (fun K hK47 => ?_)
 refine Zf ?_
 refine Zb 1 rfl ?_
 refine Za rfl rfl rfl (Xm rfl rfl) ?_
 refine Zg ?_
 refine Zc hK47 ?_
 refine Z1 rfl (fun hb => ?_) (fun hb => ?_)
 ·replace H := Zo H hb
  refine Zd (fun K hK48 => ?_)
  refine Zf ?_
  refine Za rfl rfl rfl (Ze Vv rfl) ?_
  refine Zl rfl rfl rfl CellsOf.int hS ps9 Zgz (by kernel_rfl) rfl (fun w hS hB => ?_)
  refine Zg ?_
  refine Zc hK48 ?_
  refine Zd (fun K hK49 => ?_)
  refine Zf ?_
  refine Za rfl rfl rfl (Zi Zx rfl (Zhe _) hS hs9 trivial Zv) ?_
  refine Zl rfl rfl rfl CellsOf.agg hS ps8 Z8 (by kernel_rfl) rfl (fun w hS hB => ?_)
  refine Zg ?_
  refine Zc hK49 ?_
  refine Zk ?_
  refine Zj ?_
  refine Zm rfl (RV.cell rfl (Zt Zx hS hs8 Zv) RV.nil) rfl ?_
  obtain rfl := QJ H
  have hS := hS.front 7 rfl
  have hS := hS.front 7 rfl
  have hS := hS.front 7 rfl
  have hS := hS.front 7 rfl
  have hS := hS.front 7 rfl
  replace hS := hS.cut 5
  exact ⟨A9, c10, A13, c14, A17, c18, A21, c22, A25, c26, rfl, k11, k15, k19, k23, k27, hS⟩
 replace H := Zp H hb
 refine Zs ?_
 refine Zc hK46 ?_
 refine Zd (fun K hK50 => ?_)
 refine Zf ?_
 refine Za rfl rfl rfl (Zi Yp rfl (Zhe _) hS hs0 trivial Xe) ?_
 refine Za rfl rfl rfl (Ze Yq rfl) ?_
 refine Zl rfl rfl rfl CellsOf.agg hS ps9 st4_8 (by kernel_rfl) rfl (fun w hS hB => ?_)
 refine Zg ?_
 refine Zc hK50 ?_
 refine Zd (fun K hK51 => ?_)
 refine Zf ?_
 refine Za rfl rfl rfl (Ze Vv rfl) ?_
 refine Zl rfl rfl rfl CellsOf.int hS ps9 Zgz (by kernel_rfl) rfl (fun w hS hB => ?_)
 refine Zg ?_
 refine Zc hK51 ?_
 refine Zd (fun K hK52 => ?_)
 refine Zd (fun K hK53 => ?_)
 refine Zf ?_
 refine Zb 1 rfl ?_
 refine Zg ?_
 refine Zc hK53 ?_
 refine Yc ?_
 refine V7 (X := Nat × Int × List Int × List Int) (fun x => (1, .pointer (some ⟨b2, 0, none⟩)) :: (2, .pointer (some ⟨b4, 0, none⟩)) :: (3, .pointer (some ⟨b44, 0, none⟩)) :: (5, .int .i64 x.2.1) :: []) (fun x w => St0 All w0 w (.box b44 [.int .i64 r38.1.snap.index, .int .i64 r38.1.snap.term, .int .i64 r38.1.snap.sum, .int .i64 r38.1.snap.level, .bool r38.1.snap.final, .slice A40 r38.1.log.length c41, .int .i64 r38.1.term, .int .i64 r38.1.vote] 26 :: .row (.slice A40 r38.1.log.length c41) 53 3 r38.1.log.length (Yf V3 r38.1.log) :: .box b36 [.int .i64 r7.tuple.term, .int .i64 0, .int .i64 0] 53 :: .row (.slice A9 r7.tuple.log.length c10) 53 3 r7.tuple.log.length (Yf V3 r7.tuple.log) :: .row (.slice A13 r7.votes.length c14) 4 1 r7.votes.length (Yf enO r7.votes) :: .row (.slice A17 r7.next.length c18) 3 1 r7.next.length (Yf X2 x.2.2.1) :: .row (.slice A21 r7.mtch.length c22) 3 1 r7.mtch.length (Yf X2 x.2.2.2) :: .row (.slice A25 r7.caps.length c26) 3 1 r7.caps.length (Yf X2 r7.caps) :: .box b4 [.int .i64 0, .int .i64 0, .int .u8 0, .int .i64 0, .int .i64 0, .int .i64 0, .int .i64 0, .int .i64 0, .bool false, .slice none 0 0, .int .i64 0, .int .i64 0, .int .i64 0, .int .i64 0, .int .i64 0, .int .i64 0, .int .i64 0, .bool false, .slice none 0 0, .slice none 0 0, .slice none 0 0, .slice none 0 0] 30 :: .box b2 [.int .i64 r7.id, .int .i64 r7.n, .int .u8 2, .int .i64 r7.binary, .int .i64 r38.1.snap.index, .int .i64 r38.1.snap.term, .int .i64 r38.1.snap.sum, .int .i64 r38.1.snap.level, .bool r38.1.snap.final, .slice A40 r38.1.log.length c41, .int .i64 r38.1.term, .int .i64 r38.1.vote, .int .i64 r7.commit, .int .i64 r7.applied.index, .int .i64 r7.applied.term, .int .i64 r7.applied.sum, .int .i64 r7.applied.level, .bool r7.applied.final, .slice A13 r7.votes.length c14, .slice A17 r7.next.length c18, .slice A21 r7.mtch.length c22, .slice A25 r7.caps.length c26] 30 :: []) ∧ (x.2.2.1.length ≤ c18 ∧ c18 ≤ maxLen) ∧ (x.2.2.1.length = r7.next.length) ∧ (x.2.2.2.length ≤ c22 ∧ c22 ≤ maxLen) ∧ (x.2.2.2.length = r7.mtch.length) ∧ Zar r7 r38 x.1 x.2.1 x.2.2.1 x.2.2.2 = some r) (fun x => x.1) (Xw, 0, r7.next, r7.mtch) (by repeat (first | exact Sub.nil | refine Sub.cons rfl ?_)) ⟨hS, k19, rfl, k23, rfl, H⟩ ?_
 rintro ⟨n, v54, v55, v58⟩ w ⟨hS, k56, hl57, k59, hl60, H⟩
 dsimp only at hS k56 hl57 k59 hl60 H ⊢
 obtain _ | n := n
 ·have H0 : none = some r := H
  cases H0
 rw [Zar] at H
 refine Zd (fun K hK61 => ?_)
 refine Zd (fun K hK62 => ?_)
 refine Zf ?_
 refine Zb 1 rfl ?_
 refine Za rfl rfl rfl (Ze Vf rfl) ?_
 refine Za rfl rfl rfl (Zh Z3 rfl (Zhe _) hS hs9 trivial Xu) ?_
 refine Za rfl rfl rfl (Xk rfl rfl) ?_
 refine Zg ?_
 refine Zc hK62 ?_
 refine Z1 rfl (fun hb => ?_) (fun hb => ?_)
 ·replace H := Zo H hb
  refine Zs ?_
  refine Zc hK61 ?_
  refine Zd (fun K hK63 => ?_)
  refine Yc ?_
  refine Zd (fun K hK64 => ?_)
  refine Yn 8 [7] (fun i b => (i = 7 → b = b44 ∨ b = b36 ∨ b = b4 ∨ b = b2)) ⟨by kernel_rfl, by kernel_rfl⟩ hS (fun w hS hB => ?_)
  refine Zr [true, true, true, true] (by decide +kernel) PFC.h ?_
  refine LtK.put rfl rfl rfl (Ze Zce rfl) ?_
  refine LtK.put rfl rfl rfl (Zh Vy rfl (Zhf _) hS hs9 trivial Zfm) ?_
  refine LtK.put rfl rfl rfl (Zy rfl) ?_
  refine LtK.put rfl rfl rfl (Zi Yp rfl (Zhf _) hS hs0 trivial Xe) ?_
  refine LtK.nil ?_
  refine Z5 [false, false, false, false, true] 4 ⟨by decide, by kernel_rfl, by kernel_rfl⟩ rfl rfl ?_
  try dsimp only [Zw]
  obtain ⟨r65, hm66, H⟩ := bind_some H
  refine Zn rfl rfl rfl rfl (by kernel_rfl) rfl (Zaw r38.1 A40 c41 _ (Zhh k42 (hS.row_rd Y2) (hS.row_blk Y2)) hm66) ?_
  rintro e w ⟨rfl, hN⟩; refine ⟨_, rfl, ?_⟩; obtain ⟨hB, hS⟩ := hS.jn hN
  refine Zg ?_
  refine Z6 hB ?_
  refine Zr [false, false, false, false, false, true, true] (by decide +kernel) PFC.h ?_
  refine LtK.put rfl rfl rfl (X8 rfl rfl) ?_
  obtain ⟨e67, hi69, H⟩ := bind_some H
  obtain ⟨j68, hi69a, hi69b, hi69c⟩ := Y0 hi69
  refine LtK.put rfl rfl rfl (Xh Vh rfl rfl hi69a (Nat.lt_of_lt_of_eq hi69c hl57) (Rd.el (hS.row_rd hs5) Y6 hi69b)) ?_
  refine LtK.nil ?_
  refine Yk [false, false, false, false, false, false, false, true] 7 ⟨by decide, by kernel_rfl, by kernel_rfl⟩ rfl rfl ?_
  try dsimp only [Zw]
  refine Ze8 (a' := (IntKind.wrap .i64 (r65 + 1))) (zs := (Vw v55 v54 (IntKind.wrap .i64 (r65 + 1)))) Y6 rfl rfl rfl CellsOf.int hS ps5 (Rd.el (hS.row_rd hs5) Y6 hi69b) hi69a hi69b rfl Zeb (by kernel_rfl) rfl (fun w hS hB => ?_)
  refine Zg ?_
  refine Yb (hB.sub (fun b _ h => by have h0 : b = b44 ∨ b = b36 ∨ b = b4 ∨ b = b2 := (by simpa using h); rcases h0 with h0 | h0 | h0 | h0; (rw [h0]; exact hS.neRow 0 5 rfl rfl); (rw [h0]; exact hS.neRow 2 5 rfl rfl); (rw [h0]; exact hS.neRow 8 5 rfl rfl); (rw [h0]; exact hS.neRow 9 5 rfl rfl))) ?_
  refine Ye (by kernel_rfl) ?_
  refine Zc hK64 ?_
  refine Zf ?_
  refine Za rfl rfl rfl (Ze Zbf rfl) ?_
  refine Za rfl rfl rfl (Zh Vy rfl (Zhe _) hS hs9 trivial Zec) ?_
  refine Zb 1 rfl ?_
  obtain ⟨e70, hi72, H⟩ := bind_some H
  obtain ⟨j71, hi72a, hi72b, hi72c⟩ := Y0 hi72
  refine Za rfl rfl rfl (Xh Vh rfl rfl hi72a (Nat.lt_of_lt_of_eq hi72c hl60) (Rd.el (hS.row_rd Jy) Y6 hi72b)) ?_
  refine Zcd (a' := 0) (zs := (Vw v58 v54 0)) Y6 rfl rfl rfl CellsOf.int hS ps6 (Rd.el (hS.row_rd Jy) Y6 hi72b) hi72a hi72b rfl Zeb (by kernel_rfl) rfl (fun w hS => ?_)
  refine Zg ?_
  refine Z4 ?_
  refine Zc hK63 ?_
  refine Zf ?_
  refine Zb 1 rfl ?_
  refine Za rfl rfl rfl (X8 rfl rfl) ?_
  refine Zb 1 rfl ?_
  refine Zg ?_
  exact X9 (n, (IntKind.wrap .i64 (v54 + 1)), (Vw v55 v54 (IntKind.wrap .i64 (r65 + 1))), (Vw v58 v54 0)) (by repeat (first | exact Sub.nil | refine Sub.cons rfl ?_)) ⟨hS, (Za7 k56), (Y8 hl57), (Za7 k59), (Y8 hl60), H⟩ (Nat.lt_succ_self _)
 replace H := Zp H hb
 refine X0 ?_
 refine Z9 ?_
 refine Z9 ?_
 refine Yy ?_
 refine Zc hK52 ?_
 refine Zd (fun K hK73 => ?_)
 refine Yn 9 [8] (fun i b => (i = 8 → b = b44 ∨ b = b36 ∨ b = b4 ∨ b = b2)) ⟨by kernel_rfl, by kernel_rfl⟩ hS (fun w hS hB => ?_)
 refine Zr [true, true, true, true, true, true] (by decide +kernel) PFC.h ?_
 refine LtK.put rfl rfl rfl (Ze Zbf rfl) ?_
 refine LtK.put rfl rfl rfl (Zh Vy rfl (Zhf _) hS hs9 trivial Zec) ?_
 refine LtK.put rfl rfl rfl (Ze Vo rfl) ?_
 refine LtK.put rfl rfl rfl (Zh Z3 rfl (Zhf _) hS hs9 trivial Yx) ?_
 refine LtK.put rfl rfl rfl (Zcn rfl rfl) ?_
 refine LtK.put rfl rfl rfl (Zi Yp rfl (Zhf _) hS hs0 trivial Xe) ?_
 refine LtK.nil ?_
 refine Z5 [false, false, false, false, false, false, true] 6 ⟨by decide, by kernel_rfl, by kernel_rfl⟩ rfl rfl ?_
 try dsimp only [Zw]
 obtain ⟨r74, hm75, H⟩ := bind_some H
 refine Zn rfl rfl rfl rfl (by kernel_rfl) rfl (Zaw r38.1 A40 c41 _ (Zhh k42 (hS.row_rd Y2) (hS.row_blk Y2)) hm75) ?_
 rintro e w ⟨rfl, hN⟩; refine ⟨_, rfl, ?_⟩; obtain ⟨hB, hS⟩ := hS.jn hN
 refine Zg ?_
 refine Z6 hB ?_
 refine Zr [false, false, false, false, false, false, false, true] (by decide +kernel) PFC.h ?_
 obtain ⟨e76, hi78, H⟩ := bind_some H
 obtain ⟨j77, hi78a, hi78b, hi78c⟩ := Y0 hi78
 refine LtK.put rfl rfl rfl (Xh Vh rfl rfl hi78a (Nat.lt_of_lt_of_eq hi78c hl60) (Rd.el (hS.row_rd Jy) Y6 hi78b)) ?_
 refine LtK.nil ?_
 refine Yk [false, false, false, false, false, false, false, false, true] 8 ⟨by decide, by kernel_rfl, by kernel_rfl⟩ rfl rfl ?_
 try dsimp only [Zw]
 refine Ze8 (a' := r74) (zs := (Vw v58 (IntKind.wrap .i64 (r7.id - 1)) r74)) Y6 rfl rfl rfl CellsOf.int hS ps6 (Rd.el (hS.row_rd Jy) Y6 hi78b) hi78a hi78b rfl Zeb (by kernel_rfl) rfl (fun w hS hB => ?_)
 refine Zg ?_
 refine Yb (hB.sub (fun b _ h => by have h0 : b = b44 ∨ b = b36 ∨ b = b4 ∨ b = b2 := (by simpa using h); rcases h0 with h0 | h0 | h0 | h0; (rw [h0]; exact hS.neRow 0 6 rfl rfl); (rw [h0]; exact hS.neRow 2 6 rfl rfl); (rw [h0]; exact hS.neRow 8 6 rfl rfl); (rw [h0]; exact hS.neRow 9 6 rfl rfl))) ?_
 refine Ye (by kernel_rfl) ?_
 refine Zc hK73 ?_
 refine Zd (fun K hK79 => ?_)
 refine Zf ?_
 refine Za rfl rfl rfl (Zi Zx rfl (Zhe _) hS hs9 trivial Zv) ?_
 refine Zl rfl rfl rfl CellsOf.agg hS ps8 Z8 (by kernel_rfl) rfl (fun w hS hB => ?_)
 refine Zg ?_
 refine Zc hK79 ?_
 refine Zk ?_
 refine Zm rfl (RV.cell rfl (Zt Zx hS hs8 Zv) RV.nil) rfl ?_
 obtain rfl := QJ H
 have hS := hS.front 7 rfl
 have hS := hS.front 7 rfl
 have hS := hS.front 7 rfl
 have hS := hS.front 7 rfl
 have hS := hS.front 5 rfl
 replace hS := hS.cut 5
 exact ⟨A40, c41, A13, c14, A17, c18, A21, c22, A25, c26, by rw [hl57, (Y8 hl60)]; rfl, k42, k15, k56, (Za7 k59), k27, hS.eqv (by rw [hl57, (Y8 hl60)]; rfl)⟩
theorem c_ref20_Others (x0 : Co) (x1 : Ms) (A0_ : OA) (c0_ : Nat) (A1_ : OA) (c1_ : Nat) (A2_ : OA) (c2_ : Nat) (A3_ : OA) (c3_ : Nat) (A4_ : OA) (c4_ : Nat) (A5_ : OA) (c5_ : Nat) (w0 : World) (s0_ : SlI w0 V3 A0_ c0_ x0.tuple.log) (s1_ : SlI w0 enO A1_ c1_ x0.votes) (s2_ : SlI w0 X2 A2_ c2_ x0.next) (s3_ : SlI w0 X2 A3_ c3_ x0.mtch) (s4_ : SlI w0 X2 A4_ c4_ x0.caps) (s5_ : SlI w0 V3 A5_ c5_ x1.entries) {r : List Ms} (H : Zct x0 x1 = some r) : Calls Tryz.prog 56 #[.agg #[.int .i64 x0.id, .int .i64 x0.n, .int .u8 x0.role, .int .i64 x0.binary, .int .i64 x0.tuple.snap.index, .int .i64 x0.tuple.snap.term, .int .i64 x0.tuple.snap.sum, .int .i64 x0.tuple.snap.level, .bool x0.tuple.snap.final, .slice A0_ x0.tuple.log.length c0_, .int .i64 x0.tuple.term, .int .i64 x0.tuple.vote, .int .i64 x0.commit, .int .i64 x0.applied.index, .int .i64 x0.applied.term, .int .i64 x0.applied.sum, .int .i64 x0.applied.level, .bool x0.applied.final, .slice A1_ x0.votes.length c1_, .slice A2_ x0.next.length c2_, .slice A3_ x0.mtch.length c3_, .slice A4_ x0.caps.length c4_], .agg #[.int .u8 x1.kind, .int .i64 x1.frm, .int .i64 x1.dst, .int .i64 x1.term, .int .i64 x1.cap, .int .i64 x1.last, .int .i64 x1.lastTerm, .int .i64 x1.commit, .bool x1.okk, .slice A5_ x1.entries.length c5_, .int .i64 x1.snap.index, .int .i64 x1.snap.term, .int .i64 x1.snap.sum, .int .i64 x1.snap.level, .bool x1.snap.final]] w0 fun e w' => ∃ (A0 : OA) (c0 : Nat) (q0 : List Mq), e = .returned (.slice A0 r.length c0) ∧ (r.length ≤ c0 ∧ c0 ≤ maxLen) ∧ q0.map Mq.m = r ∧ (∀ y ∈ q0, okQ y) ∧ St0 All w0 w' [.rd A0 (Yf enQ q0), .rds (q0.map subQ)] := by
 unfold Zct at H
 refine Ys Tryz.func56 rfl Tryz.ntmps56 rfl ?_
 have hS := St0.start All w0
 refine Zd (fun K hK1 => ?_)
 refine Zf ?_
 refine Z7 rfl rfl rfl CellsOf.agg hS (fun b2 w hS hB => ?_)
 refine Z7 rfl rfl rfl CellsOf.agg hS (fun b4 w hS hB => ?_)
 refine Zb 1 rfl ?_
 refine Zg ?_
 refine Zc hK1 ?_
 refine Zd (fun K hK6 => ?_)
 refine Zf ?_
 refine Zb 1 rfl ?_
 refine Zg ?_
 refine Zc hK6 ?_
 refine Zd (fun K hK7 => ?_)
 refine Zd (fun K hK8 => ?_)
 refine Zf ?_
 refine Zb 1 rfl ?_
 refine Zg ?_
 refine Zc hK8 ?_
 refine Yc ?_
 replace hS := hS.nilRds
 replace hS := hS.nilRow 32 15
 refine V7 (X := Nat × List Ms × OA × Nat × List Mq × Int) (fun x => (2, .pointer (some ⟨b2, 0, none⟩)) :: (3, .pointer (some ⟨b4, 0, none⟩)) :: (4, .slice none 0 0) :: (5, .slice x.2.2.1 x.2.1.length x.2.2.2.1) :: (6, .int .i64 x.2.2.2.2.2) :: []) (fun x w => St0 All w0 w (.row (.slice x.2.2.1 x.2.1.length x.2.2.2.1) 32 15 x.2.1.length (Yf enQ x.2.2.2.2.1) :: .rds (x.2.2.2.2.1.map subQ) :: .box b4 [.int .u8 x1.kind, .int .i64 x1.frm, .int .i64 x1.dst, .int .i64 x1.term, .int .i64 x1.cap, .int .i64 x1.last, .int .i64 x1.lastTerm, .int .i64 x1.commit, .bool x1.okk, .slice A5_ x1.entries.length c5_, .int .i64 x1.snap.index, .int .i64 x1.snap.term, .int .i64 x1.snap.sum, .int .i64 x1.snap.level, .bool x1.snap.final] 32 :: .box b2 [.int .i64 x0.id, .int .i64 x0.n, .int .u8 x0.role, .int .i64 x0.binary, .int .i64 x0.tuple.snap.index, .int .i64 x0.tuple.snap.term, .int .i64 x0.tuple.snap.sum, .int .i64 x0.tuple.snap.level, .bool x0.tuple.snap.final, .slice A0_ x0.tuple.log.length c0_, .int .i64 x0.tuple.term, .int .i64 x0.tuple.vote, .int .i64 x0.commit, .int .i64 x0.applied.index, .int .i64 x0.applied.term, .int .i64 x0.applied.sum, .int .i64 x0.applied.level, .bool x0.applied.final, .slice A1_ x0.votes.length c1_, .slice A2_ x0.next.length c2_, .slice A3_ x0.mtch.length c3_, .slice A4_ x0.caps.length c4_] 30 :: []) ∧ (x.2.1.length ≤ x.2.2.2.1 ∧ x.2.2.2.1 ≤ maxLen) ∧ (x.2.2.2.2.1.map Mq.m = x.2.1) ∧ (∀ y ∈ x.2.2.2.2.1, okQ y) ∧ Vt x0 x1 x.1 x.2.1 x.2.2.2.2.2 = some r) (fun x => x.1) (Xw, [], none, 0, ([] : List Mq), 1) (by repeat (first | exact Sub.nil | refine Sub.cons rfl ?_)) ⟨hS, ⟨Nat.le_refl _, Nat.zero_le _⟩, rfl, Yu, H⟩ ?_
 rintro ⟨n, v9, A10, c11, q13, v18⟩ w ⟨hS, k12, hq14, okq15, H⟩
 dsimp only at hS k12 hq14 okq15 H ⊢
 obtain _ | n := n
 ·have H0 : none = some r := H
  cases H0
 rw [Vt] at H
 refine Zd (fun K hK19 => ?_)
 refine Zd (fun K hK20 => ?_)
 refine Zf ?_
 refine Zb 1 rfl ?_
 refine Za rfl rfl rfl (Ze Vf rfl) ?_
 refine Za rfl rfl rfl (Zh Z3 rfl (Zhe _) hS hs3 trivial Xu) ?_
 refine Za rfl rfl rfl (Zdj rfl rfl) ?_
 refine Zb 1 rfl ?_
 refine Zq 12 rfl (fun hb => ?_) (fun hb => ?_)
 rotate_left
 ·replace H := Zp H hb
  refine Zb 3 rfl ?_
  refine Zg ?_
  refine Zc hK20 ?_
  refine Yg rfl rfl ?_
  refine X0 ?_
  refine Z9 ?_
  refine Z9 ?_
  refine Yy ?_
  refine Zc hK7 ?_
  refine Zd (fun K hK46 => ?_)
  refine Zf ?_
  refine Zb 2 rfl ?_
  refine Zg ?_
  refine Zc hK46 ?_
  refine Zk ?_
  refine Zm rfl (RV.tmp rfl RV.nil) rfl ?_
  obtain rfl := QJ H
  have hS := hS.front 1 rfl
  replace hS := hS.front 1 rfl
  replace hS := hS.weak Weak.rowRd
  replace hS := hS.cut 2
  exact ⟨A10, c11, q13, rfl, k12, hq14, okq15, hS⟩
 replace H := Zo H hb
 refine Zb 1 rfl ?_
 refine Za rfl rfl rfl (Zdj rfl rfl) ?_
 refine Zb 1 rfl ?_
 refine Zg ?_
 refine Zc hK20 ?_
 refine Z1 rfl (fun hb => ?_) (fun hb => ?_)
 rotate_left
 ·replace H := Zp H hb
  refine X0 ?_
  refine Z9 ?_
  refine Z9 ?_
  refine Yy ?_
  refine Zc hK7 ?_
  refine Zd (fun K hK45 => ?_)
  refine Zf ?_
  refine Zb 2 rfl ?_
  refine Zg ?_
  refine Zc hK45 ?_
  refine Zk ?_
  refine Zm rfl (RV.tmp rfl RV.nil) rfl ?_
  obtain rfl := QJ H
  have hS := hS.front 1 rfl
  replace hS := hS.front 1 rfl
  replace hS := hS.weak Weak.rowRd
  replace hS := hS.cut 2
  exact ⟨A10, c11, q13, rfl, k12, hq14, okq15, hS⟩
 replace H := Zo H hb
 refine Zs ?_
 refine Zc hK19 ?_
 refine Zd (fun K hK21 => ?_)
 refine Yc ?_
 refine Zd (fun K hK22 => ?_)
 refine Zd (fun K hK23 => ?_)
 refine Zf ?_
 refine Zb 1 rfl ?_
 refine Za rfl rfl rfl (Ze Vo rfl) ?_
 refine Za rfl rfl rfl (Zh Z3 rfl (Zhe _) hS hs3 trivial Yx) ?_
 refine Za rfl rfl rfl (Yr rfl rfl) ?_
 refine Zg ?_
 refine Zc hK23 ?_
 refine Z1 rfl (fun hb => ?_) (fun hb => ?_)
 ·replace H := Zo H hb
  refine X0 ?_
  refine Z9 ?_
  refine Yy ?_
  refine Zc hK21 ?_
  refine Zf ?_
  refine Zb 1 rfl ?_
  refine Za rfl rfl rfl (X8 rfl rfl) ?_
  refine Zb 1 rfl ?_
  refine Zg ?_
  exact X9 (n, v9, A10, c11, q13, (IntKind.wrap .i64 (v18 + 1))) (by repeat (first | exact Sub.nil | refine Sub.cons rfl ?_)) ⟨hS, k12, hq14, okq15, H⟩ (Nat.lt_succ_self _)
 replace H := Zp H hb
 refine Zs ?_
 refine Zc hK22 ?_
 refine Zd (fun K hK24 => ?_)
 refine Zf ?_
 refine Za rfl rfl rfl (Zi Va rfl (Zhe _) hS Xi trivial Xg) ?_
 refine Yd rfl rfl Jf hS (fun b25 w hS hB => ?_)
 refine Zl rfl rfl rfl CellsOf.agg hS ps0 st0_15 (by kernel_rfl) rfl (fun w hS hB => ?_)
 refine Zg ?_
 refine Zc hK24 ?_
 refine Zd (fun K hK27 => ?_)
 refine Zf ?_
 refine Zbj Xq rfl rfl hS (fun b28 w hS hB => ?_)
 refine Za rfl rfl rfl (Ze Zbg rfl) ?_
 refine Za rfl rfl rfl (Zh Vm rfl (Zhe _) hS Jq trivial Zfr) ?_
 obtain ⟨l30, hf31, H⟩ := bind_some H
 refine J1 (ys := x1.entries) Vj oc_enE em_24 (by decide) rfl rfl rfl rfl hS (fun _ => ps0) (hS.rd0 s5_.rd) hf31 (fun A32 c33 w k34 hS => ?_)
 refine Za rfl rfl rfl (Ze Zbg rfl) ?_
 refine Zl rfl rfl rfl CellsOf.slice hS ps1 st9_1 (by kernel_rfl) rfl (fun w hS hB => ?_)
 refine Zg ?_
 refine Zc hK27 ?_
 refine Zd (fun K hK35 => ?_)
 refine Yn 16 [9, 11, 13, 15] (fun i b => (i = 9 → b ≠ b25) ∧ (i = 11 → b ≠ b25) ∧ (i = 13 → b ≠ b25) ∧ (i = 15 → b ≠ b25)) ⟨by kernel_rfl, by kernel_rfl⟩ hS (fun w hS hB => ?_)
 refine Zr [true, true, false, false, false, false, false, false, true] (by decide +kernel) PFC.h ?_
 refine LtK.put rfl rfl rfl (Ze Vo rfl) ?_
 refine LtK.put rfl rfl rfl (Zh Z3 rfl (Zhf _) hS hs5 trivial Yx) ?_
 refine LtK.put rfl rfl rfl (Ze Zaf rfl) ?_
 refine LtK.nil ?_
 refine Y1 [false, false, true, true, true, true, true, true] [9, 11, 13] (fun b => b ≠ b25) (by decide +kernel) (by intro j hj b hb; simp only [List.mem_cons, List.not_mem_nil, or_false] at hj; (try rcases hj with rfl | rfl | rfl | rfl | rfl) <;> first | (simp [hb]; done) | simp_all) PFC.h ?_
 refine LtK.put rfl rfl rfl (Zy rfl) ?_
 refine LtK.put rfl rfl rfl (Ze Yq rfl) ?_
 refine LtK.put rfl rfl rfl (Ze Xl rfl) ?_
 refine LtK.put rfl rfl rfl (Zh Z3 rfl (Zhg _ _) hS hs5 (hS.ne 5 1 rfl rfl rfl) Vz) ?_
 refine LtK.put rfl rfl rfl (Ze Zdy rfl) ?_
 refine LtK.put rfl rfl rfl (Zh Z3 rfl (Zhg _ _) hS hs5 (hS.ne 5 1 rfl rfl rfl) Jb) ?_
 refine LtK.nil ?_
 refine Yk [false, false, false, false, false, false, false, false, false, true] 9 ⟨by decide, by kernel_rfl, by kernel_rfl⟩ rfl rfl ?_
 try dsimp only [Zw]
 refine Zl rfl rfl rfl CellsOf.int hS ps1 st1_1 (by kernel_rfl) rfl (fun w hS hB => ?_)
 refine Zg ?_
 refine Yb (hB.sub (fun _ _ h => by simpa using h)) ?_
 refine Zr [false, false, false, false, false, false, false, false, false, false, true] (by decide +kernel) PFC.h ?_
 refine LtK.put rfl rfl rfl (Ze Zdd rfl) ?_
 refine LtK.nil ?_
 refine Yk [false, false, false, false, false, false, false, false, false, false, false, true] 11 ⟨by decide, by kernel_rfl, by kernel_rfl⟩ rfl rfl ?_
 try dsimp only [Zw]
 refine Zl rfl rfl rfl CellsOf.int hS ps1 Zgz (by kernel_rfl) rfl (fun w hS hB => ?_)
 refine Zg ?_
 refine Yb (hB.sub (fun _ _ h => by simpa using h)) ?_
 refine Zr [false, false, false, false, false, false, false, false, false, false, false, false, true] (by decide +kernel) PFC.h ?_
 refine LtK.put rfl rfl rfl (Ze Js rfl) ?_
 refine LtK.nil ?_
 refine Yk [false, false, false, false, false, false, false, false, false, false, false, false, false, true] 13 ⟨by decide, by kernel_rfl, by kernel_rfl⟩ rfl rfl ?_
 try dsimp only [Zw]
 refine Zl rfl rfl rfl CellsOf.int hS ps1 st3_1 (by kernel_rfl) rfl (fun w hS hB => ?_)
 refine Zg ?_
 refine Yb (hB.sub (fun _ _ h => by simpa using h)) ?_
 refine Zr [false, false, false, false, false, false, false, false, false, false, false, false, false, false, true] (by decide +kernel) PFC.h ?_
 refine LtK.put rfl rfl rfl (Ze Zfw rfl) ?_
 refine LtK.nil ?_
 refine Yk [false, false, false, false, false, false, false, false, false, false, false, false, false, false, false, true] 15 ⟨by decide, by kernel_rfl, by kernel_rfl⟩ rfl rfl ?_
 try dsimp only [Zw]
 refine Zl rfl rfl rfl CellsOf.int hS ps1 st4_1 (by kernel_rfl) rfl (fun w hS hB => ?_)
 refine Zg ?_
 refine Yb (hB.sub (fun _ _ h => by simpa using h)) ?_
 refine Ye (by kernel_rfl) ?_
 refine Zc hK35 ?_
 refine Zf ?_
 refine Zb 1 rfl ?_
 refine Za rfl rfl rfl (Zi Va rfl (Zhe _) hS Y2 trivial Xg) ?_
 refine Ym (ps := [(0, .tmp 41)]) [.int .u8 x1.kind, .int .i64 x0.id, .int .i64 v18, .int .i64 x0.tuple.term, .int .i64 x0.binary, .int .i64 x1.last, .int .i64 x1.lastTerm, .int .i64 x1.commit, .bool x1.okk, .slice A32 l30.length c33, .int .i64 x1.snap.index, .int .i64 x1.snap.term, .int .i64 x1.snap.sum, .int .i64 x1.snap.level, .bool x1.snap.final] Vk Jf rfl rfl rfl rfl rfl (by kernel_rfl) hS (fun b36 w hS hB => ?_)
 obtain ⟨l38, hf39, H⟩ := bind_some H
 refine wpX_appendQ (l := v9) (q := q13) (y := ⟨(⟨x1.kind, x0.id, v18, x0.tuple.term, x0.binary, x1.last, x1.lastTerm, x1.commit, x1.okk, l30, x1.snap⟩ : Ms), A32, c33⟩) em_35 (by decide) rfl rfl rfl rfl hS hq14 (fun _ => ps3) (hS.box_rd hs0) hf39 (fun A40 c41 w k42 hS hq43 hB => ?_)
 have okq44 := okq_snoc okq15 (show okQ ⟨(⟨x1.kind, x0.id, v18, x0.tuple.term, x0.binary, x1.last, x1.lastTerm, x1.commit, x1.okk, l30, x1.snap⟩ : Ms), A32, c33⟩ from k34)
 replace hS := hS.front 4 rfl
 replace hS := hS.front 2 rfl
 replace hS := hS.weak Weak.rowRd
 replace hS := hS.absorbQ ⟨(⟨x1.kind, x0.id, v18, x0.tuple.term, x0.binary, x1.last, x1.lastTerm, x1.commit, x1.okk, l30, x1.snap⟩ : Ms), A32, c33⟩
 replace hS := hS.front 3 rfl
 refine Zb 1 rfl ?_
 refine Zg ?_
 refine Z4 ?_
 refine Zc hK21 ?_
 refine Zf ?_
 refine Zb 1 rfl ?_
 refine Za rfl rfl rfl (X8 rfl rfl) ?_
 refine Zb 1 rfl ?_
 refine Zg ?_
 exact X9 (n, l38, A40, c41, (q13 ++ [⟨(⟨x1.kind, x0.id, v18, x0.tuple.term, x0.binary, x1.last, x1.lastTerm, x1.commit, x1.okk, l30, x1.snap⟩ : Ms), A32, c33⟩]), (IntKind.wrap .i64 (v18 + 1))) (by repeat (first | exact Sub.nil | refine Sub.cons rfl ?_)) ⟨(hS.sub (List.Sublist.cons_cons _ (List.Sublist.cons_cons _ (List.Sublist.cons _ (List.Sublist.cons _ (List.Sublist.cons_cons _ (List.Sublist.cons_cons _ List.Sublist.slnil))))))), k42, hq43, okq44, H⟩ (Nat.lt_succ_self _)
theorem c_ref22_Timeout (x0 : Co) (A0_ : OA) (c0_ : Nat) (A1_ : OA) (c1_ : Nat) (A2_ : OA) (c2_ : Nat) (A3_ : OA) (c3_ : Nat) (A4_ : OA) (c4_ : Nat) (w0 : World) (s0_ : SlI w0 V3 A0_ c0_ x0.tuple.log) (s1_ : SlI w0 enO A1_ c1_ x0.votes) (s2_ : SlI w0 X2 A2_ c2_ x0.next) (s3_ : SlI w0 X2 A3_ c3_ x0.mtch) (s4_ : SlI w0 X2 A4_ c4_ x0.caps) {r : Co × List Ms} (H : V1 x0 = some r) : Calls Tryz.prog 10 #[.agg #[.int .i64 x0.id, .int .i64 x0.n, .int .u8 x0.role, .int .i64 x0.binary, .int .i64 x0.tuple.snap.index, .int .i64 x0.tuple.snap.term, .int .i64 x0.tuple.snap.sum, .int .i64 x0.tuple.snap.level, .bool x0.tuple.snap.final, .slice A0_ x0.tuple.log.length c0_, .int .i64 x0.tuple.term, .int .i64 x0.tuple.vote, .int .i64 x0.commit, .int .i64 x0.applied.index, .int .i64 x0.applied.term, .int .i64 x0.applied.sum, .int .i64 x0.applied.level, .bool x0.applied.final, .slice A1_ x0.votes.length c1_, .slice A2_ x0.next.length c2_, .slice A3_ x0.mtch.length c3_, .slice A4_ x0.caps.length c4_]] w0 fun e w' => ∃ (A0 : OA) (c0 : Nat) (A1 : OA) (c1 : Nat) (A2 : OA) (c2 : Nat) (A3 : OA) (c3 : Nat) (A4 : OA) (c4 : Nat) (A5 : OA) (c5 : Nat) (q5 : List Mq), e = .returned (.tuple #[.agg #[.int .i64 r.1.id, .int .i64 r.1.n, .int .u8 r.1.role, .int .i64 r.1.binary, .int .i64 r.1.tuple.snap.index, .int .i64 r.1.tuple.snap.term, .int .i64 r.1.tuple.snap.sum, .int .i64 r.1.tuple.snap.level, .bool r.1.tuple.snap.final, .slice A0 r.1.tuple.log.length c0, .int .i64 r.1.tuple.term, .int .i64 r.1.tuple.vote, .int .i64 r.1.commit, .int .i64 r.1.applied.index, .int .i64 r.1.applied.term, .int .i64 r.1.applied.sum, .int .i64 r.1.applied.level, .bool r.1.applied.final, .slice A1 r.1.votes.length c1, .slice A2 r.1.next.length c2, .slice A3 r.1.mtch.length c3, .slice A4 r.1.caps.length c4], .slice A5 r.2.length c5]) ∧ (r.1.tuple.log.length ≤ c0 ∧ c0 ≤ maxLen) ∧ (r.1.votes.length ≤ c1 ∧ c1 ≤ maxLen) ∧ (r.1.next.length ≤ c2 ∧ c2 ≤ maxLen) ∧ (r.1.mtch.length ≤ c3 ∧ c3 ≤ maxLen) ∧ (r.1.caps.length ≤ c4 ∧ c4 ≤ maxLen) ∧ (r.2.length ≤ c5 ∧ c5 ≤ maxLen) ∧ q5.map Mq.m = r.2 ∧ (∀ y ∈ q5, okQ y) ∧ St0 All w0 w' [.row (.slice A0 r.1.tuple.log.length c0) 53 3 r.1.tuple.log.length (Yf V3 r.1.tuple.log), .row (.slice A1 r.1.votes.length c1) 4 1 r.1.votes.length (Yf enO r.1.votes), .row (.slice A2 r.1.next.length c2) 3 1 r.1.next.length (Yf X2 r.1.next), .row (.slice A3 r.1.mtch.length c3) 3 1 r.1.mtch.length (Yf X2 r.1.mtch), .row (.slice A4 r.1.caps.length c4) 3 1 r.1.caps.length (Yf X2 r.1.caps), .rd A5 (Yf enQ q5), .rds (q5.map subQ)] := by
 unfold V1 at H
 refine Yh Tryz.func10 rfl Tryz.ntmps10 rfl ?_
 have hS := St0.start All w0
 refine Zd (fun K hK1 => ?_)
 refine Zf ?_
 refine Z7 rfl rfl rfl CellsOf.agg hS (fun b2 w hS hB => ?_)
 refine Yd rfl rfl Zbx hS (fun b4 w hS hB => ?_)
 refine Zb 1 rfl ?_
 refine Zg ?_
 refine Zc hK1 ?_
 refine Zd (fun K hK6 => ?_)
 refine Zf ?_
 refine Za rfl rfl rfl (Zi Zx rfl (Zhe _) hS Y2 trivial Zv) ?_
 obtain ⟨r7, hm8, H⟩ := bind_some H
 refine Zn rfl rfl rfl rfl (by kernel_rfl) rfl (Zea x0 A0_ c0_ A1_ c1_ A2_ c2_ A3_ c3_ A4_ c4_ _ (Zhh s0_.k (hS.rd0 s0_.rd) (hS.blk0 s0_.blk)) (Zhh s1_.k (hS.rd0 s1_.rd) (hS.blk0 s1_.blk)) (Zhh s2_.k (hS.rd0 s2_.rd) (hS.blk0 s2_.blk)) (Zhh s3_.k (hS.rd0 s3_.rd) (hS.blk0 s3_.blk)) (Zhh s4_.k (hS.rd0 s4_.rd) (hS.blk0 s4_.blk)) hm8) ?_
 rintro e w ⟨A9, c10, A13, c14, A17, c18, A21, c22, A25, c26, rfl, k11, k15, k19, k23, k27, hN⟩; refine ⟨_, rfl, ?_⟩; obtain ⟨hB, hS⟩ := hS.jn hN
 refine Zl rfl rfl rfl CellsOf.agg hS ps6 Z8 (by kernel_rfl) rfl (fun w hS hB => ?_)
 refine Zg ?_
 refine Zc hK6 ?_
 refine Zd (fun K hK29 => ?_)
 refine Zd (fun K hK30 => ?_)
 refine Zf ?_
 refine Za rfl rfl rfl (Zi Zx rfl (Zhe _) hS Jy trivial Zv) ?_
 obtain ⟨r31, hm32, H⟩ := bind_some H
 refine Zn rfl rfl rfl rfl (by kernel_rfl) rfl (Zdu r7 A9 c10 A13 c14 A17 c18 A21 c22 A25 c26 _ (Zhh k11 (hS.row_rd hs0) (hS.row_blk hs0)) (Zhh k15 (hS.row_rd Y2) (hS.row_blk Y2)) (Zhh k19 (hS.row_rd Xi) (hS.row_blk Xi)) (Zhh k23 (hS.row_rd hs3) (hS.row_blk hs3)) (Zhh k27 (hS.row_rd Jq) (hS.row_blk Jq)) hm32) ?_
 rintro e w ⟨rfl, hN⟩; refine ⟨_, rfl, ?_⟩; obtain ⟨hB, hS⟩ := hS.jn hN
 refine Za rfl rfl rfl (Yo rfl) ?_
 refine Zb 1 rfl ?_
 refine Zq 10 rfl (fun hb => ?_) (fun hb => ?_)
 ·replace H := Zo H hb
  refine Zb 10 rfl ?_
  refine Zg ?_
  refine Zc hK30 ?_
  refine Zu rfl rfl ?_
  refine Zd (fun K hK33 => ?_)
  refine Zf ?_
  refine Za rfl rfl rfl (Zi Zx rfl (Zhe _) hS Jy trivial Zv) ?_
  refine Zl rfl rfl rfl CellsOf.agg hS ps5 Z8 (by kernel_rfl) rfl (fun w hS hB => ?_)
  refine Zb 1 rfl ?_
  refine Zg ?_
  refine Zc hK33 ?_
  refine Zk ?_
  refine Zj ?_
  refine Zm rfl (RV.cell rfl (Zt Zx hS hs5 Zv) (RV.tmp rfl RV.nil)) rfl ?_
  obtain rfl := QJ H
  have hS := hS.nilRds
  replace hS := hS.nilRd
  have hS := hS.front 6 rfl
  have hS := hS.front 6 rfl
  have hS := hS.front 6 rfl
  have hS := hS.front 6 rfl
  have hS := hS.front 6 rfl
  replace hS := hS.cut 7
  exact ⟨A9, c10, A13, c14, A17, c18, A21, c22, A25, c26, none, 0, ([] : List Mq), rfl, k11, k15, k19, k23, k27, ⟨Nat.le_refl _, Nat.zero_le _⟩, rfl, Yu, hS⟩
 replace H := Zp H hb
 refine Za rfl rfl rfl (Ze Vv rfl) ?_
 refine Za rfl rfl rfl (Zh Zas rfl (Zhe _) hS Jy trivial Jt) ?_
 refine Za rfl rfl rfl (Yr rfl rfl) ?_
 refine Zb 2 rfl ?_
 refine Zq 15 rfl (fun hb => ?_) (fun hb => ?_)
 ·replace H := Zo H hb
  refine Zb 5 rfl ?_
  refine Zg ?_
  refine Zc hK30 ?_
  refine Zu rfl rfl ?_
  refine Zd (fun K hK34 => ?_)
  refine Zf ?_
  refine Za rfl rfl rfl (Zi Zx rfl (Zhe _) hS Jy trivial Zv) ?_
  refine Zl rfl rfl rfl CellsOf.agg hS ps5 Z8 (by kernel_rfl) rfl (fun w hS hB => ?_)
  refine Zb 1 rfl ?_
  refine Zg ?_
  refine Zc hK34 ?_
  refine Zk ?_
  refine Zj ?_
  refine Zm rfl (RV.cell rfl (Zt Zx hS hs5 Zv) (RV.tmp rfl RV.nil)) rfl ?_
  obtain rfl := QJ H
  have hS := hS.nilRds
  replace hS := hS.nilRd
  have hS := hS.front 6 rfl
  have hS := hS.front 6 rfl
  have hS := hS.front 6 rfl
  have hS := hS.front 6 rfl
  have hS := hS.front 6 rfl
  replace hS := hS.cut 7
  exact ⟨A9, c10, A13, c14, A17, c18, A21, c22, A25, c26, none, 0, ([] : List Mq), rfl, k11, k15, k19, k23, k27, ⟨Nat.le_refl _, Nat.zero_le _⟩, rfl, Yu, hS⟩
 replace H := Zp H hb
 refine Za rfl rfl rfl (Ze Yq rfl) ?_
 refine Za rfl rfl rfl (Ze Xl rfl) ?_
 refine Za rfl rfl rfl (Zh Z3 rfl (Zhe _) hS Jy trivial Vz) ?_
 refine Za rfl rfl rfl (Zcz rfl rfl) ?_
 refine Zb 1 rfl ?_
 refine Zg ?_
 refine Zc hK30 ?_
 refine Z1 rfl (fun hb => ?_) (fun hb => ?_)
 ·replace H := Zo H hb
  refine Zd (fun K hK35 => ?_)
  refine Zf ?_
  refine Za rfl rfl rfl (Zi Zx rfl (Zhe _) hS Jy trivial Zv) ?_
  refine Zl rfl rfl rfl CellsOf.agg hS ps5 Z8 (by kernel_rfl) rfl (fun w hS hB => ?_)
  refine Zb 1 rfl ?_
  refine Zg ?_
  refine Zc hK35 ?_
  refine Zk ?_
  refine Zj ?_
  refine Zm rfl (RV.cell rfl (Zt Zx hS hs5 Zv) (RV.tmp rfl RV.nil)) rfl ?_
  obtain rfl := QJ H
  have hS := hS.nilRds
  replace hS := hS.nilRd
  have hS := hS.front 6 rfl
  have hS := hS.front 6 rfl
  have hS := hS.front 6 rfl
  have hS := hS.front 6 rfl
  have hS := hS.front 6 rfl
  replace hS := hS.cut 7
  exact ⟨A9, c10, A13, c14, A17, c18, A21, c22, A25, c26, none, 0, ([] : List Mq), rfl, k11, k15, k19, k23, k27, ⟨Nat.le_refl _, Nat.zero_le _⟩, rfl, Yu, hS⟩
 replace H := Zp H hb
 refine Zs ?_
 refine Zc hK29 ?_
 refine Zd (fun K hK36 => ?_)
 refine Zf ?_
 refine Za rfl rfl rfl (Ze Yq rfl) ?_
 refine Za rfl rfl rfl (Zi Yp rfl (Zhe _) hS Jy trivial Zbt) ?_
 refine Za rfl rfl rfl (Ze Yq rfl) ?_
 refine Za rfl rfl rfl (Ze Xl rfl) ?_
 refine Za rfl rfl rfl (Zh Z3 rfl (Zhe _) hS Jy trivial Vz) ?_
 refine Za rfl rfl rfl (X8 rfl rfl) ?_
 refine Za rfl rfl rfl (Ze Vo rfl) ?_
 refine Za rfl rfl rfl (Zh Z3 rfl (Zhe _) hS Jy trivial Yx) ?_
 obtain ⟨r37, hm38, H⟩ := bind_some H
 refine Zn rfl rfl rfl rfl (by kernel_rfl) rfl (Zfv r7.tuple (IntKind.wrap .i64 (r7.tuple.term + 1)) r7.id A9 c10 _ (Zhh k11 (hS.row_rd hs0) (hS.row_blk hs0)) hm38) ?_
 rintro e w ⟨A39, c40, rfl, k41, hN⟩; refine ⟨_, rfl, ?_⟩; obtain ⟨hB, hS⟩ := hS.jn hN
 refine Zb 1 rfl ?_
 refine Za rfl rfl rfl (Z0 rfl rfl) ?_
 refine Za rfl rfl rfl (Z0 rfl rfl) ?_
 refine Za rfl rfl rfl (Ze Yq rfl) ?_
 refine Zl rfl rfl rfl CellsOf.agg hS ps7 st4_8 (by kernel_rfl) rfl (fun w hS hB => ?_)
 refine Zg ?_
 refine Zc hK36 ?_
 refine Zd (fun K hK43 => ?_)
 refine Zf ?_
 refine Za rfl rfl rfl (Ze Vv rfl) ?_
 refine Zl rfl rfl rfl CellsOf.int hS ps7 Zgz (by kernel_rfl) rfl (fun w hS hB => ?_)
 refine Zg ?_
 refine Zc hK43 ?_
 refine Zd (fun K hK44 => ?_)
 refine Zf ?_
 refine Za rfl rfl rfl (Ze Vf rfl) ?_
 refine Za rfl rfl rfl (Zh Z3 rfl (Zhe _) hS hs7 trivial Xu) ?_
 obtain ⟨l45, hm46, H⟩ := bind_some H
 refine Zg0 V5 em_27 rfl (by decide) rfl rfl rfl rfl hS hm46 (fun A47 c48 w k49 hS hB => ?_)
 refine Za rfl rfl rfl (Ze Vd rfl) ?_
 refine Zl rfl rfl rfl CellsOf.slice hS ps8 st18_1 (by kernel_rfl) rfl (fun w hS hB => ?_)
 refine Zg ?_
 refine Zc hK44 ?_
 refine Zd (fun K hK51 => ?_)
 refine Zf ?_
 refine Za rfl rfl rfl (Ze Vd rfl) ?_
 refine Za rfl rfl rfl (Zh Zc1 rfl (Zhe _) hS hs8 trivial Zba) ?_
 refine Za rfl rfl rfl (Ze Vo rfl) ?_
 refine Za rfl rfl rfl (Zh Z3 rfl (Zhe _) hS hs8 trivial Yx) ?_
 refine Za rfl rfl rfl (Zcn rfl rfl) ?_
 obtain ⟨e52, hi54, H⟩ := bind_some H
 obtain ⟨j53, hi54a, hi54b, hi54c⟩ := Y0 hi54
 refine Za rfl rfl rfl (Xh Zbs rfl rfl hi54a hi54c (Rd.el (hS.row_rd hs0) V5 hi54b)) ?_
 refine Zcd (a' := true) (zs := (Vw l45 (IntKind.wrap .i64 (r7.id - 1)) true)) V5 rfl rfl rfl CellsOf.bool hS ps0 (Rd.el (hS.row_rd hs0) V5 hi54b) hi54a hi54b rfl Zeb (by kernel_rfl) rfl (fun w hS => ?_)
 refine Zg ?_
 refine Zc hK51 ?_
 refine Zd (fun K hK55 => ?_)
 refine Yn 8 [7] (fun i b => (i = 7 → b = b4 ∨ b = b2)) ⟨by kernel_rfl, by kernel_rfl⟩ hS (fun w hS hB => ?_)
 refine wpRF_start [⟨6, 4, 32, [.int .u8 0, .int .i64 0, .int .i64 0, .int .i64 0, .int .i64 0, .int .i64 0, .int .i64 0, .int .i64 0, .bool false, .slice none 0 0, .int .i64 0, .int .i64 0, .int .i64 0, .int .i64 0, .bool false]⟩] (.cons rfl Jf rfl rfl rfl .nil) hS (fun hok => ?_)
 dsimp only [List.cons_append, List.nil_append]
 refine Zbm [true, true, false, true] [] (fun _ => True) (by decide +kernel) (fun _ h => by cases h) PFC.h (fun X Y tk ht w hS => ?_)
 refine LtK.put rfl rfl rfl (Ze Yq rfl) ?_
 refine LtK.put rfl rfl rfl (Zi Yp rfl (Zhg _ _) hS hs8 trivial Zbt) ?_
 refine LtK.put rfl rfl rfl (Zi Zx rfl (Zhg _ _) hS hs8 trivial Zv) ?_
 refine Zgw ht hS (by repeat (first | exact App.nil | apply App.cons)) (by repeat (first | exact App.nil | apply App.cons)) ?_
 dsimp only [List.cons_append, List.nil_append]
 refine Zet [false, false, true] 2 hok ⟨by decide, by decide +kernel, by decide, by decide⟩ rfl rfl (fun _ => rfl) (fun _ => rfl) rfl (hend_of (by decide +kernel)) (fun X Y tk ht w hS => ?_)
 try dsimp only [Zw]
 obtain ⟨r56, hm57, H⟩ := bind_some H
 refine Zn rfl rfl rfl rfl (by kernel_rfl) rfl (Zaw r37.1 A39 c40 _ (Zhh k41 (hS.row_rd Y2) (hS.row_blk Y2)) hm57) ?_
 rintro e w ⟨rfl, hN⟩; refine ⟨_, rfl, ?_⟩; obtain ⟨hB, hS⟩ := hS.jn hN
 refine Zg ?_
 refine Zev ht hS hB (by repeat (first | exact App.nil | apply App.cons)) (by repeat (first | exact App.nil | apply App.cons)) ?_
 dsimp only [List.cons_append, List.nil_append]
 refine Zet [false, false, false, false, true] 4 hok ⟨by decide, by decide +kernel, by decide, by decide⟩ rfl rfl (fun _ => rfl) (fun _ => rfl) rfl (hend_of (by decide +kernel)) (fun X Y tk ht w hS => ?_)
 try dsimp only [Zw]
 obtain ⟨r58, hm59, H⟩ := bind_some H
 refine Zn rfl rfl rfl rfl (by kernel_rfl) (by rw [(Y8 rfl)]; rfl) (Zg4 (⟨r7.id, r7.n, 1, r7.binary, r37.1, r7.commit, r7.applied, (Vw l45 (IntKind.wrap .i64 (r7.id - 1)) true), r7.next, r7.mtch, r7.caps⟩ : Co) A39 c40 A47 c48 A17 c18 A21 c22 A25 c26 _ (Zhh k41 (hS.row_rd Y2) (hS.row_blk Y2)) (Zhh (Za7 k49) (hS.row_rd hs0) (hS.row_blk hs0)) (Zhh k19 (hS.row_rd Jq) (hS.row_blk Jq)) (Zhh k23 (hS.row_rd hs5) (hS.row_blk hs5)) (Zhh k27 (hS.row_rd Jy) (hS.row_blk Jy)) hm59) ?_
 rintro e w ⟨rfl, hN⟩; refine ⟨_, rfl, ?_⟩; obtain ⟨hB, hS⟩ := hS.jn hN
 refine Zg ?_
 refine Zev ht hS hB (by repeat (first | exact App.nil | apply App.cons)) (by repeat (first | exact App.nil | apply App.cons)) ?_
 dsimp only [List.cons_append, List.nil_append]
 refine Zbm [false, false, false, false, false, true] [] (fun _ => True) (by decide +kernel) (fun _ h => by cases h) PFC.h (fun X Y tk ht w hS => ?_)
 refine LtK.put rfl rfl rfl (Xn (cells := [.int .u8 1, .int .i64 0, .int .i64 0, .int .i64 0, .int .i64 0, .int .i64 r56, .int .i64 r58, .int .i64 0, .bool false, .slice none 0 0, .int .i64 0, .int .i64 0, .int .i64 0, .int .i64 0, .bool false]) rfl (by kernel_rfl)) ?_
 refine Zgw ht hS (by repeat (first | exact App.nil | apply App.cons)) (by repeat (first | exact App.nil | apply App.cons)) ?_
 dsimp only [List.cons_append, List.nil_append]
 refine wpRF_done hok (by decide) (by decide +kernel) (fun _ => rfl) (fun _ => rfl) rfl (fun tk htk w hS => ?_)
 obtain ⟨b60, tkb60, rfl, htk62⟩ := tk_cons htk
 obtain rfl := tk_nil htk62
 dsimp only [tkH, tkL, List.map] at hS ⊢
 refine Yk [false, false, false, false, false, false, false, true] 7 ⟨by decide, by kernel_rfl, by kernel_rfl⟩ rfl rfl ?_
 try dsimp only [Zw]
 refine Zl rfl rfl rfl CellsOf.agg hS ps9 st0_15 (by kernel_rfl) rfl (fun w hS hB => ?_)
 refine Zg ?_
 refine Yb (hB.sub (fun b _ h => by have h0 : b = b4 ∨ b = b2 := (by simpa using h); rcases h0 with h0 | h0; (rw [h0]; exact hS.ne 7 9 rfl rfl rfl); (rw [h0]; exact hS.ne 8 9 rfl rfl rfl))) ?_
 refine Ye (by kernel_rfl) ?_
 refine Zc hK55 ?_
 refine Zd (fun K hK63 => ?_)
 refine Zd (fun K hK64 => ?_)
 refine Zf ?_
 refine Za rfl rfl rfl (Ze Vd rfl) ?_
 refine Za rfl rfl rfl (Zh Zc1 rfl (Zhe _) hS hs8 trivial Zba) ?_
 obtain ⟨r65, hm66, H⟩ := bind_some H
 refine Zn rfl rfl rfl rfl (by kernel_rfl) (by rw [(Y8 rfl)]; rfl) (c_ref22_Half (Vw l45 (IntKind.wrap .i64 (r7.id - 1)) true) A47 c48 _ (Zhh (Za7 k49) (hS.row_rd hs0) (hS.row_blk hs0)) hm66) ?_
 rintro e w ⟨rfl, hN⟩; refine ⟨_, rfl, ?_⟩; obtain ⟨hB, hS⟩ := hS.jn hN
 refine Zg ?_
 refine Zc hK64 ?_
 refine Z1 rfl (fun hb => ?_) (fun hb => ?_)
 ·replace H := Zo H hb
  refine Zd (fun K hK67 => ?_)
  refine Zf ?_
  refine Za rfl rfl rfl (Zi Zx rfl (Zhe _) hS hs8 trivial Zv) ?_
  obtain ⟨r68, hm69, H⟩ := bind_some H
  refine Zn rfl rfl rfl rfl (by kernel_rfl) (by rw [(Y8 rfl)]; rfl) (c_ref22_Lead (⟨r7.id, r7.n, 1, r7.binary, r37.1, r7.commit, r7.applied, (Vw l45 (IntKind.wrap .i64 (r7.id - 1)) true), r7.next, r7.mtch, r7.caps⟩ : Co) A39 c40 A47 c48 A17 c18 A21 c22 A25 c26 _ (Zhh k41 (hS.row_rd Y2) (hS.row_blk Y2)) (Zhh (Za7 k49) (hS.row_rd hs0) (hS.row_blk hs0)) (Zhh k19 (hS.row_rd Jq) (hS.row_blk Jq)) (Zhh k23 (hS.row_rd hs5) (hS.row_blk hs5)) (Zhh k27 (hS.row_rd Jy) (hS.row_blk Jy)) hm69) ?_
  rintro e w ⟨A70, c71, A74, c75, A78, c79, A82, c83, A86, c87, rfl, k72, k76, k80, k84, k88, hN⟩; refine ⟨_, rfl, ?_⟩; obtain ⟨hB, hS⟩ := hS.jn hN
  refine Zl rfl rfl rfl CellsOf.agg hS ps12 Z8 (by kernel_rfl) rfl (fun w hS hB => ?_)
  refine Zb 1 rfl ?_
  refine Zg ?_
  refine Zc hK67 ?_
  refine Zk ?_
  refine Zj ?_
  refine Zm rfl (RV.cell rfl (Zt Zx hS Jc Zv) (RV.tmp rfl RV.nil)) rfl ?_
  obtain rfl := QJ H
  have hS := hS.nilRds
  replace hS := hS.nilRd
  have hS := hS.front 6 rfl
  have hS := hS.front 6 rfl
  have hS := hS.front 6 rfl
  have hS := hS.front 6 rfl
  have hS := hS.front 6 rfl
  replace hS := hS.cut 7
  exact ⟨A70, c71, A74, c75, A78, c79, A82, c83, A86, c87, none, 0, ([] : List Mq), rfl, k72, k76, k80, k84, k88, ⟨Nat.le_refl _, Nat.zero_le _⟩, rfl, Yu, hS⟩
 replace H := Zp H hb
 refine Zs ?_
 refine Zc hK63 ?_
 refine Zd (fun K hK90 => ?_)
 refine Yn 6 [4] (fun i b => (i = 4 → b ≠ b4)) ⟨by kernel_rfl, by kernel_rfl⟩ hS (fun w hS hB => ?_)
 refine Zr [true] (by decide +kernel) PFC.h ?_
 refine LtK.put rfl rfl rfl (Zi Zx rfl (Zhf _) hS hs8 trivial Zv) ?_
 refine LtK.nil ?_
 refine Y1 [false, true, true] [4] (fun b => b ≠ b4) (by decide +kernel) (by intro j hj b hb; simp only [List.mem_cons, List.not_mem_nil, or_false] at hj; (try rcases hj with rfl | rfl | rfl | rfl | rfl) <;> first | (simp [hb]; done) | simp_all) PFC.h ?_
 refine LtK.put rfl rfl rfl (Zi Zx rfl (Zhg _ _) hS hs8 (hS.ne 8 7 rfl rfl rfl) Zv) ?_
 refine LtK.put rfl rfl rfl (Zi Va rfl (Zhg _ _) hS hs9 (hS.ne 9 7 rfl rfl rfl) Xg) ?_
 refine LtK.nil ?_
 refine Z5 [false, false, false, true] 3 ⟨by decide, by kernel_rfl, by kernel_rfl⟩ rfl rfl ?_
 try dsimp only [Zw]
 obtain ⟨r91, hm92, H⟩ := bind_some H
 refine Zn rfl rfl rfl rfl (by kernel_rfl) (by rw [(Y8 rfl)]; rfl) (c_ref20_Others (⟨r7.id, r7.n, 1, r7.binary, r37.1, r7.commit, r7.applied, (Vw l45 (IntKind.wrap .i64 (r7.id - 1)) true), r7.next, r7.mtch, r7.caps⟩ : Co) (⟨1, 0, 0, 0, 0, r56, r58, 0, false, [], (⟨0, 0, 0, 0, false⟩ : St)⟩ : Ms) A39 c40 A47 c48 A17 c18 A21 c22 A25 c26 none 0 _ (Zhh k41 (hS.row_rd Y2) (hS.row_blk Y2)) (Zhh (Za7 k49) (hS.row_rd hs0) (hS.row_blk hs0)) (Zhh k19 (hS.row_rd Jq) (hS.row_blk Jq)) (Zhh k23 (hS.row_rd hs5) (hS.row_blk hs5)) (Zhh k27 (hS.row_rd Jy) (hS.row_blk Jy)) (SlI.nil _ _) hm92) ?_
 rintro e w ⟨A93, c94, q97, rfl, k95, hq98, okq99, hN⟩; refine ⟨_, rfl, ?_⟩; obtain ⟨hB, hS⟩ := hS.jn hN
 refine Zg ?_
 refine Z6 hB ?_
 refine Yk [false, false, false, false, true] 4 ⟨by decide, by kernel_rfl, by kernel_rfl⟩ rfl rfl ?_
 try dsimp only [Zw]
 refine Zl rfl rfl rfl CellsOf.agg hS ps9 Z8 (by kernel_rfl) rfl (fun w hS hB => ?_)
 refine Zg ?_
 refine Yb (hB.sub (fun _ _ h => by simpa using h)) ?_
 refine Zr [false, false, false, false, false, true] (by decide +kernel) PFC.h ?_
 refine LtK.put rfl rfl rfl (Z2 rfl) ?_
 refine LtK.nil ?_
 refine Ye (by kernel_rfl) ?_
 refine Zc hK90 ?_
 refine Zk ?_
 refine Zm rfl (RV.cell rfl (Zt Zx hS hs9 Zv) (RV.tmp rfl RV.nil)) rfl ?_
 obtain rfl := QJ H
 have hS := hS.front 1 rfl
 replace hS := hS.front 1 rfl
 have hS := hS.front 8 rfl
 have hS := hS.front 8 rfl
 have hS := hS.front 8 rfl
 have hS := hS.front 5 rfl
 have hS := hS.front 6 rfl
 replace hS := hS.cut 7
 exact ⟨A39, c40, A47, c48, A17, c18, A21, c22, A25, c26, A93, c94, q97, by rw [(Y8 rfl)]; rfl, k41, (Za7 k49), k19, k23, k27, k95, hq98, okq99, hS.eqv (by rw [(Y8 rfl)]; rfl)⟩
theorem c_ref06_Same (x0 : List En) (x1 : List En) (A0_ : OA) (c0_ : Nat) (A1_ : OA) (c1_ : Nat) (w0 : World) (s0_ : SlI w0 V3 A0_ c0_ x0) (s1_ : SlI w0 V3 A1_ c1_ x1) {r : Bool} (H : Zdg x0 x1 = some r) : Calls Tryz.prog 44 #[.slice A0_ x0.length c0_, .slice A1_ x1.length c1_] w0 fun e w' => e = .returned (.bool r) ∧ St0 All w0 w' [] := by
 unfold Zdg at H
 refine Ys Tryz.func44 rfl Tryz.ntmps44 rfl ?_
 have hS := St0.start All w0
 refine Zd (fun K hK1 => ?_)
 refine Zf ?_
 refine Zb 1 rfl ?_
 refine Zg ?_
 refine Zc hK1 ?_
 refine Zd (fun K hK2 => ?_)
 refine Zd (fun K hK3 => ?_)
 refine Zf ?_
 refine Zb 1 rfl ?_
 refine Za rfl rfl rfl (Yz Xq rfl) ?_
 refine Zb 1 rfl ?_
 refine Za rfl rfl rfl (Yz Xq rfl) ?_
 refine Za rfl rfl rfl (Xm rfl rfl) ?_
 refine Zg ?_
 refine Zc hK3 ?_
 refine Z1 rfl (fun hb => ?_) (fun hb => ?_)
 ·replace H := Zo H hb
  refine Zd (fun K hK4 => ?_)
  refine Zf ?_
  refine Zb 1 rfl ?_
  refine Zg ?_
  refine Zc hK4 ?_
  refine Zk ?_
  refine Zj ?_
  refine Zm rfl (RV.tmp rfl RV.nil) rfl ?_
  obtain rfl := QJ H
  replace hS := hS.cut 0
  exact ⟨rfl, hS⟩
 replace H := Zp H hb
 refine Zs ?_
 refine Zc hK2 ?_
 refine Zd (fun K hK5 => ?_)
 refine Zd (fun K hK6 => ?_)
 refine Zf ?_
 refine Zb 1 rfl ?_
 refine Zg ?_
 refine Zc hK6 ?_
 refine Yc ?_
 refine V7 (X := Nat × Bool × Int) (fun x => (0, .slice A0_ x0.length c0_) :: (1, .slice A1_ x1.length c1_) :: (4, .bool x.2.1) :: (5, .int .i64 x.2.2) :: []) (fun x w => St0 All w0 w ([]) ∧ Zam x0 x1 x.1 x.2.1 x.2.2 = some r) (fun x => x.1) (Xw, false, 0) (by repeat (first | exact Sub.nil | refine Sub.cons rfl ?_)) ⟨hS, H⟩ ?_
 rintro ⟨n, v7, v8⟩ w ⟨hS, H⟩
 dsimp only at hS H ⊢
 obtain _ | n := n
 ·have H0 : none = some r := H
  cases H0
 rw [Zam] at H
 refine Zd (fun K hK9 => ?_)
 refine Zd (fun K hK10 => ?_)
 refine Zf ?_
 refine Zb 2 rfl ?_
 refine Za rfl rfl rfl (Yz Xq rfl) ?_
 refine Za rfl rfl rfl (Xk rfl rfl) ?_
 refine Zg ?_
 refine Zc hK10 ?_
 refine Z1 rfl (fun hb => ?_) (fun hb => ?_)
 rotate_left
 ·replace H := Zp H hb
  refine X0 ?_
  refine Z9 ?_
  refine Z9 ?_
  refine Yy ?_
  refine Zc hK5 ?_
  refine Zd (fun K hK20 => ?_)
  refine Zf ?_
  refine Zb 1 rfl ?_
  refine Zg ?_
  refine Zc hK20 ?_
  refine Zk ?_
  refine Zm rfl (RV.tmp rfl RV.nil) rfl ?_
  obtain rfl := QJ H
  replace hS := hS.cut 0
  exact ⟨rfl, hS⟩
 replace H := Zo H hb
 refine Zs ?_
 refine Zc hK9 ?_
 refine Zd (fun K hK11 => ?_)
 refine Yc ?_
 refine Zd (fun K hK12 => ?_)
 refine Yn 9 [] (fun _ _ => True) ⟨by kernel_rfl, by kernel_rfl⟩ hS (fun w hS hB => ?_)
 refine Zr [true, true, true, true, true, true, true, true, true] (by decide +kernel) PFC.h ?_
 refine LtK.put rfl rfl rfl (Zy rfl) ?_
 refine LtK.put rfl rfl rfl (Zy rfl) ?_
 obtain ⟨e13, hi15, H⟩ := bind_some H
 obtain ⟨j14, hi15a, hi15b, hi15c⟩ := Y0 hi15
 refine LtK.put rfl rfl rfl (Xh Xq rfl rfl hi15a hi15c (Rd.el (hS.rd0 s0_.rd) Vj hi15b)) ?_
 refine LtK.put rfl rfl rfl (Zdz Zbw rfl (Zhf _) (Rd.el (hS.rd0 s0_.rd) Vj hi15b) Zep) ?_
 refine LtK.put rfl rfl rfl (Zy rfl) ?_
 refine LtK.put rfl rfl rfl (Zy rfl) ?_
 obtain ⟨e16, hi18, H⟩ := bind_some H
 obtain ⟨j17, hi18a, hi18b, hi18c⟩ := Y0 hi18
 refine LtK.put rfl rfl rfl (Xh Xq rfl rfl hi18a hi18c (Rd.el (hS.rd0 s1_.rd) Vj hi18b)) ?_
 refine LtK.put rfl rfl rfl (Zdz Zbw rfl (Zhf _) (Rd.el (hS.rd0 s1_.rd) Vj hi18b) Zep) ?_
 refine LtK.put rfl rfl rfl (yv_neqS (by kernel_rfl) rfl rfl (eqT_53 _ _ _ _ _ _)) ?_
 refine LtK.nil ?_
 refine Ye (by kernel_rfl) ?_
 refine Zc hK12 ?_
 refine Z1 rfl (fun hb => ?_) (fun hb => ?_)
 rotate_left
 ·replace H := Zp H hb
  refine Zs ?_
  refine Z4 ?_
  refine Zc hK11 ?_
  refine Zf ?_
  refine Zb 1 rfl ?_
  refine Za rfl rfl rfl (X8 rfl rfl) ?_
  refine Zb 1 rfl ?_
  refine Zg ?_
  exact X9 (n, v7, (IntKind.wrap .i64 (v8 + 1))) (by repeat (first | exact Sub.nil | refine Sub.cons rfl ?_)) ⟨hS, H⟩ (Nat.lt_succ_self _)
 replace H := Zo H hb
 refine Zd (fun K hK19 => ?_)
 refine Zf ?_
 refine Zb 1 rfl ?_
 refine Zg ?_
 refine Zc hK19 ?_
 refine Zk ?_
 refine Zz ?_
 refine Zj ?_
 refine Zj ?_
 refine Zz ?_
 refine Zj ?_
 refine Zm rfl (RV.tmp rfl RV.nil) rfl ?_
 obtain rfl := QJ H
 replace hS := hS.cut 0
 exact ⟨rfl, hS⟩
theorem c_ref12_Same (x0 : Tu) (x1 : Tu) (A0_ : OA) (c0_ : Nat) (A1_ : OA) (c1_ : Nat) (w0 : World) (s0_ : SlI w0 V3 A0_ c0_ x0.log) (s1_ : SlI w0 V3 A1_ c1_ x1.log) {r : Bool} (H : Zeh x0 x1 = some r) : Calls Tryz.prog 57 #[.agg #[.int .i64 x0.snap.index, .int .i64 x0.snap.term, .int .i64 x0.snap.sum, .int .i64 x0.snap.level, .bool x0.snap.final, .slice A0_ x0.log.length c0_, .int .i64 x0.term, .int .i64 x0.vote], .agg #[.int .i64 x1.snap.index, .int .i64 x1.snap.term, .int .i64 x1.snap.sum, .int .i64 x1.snap.level, .bool x1.snap.final, .slice A1_ x1.log.length c1_, .int .i64 x1.term, .int .i64 x1.vote]] w0 fun e w' => e = .returned (.bool r) ∧ St0 All w0 w' [] := by
 unfold Zeh at H
 refine Ys Tryz.func57 rfl Tryz.ntmps57 rfl ?_
 have hS := St0.start All w0
 refine Zd (fun K hK1 => ?_)
 refine Zf ?_
 refine Z7 rfl rfl rfl CellsOf.agg hS (fun b2 w hS hB => ?_)
 refine Z7 rfl rfl rfl CellsOf.agg hS (fun b4 w hS hB => ?_)
 refine Zb 1 rfl ?_
 refine Zg ?_
 refine Zc hK1 ?_
 refine Zd (fun K hK6 => ?_)
 refine Zf ?_
 refine Za rfl rfl rfl (Ze Xy rfl) ?_
 refine Za rfl rfl rfl (Zi Y3 rfl (Zhe _) hS Y2 trivial Jh) ?_
 refine Za rfl rfl rfl (Ze Xy rfl) ?_
 refine Za rfl rfl rfl (Zi Y3 rfl (Zhe _) hS hs0 trivial Jh) ?_
 refine Za rfl rfl rfl (Zal (by kernel_rfl) rfl rfl (Za8 _ _ _ _ _ _ _ _ _ _)) ?_
 refine Zb 1 rfl ?_
 refine Zq 10 rfl (fun hb => ?_) (fun hb => ?_)
 rotate_left
 ·replace H := Zp H hb
  refine Zb 21 rfl ?_
  refine Zg ?_
  refine Zc hK6 ?_
  refine Zk ?_
  refine Zm rfl (RV.tmp rfl RV.nil) rfl ?_
  obtain rfl := QJ H
  replace hS := hS.cut 0
  exact ⟨rfl, hS⟩
 replace H := Zo H hb
 refine Za rfl rfl rfl (Ze Xl rfl) ?_
 refine Za rfl rfl rfl (Zh Z3 rfl (Zhe _) hS Y2 trivial Ze9) ?_
 refine Za rfl rfl rfl (Ze Xl rfl) ?_
 refine Za rfl rfl rfl (Zh Z3 rfl (Zhe _) hS hs0 trivial Ze9) ?_
 refine Za rfl rfl rfl (Yr rfl rfl) ?_
 refine Zb 2 rfl ?_
 refine Zq 17 rfl (fun hb => ?_) (fun hb => ?_)
 rotate_left
 ·replace H := Zp H hb
  refine Zb 14 rfl ?_
  refine Zg ?_
  refine Zc hK6 ?_
  refine Zk ?_
  refine Zm rfl (RV.tmp rfl RV.nil) rfl ?_
  obtain rfl := QJ H
  replace hS := hS.cut 0
  exact ⟨rfl, hS⟩
 replace H := Zo H hb
 refine Za rfl rfl rfl (Ze Vp rfl) ?_
 refine Za rfl rfl rfl (Zh Z3 rfl (Zhe _) hS Y2 trivial sg7_1) ?_
 refine Za rfl rfl rfl (Ze Vp rfl) ?_
 refine Za rfl rfl rfl (Zh Z3 rfl (Zhe _) hS hs0 trivial sg7_1) ?_
 refine Za rfl rfl rfl (Yr rfl rfl) ?_
 refine Zb 2 rfl ?_
 refine Zq 24 rfl (fun hb => ?_) (fun hb => ?_)
 rotate_left
 ·replace H := Zp H hb
  refine Zb 7 rfl ?_
  refine Zg ?_
  refine Zc hK6 ?_
  refine Zk ?_
  refine Zm rfl (RV.tmp rfl RV.nil) rfl ?_
  obtain rfl := QJ H
  replace hS := hS.cut 0
  exact ⟨rfl, hS⟩
 replace H := Zo H hb
 refine Za rfl rfl rfl (Ze X7 rfl) ?_
 refine Za rfl rfl rfl (Zh Vm rfl (Zhe _) hS Y2 trivial Zcq) ?_
 refine Za rfl rfl rfl (Ze X7 rfl) ?_
 refine Za rfl rfl rfl (Zh Vm rfl (Zhe _) hS hs0 trivial Zcq) ?_
 obtain ⟨r7, hm8, H⟩ := bind_some H
 refine Zn rfl rfl rfl rfl (by kernel_rfl) rfl (c_ref06_Same x0.log x1.log A0_ c0_ A1_ c1_ _ (Zhh s0_.k (hS.rd0 s0_.rd) (hS.blk0 s0_.blk)) (Zhh s1_.k (hS.rd0 s1_.rd) (hS.blk0 s1_.blk)) hm8) ?_
 rintro e w ⟨rfl, hN⟩; refine ⟨_, rfl, ?_⟩; obtain ⟨hB, hS⟩ := hS.jn hN
 refine Zb 2 rfl ?_
 refine Zg ?_
 refine Zc hK6 ?_
 refine Zk ?_
 refine Zm rfl (RV.tmp rfl RV.nil) rfl ?_
 obtain rfl := QJ H
 replace hS := hS.cut 0
 exact ⟨rfl, hS⟩
theorem c_ref20_ints (x0 : List Int) (x1 : List Int) (A0_ : OA) (c0_ : Nat) (A1_ : OA) (c1_ : Nat) (w0 : World) (s0_ : SlI w0 X2 A0_ c0_ x0) (s1_ : SlI w0 X2 A1_ c1_ x1) {r : Bool} (H : Zb1 x0 x1 = some r) : Calls Tryz.prog 58 #[.slice A0_ x0.length c0_, .slice A1_ x1.length c1_] w0 fun e w' => e = .returned (.bool r) ∧ St0 All w0 w' [] := by
 unfold Zb1 at H
 refine Ys Tryz.func58 rfl Tryz.ntmps58 rfl ?_
 have hS := St0.start All w0
 refine Zd (fun K hK1 => ?_)
 refine Zf ?_
 refine Zb 1 rfl ?_
 refine Zg ?_
 refine Zc hK1 ?_
 refine Zd (fun K hK2 => ?_)
 refine Zd (fun K hK3 => ?_)
 refine Zf ?_
 refine Zb 1 rfl ?_
 refine Za rfl rfl rfl (Yz Vh rfl) ?_
 refine Zb 1 rfl ?_
 refine Za rfl rfl rfl (Yz Vh rfl) ?_
 refine Za rfl rfl rfl (Xm rfl rfl) ?_
 refine Zg ?_
 refine Zc hK3 ?_
 refine Z1 rfl (fun hb => ?_) (fun hb => ?_)
 ·replace H := Zo H hb
  refine Zd (fun K hK4 => ?_)
  refine Zf ?_
  refine Zb 1 rfl ?_
  refine Zg ?_
  refine Zc hK4 ?_
  refine Zk ?_
  refine Zj ?_
  refine Zm rfl (RV.tmp rfl RV.nil) rfl ?_
  obtain rfl := QJ H
  replace hS := hS.cut 0
  exact ⟨rfl, hS⟩
 replace H := Zp H hb
 refine Zs ?_
 refine Zc hK2 ?_
 refine Zd (fun K hK5 => ?_)
 refine Zd (fun K hK6 => ?_)
 refine Zf ?_
 refine Zb 1 rfl ?_
 refine Zg ?_
 refine Zc hK6 ?_
 refine Yc ?_
 refine V7 (X := Nat × Bool × Int) (fun x => (0, .slice A0_ x0.length c0_) :: (1, .slice A1_ x1.length c1_) :: (4, .bool x.2.1) :: (5, .int .i64 x.2.2) :: []) (fun x w => St0 All w0 w ([]) ∧ Zaq x0 x1 x.1 x.2.1 x.2.2 = some r) (fun x => x.1) (Xw, false, 0) (by repeat (first | exact Sub.nil | refine Sub.cons rfl ?_)) ⟨hS, H⟩ ?_
 rintro ⟨n, v7, v8⟩ w ⟨hS, H⟩
 dsimp only at hS H ⊢
 obtain _ | n := n
 ·have H0 : none = some r := H
  cases H0
 rw [Zaq] at H
 refine Zd (fun K hK9 => ?_)
 refine Zd (fun K hK10 => ?_)
 refine Zf ?_
 refine Zb 2 rfl ?_
 refine Za rfl rfl rfl (Yz Vh rfl) ?_
 refine Za rfl rfl rfl (Xk rfl rfl) ?_
 refine Zg ?_
 refine Zc hK10 ?_
 refine Z1 rfl (fun hb => ?_) (fun hb => ?_)
 rotate_left
 ·replace H := Zp H hb
  refine X0 ?_
  refine Z9 ?_
  refine Z9 ?_
  refine Yy ?_
  refine Zc hK5 ?_
  refine Zd (fun K hK20 => ?_)
  refine Zf ?_
  refine Zb 1 rfl ?_
  refine Zg ?_
  refine Zc hK20 ?_
  refine Zk ?_
  refine Zm rfl (RV.tmp rfl RV.nil) rfl ?_
  obtain rfl := QJ H
  replace hS := hS.cut 0
  exact ⟨rfl, hS⟩
 replace H := Zo H hb
 refine Zs ?_
 refine Zc hK9 ?_
 refine Zd (fun K hK11 => ?_)
 refine Yc ?_
 refine Zd (fun K hK12 => ?_)
 refine Yn 9 [] (fun _ _ => True) ⟨by kernel_rfl, by kernel_rfl⟩ hS (fun w hS hB => ?_)
 refine Zr [true, true, true, true, true, true, true, true, true] (by decide +kernel) PFC.h ?_
 refine LtK.put rfl rfl rfl (Zy rfl) ?_
 refine LtK.put rfl rfl rfl (Zy rfl) ?_
 obtain ⟨e13, hi15, H⟩ := bind_some H
 obtain ⟨j14, hi15a, hi15b, hi15c⟩ := Y0 hi15
 refine LtK.put rfl rfl rfl (Xh Vh rfl rfl hi15a hi15c (Rd.el (hS.rd0 s0_.rd) Y6 hi15b)) ?_
 refine LtK.put rfl rfl rfl (Zap Z3 rfl (Zhf _) (Rd.el (hS.rd0 s0_.rd) Y6 hi15b) rfl) ?_
 refine LtK.put rfl rfl rfl (Zy rfl) ?_
 refine LtK.put rfl rfl rfl (Zy rfl) ?_
 obtain ⟨e16, hi18, H⟩ := bind_some H
 obtain ⟨j17, hi18a, hi18b, hi18c⟩ := Y0 hi18
 refine LtK.put rfl rfl rfl (Xh Vh rfl rfl hi18a hi18c (Rd.el (hS.rd0 s1_.rd) Y6 hi18b)) ?_
 refine LtK.put rfl rfl rfl (Zap Z3 rfl (Zhf _) (Rd.el (hS.rd0 s1_.rd) Y6 hi18b) rfl) ?_
 refine LtK.put rfl rfl rfl (Xm rfl rfl) ?_
 refine LtK.nil ?_
 refine Ye (by kernel_rfl) ?_
 refine Zc hK12 ?_
 refine Z1 rfl (fun hb => ?_) (fun hb => ?_)
 rotate_left
 ·replace H := Zp H hb
  refine Zs ?_
  refine Z4 ?_
  refine Zc hK11 ?_
  refine Zf ?_
  refine Zb 1 rfl ?_
  refine Za rfl rfl rfl (X8 rfl rfl) ?_
  refine Zb 1 rfl ?_
  refine Zg ?_
  exact X9 (n, v7, (IntKind.wrap .i64 (v8 + 1))) (by repeat (first | exact Sub.nil | refine Sub.cons rfl ?_)) ⟨hS, H⟩ (Nat.lt_succ_self _)
 replace H := Zo H hb
 refine Zd (fun K hK19 => ?_)
 refine Zf ?_
 refine Zb 1 rfl ?_
 refine Zg ?_
 refine Zc hK19 ?_
 refine Zk ?_
 refine Zz ?_
 refine Zj ?_
 refine Zj ?_
 refine Zz ?_
 refine Zj ?_
 refine Zm rfl (RV.tmp rfl RV.nil) rfl ?_
 obtain rfl := QJ H
 replace hS := hS.cut 0
 exact ⟨rfl, hS⟩
end Go.Proofs.YtamjlcaoieliaaaGreat
