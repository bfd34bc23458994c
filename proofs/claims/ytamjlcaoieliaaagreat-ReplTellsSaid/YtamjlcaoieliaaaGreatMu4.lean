/- Texts of one claim put together. -/
import Derived.Test.YtamjlcaoieliaaaGreatMu1
import Derived.Test.YtamjlcaoieliaaaGreatMu2
import Derived.Test.YtamjlcaoieliaaaGreatMu3
namespace Go.Proofs.YtamjlcaoieliaaaGreat
open Go Go.RowKit
set_option maxRecDepth 100000
set_option maxHeartbeats 4000000
theorem Zbh (x0 : St) (w0 : World) {r : Bool} (H : Jb x0 = some r) : Calls Tryz.prog 87 #[.agg #[.int .i64 x0.index, .int .i64 x0.term, .int .i64 x0.sum, .int .i64 x0.level, .bool x0.final]] w0 fun e w' => e = .returned (.bool r) ∧ St0 All w0 w' [] := by
 unfold Jb at H
 refine Yp Tryz.func87 rfl Tryz.ntmps87 rfl ?_
 have hS := St0.start All w0
 refine Zd (fun K hK1 => Ze (Z4 rfl rfl rfl CellsOf.agg hS (fun b2 w hS hB => Zb 1 rfl (Zg (Zc hK1 (Zd (fun K hK4 => Zd (fun K hK5 => ?_))))))))
 refine Ze (Za rfl rfl rfl (Zf Yj rfl) (Za rfl rfl rfl (Zh Z1 rfl (Zhr _) hS hs0 trivial Y4) ?_))
 obtain ⟨r6, hm7, H⟩ := bind_some H
 refine Zn rfl rfl rfl rfl (by kernel_rfl) rfl (Zcv x0.index _ hm7) ?_
 rintro e w ⟨rfl, hN⟩; refine ⟨_, rfl, ?_⟩; obtain ⟨hB, hS⟩ := hS.jn hN
 refine Za rfl rfl rfl (Ys rfl) (Zb 1 rfl (Zs 7 rfl (fun hb => ?_) (fun hb => ?_)))
 ·replace H := Zp H hb
  refine Zb 39 rfl (Zg (Zc hK5 (Zt rfl rfl (Zd (fun K hK9 => Ze (Zb 1 rfl (Zg ?_)))))))
  refine Zc hK9 (Zk (Zj (Zm rfl (RV.tmp rfl RV.nil) rfl ?_)))
  obtain rfl := QJ H
  replace hS := hS.cut 0
  exact ⟨rfl, hS⟩
 replace H := Zo H hb
 refine Za rfl rfl rfl (Zf Zc1 rfl) (Za rfl rfl rfl (Zh Z1 rfl (Zhr _) hS hs0 trivial Vl) ?_)
 obtain ⟨r11, hm12, H⟩ := bind_some H
 refine Zn rfl rfl rfl rfl (by kernel_rfl) rfl (Zcv x0.term _ hm12) ?_
 rintro e w ⟨rfl, hN⟩; refine ⟨_, rfl, ?_⟩; obtain ⟨hB, hS⟩ := hS.jn hN
 refine Za rfl rfl rfl (Ys rfl) (Zb 2 rfl (Zs 13 rfl (fun hb => ?_) (fun hb => ?_)))
 ·replace H := Zp H hb
  refine Zb 33 rfl (Zg (Zc hK5 (Zt rfl rfl (Zd (fun K hK14 => Ze (Zb 1 rfl (Zg ?_)))))))
  refine Zc hK14 (Zk (Zj (Zm rfl (RV.tmp rfl RV.nil) rfl ?_)))
  obtain rfl := QJ H
  replace hS := hS.cut 0
  exact ⟨rfl, hS⟩
 replace H := Zo H hb
 refine Za rfl rfl rfl (Zf fo_23_2 rfl) (Za rfl rfl rfl (Zh Z1 rfl (Zhr _) hS hs0 trivial Za0) ?_)
 obtain ⟨r16, hm17, H⟩ := bind_some H
 refine Zn rfl rfl rfl rfl (by kernel_rfl) rfl (Zcv x0.sum _ hm17) ?_
 rintro e w ⟨rfl, hN⟩; refine ⟨_, rfl, ?_⟩; obtain ⟨hB, hS⟩ := hS.jn hN
 refine Za rfl rfl rfl (Ys rfl) (Zb 2 rfl (Zs 19 rfl (fun hb => ?_) (fun hb => ?_)))
 ·replace H := Zp H hb
  refine Zb 27 rfl (Zg (Zc hK5 (Zt rfl rfl (Zd (fun K hK19 => Ze (Zb 1 rfl (Zg ?_)))))))
  refine Zc hK19 (Zk (Zj (Zm rfl (RV.tmp rfl RV.nil) rfl ?_)))
  obtain rfl := QJ H
  replace hS := hS.cut 0
  exact ⟨rfl, hS⟩
 replace H := Zo H hb
 refine Za rfl rfl rfl (Zf Zc1 rfl) (Za rfl rfl rfl (Zh Z1 rfl (Zhr _) hS hs0 trivial Vl) (Za rfl rfl rfl (Y1 rfl rfl) (Za rfl rfl rfl (Zf Yj rfl) (Za rfl rfl rfl (Zh Z1 rfl (Zhr _) hS hs0 trivial Y4) (Za rfl rfl rfl (Y1 rfl rfl) (Za rfl rfl rfl (yv_neqB (by kernel_rfl) rfl rfl) (Zb 2 rfl ?_)))))))
 refine Zs 28 rfl (fun hb => ?_) (fun hb => ?_)
 ·replace H := Zp H hb
  refine Zb 18 rfl (Zg (Zc hK5 (Zt rfl rfl (Zd (fun K hK22 => Ze (Zb 1 rfl (Zg ?_)))))))
  refine Zc hK22 (Zk (Zj (Zm rfl (RV.tmp rfl RV.nil) rfl ?_)))
  obtain rfl := QJ H
  replace hS := hS.cut 0
  exact ⟨rfl, hS⟩
 replace H := Zo H hb
 refine Za rfl rfl rfl (Zf Zfd rfl) (Za rfl rfl rfl (Zh Z1 rfl (Zhr _) hS hs0 trivial J9) (Za rfl rfl rfl (Xu rfl rfl) (Zb 1 rfl (Zs 32 rfl (fun hb => ?_) (fun hb => ?_)))))
 rotate_left
 ·replace H := Zo H hb
  refine Zb 6 rfl (Za rfl rfl rfl (Zf fo_23_4 rfl) (Za rfl rfl rfl (Zh sc_4 rfl (Zhr _) hS hs0 trivial Zfw) (Zb 1 rfl (Zs 41 rfl (fun hb => ?_) (fun hb => ?_)))))
  rotate_left
  ·replace H := Zo H hb
   refine Zb 5 rfl (Zg (Zc hK5 (Yl rfl rfl (Zr (Zc hK4 (Zd (fun K hK51 => Yi 9 [] (fun _ _ => True) ⟨by kernel_rfl, by kernel_rfl⟩ hS (fun w hS hB => ?_))))))))
   refine Zq [Tt,Tt,Tt,Tt] (by decide +kernel) PFC.h (LtK.put rfl rfl rfl (Zf Yj rfl) (LtK.put rfl rfl rfl (Zh Z1 rfl (Zhs _) hS hs0 trivial Y4) (LtK.put rfl rfl rfl (Xc rfl rfl) (LtK.put rfl rfl rfl (Zw rfl) (LtK.nil (Jw 50 rfl (fun hb => ?_) (fun hb => ?_)))))))
   ·replace H := Zp H hb
    refine Zq [Ff,Ff,Ff,Ff,Tt] (by decide +kernel) PFC.h (LtK.skip rfl rfl rfl (LtK.nil (Z6 [Ff,Ff,Ff,Ff,Ff,Tt] 5 ⟨by decide, by kernel_rfl, by kernel_rfl⟩ rfl rfl ?_)))
    try dsimp only [Z0]
    refine Xi rfl rfl rfl (Zg (Z9 (Below.refl _ _) (Zq [Ff,Ff,Ff,Ff,Ff,Ff,Tt,Tt,Tt] (by decide +kernel) PFC.h (LtK.skip rfl rfl rfl (LtK.put rfl rfl rfl (Ym rfl rfl rfl) (LtK.put rfl rfl rfl (Z2 rfl) (LtK.nil ?_)))))))
    refine Ye (by kernel_rfl) (Zc hK51 (Zk (Zm rfl (RV.tmp rfl RV.nil) rfl ?_)))
    obtain rfl := QJ H
    replace hS := hS.cut 0
    exact ⟨rfl, hS⟩
   replace H := Zo H hb
   refine Zq [Ff,Ff,Ff,Ff,Tt] (by decide +kernel) PFC.h (LtK.put rfl rfl rfl (Zi Y6 rfl (Zhs _) hS hs0 trivial Jm) (LtK.nil (Z6 [Ff,Ff,Ff,Ff,Ff,Tt] 5 ⟨by decide, by kernel_rfl, by kernel_rfl⟩ rfl rfl ?_)))
   try dsimp only [Z0]
   obtain ⟨r54, hm55, H⟩ := bind_some H
   refine Zn rfl rfl rfl rfl (by kernel_rfl) rfl (Zdq _ hm55) ?_
   rintro e w ⟨rfl, hN⟩; refine ⟨_, rfl, ?_⟩; obtain ⟨hB, hS⟩ := hS.jn hN
   refine Zg (Z9 hB (Zq [Ff,Ff,Ff,Ff,Ff,Ff,Tt,Tt,Tt] (by decide +kernel) PFC.h (LtK.put rfl rfl rfl (Zah (by kernel_rfl) rfl rfl (Zbc _ _ _ _ _ _ _ _ _ _)) (LtK.put rfl rfl rfl (Y3 rfl rfl rfl) (LtK.put rfl rfl rfl (Z2 rfl) (LtK.nil (Ye (by kernel_rfl) ?_)))))))
   refine Zc hK51 (Zk (Zm rfl (RV.tmp rfl RV.nil) rfl ?_))
   obtain rfl := QJ H
   replace hS := hS.cut 0
   exact ⟨rfl, hS⟩
  replace H := Zp H hb
  refine Za rfl rfl rfl (Zf Zfd rfl) (Za rfl rfl rfl (Zh Z1 rfl (Zhr _) hS hs0 trivial J9) (Za rfl rfl rfl (Xu rfl rfl) (Zb 2 rfl (Zg (Zc hK5 (Zy rfl (fun hb => ?_) (fun hb => ?_)))))))
  ·replace H := Zp H hb
   refine Zd (fun K hK43 => Ze (Zb 1 rfl (Zg (Zc hK43 (Zk (Zj (Zm rfl (RV.tmp rfl RV.nil) rfl ?_)))))))
   obtain rfl := QJ H
   replace hS := hS.cut 0
   exact ⟨rfl, hS⟩
  replace H := Zo H hb
  refine Zr (Zc hK4 (Zd (fun K hK45 => Yi 9 [] (fun _ _ => True) ⟨by kernel_rfl, by kernel_rfl⟩ hS (fun w hS hB => Zq [Tt,Tt,Tt,Tt] (by decide +kernel) PFC.h (LtK.put rfl rfl rfl (Zf Yj rfl) (LtK.put rfl rfl rfl (Zh Z1 rfl (Zhs _) hS hs0 trivial Y4) (LtK.put rfl rfl rfl (Xc rfl rfl) ?_)))))))
  refine LtK.put rfl rfl rfl (Zw rfl) (LtK.nil (Jw 50 rfl (fun hb => ?_) (fun hb => ?_)))
  ·replace H := Zp H hb
   refine Zq [Ff,Ff,Ff,Ff,Tt] (by decide +kernel) PFC.h (LtK.skip rfl rfl rfl (LtK.nil (Z6 [Ff,Ff,Ff,Ff,Ff,Tt] 5 ⟨by decide, by kernel_rfl, by kernel_rfl⟩ rfl rfl ?_)))
   try dsimp only [Z0]
   refine Xi rfl rfl rfl (Zg (Z9 (Below.refl _ _) (Zq [Ff,Ff,Ff,Ff,Ff,Ff,Tt,Tt,Tt] (by decide +kernel) PFC.h (LtK.skip rfl rfl rfl (LtK.put rfl rfl rfl (Ym rfl rfl rfl) (LtK.put rfl rfl rfl (Z2 rfl) (LtK.nil ?_)))))))
   refine Ye (by kernel_rfl) (Zc hK45 (Zk (Zm rfl (RV.tmp rfl RV.nil) rfl ?_)))
   obtain rfl := QJ H
   replace hS := hS.cut 0
   exact ⟨rfl, hS⟩
  replace H := Zo H hb
  refine Zq [Ff,Ff,Ff,Ff,Tt] (by decide +kernel) PFC.h (LtK.put rfl rfl rfl (Zi Y6 rfl (Zhs _) hS hs0 trivial Jm) (LtK.nil (Z6 [Ff,Ff,Ff,Ff,Ff,Tt] 5 ⟨by decide, by kernel_rfl, by kernel_rfl⟩ rfl rfl ?_)))
  try dsimp only [Z0]
  obtain ⟨r48, hm49, H⟩ := bind_some H
  refine Zn rfl rfl rfl rfl (by kernel_rfl) rfl (Zdq _ hm49) ?_
  rintro e w ⟨rfl, hN⟩; refine ⟨_, rfl, ?_⟩; obtain ⟨hB, hS⟩ := hS.jn hN
  refine Zg (Z9 hB (Zq [Ff,Ff,Ff,Ff,Ff,Ff,Tt,Tt,Tt] (by decide +kernel) PFC.h (LtK.put rfl rfl rfl (Zah (by kernel_rfl) rfl rfl (Zbc _ _ _ _ _ _ _ _ _ _)) (LtK.put rfl rfl rfl (Y3 rfl rfl rfl) (LtK.put rfl rfl rfl (Z2 rfl) (LtK.nil (Ye (by kernel_rfl) ?_)))))))
  refine Zc hK45 (Zk (Zm rfl (RV.tmp rfl RV.nil) rfl ?_))
  obtain rfl := QJ H
  replace hS := hS.cut 0
  exact ⟨rfl, hS⟩
 replace H := Zp H hb
 refine Za rfl rfl rfl (Zf Zfd rfl) (Za rfl rfl rfl (Zh Z1 rfl (Zhr _) hS hs0 trivial J9) (Za rfl rfl rfl (Xu rfl rfl) (Zb 3 rfl (Zs 38 rfl (fun hb => ?_) (fun hb => ?_)))))
 ·replace H := Zp H hb
  refine Zb 8 rfl (Zg (Zc hK5 (Zt rfl rfl (Zd (fun K hK26 => Ze (Zb 1 rfl (Zg ?_)))))))
  refine Zc hK26 (Zk (Zj (Zm rfl (RV.tmp rfl RV.nil) rfl ?_)))
  obtain rfl := QJ H
  replace hS := hS.cut 0
  exact ⟨rfl, hS⟩
 replace H := Zo H hb
 have hw27 := hb
 refine Za rfl rfl rfl (Zf fo_23_4 rfl) (Za rfl rfl rfl (Zh sc_4 rfl (Zhr _) hS hs0 trivial Zfw) (Zb 1 rfl (Zs 41 rfl (fun hb => ?_) (fun hb => ?_))))
 rotate_left
 ·replace H := Zo H hb
  refine Zb 5 rfl (Zg (Zc hK5 (Yl rfl rfl (Zr (Zc hK4 (Zd (fun K hK35 => Yi 9 [] (fun _ _ => True) ⟨by kernel_rfl, by kernel_rfl⟩ hS (fun w hS hB => ?_))))))))
  refine Zq [Tt,Tt,Tt,Tt] (by decide +kernel) PFC.h (LtK.put rfl rfl rfl (Zf Yj rfl) (LtK.put rfl rfl rfl (Zh Z1 rfl (Zhs _) hS hs0 trivial Y4) (LtK.put rfl rfl rfl (Xc rfl rfl) (LtK.put rfl rfl rfl (Zw rfl) (LtK.nil (Jw 50 rfl (fun hb => ?_) (fun hb => ?_)))))))
  ·replace H := Zp H hb
   refine Zq [Ff,Ff,Ff,Ff,Tt] (by decide +kernel) PFC.h (LtK.skip rfl rfl rfl (LtK.nil (Z6 [Ff,Ff,Ff,Ff,Ff,Tt] 5 ⟨by decide, by kernel_rfl, by kernel_rfl⟩ rfl rfl ?_)))
   try dsimp only [Z0]
   refine Xi rfl rfl rfl (Zg (Z9 (Below.refl _ _) (Zq [Ff,Ff,Ff,Ff,Ff,Ff,Tt,Tt,Tt] (by decide +kernel) PFC.h (LtK.skip rfl rfl rfl (LtK.put rfl rfl rfl (Ym rfl rfl rfl) (LtK.put rfl rfl rfl (Z2 rfl) (LtK.nil ?_)))))))
   refine Ye (by kernel_rfl) (Zc hK35 (Zk (Zm rfl (RV.tmp rfl RV.nil) rfl ?_)))
   obtain rfl := QJ H
   replace hS := hS.cut 0
   exact ⟨rfl, hS⟩
  replace H := Zo H hb
  refine Zq [Ff,Ff,Ff,Ff,Tt] (by decide +kernel) PFC.h (LtK.put rfl rfl rfl (Zi Y6 rfl (Zhs _) hS hs0 trivial Jm) (LtK.nil (Z6 [Ff,Ff,Ff,Ff,Ff,Tt] 5 ⟨by decide, by kernel_rfl, by kernel_rfl⟩ rfl rfl ?_)))
  try dsimp only [Z0]
  obtain ⟨r38, hm39, H⟩ := bind_some H
  refine Zn rfl rfl rfl rfl (by kernel_rfl) rfl (Zdq _ hm39) ?_
  rintro e w ⟨rfl, hN⟩; refine ⟨_, rfl, ?_⟩; obtain ⟨hB, hS⟩ := hS.jn hN
  refine Zg (Z9 hB (Zq [Ff,Ff,Ff,Ff,Ff,Ff,Tt,Tt,Tt] (by decide +kernel) PFC.h (LtK.put rfl rfl rfl (Zah (by kernel_rfl) rfl rfl (Zbc _ _ _ _ _ _ _ _ _ _)) (LtK.put rfl rfl rfl (Y3 rfl rfl rfl) (LtK.put rfl rfl rfl (Z2 rfl) (LtK.nil (Ye (by kernel_rfl) ?_)))))))
  refine Zc hK35 (Zk (Zm rfl (RV.tmp rfl RV.nil) rfl ?_))
  obtain rfl := QJ H
  replace hS := hS.cut 0
  exact ⟨rfl, hS⟩
 replace H := Zp H hb
 refine Za rfl rfl rfl (Zf Zfd rfl) (Za rfl rfl rfl (Zh Z1 rfl (Zhr _) hS hs0 trivial J9) (Za rfl rfl rfl (Xu rfl rfl) (Zb 2 rfl (Zg (Zc hK5 (Zy rfl (fun hb => ?_) (fun hb => ?_)))))))
 ·cases hw27.symm.trans hb
 refine Zr (Zc hK4 (Zd (fun K hK29 => Yi 9 [] (fun _ _ => True) ⟨by kernel_rfl, by kernel_rfl⟩ hS (fun w hS hB => Zq [Tt,Tt,Tt,Tt] (by decide +kernel) PFC.h (LtK.put rfl rfl rfl (Zf Yj rfl) (LtK.put rfl rfl rfl (Zh Z1 rfl (Zhs _) hS hs0 trivial Y4) (LtK.put rfl rfl rfl (Xc rfl rfl) ?_)))))))
 refine LtK.put rfl rfl rfl (Zw rfl) (LtK.nil (Jw 50 rfl (fun hb => ?_) (fun hb => ?_)))
 ·replace H := Zp H hb
  refine Zq [Ff,Ff,Ff,Ff,Tt] (by decide +kernel) PFC.h (LtK.skip rfl rfl rfl (LtK.nil (Z6 [Ff,Ff,Ff,Ff,Ff,Tt] 5 ⟨by decide, by kernel_rfl, by kernel_rfl⟩ rfl rfl ?_)))
  try dsimp only [Z0]
  refine Xi rfl rfl rfl (Zg (Z9 (Below.refl _ _) (Zq [Ff,Ff,Ff,Ff,Ff,Ff,Tt,Tt,Tt] (by decide +kernel) PFC.h (LtK.skip rfl rfl rfl (LtK.put rfl rfl rfl (Ym rfl rfl rfl) (LtK.put rfl rfl rfl (Z2 rfl) (LtK.nil ?_)))))))
  refine Ye (by kernel_rfl) (Zc hK29 (Zk (Zm rfl (RV.tmp rfl RV.nil) rfl ?_)))
  obtain rfl := QJ H
  replace hS := hS.cut 0
  exact ⟨rfl, hS⟩
 replace H := Zo H hb
 refine Zq [Ff,Ff,Ff,Ff,Tt] (by decide +kernel) PFC.h (LtK.put rfl rfl rfl (Zi Y6 rfl (Zhs _) hS hs0 trivial Jm) (LtK.nil (Z6 [Ff,Ff,Ff,Ff,Ff,Tt] 5 ⟨by decide, by kernel_rfl, by kernel_rfl⟩ rfl rfl ?_)))
 try dsimp only [Z0]
 obtain ⟨r32, hm33, H⟩ := bind_some H
 refine Zn rfl rfl rfl rfl (by kernel_rfl) rfl (Zdq _ hm33) ?_
 rintro e w ⟨rfl, hN⟩; refine ⟨_, rfl, ?_⟩; obtain ⟨hB, hS⟩ := hS.jn hN
 refine Zg (Z9 hB (Zq [Ff,Ff,Ff,Ff,Ff,Ff,Tt,Tt,Tt] (by decide +kernel) PFC.h (LtK.put rfl rfl rfl (Zah (by kernel_rfl) rfl rfl (Zbc _ _ _ _ _ _ _ _ _ _)) (LtK.put rfl rfl rfl (Y3 rfl rfl rfl) (LtK.put rfl rfl rfl (Z2 rfl) (LtK.nil (Ye (by kernel_rfl) ?_)))))))
 refine Zc hK29 (Zk (Zm rfl (RV.tmp rfl RV.nil) rfl ?_))
 obtain rfl := QJ H
 replace hS := hS.cut 0
 exact ⟨rfl, hS⟩
theorem Zg2 (x0 : En) (w0 : World) {r : Bool} (H : Zbl x0 = some r) : Calls Tryz.prog 123 #[.agg #[.int .i64 x0.term, .int .i64 x0.kind, .int .i64 x0.value]] w0 fun e w' => e = .returned (.bool r) ∧ St0 All w0 w' [] := by
 unfold Zbl at H
 refine Yp Tryz.func123 rfl Tryz.ntmps123 rfl ?_
 have hS := St0.start All w0
 refine Zd (fun K hK1 => Ze (Z4 rfl rfl rfl CellsOf.agg hS (fun b2 w hS hB => Zb 1 rfl (Zg (Zc hK1 (Zd (fun K hK4 => Ze ?_)))))))
 refine Za rfl rfl rfl (Zf Zbt rfl) (Za rfl rfl rfl (Zh Z1 rfl (Zhr _) hS hs0 trivial Y4) (Za rfl rfl rfl (Zed rfl rfl) (Zb 1 rfl (Zs 6 rfl (fun hb => ?_) (fun hb => ?_)))))
 rotate_left
 ·replace H := Zo H hb
  refine Zb 30 rfl (Zg (Zc hK4 (Zk (Zm rfl (RV.tmp rfl RV.nil) rfl ?_))))
  obtain rfl := QJ H
  replace hS := hS.cut 0
  exact ⟨rfl, hS⟩
 replace H := Zp H hb
 refine Za rfl rfl rfl (Zf Zbt rfl) (Za rfl rfl rfl (Zh Z1 rfl (Zhr _) hS hs0 trivial Y4) ?_)
 obtain ⟨r6, hm7, H⟩ := bind_some H
 refine Zn rfl rfl rfl rfl (by kernel_rfl) rfl (Zcv x0.term _ hm7) ?_
 rintro e w ⟨rfl, hN⟩; refine ⟨_, rfl, ?_⟩; obtain ⟨hB, hS⟩ := hS.jn hN
 refine Zb 2 rfl (Zs 11 rfl (fun hb => ?_) (fun hb => ?_))
 rotate_left
 ·replace H := Zo H hb
  refine Zb 25 rfl (Zg (Zc hK4 (Zk (Zm rfl (RV.tmp rfl RV.nil) rfl ?_))))
  obtain rfl := QJ H
  replace hS := hS.cut 0
  exact ⟨rfl, hS⟩
 replace H := Zp H hb
 refine Za rfl rfl rfl (Zf fo_53_1 rfl) (Za rfl rfl rfl (Zh Z1 rfl (Zhr _) hS hs0 trivial Vl) (Za rfl rfl rfl (Zed rfl rfl) (Zb 2 rfl (Zs 16 rfl (fun hb => ?_) (fun hb => ?_)))))
 rotate_left
 ·replace H := Zo H hb
  refine Zb 20 rfl (Zg (Zc hK4 (Zk (Zm rfl (RV.tmp rfl RV.nil) rfl ?_))))
  obtain rfl := QJ H
  replace hS := hS.cut 0
  exact ⟨rfl, hS⟩
 replace H := Zp H hb
 refine Za rfl rfl rfl (Zf fo_53_1 rfl) (Za rfl rfl rfl (Zh Z1 rfl (Zhr _) hS hs0 trivial Vl) (Za rfl rfl rfl (Xk rfl rfl) (Zb 2 rfl (Zs 21 rfl (fun hb => ?_) (fun hb => ?_)))))
 rotate_left
 ·replace H := Zo H hb
  refine Zb 15 rfl (Zg (Zc hK4 (Zk (Zm rfl (RV.tmp rfl RV.nil) rfl ?_))))
  obtain rfl := QJ H
  replace hS := hS.cut 0
  exact ⟨rfl, hS⟩
 replace H := Zp H hb
 refine Za rfl rfl rfl (Zf fo_53_2 rfl) (Za rfl rfl rfl (Zh Z1 rfl (Zhr _) hS hs0 trivial Za0) ?_)
 obtain ⟨r11, hm12, H⟩ := bind_some H
 refine Zn rfl rfl rfl rfl (by kernel_rfl) rfl (Zcv x0.value _ hm12) ?_
 rintro e w ⟨rfl, hN⟩; refine ⟨_, rfl, ?_⟩; obtain ⟨hB, hS⟩ := hS.jn hN
 refine Zb 2 rfl (Zs 26 rfl (fun hb => ?_) (fun hb => ?_))
 rotate_left
 ·replace H := Zo H hb
  refine Zb 10 rfl (Zg (Zc hK4 (Zk (Zm rfl (RV.tmp rfl RV.nil) rfl ?_))))
  obtain rfl := QJ H
  replace hS := hS.cut 0
  exact ⟨rfl, hS⟩
 replace H := Zp H hb
 refine Za rfl rfl rfl (Zf fo_53_1 rfl) (Za rfl rfl rfl (Zh Z1 rfl (Zhr _) hS hs0 trivial Vl) (Za rfl rfl rfl (Y1 rfl rfl) (Zb 1 rfl (Zs 30 rfl (fun hb => ?_) (fun hb => ?_)))))
 ·replace H := Zp H hb
  refine Zb 6 rfl (Zg (Zc hK4 (Zk (Zm rfl (RV.tmp rfl RV.nil) rfl ?_))))
  obtain rfl := QJ H
  replace hS := hS.cut 0
  exact ⟨rfl, hS⟩
 replace H := Zo H hb
 refine Za rfl rfl rfl (Zf fo_53_2 rfl) (Za rfl rfl rfl (Zh Z1 rfl (Zhr _) hS hs0 trivial Za0) (Za rfl rfl rfl (Y1 rfl rfl) (Zb 3 rfl (Zg (Zc hK4 (Zk (Zm rfl (RV.tmp rfl RV.nil) rfl ?_)))))))
 obtain rfl := QJ H
 replace hS := hS.cut 0
 exact ⟨rfl, hS⟩
theorem V9 (x0 : Tu) (A0_ : OA) (c0_ : Nat) (w0 : World) (s0_ : SlI w0 Vv A0_ c0_ x0.log) {r : Bool} (H : Ve x0 = some r) : Calls Tryz.prog 83 #[.agg #[.int .i64 x0.snap.index, .int .i64 x0.snap.term, .int .i64 x0.snap.sum, .int .i64 x0.snap.level, .bool x0.snap.final, .slice A0_ x0.log.length c0_, .int .i64 x0.term, .int .i64 x0.vote]] w0 fun e w' => e = .returned (.bool r) ∧ St0 All w0 w' [] := by
 unfold Ve at H
 refine Yp Tryz.func83 rfl Tryz.ntmps83 rfl ?_
 have hS := St0.start All w0
 refine Zd (fun K hK1 => Ze (Z4 rfl rfl rfl CellsOf.agg hS (fun b2 w hS hB => Zb 1 rfl (Zg (Zc hK1 (Zd (fun K hK4 => Zd (fun K hK5 => ?_))))))))
 refine Ze (Za rfl rfl rfl (Zf Xj rfl) (Za rfl rfl rfl (Zi Y6 rfl (Zhr _) hS hs0 trivial Jm) ?_))
 obtain ⟨r6, hm7, H⟩ := bind_some H
 refine Zn rfl rfl rfl rfl (by kernel_rfl) rfl (Zbh x0.snap _ hm7) ?_
 rintro e w ⟨rfl, hN⟩; refine ⟨_, rfl, ?_⟩; obtain ⟨hB, hS⟩ := hS.jn hN
 refine Za rfl rfl rfl (Ys rfl) (Zb 1 rfl (Zs 9 rfl (fun hb => ?_) (fun hb => ?_)))
 ·replace H := Zp H hb
  refine Zb 21 rfl (Zg (Zc hK5 (Zt rfl rfl (Zd (fun K hK9 => Ze (Zb 1 rfl (Zg ?_)))))))
  refine Zc hK9 (Zk (Zj (Zm rfl (RV.tmp rfl RV.nil) rfl ?_)))
  obtain rfl := QJ H
  replace hS := hS.cut 0
  exact ⟨rfl, hS⟩
 replace H := Zo H hb
 refine Za rfl rfl rfl (Zf Xj rfl) (Za rfl rfl rfl (Zf Yj rfl) (Za rfl rfl rfl (Zh Z1 rfl (Zhr _) hS hs0 trivial Y4) (Za rfl rfl rfl (Xc rfl rfl) (Zb 2 rfl (Zs 15 rfl (fun hb => ?_) (fun hb => ?_))))))
 ·replace H := Zp H hb
  refine Zb 15 rfl (Zg (Zc hK5 (Zt rfl rfl (Zd (fun K hK12 => Ze (Zb 1 rfl (Zg ?_)))))))
  refine Zc hK12 (Zk (Zj (Zm rfl (RV.tmp rfl RV.nil) rfl ?_)))
  obtain rfl := QJ H
  replace hS := hS.cut 0
  exact ⟨rfl, hS⟩
 replace H := Zo H hb
 refine Za rfl rfl rfl (Zf X4 rfl) (Za rfl rfl rfl (Zh Xx rfl (Zhr _) hS hs0 trivial Jd) (Za rfl rfl rfl (Y0 Y8 rfl) (Za rfl rfl rfl (Xc rfl rfl) (Zb 2 rfl (Zs 21 rfl (fun hb => ?_) (fun hb => ?_))))))
 ·replace H := Zp H hb
  refine Zb 9 rfl (Zg (Zc hK5 (Zt rfl rfl (Zd (fun K hK15 => Ze (Zb 1 rfl (Zg ?_)))))))
  refine Zc hK15 (Zk (Zj (Zm rfl (RV.tmp rfl RV.nil) rfl ?_)))
  obtain rfl := QJ H
  replace hS := hS.cut 0
  exact ⟨rfl, hS⟩
 replace H := Zo H hb
 refine Za rfl rfl rfl (Zf J5 rfl) (Za rfl rfl rfl (Zh Z1 rfl (Zhr _) hS hs0 trivial Zey) (Za rfl rfl rfl (Xk rfl rfl) (Zb 2 rfl (Zs 26 rfl (fun hb => ?_) (fun hb => ?_)))))
 ·replace H := Zp H hb
  refine Zb 4 rfl (Zg (Zc hK5 (Zt rfl rfl (Zd (fun K hK18 => Ze (Zb 1 rfl (Zg ?_)))))))
  refine Zc hK18 (Zk (Zj (Zm rfl (RV.tmp rfl RV.nil) rfl ?_)))
  obtain rfl := QJ H
  replace hS := hS.cut 0
  exact ⟨rfl, hS⟩
 replace H := Zo H hb
 refine Za rfl rfl rfl (Zf J5 rfl) (Za rfl rfl rfl (Zh Z1 rfl (Zhr _) hS hs0 trivial Zey) (Za rfl rfl rfl (Xc rfl rfl) (Zb 1 rfl (Zg (Zc hK5 (Zy rfl (fun hb => ?_) (fun hb => ?_)))))))
 ·replace H := Zp H hb
  refine Zd (fun K hK21 => Ze (Zb 1 rfl (Zg (Zc hK21 (Zk (Zj (Zm rfl (RV.tmp rfl RV.nil) rfl ?_)))))))
  obtain rfl := QJ H
  replace hS := hS.cut 0
  exact ⟨rfl, hS⟩
 replace H := Zo H hb
 refine Zr (Zc hK4 (Zd (fun K hK23 => Ze (Za rfl rfl rfl (Zf Xj rfl) (Za rfl rfl rfl (Zf Zc1 rfl) (Za rfl rfl rfl (Zh Z1 rfl (Zhr _) hS hs0 trivial Vl) (Zb 1 rfl ?_)))))))
 refine Zg (Zc hK23 (Zd (fun K hK24 => Zd (fun K hK25 => Ze (Zb 1 rfl (Zg (Zc hK25 ?_)))))))
 refine Yd (Vq (X := Nat × Bool × Int × Int) (fun x => (1, .pointer (some ⟨b2, 0, none⟩)) :: (2, .bool x.2.1) :: (3, .int .i64 x.2.2.1) :: (4, .int .i64 x.2.2.2) :: []) (fun x w => St0 All w0 w (.box b2 [.int .i64 x0.snap.index, .int .i64 x0.snap.term, .int .i64 x0.snap.sum, .int .i64 x0.snap.level, .bool x0.snap.final, .slice A0_ x0.log.length c0_, .int .i64 x0.term, .int .i64 x0.vote] 26 :: []) ∧ J1 x0 x.1 x.2.1 x.2.2.1 x.2.2.2 = some r) (fun x => x.1) (Xr, false, x0.snap.term, 0) (by repeat (first | exact Sub.nil | refine Sub.cons rfl ?_)) ⟨hS, H⟩ ?_)
 rintro ⟨n, v26, v27, v28⟩ w ⟨hS, H⟩
 dsimp only at hS H ⊢
 obtain _ | n := n
 ·have H0 : none = some r := H
  cases H0
 rw [J1] at H
 refine Zd (fun K hK29 => Zd (fun K hK30 => Ze (Zb 1 rfl (Za rfl rfl rfl (Zf X4 rfl) (Za rfl rfl rfl (Zh Xx rfl (Zhr _) hS hs0 trivial Jd) (Za rfl rfl rfl (Y0 Y8 rfl) (Za rfl rfl rfl (Xk rfl rfl) ?_)))))))
 refine Zg (Zc hK30 (Zy rfl (fun hb => ?_) (fun hb => ?_)))
 rotate_left
 ·replace H := Zo H hb
  refine X1 (Z8 (Z8 (Yz (Zc hK24 (Zd (fun K hK53 => Ze (Za rfl rfl rfl (Zf Vi rfl) ?_)))))))
  refine Za rfl rfl rfl (Zh Z1 rfl (Zhr _) hS hs0 trivial Zgj) (Zb 1 rfl (Za rfl rfl rfl (Zed rfl rfl) (Zb 1 rfl (Zs 68 rfl (fun hb => ?_) (fun hb => ?_)))))
  rotate_left
  ·replace H := Zo H hb
   refine Zb 10 rfl (Zg (Zc hK53 (Zk (Zm rfl (RV.tmp rfl RV.nil) rfl ?_))))
   obtain rfl := QJ H
   replace hS := hS.cut 0
   exact ⟨rfl, hS⟩
  replace H := Zp H hb
  refine Za rfl rfl rfl (Zf Vi rfl) (Za rfl rfl rfl (Zh Z1 rfl (Zhr _) hS hs0 trivial Zgj) (Za rfl rfl rfl (Zed rfl rfl) (Zb 2 rfl (Zs 73 rfl (fun hb => ?_) (fun hb => ?_)))))
  rotate_left
  ·replace H := Zo H hb
   refine Zb 5 rfl (Zg (Zc hK53 (Zk (Zm rfl (RV.tmp rfl RV.nil) rfl ?_))))
   obtain rfl := QJ H
   replace hS := hS.cut 0
   exact ⟨rfl, hS⟩
  replace H := Zp H hb
  refine Za rfl rfl rfl (Zf Vi rfl) (Za rfl rfl rfl (Zh Z1 rfl (Zhr _) hS hs0 trivial Zgj) (Za rfl rfl rfl (Za5 rfl rfl) (Zb 2 rfl (Zg (Zc hK53 (Zk (Zm rfl (RV.tmp rfl RV.nil) rfl ?_)))))))
  obtain rfl := QJ H
  replace hS := hS.cut 0
  exact ⟨rfl, hS⟩
 replace H := Zp H hb
 refine Zr (Zc hK29 (Zd (fun K hK32 => Yd (Zd (fun K hK33 => Zd (fun K hK34 => Ze (Za rfl rfl rfl (Zf X4 rfl) ?_)))))))
 refine Za rfl rfl rfl (Zh Xx rfl (Zhr _) hS hs0 trivial Jd) (Zb 1 rfl ?_)
 obtain ⟨e35, hi37, H⟩ := bind_some H
 obtain ⟨j36, hi37a, hi37b, hi37c⟩ := Yt hi37
 refine Za rfl rfl rfl (Xf Y8 rfl rfl hi37a hi37c (Rd.el (hS.rd0 s0_.rd) Xy hi37b)) (Za rfl rfl rfl (Zel Jt rfl (Zhr _) (Rd.el (hS.rd0 s0_.rd) Xy hi37b) Zd3) ?_)
 obtain ⟨r38, hm39, H⟩ := bind_some H
 refine Zn rfl rfl rfl rfl (by kernel_rfl) rfl (Zg2 e35 _ hm39) ?_
 rintro e w ⟨rfl, hN⟩; refine ⟨_, rfl, ?_⟩; obtain ⟨hB, hS⟩ := hS.jn hN
 refine Za rfl rfl rfl (Ys rfl) (Zb 1 rfl (Zs 48 rfl (fun hb => ?_) (fun hb => ?_)))
 ·replace H := Zp H hb
  refine Zb 9 rfl (Zg (Zc hK34 (Zt rfl rfl (Zd (fun K hK41 => Ze (Zb 1 rfl (Zg ?_)))))))
  refine Zc hK41 (Zk (Zj (Zx (Zj (Zj (Zx (Zj ?_)))))))
  refine Zm rfl (RV.tmp rfl RV.nil) rfl ?_
  obtain rfl := QJ H
  replace hS := hS.cut 0
  exact ⟨rfl, hS⟩
 replace H := Zo H hb
 refine Za rfl rfl rfl (Zf X4 rfl) (Za rfl rfl rfl (Zh Xx rfl (Zhr _) hS hs0 trivial Jd) (Zb 1 rfl ?_))
 obtain ⟨e43, hi45, H⟩ := bind_some H
 obtain ⟨j44, hi45a, hi45b, hi45c⟩ := Yt hi45
 refine Za rfl rfl rfl (Xf Y8 rfl rfl hi45a hi45c (Rd.el (hS.rd0 s0_.rd) Xy hi45b)) (Za rfl rfl rfl (Zau Zbt rfl (Rd.el (hS.rd0 s0_.rd) Xy hi45b)) (Za rfl rfl rfl (Vj Z1 rfl (Zhr _) (Rd.el (hS.rd0 s0_.rd) Xy hi45b) rfl) (Zb 1 rfl (Za rfl rfl rfl (Xk rfl rfl) (Zb 1 rfl (Zg (Zc hK34 ?_)))))))
 refine Zy rfl (fun hb => ?_) (fun hb => ?_)
 ·replace H := Zp H hb
  refine Zd (fun K hK47 => Ze (Zb 1 rfl (Zg (Zc hK47 (Zk (Zj (Zx ?_)))))))
  refine Zj (Zj (Zx (Zj (Zm rfl (RV.tmp rfl RV.nil) rfl ?_))))
  obtain rfl := QJ H
  replace hS := hS.cut 0
  exact ⟨rfl, hS⟩
 replace H := Zo H hb
 refine Zr (Zc hK33 (Ze (Za rfl rfl rfl (Zf X4 rfl) (Za rfl rfl rfl (Zh Xx rfl (Zhr _) hS hs0 trivial Jd) (Zb 1 rfl ?_)))))
 obtain ⟨e49, hi51, H⟩ := bind_some H
 obtain ⟨j50, hi51a, hi51b, hi51c⟩ := Yt hi51
 refine Za rfl rfl rfl (Xf Y8 rfl rfl hi51a hi51c (Rd.el (hS.rd0 s0_.rd) Xy hi51b)) (Za rfl rfl rfl (Zau Zbt rfl (Rd.el (hS.rd0 s0_.rd) Xy hi51b)) (Za rfl rfl rfl (Vj Z1 rfl (Zhr _) (Rd.el (hS.rd0 s0_.rd) Xy hi51b) rfl) (Zb 1 rfl (Zg (Z3 (Zc hK32 (Ze ?_)))))))
 refine Zb 1 rfl (Za rfl rfl rfl (Xd rfl rfl) (Zb 1 rfl (Zg ?_)))
 exact X2 (n, v26, e49.term, (IntKind.wrap .i64 (v28 + 1))) (by repeat (first | exact Sub.nil | refine Sub.cons rfl ?_)) ⟨hS, H⟩ (Nat.lt_succ_self _)
theorem c_ref06_Next (x0 : St) (x1 : En) (w0 : World) {r : St} (H : Zc3 x0 x1 = some r) : Calls Tryz.prog 139 #[.agg #[.int .i64 x0.index, .int .i64 x0.term, .int .i64 x0.sum, .int .i64 x0.level, .bool x0.final], .agg #[.int .i64 x1.term, .int .i64 x1.kind, .int .i64 x1.value]] w0 fun e w' => e = .returned (.agg #[.int .i64 r.index, .int .i64 r.term, .int .i64 r.sum, .int .i64 r.level, .bool r.final]) ∧ St0 All w0 w' [] := by
 unfold Zc3 at H
 refine Yn Tryz.func139 rfl Tryz.ntmps139 rfl ?_
 have hS := St0.start All w0
 refine Zd (fun K hK1 => Ze (Z4 rfl rfl rfl CellsOf.agg hS (fun b2 w hS hB => Z4 rfl rfl rfl CellsOf.agg hS (fun b4 w hS hB => Z5 rfl rfl zc_23 hS (fun b6 w hS hB => Zg (Zc hK1 (Zd (fun K hK8 => ?_))))))))
 refine Zd (fun K hK9 => Ze (Za rfl rfl rfl (Zi Jt rfl (Zhr _) hS Xa trivial Zd3) ?_))
 obtain ⟨r10, hm11, H⟩ := bind_some H
 refine Zn rfl rfl rfl rfl (by kernel_rfl) rfl (Zg2 x1 _ hm11) ?_
 rintro e w ⟨rfl, hN⟩; refine ⟨_, rfl, ?_⟩; obtain ⟨hB, hS⟩ := hS.jn hN
 refine Za rfl rfl rfl (Ys rfl) (Zb 1 rfl (Zs 8 rfl (fun hb => ?_) (fun hb => ?_)))
 ·replace H := Zp H hb
  refine Zb 9 rfl (Zg (Zc hK9 (Zt rfl rfl (Zd (fun K hK13 => Ze (Za rfl rfl rfl (Zi Y6 rfl (Zhr _) hS Xq trivial Jm) (Zl rfl rfl rfl CellsOf.agg hS ps0 Zex (by kernel_rfl) rfl (fun w hS hB => ?_))))))))
  refine Zg (Zc hK13 (Zk (Zj (Zm rfl (RV.cell rfl (Zu Y6 hS hs0 Jm) RV.nil) rfl ?_))))
  obtain rfl := QJ H
  replace hS := hS.cut 0
  exact ⟨rfl, hS⟩
 replace H := Zo H hb
 refine Za rfl rfl rfl (Zi Y6 rfl (Zhr _) hS Xq trivial Jm) ?_
 obtain ⟨r15, hm16, H⟩ := bind_some H
 refine Zn rfl rfl rfl rfl (by kernel_rfl) rfl (Zbh x0 _ hm16) ?_
 rintro e w ⟨rfl, hN⟩; refine ⟨_, rfl, ?_⟩; obtain ⟨hB, hS⟩ := hS.jn hN
 refine Za rfl rfl rfl (Ys rfl) (Zb 2 rfl (Zs 13 rfl (fun hb => ?_) (fun hb => ?_)))
 ·replace H := Zp H hb
  refine Zb 4 rfl (Zg (Zc hK9 (Zt rfl rfl (Zd (fun K hK18 => Ze (Za rfl rfl rfl (Zi Y6 rfl (Zhr _) hS Xq trivial Jm) (Zl rfl rfl rfl CellsOf.agg hS ps0 Zex (by kernel_rfl) rfl (fun w hS hB => ?_))))))))
  refine Zg (Zc hK18 (Zk (Zj (Zm rfl (RV.cell rfl (Zu Y6 hS hs0 Jm) RV.nil) rfl ?_))))
  obtain rfl := QJ H
  replace hS := hS.cut 0
  exact ⟨rfl, hS⟩
 replace H := Zo H hb
 refine Za rfl rfl rfl (Zf Yj rfl) (Za rfl rfl rfl (Zh Z1 rfl (Zhr _) hS Xq trivial Y4) (Za rfl rfl rfl (Zed rfl rfl) (Zb 1 rfl (Zg (Zc hK9 (Zy rfl (fun hb => ?_) (fun hb => ?_)))))))
 ·replace H := Zp H hb
  refine Zd (fun K hK21 => Ze (Za rfl rfl rfl (Zi Y6 rfl (Zhr _) hS Xq trivial Jm) (Zl rfl rfl rfl CellsOf.agg hS ps0 Zex (by kernel_rfl) rfl (fun w hS hB => Zg (Zc hK21 (Zk (Zj ?_)))))))
  refine Zm rfl (RV.cell rfl (Zu Y6 hS hs0 Jm) RV.nil) rfl ?_
  obtain rfl := QJ H
  replace hS := hS.cut 0
  exact ⟨rfl, hS⟩
 replace H := Zo H hb
 refine Zr (Zc hK8 (Zd (fun K hK23 => Ze (Za rfl rfl rfl (Zf Yj rfl) (Za rfl rfl rfl (Zh Z1 rfl (Zhr _) hS Xq trivial Y4) (Za rfl rfl rfl (Xd rfl rfl) (Za rfl rfl rfl (Zf Yj rfl) ?_)))))))
 refine Zl rfl rfl rfl CellsOf.int hS ps2 Zfp (by kernel_rfl) rfl (fun w hS hB => Zg (Zc hK23 (Zd (fun K hK24 => Ze (Za rfl rfl rfl (Zf Zbt rfl) (Za rfl rfl rfl (Zh Z1 rfl (Zhr _) hS Xa trivial Y4) (Za rfl rfl rfl (Zf Zc1 rfl) ?_)))))))
 refine Zl rfl rfl rfl CellsOf.int hS ps2 st1_1 (by kernel_rfl) rfl (fun w hS hB => Zg (Zc hK24 (Zd (fun K hK25 => Zd (fun K hK26 => Ze (Za rfl rfl rfl (Zf fo_53_1 rfl) (Za rfl rfl rfl (Zh Z1 rfl (Zhr _) hS Xa trivial Vl) ?_)))))))
 refine Zg (Zc hK26 (Yd (Zd (fun K hK27 => Ze (Za rfl rfl rfl (Y1 rfl rfl) (Zb 1 rfl (Zg ?_)))))))
 refine Zc hK27 (Zy rfl (fun hb => ?_) (fun hb => ?_))
 ·replace H := Zp H hb
  refine Ze (Za rfl rfl rfl (Zf fo_23_2 rfl) (Za rfl rfl rfl (Zh Z1 rfl (Zhr _) hS Xq trivial Za0) (Za rfl rfl rfl (yx_mul rfl rfl) (Za rfl rfl rfl (Zf fo_53_2 rfl) (Za rfl rfl rfl (Zh Z1 rfl (Zhr _) hS Xa trivial Za0) (Za rfl rfl rfl (Xd rfl rfl) (Za rfl rfl rfl (Xd rfl rfl) ?_)))))))
  refine Za rfl rfl rfl (yx_rem rfl rfl (by decide)) ?_
  refine Za rfl rfl rfl (Zf fo_23_2 rfl) (Zl rfl rfl rfl CellsOf.int hS ps2 st2_1 (by kernel_rfl) rfl (fun w hS hB => Zg (Z3 (Zc hK25 (Zd (fun K hK29 => Ze (Za rfl rfl rfl (Zi Y6 rfl (Zhr _) hS Xq trivial Jm) ?_)))))))
  refine Zl rfl rfl rfl CellsOf.agg hS ps0 Zex (by kernel_rfl) rfl (fun w hS hB => Zg (Zc hK29 (Zk (Zm rfl (RV.cell rfl (Zu Y6 hS hs0 Jm) RV.nil) rfl ?_))))
  obtain rfl := QJ H
  replace hS := hS.cut 0
  exact ⟨rfl, hS⟩
 replace H := Zo H hb
 refine Zd (fun K hK31 => Ze (Za rfl rfl rfl (Y1 rfl rfl) (Zb 1 rfl (Zg (Zc hK31 (Zy rfl (fun hb => ?_) (fun hb => ?_)))))))
 ·replace H := Zp H hb
  refine Ze (Za rfl rfl rfl (Zf Zfd rfl) (Zl rfl rfl rfl CellsOf.int hS ps2 st3_1 (by kernel_rfl) rfl (fun w hS hB => Zg (Z3 (Zc hK25 (Zd (fun K hK33 => Ze ?_)))))))
  refine Za rfl rfl rfl (Zi Y6 rfl (Zhr _) hS Xq trivial Jm) (Zl rfl rfl rfl CellsOf.agg hS ps0 Zex (by kernel_rfl) rfl (fun w hS hB => Zg (Zc hK33 (Zk (Zm rfl (RV.cell rfl (Zu Y6 hS hs0 Jm) RV.nil) rfl ?_)))))
  obtain rfl := QJ H
  replace hS := hS.cut 0
  exact ⟨rfl, hS⟩
 replace H := Zo H hb
 refine Zd (fun K hK35 => Ze (Za rfl rfl rfl (Y1 rfl rfl) (Zb 1 rfl (Zg (Zc hK35 (Zy rfl (fun hb => ?_) (fun hb => ?_)))))))
 ·replace H := Zp H hb
  refine Zd (fun K hK37 => Ze (Za rfl rfl rfl (Zf fo_23_4 rfl) (Za rfl rfl rfl (Zh sc_4 rfl (Zhr _) hS Xq trivial Zfw) (Za rfl rfl rfl (Ys rfl) (Zg (Zc hK37 (Zy rfl (fun hb => ?_) (fun hb => ?_))))))))
  rotate_left
  ·replace H := Zo H hb
   refine Zr (Z3 (Zc hK25 (Zd (fun K hK41 => Ze (Za rfl rfl rfl (Zi Y6 rfl (Zhr _) hS Xq trivial Jm) (Zl rfl rfl rfl CellsOf.agg hS ps0 Zex (by kernel_rfl) rfl (fun w hS hB => Zg ?_)))))))
   refine Zc hK41 (Zk (Zm rfl (RV.cell rfl (Zu Y6 hS hs0 Jm) RV.nil) rfl ?_))
   obtain rfl := QJ H
   replace hS := hS.cut 0
   exact ⟨rfl, hS⟩
  replace H := Zp H hb
  refine Ze (Za rfl rfl rfl (Zf Zfd rfl) (Zl rfl rfl rfl CellsOf.int hS ps2 st3_1 (by kernel_rfl) rfl (fun w hS hB => Zg (Z3 (Zc hK25 (Zd (fun K hK39 => Ze ?_)))))))
  refine Za rfl rfl rfl (Zi Y6 rfl (Zhr _) hS Xq trivial Jm) (Zl rfl rfl rfl CellsOf.agg hS ps0 Zex (by kernel_rfl) rfl (fun w hS hB => Zg (Zc hK39 (Zk (Zm rfl (RV.cell rfl (Zu Y6 hS hs0 Jm) RV.nil) rfl ?_)))))
  obtain rfl := QJ H
  replace hS := hS.cut 0
  exact ⟨rfl, hS⟩
 replace H := Zo H hb
 refine Zd (fun K hK43 => Ze (Za rfl rfl rfl (Y1 rfl rfl) (Zb 1 rfl (Zg (Zc hK43 (Zy rfl (fun hb => ?_) (fun hb => ?_)))))))
 rotate_left
 ·replace H := Zo H hb
  refine Zr (Z3 (Zc hK25 (Zd (fun K hK47 => Ze (Za rfl rfl rfl (Zi Y6 rfl (Zhr _) hS Xq trivial Jm) (Zl rfl rfl rfl CellsOf.agg hS ps0 Zex (by kernel_rfl) rfl (fun w hS hB => Zg ?_)))))))
  refine Zc hK47 (Zk (Zm rfl (RV.cell rfl (Zu Y6 hS hs0 Jm) RV.nil) rfl ?_))
  obtain rfl := QJ H
  replace hS := hS.cut 0
  exact ⟨rfl, hS⟩
 replace H := Zp H hb
 refine Ze (Za rfl rfl rfl (Zf Zfd rfl) (Za rfl rfl rfl (Zh Z1 rfl (Zhr _) hS Xq trivial J9) (Za rfl rfl rfl (Y1 rfl rfl) (Za rfl rfl rfl (Zf fo_23_4 rfl) (Zl rfl rfl rfl CellsOf.bool hS ps2 st4_1 (by kernel_rfl) rfl (fun w hS hB => Zg (Z3 ?_)))))))
 refine Zc hK25 (Zd (fun K hK45 => Ze (Za rfl rfl rfl (Zi Y6 rfl (Zhr _) hS Xq trivial Jm) (Zl rfl rfl rfl CellsOf.agg hS ps0 Zex (by kernel_rfl) rfl (fun w hS hB => Zg (Zc hK45 (Zk ?_)))))))
 refine Zm rfl (RV.cell rfl (Zu Y6 hS hs0 Jm) RV.nil) rfl ?_
 obtain rfl := QJ H
 replace hS := hS.cut 0
 exact ⟨rfl, hS⟩
theorem c_ref06_All (x0 : St) (x1 : List En) (A0_ : OA) (c0_ : Nat) (w0 : World) (s0_ : SlI w0 Vv A0_ c0_ x1) {r : St} (H : Zgu x0 x1 = some r) : Calls Tryz.prog 122 #[.agg #[.int .i64 x0.index, .int .i64 x0.term, .int .i64 x0.sum, .int .i64 x0.level, .bool x0.final], .slice A0_ x1.length c0_] w0 fun e w' => e = .returned (.agg #[.int .i64 r.index, .int .i64 r.term, .int .i64 r.sum, .int .i64 r.level, .bool r.final]) ∧ St0 All w0 w' [] := by
 unfold Zgu at H
 refine Yn Tryz.func122 rfl Tryz.ntmps122 rfl ?_
 have hS := St0.start All w0
 refine Zd (fun K hK1 => Ze (Z4 rfl rfl rfl CellsOf.agg hS (fun b2 w hS hB => Z5 rfl rfl zc_23 hS (fun b4 w hS hB => Zg (Zc hK1 (Zd (fun K hK6 => Zd (fun K hK7 => ?_))))))))
 refine Ze (Zb 1 rfl (Zg (Zc hK7 (Yd (Vq (X := Nat × Int × Int × Int × Int × Int × Bool) (fun x => (1, .slice A0_ x1.length c0_) :: (2, .pointer (some ⟨b2, 0, none⟩)) :: (4, .pointer (some ⟨b4, 0, none⟩)) :: (5, .int .i64 x.2.1) :: []) (fun x w => St0 All w0 w (.box b4 [.int .i64 0, .int .i64 0, .int .i64 0, .int .i64 0, .bool false] 23 :: .box b2 [.int .i64 x.2.2.1, .int .i64 x.2.2.2.1, .int .i64 x.2.2.2.2.1, .int .i64 x.2.2.2.2.2.1, .bool x.2.2.2.2.2.2] 23 :: []) ∧ Za6 x1 x.1 x.2.1 x.2.2.1 x.2.2.2.1 x.2.2.2.2.1 x.2.2.2.2.2.1 x.2.2.2.2.2.2 = some r) (fun x => x.1) (Xr, 0, x0.index, x0.term, x0.sum, x0.level, x0.final) (by repeat (first | exact Sub.nil | refine Sub.cons rfl ?_)) ⟨hS, H⟩ ?_)))))
 rintro ⟨n, v8, v9, v10, v11, v12, v13⟩ w ⟨hS, H⟩
 dsimp only at hS H ⊢
 obtain _ | n := n
 ·have H0 : none = some r := H
  cases H0
 rw [Za6] at H
 refine Zd (fun K hK14 => Zd (fun K hK15 => Ze (Zb 2 rfl (Za rfl rfl rfl (Y0 Y8 rfl) (Za rfl rfl rfl (Xk rfl rfl) (Zg (Zc hK15 ?_)))))))
 refine Zy rfl (fun hb => ?_) (fun hb => ?_)
 rotate_left
 ·replace H := Zo H hb
  refine X1 (Z8 (Z8 (Yz (Zc hK6 (Zd (fun K hK24 => Ze (Za rfl rfl rfl (Zi Y6 rfl (Zhr _) hS Xa trivial Jm) ?_)))))))
  refine Zl rfl rfl rfl CellsOf.agg hS ps0 Zex (by kernel_rfl) rfl (fun w hS hB => Zg (Zc hK24 (Zk (Zm rfl (RV.cell rfl (Zu Y6 hS hs0 Jm) RV.nil) rfl ?_))))
  obtain rfl := QJ H
  replace hS := hS.cut 0
  exact ⟨rfl, hS⟩
 replace H := Zp H hb
 refine Zr (Zc hK14 (Zd (fun K hK17 => Yd (Yi 7 [6] (fun i b => (i = 6 → b ≠ b2)) ⟨by kernel_rfl, by kernel_rfl⟩ hS (fun w hS hB => Zq [Tt,Tt,Tt,Tt,Tt] (by decide +kernel) PFC.h (LtK.put rfl rfl rfl (Zi Y6 rfl (Zhs _) hS Xa trivial Jm) (LtK.put rfl rfl rfl (Zw rfl) ?_)))))))
 refine LtK.put rfl rfl rfl (Zw rfl) ?_
 obtain ⟨e18, hi20, H⟩ := bind_some H
 obtain ⟨j19, hi20a, hi20b, hi20c⟩ := Yt hi20
 refine LtK.put rfl rfl rfl (Xf Y8 rfl rfl hi20a hi20c (Rd.el (hS.rd0 s0_.rd) Xy hi20b)) (LtK.put rfl rfl rfl (Zel Jt rfl (Zhs _) (Rd.el (hS.rd0 s0_.rd) Xy hi20b) Zd3) (LtK.nil (Z6 [Ff,Ff,Ff,Ff,Ff,Tt] 5 ⟨by decide, by kernel_rfl, by kernel_rfl⟩ rfl rfl ?_)))
 try dsimp only [Z0]
 obtain ⟨r21, hm22, H⟩ := bind_some H
 refine Zn rfl rfl rfl rfl (by kernel_rfl) rfl (c_ref06_Next (⟨v9, v10, v11, v12, v13⟩ : St) e18 _ hm22) ?_
 rintro e w ⟨rfl, hN⟩; refine ⟨_, rfl, ?_⟩; obtain ⟨hB, hS⟩ := hS.jn hN
 refine Zg (Z9 hB (Yq [Ff,Ff,Ff,Ff,Ff,Ff,Tt] 6 ⟨by decide, by kernel_rfl, by kernel_rfl⟩ rfl rfl ?_))
 try dsimp only [Z0]
 refine Zl rfl rfl rfl CellsOf.agg hS ps1 Zex (by kernel_rfl) rfl (fun w hS hB => Zg (Yk (hB.sub (fun _ _ h => by simpa using h)) (Ye (by kernel_rfl) (Z3 (Zc hK17 (Ze (Zb 1 rfl ?_)))))))
 refine Za rfl rfl rfl (Xd rfl rfl) (Zb 1 rfl (Zg ?_))
 exact X2 (n, (IntKind.wrap .i64 (v8 + 1)), r21.index, r21.term, r21.sum, r21.level, r21.final) (by repeat (first | exact Sub.nil | refine Sub.cons rfl ?_)) ⟨hS, H⟩ (Nat.lt_succ_self _)
theorem Zfi (x0 : Tu) (x1 : Int) (A0_ : OA) (c0_ : Nat) (w0 : World) (s0_ : SlI w0 Vv A0_ c0_ x0.log) {r : St × Bool} (H : V8 x0 x1 = some r) : Calls Tryz.prog 79 #[.agg #[.int .i64 x0.snap.index, .int .i64 x0.snap.term, .int .i64 x0.snap.sum, .int .i64 x0.snap.level, .bool x0.snap.final, .slice A0_ x0.log.length c0_, .int .i64 x0.term, .int .i64 x0.vote], .int .i64 x1] w0 fun e w' => e = .returned (.tuple #[.agg #[.int .i64 r.1.index, .int .i64 r.1.term, .int .i64 r.1.sum, .int .i64 r.1.level, .bool r.1.final], .bool r.2]) ∧ St0 All w0 w' [] := by
 unfold V8 at H
 refine Yn Tryz.func79 rfl Tryz.ntmps79 rfl ?_
 have hS := St0.start All w0
 refine Zd (fun K hK1 => Ze (Z4 rfl rfl rfl CellsOf.agg hS (fun b2 w hS hB => Z5 rfl rfl zc_23 hS (fun b4 w hS hB => Zb 1 rfl (Zg (Zc hK1 (Zd (fun K hK6 => ?_))))))))
 refine Zd (fun K hK7 => Ze (Zb 1 rfl (Za rfl rfl rfl (Zf Xj rfl) (Za rfl rfl rfl (Zf Yj rfl) (Za rfl rfl rfl (Zh Z1 rfl (Zhr _) hS Xa trivial Y4) (Za rfl rfl rfl (Xk rfl rfl) (Zb 1 rfl ?_)))))))
 refine Zs 11 rfl (fun hb => ?_) (fun hb => ?_)
 ·replace H := Zp H hb
  refine Zb 5 rfl (Zg (Zc hK7 (Zt rfl rfl (Zd (fun K hK9 => Ze (Za rfl rfl rfl (Xl (cells := [.int .i64 0, .int .i64 0, .int .i64 0, .int .i64 0, .bool false]) rfl (by kernel_rfl)) (Zl rfl rfl rfl CellsOf.agg hS ps0 Zex (by kernel_rfl) rfl (fun w hS hB => ?_))))))))
  refine Zb 1 rfl (Zg (Zc hK9 (Zk (Zj (Zm rfl (RV.cell rfl (Zu Y6 hS hs0 Jm) (RV.tmp rfl RV.nil)) rfl ?_)))))
  obtain rfl := QJ H
  replace hS := hS.cut 0
  exact ⟨rfl, hS⟩
 replace H := Zo H hb
 refine Zb 1 rfl (Za rfl rfl rfl (Zi Ya rfl (Zhr _) hS Xa trivial Yx) ?_)
 obtain ⟨r11, hm12, H⟩ := bind_some H
 refine Zn rfl rfl rfl rfl (by kernel_rfl) rfl (Zbd x0 A0_ c0_ _ (Zhu s0_.k (hS.rd0 s0_.rd) (hS.blk0 s0_.blk)) hm12) ?_
 rintro e w ⟨rfl, hN⟩; refine ⟨_, rfl, ?_⟩; obtain ⟨hB, hS⟩ := hS.jn hN
 refine Za rfl rfl rfl (Xc rfl rfl) (Zb 1 rfl (Zg (Zc hK7 (Zy rfl (fun hb => ?_) (fun hb => ?_)))))
 ·replace H := Zp H hb
  refine Zd (fun K hK14 => Ze (Za rfl rfl rfl (Xl (cells := [.int .i64 0, .int .i64 0, .int .i64 0, .int .i64 0, .bool false]) rfl (by kernel_rfl)) (Zl rfl rfl rfl CellsOf.agg hS ps0 Zex (by kernel_rfl) rfl (fun w hS hB => Zb 1 rfl (Zg (Zc hK14 (Zk ?_)))))))
  refine Zj (Zm rfl (RV.cell rfl (Zu Y6 hS hs0 Jm) (RV.tmp rfl RV.nil)) rfl ?_)
  obtain rfl := QJ H
  replace hS := hS.cut 0
  exact ⟨rfl, hS⟩
 replace H := Zo H hb
 refine Zr (Zc hK6 (Zd (fun K hK16 => Yi 13 [11] (fun i b => (i = 11 → b ≠ b4)) ⟨by kernel_rfl, by kernel_rfl⟩ hS (fun w hS hB => Zq [Tt,Tt,Tt,Tt,Tt,Tt,Tt,Tt,Tt,Tt] (by decide +kernel) PFC.h (LtK.put rfl rfl rfl (Zf Xj rfl) (LtK.put rfl rfl rfl (Zi Y6 rfl (Zhs _) hS Xa trivial Jm) (LtK.put rfl rfl rfl (Zf X4 rfl) ?_)))))))
 refine LtK.put rfl rfl rfl (Zh Xx rfl (Zhs _) hS Xa trivial Jd) (LtK.put rfl rfl rfl (Zw rfl) (LtK.put rfl rfl rfl (Zf Xj rfl) (LtK.put rfl rfl rfl (Zf Yj rfl) (LtK.put rfl rfl rfl (Zh Z1 rfl (Zhs _) hS Xa trivial Y4) (LtK.put rfl rfl rfl (Ju rfl rfl) ?_)))))
 obtain ⟨l17, ht18, H⟩ := bind_some H
 refine LtK.put rfl rfl rfl (yx_slice_h Y8 rfl rfl s0_.k.1 ht18) (LtK.nil (Z6 [Ff,Ff,Ff,Ff,Ff,Ff,Ff,Ff,Ff,Ff,Tt] 10 ⟨by decide, by kernel_rfl, by kernel_rfl⟩ rfl rfl ?_))
 try dsimp only [Z0]
 obtain ⟨r19, hm20, H⟩ := bind_some H
 refine Zn rfl rfl rfl rfl (by kernel_rfl) rfl (c_ref06_All x0.snap l17 A0_ c0_ _ (Zhu (k_take s0_.k ht18) (Rd.takeI Xy (hS.rd0 s0_.rd) ht18) (hS.blk0 s0_.blk)) hm20) ?_
 rintro e w ⟨rfl, hN⟩; refine ⟨_, rfl, ?_⟩; obtain ⟨hB, hS⟩ := hS.jn hN
 refine Zg (Z9 hB (Yq [Ff,Ff,Ff,Ff,Ff,Ff,Ff,Ff,Ff,Ff,Ff,Tt] 11 ⟨by decide, by kernel_rfl, by kernel_rfl⟩ rfl rfl ?_))
 try dsimp only [Z0]
 refine Zl rfl rfl rfl CellsOf.agg hS ps0 Zex (by kernel_rfl) rfl (fun w hS hB => Zg (Yk (hB.sub (fun _ _ h => by simpa using h)) (Zq [Ff,Ff,Ff,Ff,Ff,Ff,Ff,Ff,Ff,Ff,Ff,Ff,Tt] (by decide +kernel) PFC.h (LtK.put rfl rfl rfl (Z2 rfl) (LtK.nil (Ye (by kernel_rfl) (Zc hK16 ?_)))))))
 refine Zk (Zm rfl (RV.cell rfl (Zu Y6 hS hs0 Jm) (RV.tmp rfl RV.nil)) rfl ?_)
 obtain rfl := QJ H
 replace hS := hS.cut 0
 exact ⟨rfl, hS⟩
theorem Zg5 (x0 : Co) (A0_ : OA) (c0_ : Nat) (A1_ : OA) (c1_ : Nat) (A2_ : OA) (c2_ : Nat) (A3_ : OA) (c3_ : Nat) (A4_ : OA) (c4_ : Nat) (w0 : World) (s0_ : SlI w0 Vv A0_ c0_ x0.tuple.log) (s1_ : SlI w0 enO A1_ c1_ x0.votes) (s2_ : SlI w0 Vh A2_ c2_ x0.next) (s3_ : SlI w0 Vh A3_ c3_ x0.mtch) (s4_ : SlI w0 Vh A4_ c4_ x0.caps) {r : Bool} (H : Zbn x0 = some r) : Calls Tryz.prog 38 #[.agg #[.int .i64 x0.id, .int .i64 x0.n, .int .u8 x0.role, .int .i64 x0.binary, .int .i64 x0.tuple.snap.index, .int .i64 x0.tuple.snap.term, .int .i64 x0.tuple.snap.sum, .int .i64 x0.tuple.snap.level, .bool x0.tuple.snap.final, .slice A0_ x0.tuple.log.length c0_, .int .i64 x0.tuple.term, .int .i64 x0.tuple.vote, .int .i64 x0.commit, .int .i64 x0.applied.index, .int .i64 x0.applied.term, .int .i64 x0.applied.sum, .int .i64 x0.applied.level, .bool x0.applied.final, .slice A1_ x0.votes.length c1_, .slice A2_ x0.next.length c2_, .slice A3_ x0.mtch.length c3_, .slice A4_ x0.caps.length c4_]] w0 fun e w' => e = .returned (.bool r) ∧ St0 All w0 w' [] := by
 unfold Zbn at H
 refine Yp Tryz.func38 rfl Tryz.ntmps38 rfl ?_
 have hS := St0.start All w0
 refine Zd (fun K hK1 => Ze (Z4 rfl rfl rfl CellsOf.agg hS (fun b2 w hS hB => Zb 1 rfl (Zg (Zc hK1 (Zd (fun K hK4 => Zd (fun K hK5 => ?_))))))))
 refine Ze (Za rfl rfl rfl (Zf V4 rfl) (Za rfl rfl rfl (Zh Z1 rfl (Zhr _) hS hs0 trivial Vl) (Za rfl rfl rfl (Xk rfl rfl) (Zb 1 rfl (Zs 10 rfl (fun hb => ?_) (fun hb => ?_))))))
 ·replace H := Zp H hb
  refine Zb 37 rfl (Zg (Zc hK5 (Zt rfl rfl (Zd (fun K hK7 => Ze (Zb 1 rfl (Zg ?_)))))))
  refine Zc hK7 (Zk (Zj (Zm rfl (RV.tmp rfl RV.nil) rfl ?_)))
  obtain rfl := QJ H
  replace hS := hS.cut 0
  exact ⟨rfl, hS⟩
 replace H := Zo H hb
 refine Za rfl rfl rfl (Zf V4 rfl) (Za rfl rfl rfl (Zh Z1 rfl (Zhr _) hS hs0 trivial Vl) (Za rfl rfl rfl (Xc rfl rfl) (Zb 2 rfl (Zs 15 rfl (fun hb => ?_) (fun hb => ?_)))))
 ·replace H := Zp H hb
  refine Zb 32 rfl (Zg (Zc hK5 (Zt rfl rfl (Zd (fun K hK10 => Ze (Zb 1 rfl (Zg ?_)))))))
  refine Zc hK10 (Zk (Zj (Zm rfl (RV.tmp rfl RV.nil) rfl ?_)))
  obtain rfl := QJ H
  replace hS := hS.cut 0
  exact ⟨rfl, hS⟩
 replace H := Zo H hb
 refine Za rfl rfl rfl (Zf Zai rfl) (Za rfl rfl rfl (Zh Z1 rfl (Zhr _) hS hs0 trivial Y4) (Za rfl rfl rfl (Xk rfl rfl) (Zb 2 rfl (Zs 20 rfl (fun hb => ?_) (fun hb => ?_)))))
 ·replace H := Zp H hb
  refine Zb 27 rfl (Zg (Zc hK5 (Zt rfl rfl (Zd (fun K hK13 => Ze (Zb 1 rfl (Zg ?_)))))))
  refine Zc hK13 (Zk (Zj (Zm rfl (RV.tmp rfl RV.nil) rfl ?_)))
  obtain rfl := QJ H
  replace hS := hS.cut 0
  exact ⟨rfl, hS⟩
 replace H := Zo H hb
 refine Za rfl rfl rfl (Zf Zai rfl) (Za rfl rfl rfl (Zh Z1 rfl (Zhr _) hS hs0 trivial Y4) (Za rfl rfl rfl (Zf V4 rfl) (Za rfl rfl rfl (Zh Z1 rfl (Zhr _) hS hs0 trivial Vl) (Za rfl rfl rfl (Xc rfl rfl) (Zb 2 rfl (Zs 27 rfl (fun hb => ?_) (fun hb => ?_)))))))
 ·replace H := Zp H hb
  refine Zb 20 rfl (Zg (Zc hK5 (Zt rfl rfl (Zd (fun K hK16 => Ze (Zb 1 rfl (Zg ?_)))))))
  refine Zc hK16 (Zk (Zj (Zm rfl (RV.tmp rfl RV.nil) rfl ?_)))
  obtain rfl := QJ H
  replace hS := hS.cut 0
  exact ⟨rfl, hS⟩
 replace H := Zo H hb
 refine Za rfl rfl rfl (Zf Zbj rfl) (Za rfl rfl rfl (Zh Zbq rfl (Zhr _) hS hs0 trivial Za0) (Za rfl rfl rfl (Xc rfl rfl) (Zb 2 rfl (Zs 32 rfl (fun hb => ?_) (fun hb => ?_)))))
 ·replace H := Zp H hb
  refine Zb 15 rfl (Zg (Zc hK5 (Zt rfl rfl (Zd (fun K hK19 => Ze (Zb 1 rfl (Zg ?_)))))))
  refine Zc hK19 (Zk (Zj (Zm rfl (RV.tmp rfl RV.nil) rfl ?_)))
  obtain rfl := QJ H
  replace hS := hS.cut 0
  exact ⟨rfl, hS⟩
 replace H := Zo H hb
 refine Za rfl rfl rfl (Zf Zdr rfl) (Za rfl rfl rfl (Zh Z1 rfl (Zhr _) hS hs0 trivial J9) (Za rfl rfl rfl (Xk rfl rfl) (Zb 2 rfl (Zs 37 rfl (fun hb => ?_) (fun hb => ?_)))))
 ·replace H := Zp H hb
  refine Zb 10 rfl (Zg (Zc hK5 (Zt rfl rfl (Zd (fun K hK22 => Ze (Zb 1 rfl (Zg ?_)))))))
  refine Zc hK22 (Zk (Zj (Zm rfl (RV.tmp rfl RV.nil) rfl ?_)))
  obtain rfl := QJ H
  replace hS := hS.cut 0
  exact ⟨rfl, hS⟩
 replace H := Zo H hb
 refine Za rfl rfl rfl (Zf Zdr rfl) (Za rfl rfl rfl (Zh Z1 rfl (Zhr _) hS hs0 trivial J9) (Za rfl rfl rfl (Xc rfl rfl) (Zb 2 rfl (Zs 42 rfl (fun hb => ?_) (fun hb => ?_)))))
 ·replace H := Zp H hb
  refine Zb 5 rfl (Zg (Zc hK5 (Zt rfl rfl (Zd (fun K hK25 => Ze (Zb 1 rfl (Zg ?_)))))))
  refine Zc hK25 (Zk (Zj (Zm rfl (RV.tmp rfl RV.nil) rfl ?_)))
  obtain rfl := QJ H
  replace hS := hS.cut 0
  exact ⟨rfl, hS⟩
 replace H := Zo H hb
 refine Za rfl rfl rfl (Zf Yy rfl) (Za rfl rfl rfl (Zi Ya rfl (Zhr _) hS hs0 trivial Jv) ?_)
 obtain ⟨r27, hm28, H⟩ := bind_some H
 refine Zn rfl rfl rfl rfl (by kernel_rfl) rfl (V9 x0.tuple A0_ c0_ _ (Zhu s0_.k (hS.rd0 s0_.rd) (hS.blk0 s0_.blk)) hm28) ?_
 rintro e w ⟨rfl, hN⟩; refine ⟨_, rfl, ?_⟩; obtain ⟨hB, hS⟩ := hS.jn hN
 refine Za rfl rfl rfl (Ys rfl) (Zb 1 rfl (Zg (Zc hK5 (Zy rfl (fun hb => ?_) (fun hb => ?_)))))
 ·replace H := Zp H hb
  refine Zd (fun K hK30 => Ze (Zb 1 rfl (Zg (Zc hK30 (Zk (Zj (Zm rfl (RV.tmp rfl RV.nil) rfl ?_)))))))
  obtain rfl := QJ H
  replace hS := hS.cut 0
  exact ⟨rfl, hS⟩
 replace H := Zo H hb
 refine Zr (Zc hK4 (Zd (fun K hK32 => Ze (Za rfl rfl rfl (Zf Yy rfl) (Za rfl rfl rfl (Zi Ya rfl (Zhr _) hS hs0 trivial Jv) (Za rfl rfl rfl (Zf V6 rfl) (Za rfl rfl rfl (Zh Z1 rfl (Zhr _) hS hs0 trivial Zbw) ?_)))))))
 obtain ⟨r33, hm34, H⟩ := bind_some H
 refine Zn rfl rfl rfl rfl (by kernel_rfl) rfl (Zfi x0.tuple x0.commit A0_ c0_ _ (Zhu s0_.k (hS.rd0 s0_.rd) (hS.blk0 s0_.blk)) hm34) ?_
 rintro e w ⟨rfl, hN⟩; refine ⟨_, rfl, ?_⟩; obtain ⟨hB, hS⟩ := hS.jn hN
 refine Zb 1 rfl (Za rfl rfl rfl (Zv rfl rfl) (Za rfl rfl rfl (Zv rfl rfl) (Z5 rfl rfl zc_23 hS (fun b35 w hS hB => Zl rfl rfl rfl CellsOf.agg hS ps0 Zex (by kernel_rfl) rfl (fun w hS hB => Zb 1 rfl (Zg (Zc hK32 ?_)))))))
 refine Zd (fun K hK37 => Zd (fun K hK38 => Ze (Zb 1 rfl (Za rfl rfl rfl (Ys rfl) (Zb 1 rfl (Zs 58 rfl (fun hb => ?_) (fun hb => ?_)))))))
 ·replace H := Zp H hb
  refine Zb 37 rfl (Zg (Zc hK38 (Zt rfl rfl (Zd (fun K hK40 => Ze (Zb 1 rfl (Zg ?_)))))))
  refine Zc hK40 (Zk (Zj (Zm rfl (RV.tmp rfl RV.nil) rfl ?_)))
  obtain rfl := QJ H
  replace hS := hS.cut 0
  exact ⟨rfl, hS⟩
 replace H := Zo H hb
 refine Za rfl rfl rfl (Zi Y6 rfl (Zhr _) hS hs0 trivial Jm) (Za rfl rfl rfl (Zf Zfg rfl) (Za rfl rfl rfl (Zi Y6 rfl (Zhr _) hS Xa trivial sg13_5) (Za rfl rfl rfl (yv_neqS (by kernel_rfl) rfl rfl (Zbc _ _ _ _ _ _ _ _ _ _)) (Zb 2 rfl (Zs 64 rfl (fun hb => ?_) (fun hb => ?_))))))
 ·replace H := Zp H hb
  refine Zb 31 rfl (Zg (Zc hK38 (Zt rfl rfl (Zd (fun K hK43 => Ze (Zb 1 rfl (Zg ?_)))))))
  refine Zc hK43 (Zk (Zj (Zm rfl (RV.tmp rfl RV.nil) rfl ?_)))
  obtain rfl := QJ H
  replace hS := hS.cut 0
  exact ⟨rfl, hS⟩
 replace H := Zo H hb
 refine Za rfl rfl rfl (Zf Zbg rfl) (Za rfl rfl rfl (Zh sc_27 rfl (Zhr _) hS Xa trivial Zgf) (Za rfl rfl rfl (Y0 el_27 rfl) (Za rfl rfl rfl (Zf V4 rfl) (Za rfl rfl rfl (Zh Z1 rfl (Zhr _) hS Xa trivial Vl) (Za rfl rfl rfl (Xu rfl rfl) (Zb 2 rfl (Zs 72 rfl (fun hb => ?_) (fun hb => ?_))))))))
 ·replace H := Zp H hb
  refine Zb 23 rfl (Zg (Zc hK38 (Zt rfl rfl (Zd (fun K hK46 => Ze (Zb 1 rfl (Zg ?_)))))))
  refine Zc hK46 (Zk (Zj (Zm rfl (RV.tmp rfl RV.nil) rfl ?_)))
  obtain rfl := QJ H
  replace hS := hS.cut 0
  exact ⟨rfl, hS⟩
 replace H := Zo H hb
 refine Za rfl rfl rfl (Zf Vs rfl) (Za rfl rfl rfl (Zh X3 rfl (Zhr _) hS Xa trivial Zat) (Za rfl rfl rfl (Y0 Xv rfl) (Za rfl rfl rfl (Zf V4 rfl) (Za rfl rfl rfl (Zh Z1 rfl (Zhr _) hS Xa trivial Vl) (Za rfl rfl rfl (Xu rfl rfl) (Zb 2 rfl (Zs 80 rfl (fun hb => ?_) (fun hb => ?_))))))))
 ·replace H := Zp H hb
  refine Zb 15 rfl (Zg (Zc hK38 (Zt rfl rfl (Zd (fun K hK49 => Ze (Zb 1 rfl (Zg ?_)))))))
  refine Zc hK49 (Zk (Zj (Zm rfl (RV.tmp rfl RV.nil) rfl ?_)))
  obtain rfl := QJ H
  replace hS := hS.cut 0
  exact ⟨rfl, hS⟩
 replace H := Zo H hb
 refine Za rfl rfl rfl (Zf Ji rfl) (Za rfl rfl rfl (Zh X3 rfl (Zhr _) hS Xa trivial Zbo) (Za rfl rfl rfl (Y0 Xv rfl) (Za rfl rfl rfl (Zf V4 rfl) (Za rfl rfl rfl (Zh Z1 rfl (Zhr _) hS Xa trivial Vl) (Za rfl rfl rfl (Xu rfl rfl) (Zb 2 rfl (Zs 88 rfl (fun hb => ?_) (fun hb => ?_))))))))
 ·replace H := Zp H hb
  refine Zb 7 rfl (Zg (Zc hK38 (Zt rfl rfl (Zd (fun K hK52 => Ze (Zb 1 rfl (Zg ?_)))))))
  refine Zc hK52 (Zk (Zj (Zm rfl (RV.tmp rfl RV.nil) rfl ?_)))
  obtain rfl := QJ H
  replace hS := hS.cut 0
  exact ⟨rfl, hS⟩
 replace H := Zo H hb
 refine Za rfl rfl rfl (Zf Jl rfl) (Za rfl rfl rfl (Zh X3 rfl (Zhr _) hS Xa trivial Zdc) (Za rfl rfl rfl (Y0 Xv rfl) (Za rfl rfl rfl (Zf V4 rfl) (Za rfl rfl rfl (Zh Z1 rfl (Zhr _) hS Xa trivial Vl) (Za rfl rfl rfl (Xu rfl rfl) (Zb 1 rfl (Zg ?_)))))))
 refine Zc hK38 (Zy rfl (fun hb => ?_) (fun hb => ?_))
 ·replace H := Zp H hb
  refine Zd (fun K hK55 => Ze (Zb 1 rfl (Zg (Zc hK55 (Zk (Zj (Zm rfl (RV.tmp rfl RV.nil) rfl ?_)))))))
  obtain rfl := QJ H
  replace hS := hS.cut 0
  exact ⟨rfl, hS⟩
 replace H := Zo H hb
 refine Zr (Zc hK37 (Zd (fun K hK57 => Ze (Za rfl rfl rfl (Zf Yy rfl) (Za rfl rfl rfl (Zi Ya rfl (Zhr _) hS Xa trivial Jv) ?_)))))
 obtain ⟨r58, hm59, H⟩ := bind_some H
 refine Zn rfl rfl rfl rfl (by kernel_rfl) rfl (Zbd x0.tuple A0_ c0_ _ (Zhu s0_.k (hS.rd0 s0_.rd) (hS.blk0 s0_.blk)) hm59) ?_
 rintro e w ⟨rfl, hN⟩; refine ⟨_, rfl, ?_⟩; obtain ⟨hB, hS⟩ := hS.jn hN
 refine Zb 1 rfl (Zg (Zc hK57 (Zd (fun K hK60 => Zd (fun K hK61 => Ze (Zb 1 rfl (Zg ?_)))))))
 refine Zc hK61 (Yd (Vq (X := Nat × Bool × Int) (fun x => (1, .pointer (some ⟨b2, 0, none⟩)) :: (2, .bool x.2.1) :: (5, .int .i64 r58) :: (6, .int .i64 x.2.2) :: []) (fun x w => St0 All w0 w (.box b35 [.int .i64 r33.1.index, .int .i64 r33.1.term, .int .i64 r33.1.sum, .int .i64 r33.1.level, .bool r33.1.final] 23 :: .box b2 [.int .i64 x0.id, .int .i64 x0.n, .int .u8 x0.role, .int .i64 x0.binary, .int .i64 x0.tuple.snap.index, .int .i64 x0.tuple.snap.term, .int .i64 x0.tuple.snap.sum, .int .i64 x0.tuple.snap.level, .bool x0.tuple.snap.final, .slice A0_ x0.tuple.log.length c0_, .int .i64 x0.tuple.term, .int .i64 x0.tuple.vote, .int .i64 x0.commit, .int .i64 x0.applied.index, .int .i64 x0.applied.term, .int .i64 x0.applied.sum, .int .i64 x0.applied.level, .bool x0.applied.final, .slice A1_ x0.votes.length c1_, .slice A2_ x0.next.length c2_, .slice A3_ x0.mtch.length c3_, .slice A4_ x0.caps.length c4_] 30 :: []) ∧ Jz x0 r58 x.1 x.2.1 x.2.2 = some r) (fun x => x.1) (Xr, false, 0) (by repeat (first | exact Sub.nil | refine Sub.cons rfl ?_)) ⟨hS, H⟩ ?_))
 rintro ⟨n, v62, v63⟩ w ⟨hS, H⟩
 dsimp only at hS H ⊢
 obtain _ | n := n
 ·have H0 : none = some r := H
  cases H0
 rw [Jz] at H
 refine Zd (fun K hK64 => Zd (fun K hK65 => Ze (Zb 1 rfl (Za rfl rfl rfl (Zf V4 rfl) (Za rfl rfl rfl (Zh Z1 rfl (Zhr _) hS Xa trivial Vl) (Za rfl rfl rfl (Xk rfl rfl) (Zg ?_)))))))
 refine Zc hK65 (Zy rfl (fun hb => ?_) (fun hb => ?_))
 rotate_left
 ·replace H := Zo H hb
  refine X1 (Z8 (Z8 (Yz (Zc hK60 (Zd (fun K hK106 => Zd (fun K hK107 => Ze ?_)))))))
  refine Za rfl rfl rfl (Zf Zbj rfl) (Za rfl rfl rfl (Zh Zbq rfl (Zhr _) hS Xa trivial Za0) (Za rfl rfl rfl (Xu rfl rfl) (Zb 1 rfl (Zs 157 rfl (fun hb => ?_) (fun hb => ?_)))))
  rotate_left
  ·replace H := Zo H hb
   refine Zb 13 rfl (Zg (Zc hK107 (Yl rfl rfl (Zr (Zc hK106 (Zd (fun K hK120 => Yi 11 [] (fun _ _ => True) ⟨by kernel_rfl, by kernel_rfl⟩ hS (fun w hS hB => ?_))))))))
   refine Zq [Tt,Tt,Tt,Tt,Tt,Tt,Tt,Tt,Tt,Tt,Tt] (by decide +kernel) PFC.h (LtK.put rfl rfl rfl (Zf Jl rfl) (LtK.put rfl rfl rfl (Zh X3 rfl (Zhs _) hS Xa trivial Zdc) (LtK.put rfl rfl rfl (Zf Zai rfl) (LtK.put rfl rfl rfl (Zh Z1 rfl (Zhs _) hS Xa trivial Y4) (LtK.put rfl rfl rfl (Ju rfl rfl) ?_)))))
   obtain ⟨e121, hi123, H⟩ := bind_some H
   obtain ⟨j122, hi123a, hi123b, hi123c⟩ := Yt hi123
   refine LtK.put rfl rfl rfl (Xf Xv rfl rfl hi123a hi123c (Rd.el (hS.rd0 s4_.rd) Yh hi123b)) (LtK.put rfl rfl rfl (Vj Z1 rfl (Zhs _) (Rd.el (hS.rd0 s4_.rd) Yh hi123b) rfl) (LtK.put rfl rfl rfl (Zf Zdr rfl) (LtK.put rfl rfl rfl (Zh Z1 rfl (Zhs _) hS Xa trivial J9) (LtK.put rfl rfl rfl (Y1 rfl rfl) (LtK.put rfl rfl rfl (Z2 rfl) (LtK.nil (Ye (by kernel_rfl) ?_)))))))
   refine Zc hK120 (Zk (Zm rfl (RV.tmp rfl RV.nil) rfl ?_))
   obtain rfl := QJ H
   replace hS := hS.cut 0
   exact ⟨rfl, hS⟩
  replace H := Zp H hb
  refine Za rfl rfl rfl (Zf Yy rfl) (Za rfl rfl rfl (Zf Vi rfl) (Za rfl rfl rfl (Zh Z1 rfl (Zhr _) hS Xa trivial Zam) (Za rfl rfl rfl (Xk rfl rfl) (Zb 1 rfl (Zs 162 rfl (fun hb => ?_) (fun hb => ?_))))))
  ·replace H := Zp H hb
   refine Zb 8 rfl (Zg (Zc hK107 (Zt rfl rfl (Zd (fun K hK110 => Ze (Zb 1 rfl (Zg ?_)))))))
   refine Zc hK110 (Zk (Zj (Zm rfl (RV.tmp rfl RV.nil) rfl ?_)))
   obtain rfl := QJ H
   replace hS := hS.cut 0
   exact ⟨rfl, hS⟩
  replace H := Zo H hb
  refine Za rfl rfl rfl (Zf Yy rfl) (Za rfl rfl rfl (Zf J5 rfl) (Za rfl rfl rfl (Zh Z1 rfl (Zhr _) hS Xa trivial sg11_1) (Za rfl rfl rfl (Zf Zai rfl) (Za rfl rfl rfl (Zh Z1 rfl (Zhr _) hS Xa trivial Y4) (Za rfl rfl rfl (Xu rfl rfl) (Zb 2 rfl (Zg ?_)))))))
  refine Zc hK107 (Zy rfl (fun hb => ?_) (fun hb => ?_))
  ·replace H := Zp H hb
   refine Zd (fun K hK113 => Ze (Zb 1 rfl (Zg (Zc hK113 (Zk (Zj (Zm rfl (RV.tmp rfl RV.nil) rfl ?_)))))))
   obtain rfl := QJ H
   replace hS := hS.cut 0
   exact ⟨rfl, hS⟩
  replace H := Zo H hb
  refine Zr (Zc hK106 (Zd (fun K hK115 => Yi 11 [] (fun _ _ => True) ⟨by kernel_rfl, by kernel_rfl⟩ hS (fun w hS hB => Zq [Tt,Tt,Tt,Tt,Tt,Tt,Tt,Tt,Tt,Tt,Tt] (by decide +kernel) PFC.h (LtK.put rfl rfl rfl (Zf Jl rfl) (LtK.put rfl rfl rfl (Zh X3 rfl (Zhs _) hS Xa trivial Zdc) (LtK.put rfl rfl rfl (Zf Zai rfl) ?_)))))))
  refine LtK.put rfl rfl rfl (Zh Z1 rfl (Zhs _) hS Xa trivial Y4) (LtK.put rfl rfl rfl (Ju rfl rfl) ?_)
  obtain ⟨e116, hi118, H⟩ := bind_some H
  obtain ⟨j117, hi118a, hi118b, hi118c⟩ := Yt hi118
  refine LtK.put rfl rfl rfl (Xf Xv rfl rfl hi118a hi118c (Rd.el (hS.rd0 s4_.rd) Yh hi118b)) (LtK.put rfl rfl rfl (Vj Z1 rfl (Zhs _) (Rd.el (hS.rd0 s4_.rd) Yh hi118b) rfl) (LtK.put rfl rfl rfl (Zf Zdr rfl) (LtK.put rfl rfl rfl (Zh Z1 rfl (Zhs _) hS Xa trivial J9) (LtK.put rfl rfl rfl (Y1 rfl rfl) (LtK.put rfl rfl rfl (Z2 rfl) (LtK.nil (Ye (by kernel_rfl) ?_)))))))
  refine Zc hK115 (Zk (Zm rfl (RV.tmp rfl RV.nil) rfl ?_))
  obtain rfl := QJ H
  replace hS := hS.cut 0
  exact ⟨rfl, hS⟩
 replace H := Zp H hb
 refine Zr (Zc hK64 (Zd (fun K hK67 => Yd (Zd (fun K hK68 => Ze (Za rfl rfl rfl (Zf Vs rfl) (Za rfl rfl rfl (Zh X3 rfl (Zhr _) hS Xa trivial Zat) ?_)))))))
 refine Zb 1 rfl ?_
 obtain ⟨e69, hi71, H⟩ := bind_some H
 obtain ⟨j70, hi71a, hi71b, hi71c⟩ := Yt hi71
 refine Za rfl rfl rfl (Xf Xv rfl rfl hi71a hi71c (Rd.el (hS.rd0 s2_.rd) Yh hi71b)) (Za rfl rfl rfl (Vj Z1 rfl (Zhr _) (Rd.el (hS.rd0 s2_.rd) Yh hi71b) rfl) (Za rfl rfl rfl (Xk rfl rfl) (Zb 1 rfl (Zs 111 rfl (fun hb => ?_) (fun hb => ?_)))))
 ·replace H := Zp H hb
  refine Zb 42 rfl (Zg (Zc hK68 (Zt rfl rfl (Zd (fun K hK73 => Ze (Zb 1 rfl (Zg ?_)))))))
  refine Zc hK73 (Zk (Zx (Zj (Zj (Zx (Zj (Zm rfl (RV.tmp rfl RV.nil) rfl ?_)))))))
  obtain rfl := QJ H
  replace hS := hS.cut 0
  exact ⟨rfl, hS⟩
 replace H := Zo H hb
 refine Za rfl rfl rfl (Zf Vs rfl) (Za rfl rfl rfl (Zh X3 rfl (Zhr _) hS Xa trivial Zat) (Zb 1 rfl ?_))
 obtain ⟨e75, hi77, H⟩ := bind_some H
 obtain ⟨j76, hi77a, hi77b, hi77c⟩ := Yt hi77
 refine Za rfl rfl rfl (Xf Xv rfl rfl hi77a hi77c (Rd.el (hS.rd0 s2_.rd) Yh hi77b)) (Za rfl rfl rfl (Vj Z1 rfl (Zhr _) (Rd.el (hS.rd0 s2_.rd) Yh hi77b) rfl) (Zb 1 rfl (Za rfl rfl rfl (Xd rfl rfl) (Za rfl rfl rfl (Xc rfl rfl) (Zb 2 rfl (Zs 121 rfl (fun hb => ?_) (fun hb => ?_)))))))
 ·replace H := Zp H hb
  refine Zb 32 rfl (Zg (Zc hK68 (Zt rfl rfl (Zd (fun K hK79 => Ze (Zb 1 rfl (Zg ?_)))))))
  refine Zc hK79 (Zk (Zx (Zj (Zj (Zx (Zj (Zm rfl (RV.tmp rfl RV.nil) rfl ?_)))))))
  obtain rfl := QJ H
  replace hS := hS.cut 0
  exact ⟨rfl, hS⟩
 replace H := Zo H hb
 refine Za rfl rfl rfl (Zf Ji rfl) (Za rfl rfl rfl (Zh X3 rfl (Zhr _) hS Xa trivial Zbo) (Zb 1 rfl ?_))
 obtain ⟨e81, hi83, H⟩ := bind_some H
 obtain ⟨j82, hi83a, hi83b, hi83c⟩ := Yt hi83
 refine Za rfl rfl rfl (Xf Xv rfl rfl hi83a hi83c (Rd.el (hS.rd0 s3_.rd) Yh hi83b)) (Za rfl rfl rfl (Vj Z1 rfl (Zhr _) (Rd.el (hS.rd0 s3_.rd) Yh hi83b) rfl) (Za rfl rfl rfl (Xk rfl rfl) (Zb 2 rfl (Zs 129 rfl (fun hb => ?_) (fun hb => ?_)))))
 ·replace H := Zp H hb
  refine Zb 24 rfl (Zg (Zc hK68 (Zt rfl rfl (Zd (fun K hK85 => Ze (Zb 1 rfl (Zg ?_)))))))
  refine Zc hK85 (Zk (Zx (Zj (Zj (Zx (Zj (Zm rfl (RV.tmp rfl RV.nil) rfl ?_)))))))
  obtain rfl := QJ H
  replace hS := hS.cut 0
  exact ⟨rfl, hS⟩
 replace H := Zo H hb
 refine Za rfl rfl rfl (Zf Ji rfl) (Za rfl rfl rfl (Zh X3 rfl (Zhr _) hS Xa trivial Zbo) (Zb 1 rfl ?_))
 obtain ⟨e87, hi89, H⟩ := bind_some H
 obtain ⟨j88, hi89a, hi89b, hi89c⟩ := Yt hi89
 refine Za rfl rfl rfl (Xf Xv rfl rfl hi89a hi89c (Rd.el (hS.rd0 s3_.rd) Yh hi89b)) (Za rfl rfl rfl (Vj Z1 rfl (Zhr _) (Rd.el (hS.rd0 s3_.rd) Yh hi89b) rfl) (Zb 1 rfl (Za rfl rfl rfl (Xc rfl rfl) (Zb 2 rfl (Zs 138 rfl (fun hb => ?_) (fun hb => ?_))))))
 ·replace H := Zp H hb
  refine Zb 15 rfl (Zg (Zc hK68 (Zt rfl rfl (Zd (fun K hK91 => Ze (Zb 1 rfl (Zg ?_)))))))
  refine Zc hK91 (Zk (Zx (Zj (Zj (Zx (Zj (Zm rfl (RV.tmp rfl RV.nil) rfl ?_)))))))
  obtain rfl := QJ H
  replace hS := hS.cut 0
  exact ⟨rfl, hS⟩
 replace H := Zo H hb
 refine Za rfl rfl rfl (Zf Jl rfl) (Za rfl rfl rfl (Zh X3 rfl (Zhr _) hS Xa trivial Zdc) (Zb 1 rfl ?_))
 obtain ⟨e93, hi95, H⟩ := bind_some H
 obtain ⟨j94, hi95a, hi95b, hi95c⟩ := Yt hi95
 refine Za rfl rfl rfl (Xf Xv rfl rfl hi95a hi95c (Rd.el (hS.rd0 s4_.rd) Yh hi95b)) (Za rfl rfl rfl (Vj Z1 rfl (Zhr _) (Rd.el (hS.rd0 s4_.rd) Yh hi95b) rfl) (Za rfl rfl rfl (Xk rfl rfl) (Zb 2 rfl (Zs 146 rfl (fun hb => ?_) (fun hb => ?_)))))
 ·replace H := Zp H hb
  refine Zb 7 rfl (Zg (Zc hK68 (Zt rfl rfl (Zd (fun K hK97 => Ze (Zb 1 rfl (Zg ?_)))))))
  refine Zc hK97 (Zk (Zx (Zj (Zj (Zx (Zj (Zm rfl (RV.tmp rfl RV.nil) rfl ?_)))))))
  obtain rfl := QJ H
  replace hS := hS.cut 0
  exact ⟨rfl, hS⟩
 replace H := Zo H hb
 refine Za rfl rfl rfl (Zf Jl rfl) (Za rfl rfl rfl (Zh X3 rfl (Zhr _) hS Xa trivial Zdc) (Zb 1 rfl ?_))
 obtain ⟨e99, hi101, H⟩ := bind_some H
 obtain ⟨j100, hi101a, hi101b, hi101c⟩ := Yt hi101
 refine Za rfl rfl rfl (Xf Xv rfl rfl hi101a hi101c (Rd.el (hS.rd0 s4_.rd) Yh hi101b)) (Za rfl rfl rfl (Vj Z1 rfl (Zhr _) (Rd.el (hS.rd0 s4_.rd) Yh hi101b) rfl) (Za rfl rfl rfl (Xc rfl rfl) (Zb 1 rfl (Zg (Zc hK68 (Zy rfl (fun hb => ?_) (fun hb => ?_)))))))
 rotate_left
 ·replace H := Zo H hb
  refine Zr (Z3 (Zc hK67 (Ze (Zb 1 rfl (Za rfl rfl rfl (Xd rfl rfl) (Zb 1 rfl (Zg ?_)))))))
  exact X2 (n, v62, (IntKind.wrap .i64 (v63 + 1))) (by repeat (first | exact Sub.nil | refine Sub.cons rfl ?_)) ⟨hS, H⟩ (Nat.lt_succ_self _)
 replace H := Zp H hb
 refine Zd (fun K hK103 => Ze (Zb 1 rfl (Zg (Zc hK103 (Zk (Zx (Zj ?_)))))))
 refine Zj (Zx (Zj (Zm rfl (RV.tmp rfl RV.nil) rfl ?_)))
 obtain rfl := QJ H
 replace hS := hS.cut 0
 exact ⟨rfl, hS⟩
theorem c_ref12_Hard (x0 : Tu) (x1 : Int) (x2 : Int) (A0_ : OA) (c0_ : Nat) (w0 : World) (s0_ : SlI w0 Vv A0_ c0_ x0.log) {r : Tu × Int} (H : Zc5 x0 x1 x2 = some r) : Calls Tryz.prog 54 #[.agg #[.int .i64 x0.snap.index, .int .i64 x0.snap.term, .int .i64 x0.snap.sum, .int .i64 x0.snap.level, .bool x0.snap.final, .slice A0_ x0.log.length c0_, .int .i64 x0.term, .int .i64 x0.vote], .int .i64 x1, .int .i64 x2] w0 fun e w' => ∃ (A0 : OA) (c0 : Nat), e = .returned (.tuple #[.agg #[.int .i64 r.1.snap.index, .int .i64 r.1.snap.term, .int .i64 r.1.snap.sum, .int .i64 r.1.snap.level, .bool r.1.snap.final, .slice A0 r.1.log.length c0, .int .i64 r.1.term, .int .i64 r.1.vote], .int .i64 r.2]) ∧ (r.1.log.length ≤ c0 ∧ c0 ≤ maxLen) ∧ St0 All w0 w' [.row (.slice A0 r.1.log.length c0) 53 3 r.1.log.length (Yg Vv r.1.log)] := by
 unfold Zc5 at H
 refine Vx Tryz.func54 rfl Tryz.ntmps54 rfl ?_
 have hS := St0.start All w0
 refine Zd (fun K hK1 => Ze (Z4 rfl rfl rfl CellsOf.agg hS (fun b2 w hS hB => Z5 rfl rfl Zal hS (fun b4 w hS hB => Zb 1 rfl (Zg (Zc hK1 (Zd (fun K hK6 => ?_))))))))
 refine Ze (Za rfl rfl rfl (Zi Ya rfl (Zhr _) hS Xa trivial Yx) ?_)
 obtain ⟨r7, hm8, H⟩ := bind_some H
 refine Zn rfl rfl rfl rfl (by kernel_rfl) rfl (Va x0 A0_ c0_ _ (Zhu s0_.k (hS.rd0 s0_.rd) (hS.blk0 s0_.blk)) hm8) ?_
 rintro e w ⟨A9, c10, rfl, k11, hN⟩; refine ⟨_, rfl, ?_⟩; obtain ⟨hB, hS⟩ := hS.jn hN
 refine Z5 rfl rfl Zal hS (fun b13 w hS hB => Zl rfl rfl rfl CellsOf.agg hS ps0 X0 (by kernel_rfl) rfl (fun w hS hB => Zg (Zc hK6 (Zd (fun K hK15 => Ze (Zb 2 rfl (Za rfl rfl rfl (Zf Vi rfl) ?_)))))))
 refine Zl rfl rfl rfl CellsOf.int hS ps0 st6_1 (by kernel_rfl) rfl (fun w hS hB => Za rfl rfl rfl (Zf J5 rfl) (Zl rfl rfl rfl CellsOf.int hS ps0 st7_1 (by kernel_rfl) rfl (fun w hS hB => Zg (Zc hK15 (Zd (fun K hK16 => Ze (Za rfl rfl rfl (Zi Ya rfl (Zhr _) hS hs3 trivial Yx) ?_)))))))
 refine Za rfl rfl rfl (Zi Ya rfl (Zhr _) hS hs0 trivial Yx) (Zb 1 rfl (Za rfl rfl rfl (Zf Vi rfl) (Za rfl rfl rfl (Zh Z1 rfl (Zhr _) hS hs3 trivial Zgj) (Za rfl rfl rfl (Xc rfl rfl) (Zb 1 rfl (Zs 21 rfl (fun hb => ?_) (fun hb => ?_)))))))
 ·replace H := Zp H hb
  refine Zb 16 rfl (Jy rfl rfl rfl rfl (by kernel_rfl) rfl ?_)
  show Calls _ _ #[_, _, _] _ _
  refine Vx Tryz.func103 rfl Tryz.ntmps103 rfl (Zd (fun K hK18 => Ze (Z4 rfl rfl rfl CellsOf.agg hS (fun b19 w hS hB => Z4 rfl rfl rfl CellsOf.agg hS (fun b21 w hS hB => Z5 rfl rfl Zal hS (fun b23 w hS hB => Zb 1 rfl (Zg ?_)))))))
  refine Zc hK18 (Zd (fun K hK25 => Zd (fun K hK26 => Ze (Zb 1 rfl (Za rfl rfl rfl (Ys rfl) (Zb 1 rfl (Za rfl rfl rfl (Zi Ya rfl (Zhr _) hS Xq trivial Yx) ?_)))))))
  obtain ⟨r27, hm28, H⟩ := bind_some H
  refine Zn rfl rfl rfl rfl (by kernel_rfl) rfl (V9 x0 A0_ c0_ _ (Zhu s0_.k (hS.rd0 s0_.rd) (hS.blk0 s0_.blk)) hm28) ?_
  rintro e w ⟨rfl, hN⟩; refine ⟨_, rfl, ?_⟩; obtain ⟨hB, hS⟩ := hS.jn hN
  refine Za rfl rfl rfl (Ys rfl) (Zb 2 rfl (Zs 15 rfl (fun hb => ?_) (fun hb => ?_)))
  ·replace H := Zp H hb
   refine Zb 4 rfl (Zg (Zc hK26 (Zt rfl rfl (Zd (fun K hK30 => Ze (Za rfl rfl rfl (Zi Ya rfl (Zhr _) hS Xq trivial Yx) ?_))))))
   obtain ⟨r31, hm32, H⟩ := bind_some H
   refine Zn rfl rfl rfl rfl (by kernel_rfl) rfl (Va x0 A0_ c0_ _ (Zhu s0_.k (hS.rd0 s0_.rd) (hS.blk0 s0_.blk)) hm32) ?_
   rintro e w ⟨A33, c34, rfl, k35, hN⟩; refine ⟨_, rfl, ?_⟩; obtain ⟨hB, hS⟩ := hS.jn hN
   refine Zl rfl rfl rfl CellsOf.agg hS ps1 X0 (by kernel_rfl) rfl (fun w hS hB => Zb 1 rfl (Zg (Zc hK30 (Zk (Zj (Zm rfl (RV.cell rfl (Zu Ya hS Xa Yx) (RV.tmp rfl RV.nil)) rfl (⟨_, rfl, ?_⟩)))))))
   refine Za rfl rfl rfl (Zv rfl rfl) (Za rfl rfl rfl (Zv rfl rfl) (Zl rfl rfl rfl CellsOf.agg hS ps6 X0 (by kernel_rfl) rfl (fun w hS hB => Zb 1 rfl (Zg (Zc hK16 (Zk (Zm rfl (RV.cell rfl (Zu Ya hS hs6 Yx) (RV.tmp rfl RV.nil)) rfl ?_)))))))
   obtain rfl := QJ H
   have hS := hS.front 0 rfl
   replace hS := hS.cut 1
   exact ⟨A33, c34, rfl, k35, hS⟩
  replace H := Zo H hb
  refine Za rfl rfl rfl (Zi Ya rfl (Zhr _) hS Xa trivial Yx) ?_
  obtain ⟨r38, hm39, H⟩ := bind_some H
  refine Zn rfl rfl rfl rfl (by kernel_rfl) rfl (V9 (⟨r7.snap, r7.log, x1, x2⟩ : Tu) A9 c10 _ (Zhu k11 (hS.row_rd hs4) (hS.row_blk hs4)) hm39) ?_
  rintro e w ⟨rfl, hN⟩; refine ⟨_, rfl, ?_⟩; obtain ⟨hB, hS⟩ := hS.jn hN
  refine Za rfl rfl rfl (Ys rfl) (Zb 1 rfl (Zg (Zc hK26 (Zy rfl (fun hb => ?_) (fun hb => ?_)))))
  rotate_left
  ·replace H := Zo H hb
   refine Zr (Zc hK25 (Zd (fun K hK49 => Ze (Za rfl rfl rfl (Zi Ya rfl (Zhr _) hS Xa trivial Yx) (Zl rfl rfl rfl CellsOf.agg hS ps0 X0 (by kernel_rfl) rfl (fun w hS hB => Zb 1 rfl (Zg ?_)))))))
   refine Zc hK49 (Zk (Zm rfl (RV.cell rfl (Zu Ya hS hs0 Yx) (RV.tmp rfl RV.nil)) rfl (⟨_, rfl, ?_⟩)))
   refine Za rfl rfl rfl (Zv rfl rfl) (Za rfl rfl rfl (Zv rfl rfl) (Zl rfl rfl rfl CellsOf.agg hS ps5 X0 (by kernel_rfl) rfl (fun w hS hB => Zb 1 rfl (Zg (Zc hK16 (Zk (Zm rfl (RV.cell rfl (Zu Ya hS hs5 Yx) (RV.tmp rfl RV.nil)) rfl ?_)))))))
   obtain rfl := QJ H
   have hS := hS.front 4 rfl
   replace hS := hS.cut 1
   exact ⟨A9, c10, rfl, k11, hS⟩
  replace H := Zp H hb
  refine Zd (fun K hK41 => Ze (Za rfl rfl rfl (Zi Ya rfl (Zhr _) hS Xq trivial Yx) ?_))
  obtain ⟨r42, hm43, H⟩ := bind_some H
  refine Zn rfl rfl rfl rfl (by kernel_rfl) rfl (Va x0 A0_ c0_ _ (Zhu s0_.k (hS.rd0 s0_.rd) (hS.blk0 s0_.blk)) hm43) ?_
  rintro e w ⟨A44, c45, rfl, k46, hN⟩; refine ⟨_, rfl, ?_⟩; obtain ⟨hB, hS⟩ := hS.jn hN
  refine Zl rfl rfl rfl CellsOf.agg hS ps1 X0 (by kernel_rfl) rfl (fun w hS hB => Zb 1 rfl (Zg (Zc hK41 (Zk (Zj (Zm rfl (RV.cell rfl (Zu Ya hS Xa Yx) (RV.tmp rfl RV.nil)) rfl (⟨_, rfl, ?_⟩)))))))
  refine Za rfl rfl rfl (Zv rfl rfl) (Za rfl rfl rfl (Zv rfl rfl) (Zl rfl rfl rfl CellsOf.agg hS ps6 X0 (by kernel_rfl) rfl (fun w hS hB => Zb 1 rfl (Zg (Zc hK16 (Zk (Zm rfl (RV.cell rfl (Zu Ya hS hs6 Yx) (RV.tmp rfl RV.nil)) rfl ?_)))))))
  obtain rfl := QJ H
  have hS := hS.front 0 rfl
  replace hS := hS.cut 1
  exact ⟨A44, c45, rfl, k46, hS⟩
 replace H := Zo H hb
 refine Zb 1 rfl (Za rfl rfl rfl (Zf Vi rfl) (Za rfl rfl rfl (Zh Z1 rfl (Zhr _) hS hs3 trivial Zgj) (Za rfl rfl rfl (Y1 rfl rfl) (Zb 1 rfl (Zs 26 rfl (fun hb => ?_) (fun hb => ?_))))))
 rotate_left
 ·replace H := Zo H hb
  refine Zb 11 rfl (Jy rfl rfl rfl rfl (by kernel_rfl) rfl ?_)
  show Calls _ _ #[_, _, _] _ _
  refine Vx Tryz.func103 rfl Tryz.ntmps103 rfl (Zd (fun K hK128 => Ze (Z4 rfl rfl rfl CellsOf.agg hS (fun b129 w hS hB => Z4 rfl rfl rfl CellsOf.agg hS (fun b131 w hS hB => Z5 rfl rfl Zal hS (fun b133 w hS hB => Zb 1 rfl (Zg ?_)))))))
  refine Zc hK128 (Zd (fun K hK135 => Zd (fun K hK136 => Ze (Zb 1 rfl (Za rfl rfl rfl (Ys rfl) (Zb 10 rfl (Zg ?_)))))))
  refine Zc hK136 (Zt rfl rfl (Zd (fun K hK137 => Ze (Za rfl rfl rfl (Zi Ya rfl (Zhr _) hS Xq trivial Yx) ?_))))
  obtain ⟨r138, hm139, H⟩ := bind_some H
  refine Zn rfl rfl rfl rfl (by kernel_rfl) rfl (Va x0 A0_ c0_ _ (Zhu s0_.k (hS.rd0 s0_.rd) (hS.blk0 s0_.blk)) hm139) ?_
  rintro e w ⟨A140, c141, rfl, k142, hN⟩; refine ⟨_, rfl, ?_⟩; obtain ⟨hB, hS⟩ := hS.jn hN
  refine Zl rfl rfl rfl CellsOf.agg hS ps1 X0 (by kernel_rfl) rfl (fun w hS hB => Zb 1 rfl (Zg (Zc hK137 (Zk (Zj (Zm rfl (RV.cell rfl (Zu Ya hS Xa Yx) (RV.tmp rfl RV.nil)) rfl (⟨_, rfl, ?_⟩)))))))
  refine Za rfl rfl rfl (Zv rfl rfl) (Za rfl rfl rfl (Zv rfl rfl) (Zl rfl rfl rfl CellsOf.agg hS ps6 X0 (by kernel_rfl) rfl (fun w hS hB => Zb 1 rfl (Zg (Zc hK16 (Zk (Zm rfl (RV.cell rfl (Zu Ya hS hs6 Yx) (RV.tmp rfl RV.nil)) rfl ?_)))))))
  obtain rfl := QJ H
  have hS := hS.front 0 rfl
  replace hS := hS.cut 1
  exact ⟨A140, c141, rfl, k142, hS⟩
 replace H := Zp H hb
 refine Za rfl rfl rfl (Zf J5 rfl) (Za rfl rfl rfl (Zh Z1 rfl (Zhr _) hS hs3 trivial Zey) (Za rfl rfl rfl (Y1 rfl rfl) (Zb 1 rfl (Zs 30 rfl (fun hb => ?_) (fun hb => ?_)))))
 ·replace H := Zp H hb
  refine Zb 7 rfl (Jy rfl rfl rfl rfl (by kernel_rfl) rfl ?_)
  show Calls _ _ #[_, _, _] _ _
  refine Vx Tryz.func103 rfl Tryz.ntmps103 rfl (Zd (fun K hK53 => Ze (Z4 rfl rfl rfl CellsOf.agg hS (fun b54 w hS hB => Z4 rfl rfl rfl CellsOf.agg hS (fun b56 w hS hB => Z5 rfl rfl Zal hS (fun b58 w hS hB => Zb 1 rfl (Zg ?_)))))))
  refine Zc hK53 (Zd (fun K hK60 => Zd (fun K hK61 => Ze (Zb 1 rfl (Za rfl rfl rfl (Ys rfl) (Zb 1 rfl (Za rfl rfl rfl (Zi Ya rfl (Zhr _) hS Xq trivial Yx) ?_)))))))
  obtain ⟨r62, hm63, H⟩ := bind_some H
  refine Zn rfl rfl rfl rfl (by kernel_rfl) rfl (V9 x0 A0_ c0_ _ (Zhu s0_.k (hS.rd0 s0_.rd) (hS.blk0 s0_.blk)) hm63) ?_
  rintro e w ⟨rfl, hN⟩; refine ⟨_, rfl, ?_⟩; obtain ⟨hB, hS⟩ := hS.jn hN
  refine Za rfl rfl rfl (Ys rfl) (Zb 2 rfl (Zs 15 rfl (fun hb => ?_) (fun hb => ?_)))
  ·replace H := Zp H hb
   refine Zb 4 rfl (Zg (Zc hK61 (Zt rfl rfl (Zd (fun K hK65 => Ze (Za rfl rfl rfl (Zi Ya rfl (Zhr _) hS Xq trivial Yx) ?_))))))
   obtain ⟨r66, hm67, H⟩ := bind_some H
   refine Zn rfl rfl rfl rfl (by kernel_rfl) rfl (Va x0 A0_ c0_ _ (Zhu s0_.k (hS.rd0 s0_.rd) (hS.blk0 s0_.blk)) hm67) ?_
   rintro e w ⟨A68, c69, rfl, k70, hN⟩; refine ⟨_, rfl, ?_⟩; obtain ⟨hB, hS⟩ := hS.jn hN
   refine Zl rfl rfl rfl CellsOf.agg hS ps1 X0 (by kernel_rfl) rfl (fun w hS hB => Zb 1 rfl (Zg (Zc hK65 (Zk (Zj (Zm rfl (RV.cell rfl (Zu Ya hS Xa Yx) (RV.tmp rfl RV.nil)) rfl (⟨_, rfl, ?_⟩)))))))
   refine Za rfl rfl rfl (Zv rfl rfl) (Za rfl rfl rfl (Zv rfl rfl) (Zl rfl rfl rfl CellsOf.agg hS ps6 X0 (by kernel_rfl) rfl (fun w hS hB => Zb 1 rfl (Zg (Zc hK16 (Zk (Zm rfl (RV.cell rfl (Zu Ya hS hs6 Yx) (RV.tmp rfl RV.nil)) rfl ?_)))))))
   obtain rfl := QJ H
   have hS := hS.front 0 rfl
   replace hS := hS.cut 1
   exact ⟨A68, c69, rfl, k70, hS⟩
  replace H := Zo H hb
  refine Za rfl rfl rfl (Zi Ya rfl (Zhr _) hS Xa trivial Yx) ?_
  obtain ⟨r73, hm74, H⟩ := bind_some H
  refine Zn rfl rfl rfl rfl (by kernel_rfl) rfl (V9 (⟨r7.snap, r7.log, x1, x2⟩ : Tu) A9 c10 _ (Zhu k11 (hS.row_rd hs4) (hS.row_blk hs4)) hm74) ?_
  rintro e w ⟨rfl, hN⟩; refine ⟨_, rfl, ?_⟩; obtain ⟨hB, hS⟩ := hS.jn hN
  refine Za rfl rfl rfl (Ys rfl) (Zb 1 rfl (Zg (Zc hK61 (Zy rfl (fun hb => ?_) (fun hb => ?_)))))
  rotate_left
  ·replace H := Zo H hb
   refine Zr (Zc hK60 (Zd (fun K hK84 => Ze (Za rfl rfl rfl (Zi Ya rfl (Zhr _) hS Xa trivial Yx) (Zl rfl rfl rfl CellsOf.agg hS ps0 X0 (by kernel_rfl) rfl (fun w hS hB => Zb 1 rfl (Zg ?_)))))))
   refine Zc hK84 (Zk (Zm rfl (RV.cell rfl (Zu Ya hS hs0 Yx) (RV.tmp rfl RV.nil)) rfl (⟨_, rfl, ?_⟩)))
   refine Za rfl rfl rfl (Zv rfl rfl) (Za rfl rfl rfl (Zv rfl rfl) (Zl rfl rfl rfl CellsOf.agg hS ps5 X0 (by kernel_rfl) rfl (fun w hS hB => Zb 1 rfl (Zg (Zc hK16 (Zk (Zm rfl (RV.cell rfl (Zu Ya hS hs5 Yx) (RV.tmp rfl RV.nil)) rfl ?_)))))))
   obtain rfl := QJ H
   have hS := hS.front 4 rfl
   replace hS := hS.cut 1
   exact ⟨A9, c10, rfl, k11, hS⟩
  replace H := Zp H hb
  refine Zd (fun K hK76 => Ze (Za rfl rfl rfl (Zi Ya rfl (Zhr _) hS Xq trivial Yx) ?_))
  obtain ⟨r77, hm78, H⟩ := bind_some H
  refine Zn rfl rfl rfl rfl (by kernel_rfl) rfl (Va x0 A0_ c0_ _ (Zhu s0_.k (hS.rd0 s0_.rd) (hS.blk0 s0_.blk)) hm78) ?_
  rintro e w ⟨A79, c80, rfl, k81, hN⟩; refine ⟨_, rfl, ?_⟩; obtain ⟨hB, hS⟩ := hS.jn hN
  refine Zl rfl rfl rfl CellsOf.agg hS ps1 X0 (by kernel_rfl) rfl (fun w hS hB => Zb 1 rfl (Zg (Zc hK76 (Zk (Zj (Zm rfl (RV.cell rfl (Zu Ya hS Xa Yx) (RV.tmp rfl RV.nil)) rfl (⟨_, rfl, ?_⟩)))))))
  refine Za rfl rfl rfl (Zv rfl rfl) (Za rfl rfl rfl (Zv rfl rfl) (Zl rfl rfl rfl CellsOf.agg hS ps6 X0 (by kernel_rfl) rfl (fun w hS hB => Zb 1 rfl (Zg (Zc hK16 (Zk (Zm rfl (RV.cell rfl (Zu Ya hS hs6 Yx) (RV.tmp rfl RV.nil)) rfl ?_)))))))
  obtain rfl := QJ H
  have hS := hS.front 0 rfl
  replace hS := hS.cut 1
  exact ⟨A79, c80, rfl, k81, hS⟩
 replace H := Zo H hb
 refine Za rfl rfl rfl (Zf J5 rfl) (Za rfl rfl rfl (Zh Z1 rfl (Zhr _) hS hs3 trivial Zey) (Zb 1 rfl (Za rfl rfl rfl (Y1 rfl rfl) (Zb 3 rfl (Jy rfl rfl rfl rfl (by kernel_rfl) rfl ?_)))))
 show Calls _ _ #[_, _, _] _ _
 refine Vx Tryz.func103 rfl Tryz.ntmps103 rfl (Zd (fun K hK86 => Ze (Z4 rfl rfl rfl CellsOf.agg hS (fun b87 w hS hB => Z4 rfl rfl rfl CellsOf.agg hS (fun b89 w hS hB => Z5 rfl rfl Zal hS (fun b91 w hS hB => Zb 1 rfl (Zg ?_)))))))
 refine Zc hK86 (Zd (fun K hK93 => Zd (fun K hK94 => Ze (Zb 1 rfl (Za rfl rfl rfl (Ys rfl) (Zb 1 rfl (Zs 10 rfl (fun hb => ?_) (fun hb => ?_))))))))
 ·replace H := Zp H hb
  refine Zb 9 rfl (Zg (Zc hK94 (Zt rfl rfl (Zd (fun K hK96 => Ze (Za rfl rfl rfl (Zi Ya rfl (Zhr _) hS Xq trivial Yx) ?_))))))
  obtain ⟨r97, hm98, H⟩ := bind_some H
  refine Zn rfl rfl rfl rfl (by kernel_rfl) rfl (Va x0 A0_ c0_ _ (Zhu s0_.k (hS.rd0 s0_.rd) (hS.blk0 s0_.blk)) hm98) ?_
  rintro e w ⟨A99, c100, rfl, k101, hN⟩; refine ⟨_, rfl, ?_⟩; obtain ⟨hB, hS⟩ := hS.jn hN
  refine Zl rfl rfl rfl CellsOf.agg hS ps1 X0 (by kernel_rfl) rfl (fun w hS hB => Zb 1 rfl (Zg (Zc hK96 (Zk (Zj (Zm rfl (RV.cell rfl (Zu Ya hS Xa Yx) (RV.tmp rfl RV.nil)) rfl (⟨_, rfl, ?_⟩)))))))
  refine Za rfl rfl rfl (Zv rfl rfl) (Za rfl rfl rfl (Zv rfl rfl) (Zl rfl rfl rfl CellsOf.agg hS ps6 X0 (by kernel_rfl) rfl (fun w hS hB => Zb 1 rfl (Zg (Zc hK16 (Zk (Zm rfl (RV.cell rfl (Zu Ya hS hs6 Yx) (RV.tmp rfl RV.nil)) rfl ?_)))))))
  obtain rfl := QJ H
  have hS := hS.front 0 rfl
  replace hS := hS.cut 1
  exact ⟨A99, c100, rfl, k101, hS⟩
 replace H := Zo H hb
 refine Za rfl rfl rfl (Zi Ya rfl (Zhr _) hS Xq trivial Yx) ?_
 obtain ⟨r104, hm105, H⟩ := bind_some H
 refine Zn rfl rfl rfl rfl (by kernel_rfl) rfl (V9 x0 A0_ c0_ _ (Zhu s0_.k (hS.rd0 s0_.rd) (hS.blk0 s0_.blk)) hm105) ?_
 rintro e w ⟨rfl, hN⟩; refine ⟨_, rfl, ?_⟩; obtain ⟨hB, hS⟩ := hS.jn hN
 refine Za rfl rfl rfl (Ys rfl) (Zb 2 rfl (Zs 15 rfl (fun hb => ?_) (fun hb => ?_)))
 ·replace H := Zp H hb
  refine Zb 4 rfl (Zg (Zc hK94 (Zt rfl rfl (Zd (fun K hK107 => Ze (Za rfl rfl rfl (Zi Ya rfl (Zhr _) hS Xq trivial Yx) ?_))))))
  obtain ⟨r108, hm109, H⟩ := bind_some H
  refine Zn rfl rfl rfl rfl (by kernel_rfl) rfl (Va x0 A0_ c0_ _ (Zhu s0_.k (hS.rd0 s0_.rd) (hS.blk0 s0_.blk)) hm109) ?_
  rintro e w ⟨A110, c111, rfl, k112, hN⟩; refine ⟨_, rfl, ?_⟩; obtain ⟨hB, hS⟩ := hS.jn hN
  refine Zl rfl rfl rfl CellsOf.agg hS ps1 X0 (by kernel_rfl) rfl (fun w hS hB => Zb 1 rfl (Zg (Zc hK107 (Zk (Zj (Zm rfl (RV.cell rfl (Zu Ya hS Xa Yx) (RV.tmp rfl RV.nil)) rfl (⟨_, rfl, ?_⟩)))))))
  refine Za rfl rfl rfl (Zv rfl rfl) (Za rfl rfl rfl (Zv rfl rfl) (Zl rfl rfl rfl CellsOf.agg hS ps6 X0 (by kernel_rfl) rfl (fun w hS hB => Zb 1 rfl (Zg (Zc hK16 (Zk (Zm rfl (RV.cell rfl (Zu Ya hS hs6 Yx) (RV.tmp rfl RV.nil)) rfl ?_)))))))
  obtain rfl := QJ H
  have hS := hS.front 0 rfl
  replace hS := hS.cut 1
  exact ⟨A110, c111, rfl, k112, hS⟩
 replace H := Zo H hb
 refine Za rfl rfl rfl (Zi Ya rfl (Zhr _) hS Xa trivial Yx) ?_
 obtain ⟨r115, hm116, H⟩ := bind_some H
 refine Zn rfl rfl rfl rfl (by kernel_rfl) rfl (V9 (⟨r7.snap, r7.log, x1, x2⟩ : Tu) A9 c10 _ (Zhu k11 (hS.row_rd hs4) (hS.row_blk hs4)) hm116) ?_
 rintro e w ⟨rfl, hN⟩; refine ⟨_, rfl, ?_⟩; obtain ⟨hB, hS⟩ := hS.jn hN
 refine Za rfl rfl rfl (Ys rfl) (Zb 1 rfl (Zg (Zc hK94 (Zy rfl (fun hb => ?_) (fun hb => ?_)))))
 rotate_left
 ·replace H := Zo H hb
  refine Zr (Zc hK93 (Zd (fun K hK126 => Ze (Za rfl rfl rfl (Zi Ya rfl (Zhr _) hS Xa trivial Yx) (Zl rfl rfl rfl CellsOf.agg hS ps0 X0 (by kernel_rfl) rfl (fun w hS hB => Zb 1 rfl (Zg ?_)))))))
  refine Zc hK126 (Zk (Zm rfl (RV.cell rfl (Zu Ya hS hs0 Yx) (RV.tmp rfl RV.nil)) rfl (⟨_, rfl, ?_⟩)))
  refine Za rfl rfl rfl (Zv rfl rfl) (Za rfl rfl rfl (Zv rfl rfl) (Zl rfl rfl rfl CellsOf.agg hS ps5 X0 (by kernel_rfl) rfl (fun w hS hB => Zb 1 rfl (Zg (Zc hK16 (Zk (Zm rfl (RV.cell rfl (Zu Ya hS hs5 Yx) (RV.tmp rfl RV.nil)) rfl ?_)))))))
  obtain rfl := QJ H
  have hS := hS.front 4 rfl
  replace hS := hS.cut 1
  exact ⟨A9, c10, rfl, k11, hS⟩
 replace H := Zp H hb
 refine Zd (fun K hK118 => Ze (Za rfl rfl rfl (Zi Ya rfl (Zhr _) hS Xq trivial Yx) ?_))
 obtain ⟨r119, hm120, H⟩ := bind_some H
 refine Zn rfl rfl rfl rfl (by kernel_rfl) rfl (Va x0 A0_ c0_ _ (Zhu s0_.k (hS.rd0 s0_.rd) (hS.blk0 s0_.blk)) hm120) ?_
 rintro e w ⟨A121, c122, rfl, k123, hN⟩; refine ⟨_, rfl, ?_⟩; obtain ⟨hB, hS⟩ := hS.jn hN
 refine Zl rfl rfl rfl CellsOf.agg hS ps1 X0 (by kernel_rfl) rfl (fun w hS hB => Zb 1 rfl (Zg (Zc hK118 (Zk (Zj (Zm rfl (RV.cell rfl (Zu Ya hS Xa Yx) (RV.tmp rfl RV.nil)) rfl (⟨_, rfl, ?_⟩)))))))
 refine Za rfl rfl rfl (Zv rfl rfl) (Za rfl rfl rfl (Zv rfl rfl) (Zl rfl rfl rfl CellsOf.agg hS ps6 X0 (by kernel_rfl) rfl (fun w hS hB => Zb 1 rfl (Zg (Zc hK16 (Zk (Zm rfl (RV.cell rfl (Zu Ya hS hs6 Yx) (RV.tmp rfl RV.nil)) rfl ?_)))))))
 obtain rfl := QJ H
 have hS := hS.front 0 rfl
 replace hS := hS.cut 1
 exact ⟨A121, c122, rfl, k123, hS⟩
theorem c_ref12_At (x0 : Tu) (x1 : Int) (A0_ : OA) (c0_ : Nat) (w0 : World) (s0_ : SlI w0 Vv A0_ c0_ x0.log) {r : En × Bool} (H : Zcp x0 x1 = some r) : Calls Tryz.prog 40 #[.agg #[.int .i64 x0.snap.index, .int .i64 x0.snap.term, .int .i64 x0.snap.sum, .int .i64 x0.snap.level, .bool x0.snap.final, .slice A0_ x0.log.length c0_, .int .i64 x0.term, .int .i64 x0.vote], .int .i64 x1] w0 fun e w' => e = .returned (.tuple #[.agg #[.int .i64 r.1.term, .int .i64 r.1.kind, .int .i64 r.1.value], .bool r.2]) ∧ St0 All w0 w' [] := by
 unfold Zcp at H
 refine Yn Tryz.func40 rfl Tryz.ntmps40 rfl ?_
 have hS := St0.start All w0
 refine Zd (fun K hK1 => Ze (Z4 rfl rfl rfl CellsOf.agg hS (fun b2 w hS hB => Z5 rfl rfl Zdh hS (fun b4 w hS hB => Zb 1 rfl (Zg (Zc hK1 (Zd (fun K hK6 => ?_))))))))
 refine Zd (fun K hK7 => Ze (Zb 1 rfl (Za rfl rfl rfl (Zf Xj rfl) (Za rfl rfl rfl (Zf Yj rfl) (Za rfl rfl rfl (Zh Z1 rfl (Zhr _) hS Xa trivial Y4) (Za rfl rfl rfl (Za5 rfl rfl) (Zb 1 rfl ?_)))))))
 refine Zs 11 rfl (fun hb => ?_) (fun hb => ?_)
 ·replace H := Zp H hb
  refine Zb 5 rfl (Zg (Zc hK7 (Zt rfl rfl (Zd (fun K hK9 => Ze (Za rfl rfl rfl (Xl (cells := [.int .i64 0, .int .i64 0, .int .i64 0]) rfl (by kernel_rfl)) (Zl rfl rfl rfl CellsOf.agg hS ps0 st0_3 (by kernel_rfl) rfl (fun w hS hB => ?_))))))))
  refine Zb 1 rfl (Zg (Zc hK9 (Zk (Zj (Zm rfl (RV.cell rfl (Zu Jt hS hs0 Zd3) (RV.tmp rfl RV.nil)) rfl ?_)))))
  obtain rfl := QJ H
  replace hS := hS.cut 0
  exact ⟨rfl, hS⟩
 replace H := Zo H hb
 refine Zb 1 rfl (Za rfl rfl rfl (Zi Ya rfl (Zhr _) hS Xa trivial Yx) ?_)
 obtain ⟨r11, hm12, H⟩ := bind_some H
 refine Zn rfl rfl rfl rfl (by kernel_rfl) rfl (Zbd x0 A0_ c0_ _ (Zhu s0_.k (hS.rd0 s0_.rd) (hS.blk0 s0_.blk)) hm12) ?_
 rintro e w ⟨rfl, hN⟩; refine ⟨_, rfl, ?_⟩; obtain ⟨hB, hS⟩ := hS.jn hN
 refine Za rfl rfl rfl (Xc rfl rfl) (Zb 1 rfl (Zg (Zc hK7 (Zy rfl (fun hb => ?_) (fun hb => ?_)))))
 ·replace H := Zp H hb
  refine Zd (fun K hK14 => Ze (Za rfl rfl rfl (Xl (cells := [.int .i64 0, .int .i64 0, .int .i64 0]) rfl (by kernel_rfl)) (Zl rfl rfl rfl CellsOf.agg hS ps0 st0_3 (by kernel_rfl) rfl (fun w hS hB => Zb 1 rfl (Zg (Zc hK14 (Zk ?_)))))))
  refine Zj (Zm rfl (RV.cell rfl (Zu Jt hS hs0 Zd3) (RV.tmp rfl RV.nil)) rfl ?_)
  obtain rfl := QJ H
  replace hS := hS.cut 0
  exact ⟨rfl, hS⟩
 replace H := Zo H hb
 refine Zr (Zc hK6 (Zd (fun K hK16 => Ze (Za rfl rfl rfl (Zf X4 rfl) (Za rfl rfl rfl (Zh Xx rfl (Zhr _) hS Xa trivial Jd) (Zb 1 rfl (Za rfl rfl rfl (Zf Xj rfl) ?_)))))))
 refine Za rfl rfl rfl (Zf Yj rfl) (Za rfl rfl rfl (Zh Z1 rfl (Zhr _) hS Xa trivial Y4) (Za rfl rfl rfl (Ju rfl rfl) (Za rfl rfl rfl (Ju rfl rfl) ?_)))
 obtain ⟨e17, hi19, H⟩ := bind_some H
 obtain ⟨j18, hi19a, hi19b, hi19c⟩ := Yt hi19
 refine Za rfl rfl rfl (Xf Y8 rfl rfl hi19a hi19c (Rd.el (hS.rd0 s0_.rd) Xy hi19b)) (Za rfl rfl rfl (Zel Jt rfl (Zhr _) (Rd.el (hS.rd0 s0_.rd) Xy hi19b) Zd3) (Zl rfl rfl rfl CellsOf.agg hS ps0 st0_3 (by kernel_rfl) rfl (fun w hS hB => Zb 1 rfl (Zg (Zc hK16 (Zk (Zm rfl (RV.cell rfl (Zu Jt hS hs0 Zd3) (RV.tmp rfl RV.nil)) rfl ?_)))))))
 obtain rfl := QJ H
 replace hS := hS.cut 0
 exact ⟨rfl, hS⟩
theorem Zgi (x0 : Tu) (x1 : Int) (A0_ : OA) (c0_ : Nat) (w0 : World) (s0_ : SlI w0 Vv A0_ c0_ x0.log) {r : Int × Bool} (H : Zbv x0 x1 = some r) : Calls Tryz.prog 72 #[.agg #[.int .i64 x0.snap.index, .int .i64 x0.snap.term, .int .i64 x0.snap.sum, .int .i64 x0.snap.level, .bool x0.snap.final, .slice A0_ x0.log.length c0_, .int .i64 x0.term, .int .i64 x0.vote], .int .i64 x1] w0 fun e w' => e = .returned (.tuple #[.int .i64 r.1, .bool r.2]) ∧ St0 All w0 w' [] := by
 unfold Zbv at H
 refine Yn Tryz.func72 rfl Tryz.ntmps72 rfl ?_
 have hS := St0.start All w0
 refine Zd (fun K hK1 => Ze (Z4 rfl rfl rfl CellsOf.agg hS (fun b2 w hS hB => Zb 2 rfl (Zg (Zc hK1 (Zd (fun K hK4 => Zd (fun K hK5 => ?_))))))))
 refine Ze (Zb 1 rfl (Za rfl rfl rfl (Zf Xj rfl) (Za rfl rfl rfl (Zf Yj rfl) (Za rfl rfl rfl (Zh Z1 rfl (Zhr _) hS hs0 trivial Y4) (Za rfl rfl rfl (Y1 rfl rfl) (Zg (Zc hK5 ?_)))))))
 refine Zy rfl (fun hb => ?_) (fun hb => ?_)
 ·replace H := Zp H hb
  refine Zd (fun K hK7 => Ze (Za rfl rfl rfl (Zf Xj rfl) (Za rfl rfl rfl (Zf Zc1 rfl) (Za rfl rfl rfl (Zh Z1 rfl (Zhr _) hS hs0 trivial Vl) (Zb 2 rfl (Zg (Zc hK7 ?_)))))))
  refine Zk (Zj (Zm rfl (RV.tmp rfl (RV.tmp rfl RV.nil)) rfl ?_))
  obtain rfl := QJ H
  replace hS := hS.cut 0
  exact ⟨rfl, hS⟩
 replace H := Zo H hb
 refine Zr (Zc hK4 (Zd (fun K hK9 => Ze (Za rfl rfl rfl (Zi Ya rfl (Zhr _) hS hs0 trivial Yx) (Zb 1 rfl ?_)))))
 obtain ⟨r10, hm11, H⟩ := bind_some H
 refine Zn rfl rfl rfl rfl (by kernel_rfl) rfl (c_ref12_At x0 x1 A0_ c0_ _ (Zhu s0_.k (hS.rd0 s0_.rd) (hS.blk0 s0_.blk)) hm11) ?_
 rintro e w ⟨rfl, hN⟩; refine ⟨_, rfl, ?_⟩; obtain ⟨hB, hS⟩ := hS.jn hN
 refine Zb 1 rfl (Za rfl rfl rfl (Zv rfl rfl) (Za rfl rfl rfl (Zv rfl rfl) (Z5 rfl rfl Zdh hS (fun b12 w hS hB => Zl rfl rfl rfl CellsOf.agg hS ps0 st0_3 (by kernel_rfl) rfl (fun w hS hB => Zb 1 rfl (Zg (Zc hK9 ?_)))))))
 refine Zd (fun K hK14 => Ze (Za rfl rfl rfl (Zf Zbt rfl) (Za rfl rfl rfl (Zh Z1 rfl (Zhr _) hS hs0 trivial Y4) (Zb 3 rfl (Zg (Zc hK14 (Zk ?_)))))))
 refine Zm rfl (RV.tmp rfl (RV.tmp rfl RV.nil)) rfl ?_
 obtain rfl := QJ H
 replace hS := hS.cut 0
 exact ⟨rfl, hS⟩
theorem c_ref12_Append (x0 : Tu) (x1 : List En) (A0_ : OA) (c0_ : Nat) (A1_ : OA) (c1_ : Nat) (w0 : World) (s0_ : SlI w0 Vv A0_ c0_ x0.log) (s1_ : SlI w0 Vv A1_ c1_ x1) {r : Tu × Int} (H : Za1 x0 x1 = some r) : Calls Tryz.prog 68 #[.agg #[.int .i64 x0.snap.index, .int .i64 x0.snap.term, .int .i64 x0.snap.sum, .int .i64 x0.snap.level, .bool x0.snap.final, .slice A0_ x0.log.length c0_, .int .i64 x0.term, .int .i64 x0.vote], .slice A1_ x1.length c1_] w0 fun e w' => ∃ (A0 : OA) (c0 : Nat), e = .returned (.tuple #[.agg #[.int .i64 r.1.snap.index, .int .i64 r.1.snap.term, .int .i64 r.1.snap.sum, .int .i64 r.1.snap.level, .bool r.1.snap.final, .slice A0 r.1.log.length c0, .int .i64 r.1.term, .int .i64 r.1.vote], .int .i64 r.2]) ∧ (r.1.log.length ≤ c0 ∧ c0 ≤ maxLen) ∧ St0 All w0 w' [.row (.slice A0 r.1.log.length c0) 53 3 r.1.log.length (Yg Vv r.1.log)] := by
 unfold Za1 at H
 refine Yn Tryz.func68 rfl Tryz.ntmps68 rfl ?_
 have hS := St0.start All w0
 refine Zd (fun K hK1 => Ze (Z4 rfl rfl rfl CellsOf.agg hS (fun b2 w hS hB => Z5 rfl rfl Zal hS (fun b4 w hS hB => Zb 1 rfl (Zg (Zc hK1 (Zd (fun K hK6 => ?_))))))))
 refine Ze (Za rfl rfl rfl (Zi Ya rfl (Zhr _) hS Xa trivial Yx) ?_)
 obtain ⟨r7, hm8, H⟩ := bind_some H
 refine Zn rfl rfl rfl rfl (by kernel_rfl) rfl (Va x0 A0_ c0_ _ (Zhu s0_.k (hS.rd0 s0_.rd) (hS.blk0 s0_.blk)) hm8) ?_
 rintro e w ⟨A9, c10, rfl, k11, hN⟩; refine ⟨_, rfl, ?_⟩; obtain ⟨hB, hS⟩ := hS.jn hN
 refine Z5 rfl rfl Zal hS (fun b13 w hS hB => Zl rfl rfl rfl CellsOf.agg hS ps0 X0 (by kernel_rfl) rfl (fun w hS hB => Zg (Zc hK6 (Zd (fun K hK15 => Ze (Za rfl rfl rfl (Zf X4 rfl) (Za rfl rfl rfl (Zh Xx rfl (Zhr _) hS hs0 trivial Jd) ?_)))))))
 refine Zb 1 rfl ?_
 obtain ⟨l16, hf17, H⟩ := bind_some H
 refine Jf (ys := x1) Xy oc_enE em_24 (by decide) rfl rfl rfl rfl hS (fun _ => ps1) (hS.rd0 s1_.rd) hf17 (fun A18 c19 w k20 hS => ?_)
 refine Za rfl rfl rfl (Zf X4 rfl) (Zl rfl rfl rfl CellsOf.slice hS ps0 st5_1 (by kernel_rfl) rfl (fun w hS hB => Zg (Zc hK15 (Zd (fun K hK21 => Ze (Za rfl rfl rfl (Zi Ya rfl (Zhr _) hS hs3 trivial Yx) (Za rfl rfl rfl (Zi Ya rfl (Zhr _) hS hs0 trivial Yx) ?_)))))))
 refine Jy rfl rfl rfl rfl (by kernel_rfl) rfl ?_
 show Calls _ _ #[_, _, _] _ _
 refine Vx Tryz.func103 rfl Tryz.ntmps103 rfl (Zd (fun K hK22 => Ze (Z4 rfl rfl rfl CellsOf.agg hS (fun b23 w hS hB => Z4 rfl rfl rfl CellsOf.agg hS (fun b25 w hS hB => Z5 rfl rfl Zal hS (fun b27 w hS hB => Zb 1 rfl (Zg ?_)))))))
 refine Zc hK22 (Zd (fun K hK29 => Zd (fun K hK30 => Ze (Zb 1 rfl (Za rfl rfl rfl (Ys rfl) (Zb 1 rfl (Za rfl rfl rfl (Zi Ya rfl (Zhr _) hS Xq trivial Yx) ?_)))))))
 obtain ⟨r31, hm32, H⟩ := bind_some H
 refine Zn rfl rfl rfl rfl (by kernel_rfl) rfl (V9 x0 A0_ c0_ _ (Zhu s0_.k (hS.rd0 s0_.rd) (hS.blk0 s0_.blk)) hm32) ?_
 rintro e w ⟨rfl, hN⟩; refine ⟨_, rfl, ?_⟩; obtain ⟨hB, hS⟩ := hS.jn hN
 refine Za rfl rfl rfl (Ys rfl) (Zb 2 rfl (Zs 15 rfl (fun hb => ?_) (fun hb => ?_)))
 ·replace H := Zp H hb
  refine Zb 4 rfl (Zg (Zc hK30 (Zt rfl rfl (Zd (fun K hK34 => Ze (Za rfl rfl rfl (Zi Ya rfl (Zhr _) hS Xq trivial Yx) ?_))))))
  obtain ⟨r35, hm36, H⟩ := bind_some H
  refine Zn rfl rfl rfl rfl (by kernel_rfl) rfl (Va x0 A0_ c0_ _ (Zhu s0_.k (hS.rd0 s0_.rd) (hS.blk0 s0_.blk)) hm36) ?_
  rintro e w ⟨A37, c38, rfl, k39, hN⟩; refine ⟨_, rfl, ?_⟩; obtain ⟨hB, hS⟩ := hS.jn hN
  refine Zl rfl rfl rfl CellsOf.agg hS ps1 X0 (by kernel_rfl) rfl (fun w hS hB => Zb 1 rfl (Zg (Zc hK34 (Zk (Zj (Zm rfl (RV.cell rfl (Zu Ya hS Xa Yx) (RV.tmp rfl RV.nil)) rfl (⟨_, rfl, ?_⟩)))))))
  refine Za rfl rfl rfl (Zv rfl rfl) (Za rfl rfl rfl (Zv rfl rfl) (Zl rfl rfl rfl CellsOf.agg hS ps6 X0 (by kernel_rfl) rfl (fun w hS hB => Zb 1 rfl (Zg (Zc hK21 (Zk (Zm rfl (RV.cell rfl (Zu Ya hS hs6 Yx) (RV.tmp rfl RV.nil)) rfl ?_)))))))
  obtain rfl := QJ H
  have hS := hS.front 0 rfl
  replace hS := hS.cut 1
  exact ⟨A37, c38, rfl, k39, hS⟩
 replace H := Zo H hb
 refine Za rfl rfl rfl (Zi Ya rfl (Zhr _) hS Xa trivial Yx) ?_
 obtain ⟨r42, hm43, H⟩ := bind_some H
 refine Zn rfl rfl rfl rfl (by kernel_rfl) rfl (V9 {r7 with log := l16} A18 c19 _ (Zhu k20 (hS.row_rd hs4) (hS.row_blk hs4)) hm43) ?_
 rintro e w ⟨rfl, hN⟩; refine ⟨_, rfl, ?_⟩; obtain ⟨hB, hS⟩ := hS.jn hN
 refine Za rfl rfl rfl (Ys rfl) (Zb 1 rfl (Zg (Zc hK30 (Zy rfl (fun hb => ?_) (fun hb => ?_)))))
 rotate_left
 ·replace H := Zo H hb
  refine Zr (Zc hK29 (Zd (fun K hK53 => Ze (Za rfl rfl rfl (Zi Ya rfl (Zhr _) hS Xa trivial Yx) (Zl rfl rfl rfl CellsOf.agg hS ps0 X0 (by kernel_rfl) rfl (fun w hS hB => Zb 1 rfl (Zg ?_)))))))
  refine Zc hK53 (Zk (Zm rfl (RV.cell rfl (Zu Ya hS hs0 Yx) (RV.tmp rfl RV.nil)) rfl (⟨_, rfl, ?_⟩)))
  refine Za rfl rfl rfl (Zv rfl rfl) (Za rfl rfl rfl (Zv rfl rfl) (Zl rfl rfl rfl CellsOf.agg hS ps5 X0 (by kernel_rfl) rfl (fun w hS hB => Zb 1 rfl (Zg (Zc hK21 (Zk (Zm rfl (RV.cell rfl (Zu Ya hS hs5 Yx) (RV.tmp rfl RV.nil)) rfl ?_)))))))
  obtain rfl := QJ H
  have hS := hS.front 4 rfl
  replace hS := hS.cut 1
  exact ⟨A18, c19, rfl, k20, hS⟩
 replace H := Zp H hb
 refine Zd (fun K hK45 => Ze (Za rfl rfl rfl (Zi Ya rfl (Zhr _) hS Xq trivial Yx) ?_))
 obtain ⟨r46, hm47, H⟩ := bind_some H
 refine Zn rfl rfl rfl rfl (by kernel_rfl) rfl (Va x0 A0_ c0_ _ (Zhu s0_.k (hS.rd0 s0_.rd) (hS.blk0 s0_.blk)) hm47) ?_
 rintro e w ⟨A48, c49, rfl, k50, hN⟩; refine ⟨_, rfl, ?_⟩; obtain ⟨hB, hS⟩ := hS.jn hN
 refine Zl rfl rfl rfl CellsOf.agg hS ps1 X0 (by kernel_rfl) rfl (fun w hS hB => Zb 1 rfl (Zg (Zc hK45 (Zk (Zj (Zm rfl (RV.cell rfl (Zu Ya hS Xa Yx) (RV.tmp rfl RV.nil)) rfl (⟨_, rfl, ?_⟩)))))))
 refine Za rfl rfl rfl (Zv rfl rfl) (Za rfl rfl rfl (Zv rfl rfl) (Zl rfl rfl rfl CellsOf.agg hS ps6 X0 (by kernel_rfl) rfl (fun w hS hB => Zb 1 rfl (Zg (Zc hK21 (Zk (Zm rfl (RV.cell rfl (Zu Ya hS hs6 Yx) (RV.tmp rfl RV.nil)) rfl ?_)))))))
 obtain rfl := QJ H
 have hS := hS.front 0 rfl
 replace hS := hS.cut 1
 exact ⟨A48, c49, rfl, k50, hS⟩
theorem c_ref06_Same (x0 : List En) (x1 : List En) (A0_ : OA) (c0_ : Nat) (A1_ : OA) (c1_ : Nat) (w0 : World) (s0_ : SlI w0 Vv A0_ c0_ x0) (s1_ : SlI w0 Vv A1_ c1_ x1) {r : Bool} (H : Zda x0 x1 = some r) : Calls Tryz.prog 44 #[.slice A0_ x0.length c0_, .slice A1_ x1.length c1_] w0 fun e w' => e = .returned (.bool r) ∧ St0 All w0 w' [] := by
 unfold Zda at H
 refine Yn Tryz.func44 rfl Tryz.ntmps44 rfl ?_
 have hS := St0.start All w0
 refine Zd (fun K hK1 => Ze (Zb 1 rfl (Zg (Zc hK1 (Zd (fun K hK2 => Zd (fun K hK3 => Ze ?_)))))))
 refine Zb 1 rfl (Za rfl rfl rfl (Y0 Y8 rfl) (Zb 1 rfl (Za rfl rfl rfl (Y0 Y8 rfl) (Za rfl rfl rfl (Xu rfl rfl) (Zg (Zc hK3 (Zy rfl (fun hb => ?_) (fun hb => ?_))))))))
 ·replace H := Zp H hb
  refine Zd (fun K hK5 => Ze (Zb 1 rfl (Zg (Zc hK5 (Zk (Zj (Zm rfl (RV.tmp rfl RV.nil) rfl ?_)))))))
  obtain rfl := QJ H
  replace hS := hS.cut 0
  exact ⟨rfl, hS⟩
 replace H := Zo H hb
 refine Zr (Zc hK2 (Zd (fun K hK7 => Zd (fun K hK8 => Ze (Zb 1 rfl (Zg (Zc hK8 ?_)))))))
 refine Yd (Vq (X := Nat × Bool × Int) (fun x => (0, .slice A0_ x0.length c0_) :: (1, .slice A1_ x1.length c1_) :: (4, .bool x.2.1) :: (5, .int .i64 x.2.2) :: []) (fun x w => St0 All w0 w ([]) ∧ Zan x0 x1 x.1 x.2.1 x.2.2 = some r) (fun x => x.1) (Xr, false, 0) (by repeat (first | exact Sub.nil | refine Sub.cons rfl ?_)) ⟨hS, H⟩ ?_)
 rintro ⟨n, v9, v10⟩ w ⟨hS, H⟩
 dsimp only at hS H ⊢
 obtain _ | n := n
 ·have H0 : none = some r := H
  cases H0
 rw [Zan] at H
 refine Zd (fun K hK11 => Zd (fun K hK12 => Ze (Zb 2 rfl (Za rfl rfl rfl (Y0 Y8 rfl) (Za rfl rfl rfl (Xk rfl rfl) (Zg (Zc hK12 ?_)))))))
 refine Zy rfl (fun hb => ?_) (fun hb => ?_)
 rotate_left
 ·replace H := Zo H hb
  refine X1 (Z8 (Z8 (Yz (Zc hK7 (Zd (fun K hK26 => Ze (Zb 1 rfl ?_)))))))
  refine Zg (Zc hK26 (Zk (Zm rfl (RV.tmp rfl RV.nil) rfl ?_)))
  obtain rfl := QJ H
  replace hS := hS.cut 0
  exact ⟨rfl, hS⟩
 replace H := Zp H hb
 refine Zr (Zc hK11 (Zd (fun K hK14 => Yd (Zd (fun K hK15 => Yi 9 [] (fun _ _ => True) ⟨by kernel_rfl, by kernel_rfl⟩ hS (fun w hS hB => Zq [Tt,Tt,Tt,Tt,Tt,Tt,Tt,Tt,Tt] (by decide +kernel) PFC.h (LtK.put rfl rfl rfl (Zw rfl) ?_)))))))
 refine LtK.put rfl rfl rfl (Zw rfl) ?_
 obtain ⟨e16, hi18, H⟩ := bind_some H
 obtain ⟨j17, hi18a, hi18b, hi18c⟩ := Yt hi18
 refine LtK.put rfl rfl rfl (Xf Y8 rfl rfl hi18a hi18c (Rd.el (hS.rd0 s0_.rd) Xy hi18b)) (LtK.put rfl rfl rfl (Zel Jt rfl (Zhs _) (Rd.el (hS.rd0 s0_.rd) Xy hi18b) Zd3) (LtK.put rfl rfl rfl (Zw rfl) (LtK.put rfl rfl rfl (Zw rfl) ?_)))
 obtain ⟨e19, hi21, H⟩ := bind_some H
 obtain ⟨j20, hi21a, hi21b, hi21c⟩ := Yt hi21
 refine LtK.put rfl rfl rfl (Xf Y8 rfl rfl hi21a hi21c (Rd.el (hS.rd0 s1_.rd) Xy hi21b)) (LtK.put rfl rfl rfl (Zel Jt rfl (Zhs _) (Rd.el (hS.rd0 s1_.rd) Xy hi21b) Zd3) (LtK.put rfl rfl rfl (yv_neqS (by kernel_rfl) rfl rfl (eqT_53 _ _ _ _ _ _)) (LtK.nil (Ye (by kernel_rfl) (Zc hK15 (Zy rfl (fun hb => ?_) (fun hb => ?_)))))))
 rotate_left
 ·replace H := Zo H hb
  refine Zr (Z3 (Zc hK14 (Ze (Zb 1 rfl (Za rfl rfl rfl (Xd rfl rfl) (Zb 1 rfl (Zg ?_)))))))
  exact X2 (n, v9, (IntKind.wrap .i64 (v10 + 1))) (by repeat (first | exact Sub.nil | refine Sub.cons rfl ?_)) ⟨hS, H⟩ (Nat.lt_succ_self _)
 replace H := Zp H hb
 refine Zd (fun K hK23 => Ze (Zb 1 rfl (Zg (Zc hK23 (Zk (Zx (Zj ?_)))))))
 refine Zj (Zx (Zj (Zm rfl (RV.tmp rfl RV.nil) rfl ?_)))
 obtain rfl := QJ H
 replace hS := hS.cut 0
 exact ⟨rfl, hS⟩
theorem c_ref12_Same (x0 : Tu) (x1 : Tu) (A0_ : OA) (c0_ : Nat) (A1_ : OA) (c1_ : Nat) (w0 : World) (s0_ : SlI w0 Vv A0_ c0_ x0.log) (s1_ : SlI w0 Vv A1_ c1_ x1.log) {r : Bool} (H : Zec x0 x1 = some r) : Calls Tryz.prog 57 #[.agg #[.int .i64 x0.snap.index, .int .i64 x0.snap.term, .int .i64 x0.snap.sum, .int .i64 x0.snap.level, .bool x0.snap.final, .slice A0_ x0.log.length c0_, .int .i64 x0.term, .int .i64 x0.vote], .agg #[.int .i64 x1.snap.index, .int .i64 x1.snap.term, .int .i64 x1.snap.sum, .int .i64 x1.snap.level, .bool x1.snap.final, .slice A1_ x1.log.length c1_, .int .i64 x1.term, .int .i64 x1.vote]] w0 fun e w' => e = .returned (.bool r) ∧ St0 All w0 w' [] := by
 unfold Zec at H
 refine Yn Tryz.func57 rfl Tryz.ntmps57 rfl ?_
 have hS := St0.start All w0
 refine Zd (fun K hK1 => Ze (Z4 rfl rfl rfl CellsOf.agg hS (fun b2 w hS hB => Z4 rfl rfl rfl CellsOf.agg hS (fun b4 w hS hB => Zb 1 rfl (Zg (Zc hK1 (Zd (fun K hK6 => ?_))))))))
 refine Ze (Za rfl rfl rfl (Zf Xj rfl) (Za rfl rfl rfl (Zi Y6 rfl (Zhr _) hS Xa trivial Jm) (Za rfl rfl rfl (Zf Xj rfl) (Za rfl rfl rfl (Zi Y6 rfl (Zhr _) hS hs0 trivial Jm) (Za rfl rfl rfl (Zah (by kernel_rfl) rfl rfl (Zbc _ _ _ _ _ _ _ _ _ _)) (Zb 1 rfl (Zs 10 rfl (fun hb => ?_) (fun hb => ?_))))))))
 rotate_left
 ·replace H := Zo H hb
  refine Zb 21 rfl (Zg (Zc hK6 (Zk (Zm rfl (RV.tmp rfl RV.nil) rfl ?_))))
  obtain rfl := QJ H
  replace hS := hS.cut 0
  exact ⟨rfl, hS⟩
 replace H := Zp H hb
 refine Za rfl rfl rfl (Zf Vi rfl) (Za rfl rfl rfl (Zh Z1 rfl (Zhr _) hS Xa trivial Zgj) (Za rfl rfl rfl (Zf Vi rfl) (Za rfl rfl rfl (Zh Z1 rfl (Zhr _) hS hs0 trivial Zgj) (Za rfl rfl rfl (Y1 rfl rfl) (Zb 2 rfl (Zs 17 rfl (fun hb => ?_) (fun hb => ?_)))))))
 rotate_left
 ·replace H := Zo H hb
  refine Zb 14 rfl (Zg (Zc hK6 (Zk (Zm rfl (RV.tmp rfl RV.nil) rfl ?_))))
  obtain rfl := QJ H
  replace hS := hS.cut 0
  exact ⟨rfl, hS⟩
 replace H := Zp H hb
 refine Za rfl rfl rfl (Zf J5 rfl) (Za rfl rfl rfl (Zh Z1 rfl (Zhr _) hS Xa trivial Zey) (Za rfl rfl rfl (Zf J5 rfl) (Za rfl rfl rfl (Zh Z1 rfl (Zhr _) hS hs0 trivial Zey) (Za rfl rfl rfl (Y1 rfl rfl) (Zb 2 rfl (Zs 24 rfl (fun hb => ?_) (fun hb => ?_)))))))
 rotate_left
 ·replace H := Zo H hb
  refine Zb 7 rfl (Zg (Zc hK6 (Zk (Zm rfl (RV.tmp rfl RV.nil) rfl ?_))))
  obtain rfl := QJ H
  replace hS := hS.cut 0
  exact ⟨rfl, hS⟩
 replace H := Zp H hb
 refine Za rfl rfl rfl (Zf X4 rfl) (Za rfl rfl rfl (Zh Xx rfl (Zhr _) hS Xa trivial Jd) (Za rfl rfl rfl (Zf X4 rfl) (Za rfl rfl rfl (Zh Xx rfl (Zhr _) hS hs0 trivial Jd) ?_)))
 obtain ⟨r10, hm11, H⟩ := bind_some H
 refine Zn rfl rfl rfl rfl (by kernel_rfl) rfl (c_ref06_Same x0.log x1.log A0_ c0_ A1_ c1_ _ (Zhu s0_.k (hS.rd0 s0_.rd) (hS.blk0 s0_.blk)) (Zhu s1_.k (hS.rd0 s1_.rd) (hS.blk0 s1_.blk)) hm11) ?_
 rintro e w ⟨rfl, hN⟩; refine ⟨_, rfl, ?_⟩; obtain ⟨hB, hS⟩ := hS.jn hN
 refine Zb 2 rfl (Zg (Zc hK6 (Zk (Zm rfl (RV.tmp rfl RV.nil) rfl ?_))))
 obtain rfl := QJ H
 replace hS := hS.cut 0
 exact ⟨rfl, hS⟩
theorem c_ref20_ints (x0 : List Int) (x1 : List Int) (A0_ : OA) (c0_ : Nat) (A1_ : OA) (c1_ : Nat) (w0 : World) (s0_ : SlI w0 Vh A0_ c0_ x0) (s1_ : SlI w0 Vh A1_ c1_ x1) {r : Bool} (H : Zce x0 x1 = some r) : Calls Tryz.prog 58 #[.slice A0_ x0.length c0_, .slice A1_ x1.length c1_] w0 fun e w' => e = .returned (.bool r) ∧ St0 All w0 w' [] := by
 unfold Zce at H
 refine Yn Tryz.func58 rfl Tryz.ntmps58 rfl ?_
 have hS := St0.start All w0
 refine Zd (fun K hK1 => Ze (Zb 1 rfl (Zg (Zc hK1 (Zd (fun K hK2 => Zd (fun K hK3 => Ze ?_)))))))
 refine Zb 1 rfl (Za rfl rfl rfl (Y0 Xv rfl) (Zb 1 rfl (Za rfl rfl rfl (Y0 Xv rfl) (Za rfl rfl rfl (Xu rfl rfl) (Zg (Zc hK3 (Zy rfl (fun hb => ?_) (fun hb => ?_))))))))
 ·replace H := Zp H hb
  refine Zd (fun K hK5 => Ze (Zb 1 rfl (Zg (Zc hK5 (Zk (Zj (Zm rfl (RV.tmp rfl RV.nil) rfl ?_)))))))
  obtain rfl := QJ H
  replace hS := hS.cut 0
  exact ⟨rfl, hS⟩
 replace H := Zo H hb
 refine Zr (Zc hK2 (Zd (fun K hK7 => Zd (fun K hK8 => Ze (Zb 1 rfl (Zg (Zc hK8 ?_)))))))
 refine Yd (Vq (X := Nat × Bool × Int) (fun x => (0, .slice A0_ x0.length c0_) :: (1, .slice A1_ x1.length c1_) :: (4, .bool x.2.1) :: (5, .int .i64 x.2.2) :: []) (fun x w => St0 All w0 w ([]) ∧ Zap x0 x1 x.1 x.2.1 x.2.2 = some r) (fun x => x.1) (Xr, false, 0) (by repeat (first | exact Sub.nil | refine Sub.cons rfl ?_)) ⟨hS, H⟩ ?_)
 rintro ⟨n, v9, v10⟩ w ⟨hS, H⟩
 dsimp only at hS H ⊢
 obtain _ | n := n
 ·have H0 : none = some r := H
  cases H0
 rw [Zap] at H
 refine Zd (fun K hK11 => Zd (fun K hK12 => Ze (Zb 2 rfl (Za rfl rfl rfl (Y0 Xv rfl) (Za rfl rfl rfl (Xk rfl rfl) (Zg (Zc hK12 ?_)))))))
 refine Zy rfl (fun hb => ?_) (fun hb => ?_)
 rotate_left
 ·replace H := Zo H hb
  refine X1 (Z8 (Z8 (Yz (Zc hK7 (Zd (fun K hK26 => Ze (Zb 1 rfl ?_)))))))
  refine Zg (Zc hK26 (Zk (Zm rfl (RV.tmp rfl RV.nil) rfl ?_)))
  obtain rfl := QJ H
  replace hS := hS.cut 0
  exact ⟨rfl, hS⟩
 replace H := Zp H hb
 refine Zr (Zc hK11 (Zd (fun K hK14 => Yd (Zd (fun K hK15 => Yi 9 [] (fun _ _ => True) ⟨by kernel_rfl, by kernel_rfl⟩ hS (fun w hS hB => Zq [Tt,Tt,Tt,Tt,Tt,Tt,Tt,Tt,Tt] (by decide +kernel) PFC.h (LtK.put rfl rfl rfl (Zw rfl) ?_)))))))
 refine LtK.put rfl rfl rfl (Zw rfl) ?_
 obtain ⟨e16, hi18, H⟩ := bind_some H
 obtain ⟨j17, hi18a, hi18b, hi18c⟩ := Yt hi18
 refine LtK.put rfl rfl rfl (Xf Xv rfl rfl hi18a hi18c (Rd.el (hS.rd0 s0_.rd) Yh hi18b)) (LtK.put rfl rfl rfl (Vj Z1 rfl (Zhs _) (Rd.el (hS.rd0 s0_.rd) Yh hi18b) rfl) (LtK.put rfl rfl rfl (Zw rfl) (LtK.put rfl rfl rfl (Zw rfl) ?_)))
 obtain ⟨e19, hi21, H⟩ := bind_some H
 obtain ⟨j20, hi21a, hi21b, hi21c⟩ := Yt hi21
 refine LtK.put rfl rfl rfl (Xf Xv rfl rfl hi21a hi21c (Rd.el (hS.rd0 s1_.rd) Yh hi21b)) (LtK.put rfl rfl rfl (Vj Z1 rfl (Zhs _) (Rd.el (hS.rd0 s1_.rd) Yh hi21b) rfl) (LtK.put rfl rfl rfl (Xu rfl rfl) (LtK.nil (Ye (by kernel_rfl) (Zc hK15 (Zy rfl (fun hb => ?_) (fun hb => ?_)))))))
 rotate_left
 ·replace H := Zo H hb
  refine Zr (Z3 (Zc hK14 (Ze (Zb 1 rfl (Za rfl rfl rfl (Xd rfl rfl) (Zb 1 rfl (Zg ?_)))))))
  exact X2 (n, v9, (IntKind.wrap .i64 (v10 + 1))) (by repeat (first | exact Sub.nil | refine Sub.cons rfl ?_)) ⟨hS, H⟩ (Nat.lt_succ_self _)
 replace H := Zp H hb
 refine Zd (fun K hK23 => Ze (Zb 1 rfl (Zg (Zc hK23 (Zk (Zx (Zj ?_)))))))
 refine Zj (Zx (Zj (Zm rfl (RV.tmp rfl RV.nil) rfl ?_)))
 obtain rfl := QJ H
 replace hS := hS.cut 0
 exact ⟨rfl, hS⟩
theorem c_ref20_Same (x0 : Co) (x1 : Co) (A0_ : OA) (c0_ : Nat) (A1_ : OA) (c1_ : Nat) (A2_ : OA) (c2_ : Nat) (A3_ : OA) (c3_ : Nat) (A4_ : OA) (c4_ : Nat) (A5_ : OA) (c5_ : Nat) (A6_ : OA) (c6_ : Nat) (A7_ : OA) (c7_ : Nat) (A8_ : OA) (c8_ : Nat) (A9_ : OA) (c9_ : Nat) (w0 : World) (s0_ : SlI w0 Vv A0_ c0_ x0.tuple.log) (s1_ : SlI w0 enO A1_ c1_ x0.votes) (s2_ : SlI w0 Vh A2_ c2_ x0.next) (s3_ : SlI w0 Vh A3_ c3_ x0.mtch) (s4_ : SlI w0 Vh A4_ c4_ x0.caps) (s5_ : SlI w0 Vv A5_ c5_ x1.tuple.log) (s6_ : SlI w0 enO A6_ c6_ x1.votes) (s7_ : SlI w0 Vh A7_ c7_ x1.next) (s8_ : SlI w0 Vh A8_ c8_ x1.mtch) (s9_ : SlI w0 Vh A9_ c9_ x1.caps) {r : Bool} (H : Zb6 x0 x1 = some r) : Calls Tryz.prog 11 #[.agg #[.int .i64 x0.id, .int .i64 x0.n, .int .u8 x0.role, .int .i64 x0.binary, .int .i64 x0.tuple.snap.index, .int .i64 x0.tuple.snap.term, .int .i64 x0.tuple.snap.sum, .int .i64 x0.tuple.snap.level, .bool x0.tuple.snap.final, .slice A0_ x0.tuple.log.length c0_, .int .i64 x0.tuple.term, .int .i64 x0.tuple.vote, .int .i64 x0.commit, .int .i64 x0.applied.index, .int .i64 x0.applied.term, .int .i64 x0.applied.sum, .int .i64 x0.applied.level, .bool x0.applied.final, .slice A1_ x0.votes.length c1_, .slice A2_ x0.next.length c2_, .slice A3_ x0.mtch.length c3_, .slice A4_ x0.caps.length c4_], .agg #[.int .i64 x1.id, .int .i64 x1.n, .int .u8 x1.role, .int .i64 x1.binary, .int .i64 x1.tuple.snap.index, .int .i64 x1.tuple.snap.term, .int .i64 x1.tuple.snap.sum, .int .i64 x1.tuple.snap.level, .bool x1.tuple.snap.final, .slice A5_ x1.tuple.log.length c5_, .int .i64 x1.tuple.term, .int .i64 x1.tuple.vote, .int .i64 x1.commit, .int .i64 x1.applied.index, .int .i64 x1.applied.term, .int .i64 x1.applied.sum, .int .i64 x1.applied.level, .bool x1.applied.final, .slice A6_ x1.votes.length c6_, .slice A7_ x1.next.length c7_, .slice A8_ x1.mtch.length c8_, .slice A9_ x1.caps.length c9_]] w0 fun e w' => e = .returned (.bool r) ∧ St0 All w0 w' [] := by
 unfold Zb6 at H
 refine Yn Tryz.func11 rfl Tryz.ntmps11 rfl ?_
 have hS := St0.start All w0
 refine Zd (fun K hK1 => Ze (Z4 rfl rfl rfl CellsOf.agg hS (fun b2 w hS hB => Z4 rfl rfl rfl CellsOf.agg hS (fun b4 w hS hB => Zb 1 rfl (Zg (Zc hK1 (Zd (fun K hK6 => ?_))))))))
 refine Zd (fun K hK7 => Ze (Za rfl rfl rfl (Zf Zai rfl) (Za rfl rfl rfl (Zh Z1 rfl (Zhr _) hS Xa trivial Y4) (Za rfl rfl rfl (Zf Zai rfl) (Za rfl rfl rfl (Zh Z1 rfl (Zhr _) hS hs0 trivial Y4) (Za rfl rfl rfl (Xu rfl rfl) (Zb 1 rfl ?_)))))))
 refine Zs 11 rfl (fun hb => ?_) (fun hb => ?_)
 ·replace H := Zp H hb
  refine Zb 51 rfl (Zg (Zc hK7 (Zt rfl rfl (Zd (fun K hK9 => Ze (Zb 1 rfl (Zg ?_)))))))
  refine Zc hK9 (Zk (Zj (Zm rfl (RV.tmp rfl RV.nil) rfl ?_)))
  obtain rfl := QJ H
  replace hS := hS.cut 0
  exact ⟨rfl, hS⟩
 replace H := Zo H hb
 refine Za rfl rfl rfl (Zf V4 rfl) (Za rfl rfl rfl (Zh Z1 rfl (Zhr _) hS Xa trivial Vl) (Za rfl rfl rfl (Zf V4 rfl) (Za rfl rfl rfl (Zh Z1 rfl (Zhr _) hS hs0 trivial Vl) (Za rfl rfl rfl (Xu rfl rfl) (Zb 2 rfl (Zs 18 rfl (fun hb => ?_) (fun hb => ?_)))))))
 ·replace H := Zp H hb
  refine Zb 44 rfl (Zg (Zc hK7 (Zt rfl rfl (Zd (fun K hK12 => Ze (Zb 1 rfl (Zg ?_)))))))
  refine Zc hK12 (Zk (Zj (Zm rfl (RV.tmp rfl RV.nil) rfl ?_)))
  obtain rfl := QJ H
  replace hS := hS.cut 0
  exact ⟨rfl, hS⟩
 replace H := Zo H hb
 refine Za rfl rfl rfl (Zf Zbj rfl) (Za rfl rfl rfl (Zh Zbq rfl (Zhr _) hS Xa trivial Za0) (Za rfl rfl rfl (Zf Zbj rfl) (Za rfl rfl rfl (Zh Zbq rfl (Zhr _) hS hs0 trivial Za0) (Za rfl rfl rfl (Xu rfl rfl) (Zb 2 rfl (Zs 25 rfl (fun hb => ?_) (fun hb => ?_)))))))
 ·replace H := Zp H hb
  refine Zb 37 rfl (Zg (Zc hK7 (Zt rfl rfl (Zd (fun K hK15 => Ze (Zb 1 rfl (Zg ?_)))))))
  refine Zc hK15 (Zk (Zj (Zm rfl (RV.tmp rfl RV.nil) rfl ?_)))
  obtain rfl := QJ H
  replace hS := hS.cut 0
  exact ⟨rfl, hS⟩
 replace H := Zo H hb
 refine Za rfl rfl rfl (Zf Zdr rfl) (Za rfl rfl rfl (Zh Z1 rfl (Zhr _) hS Xa trivial J9) (Za rfl rfl rfl (Zf Zdr rfl) (Za rfl rfl rfl (Zh Z1 rfl (Zhr _) hS hs0 trivial J9) (Za rfl rfl rfl (Xu rfl rfl) (Zb 2 rfl (Zs 32 rfl (fun hb => ?_) (fun hb => ?_)))))))
 ·replace H := Zp H hb
  refine Zb 30 rfl (Zg (Zc hK7 (Zt rfl rfl (Zd (fun K hK18 => Ze (Zb 1 rfl (Zg ?_)))))))
  refine Zc hK18 (Zk (Zj (Zm rfl (RV.tmp rfl RV.nil) rfl ?_)))
  obtain rfl := QJ H
  replace hS := hS.cut 0
  exact ⟨rfl, hS⟩
 replace H := Zo H hb
 refine Za rfl rfl rfl (Zf Yy rfl) (Za rfl rfl rfl (Zi Ya rfl (Zhr _) hS Xa trivial Jv) (Za rfl rfl rfl (Zf Yy rfl) (Za rfl rfl rfl (Zi Ya rfl (Zhr _) hS hs0 trivial Jv) ?_)))
 obtain ⟨r20, hm21, H⟩ := bind_some H
 refine Zn rfl rfl rfl rfl (by kernel_rfl) rfl (c_ref12_Same x0.tuple x1.tuple A0_ c0_ A5_ c5_ _ (Zhu s0_.k (hS.rd0 s0_.rd) (hS.blk0 s0_.blk)) (Zhu s5_.k (hS.rd0 s5_.rd) (hS.blk0 s5_.blk)) hm21) ?_
 rintro e w ⟨rfl, hN⟩; refine ⟨_, rfl, ?_⟩; obtain ⟨hB, hS⟩ := hS.jn hN
 refine Za rfl rfl rfl (Ys rfl) (Zb 2 rfl (Zs 40 rfl (fun hb => ?_) (fun hb => ?_)))
 ·replace H := Zp H hb
  refine Zb 22 rfl (Zg (Zc hK7 (Zt rfl rfl (Zd (fun K hK23 => Ze (Zb 1 rfl (Zg ?_)))))))
  refine Zc hK23 (Zk (Zj (Zm rfl (RV.tmp rfl RV.nil) rfl ?_)))
  obtain rfl := QJ H
  replace hS := hS.cut 0
  exact ⟨rfl, hS⟩
 replace H := Zo H hb
 refine Za rfl rfl rfl (Zf V6 rfl) (Za rfl rfl rfl (Zh Z1 rfl (Zhr _) hS Xa trivial Zbw) (Za rfl rfl rfl (Zf V6 rfl) (Za rfl rfl rfl (Zh Z1 rfl (Zhr _) hS hs0 trivial Zbw) (Za rfl rfl rfl (Xu rfl rfl) (Zb 2 rfl (Zs 47 rfl (fun hb => ?_) (fun hb => ?_)))))))
 ·replace H := Zp H hb
  refine Zb 15 rfl (Zg (Zc hK7 (Zt rfl rfl (Zd (fun K hK26 => Ze (Zb 1 rfl (Zg ?_)))))))
  refine Zc hK26 (Zk (Zj (Zm rfl (RV.tmp rfl RV.nil) rfl ?_)))
  obtain rfl := QJ H
  replace hS := hS.cut 0
  exact ⟨rfl, hS⟩
 replace H := Zo H hb
 refine Za rfl rfl rfl (Zf Zfg rfl) (Za rfl rfl rfl (Zi Y6 rfl (Zhr _) hS Xa trivial sg13_5) (Za rfl rfl rfl (Zf Zfg rfl) (Za rfl rfl rfl (Zi Y6 rfl (Zhr _) hS hs0 trivial sg13_5) (Za rfl rfl rfl (yv_neqS (by kernel_rfl) rfl rfl (Zbc _ _ _ _ _ _ _ _ _ _)) (Zb 2 rfl (Zs 54 rfl (fun hb => ?_) (fun hb => ?_)))))))
 ·replace H := Zp H hb
  refine Zb 8 rfl (Zg (Zc hK7 (Zt rfl rfl (Zd (fun K hK29 => Ze (Zb 1 rfl (Zg ?_)))))))
  refine Zc hK29 (Zk (Zj (Zm rfl (RV.tmp rfl RV.nil) rfl ?_)))
  obtain rfl := QJ H
  replace hS := hS.cut 0
  exact ⟨rfl, hS⟩
 replace H := Zo H hb
 refine Za rfl rfl rfl (Zf Zbg rfl) (Za rfl rfl rfl (Zh sc_27 rfl (Zhr _) hS Xa trivial Zgf) (Za rfl rfl rfl (Y0 el_27 rfl) (Za rfl rfl rfl (Zf Zbg rfl) (Za rfl rfl rfl (Zh sc_27 rfl (Zhr _) hS hs0 trivial Zgf) (Za rfl rfl rfl (Y0 el_27 rfl) (Za rfl rfl rfl (Xu rfl rfl) (Zb 1 rfl ?_)))))))
 refine Zg (Zc hK7 (Zy rfl (fun hb => ?_) (fun hb => ?_)))
 ·replace H := Zp H hb
  refine Zd (fun K hK32 => Ze (Zb 1 rfl (Zg (Zc hK32 (Zk (Zj (Zm rfl (RV.tmp rfl RV.nil) rfl ?_)))))))
  obtain rfl := QJ H
  replace hS := hS.cut 0
  exact ⟨rfl, hS⟩
 replace H := Zo H hb
 refine Zr (Zc hK6 (Zd (fun K hK34 => Zd (fun K hK35 => Ze (Zb 1 rfl (Zg (Zc hK35 ?_)))))))
 refine Yd (Vq (X := Nat × Bool × Int) (fun x => (2, .pointer (some ⟨b2, 0, none⟩)) :: (3, .pointer (some ⟨b4, 0, none⟩)) :: (4, .bool x.2.1) :: (5, .int .i64 x.2.2) :: []) (fun x w => St0 All w0 w (.box b4 [.int .i64 x1.id, .int .i64 x1.n, .int .u8 x1.role, .int .i64 x1.binary, .int .i64 x1.tuple.snap.index, .int .i64 x1.tuple.snap.term, .int .i64 x1.tuple.snap.sum, .int .i64 x1.tuple.snap.level, .bool x1.tuple.snap.final, .slice A5_ x1.tuple.log.length c5_, .int .i64 x1.tuple.term, .int .i64 x1.tuple.vote, .int .i64 x1.commit, .int .i64 x1.applied.index, .int .i64 x1.applied.term, .int .i64 x1.applied.sum, .int .i64 x1.applied.level, .bool x1.applied.final, .slice A6_ x1.votes.length c6_, .slice A7_ x1.next.length c7_, .slice A8_ x1.mtch.length c8_, .slice A9_ x1.caps.length c9_] 30 :: .box b2 [.int .i64 x0.id, .int .i64 x0.n, .int .u8 x0.role, .int .i64 x0.binary, .int .i64 x0.tuple.snap.index, .int .i64 x0.tuple.snap.term, .int .i64 x0.tuple.snap.sum, .int .i64 x0.tuple.snap.level, .bool x0.tuple.snap.final, .slice A0_ x0.tuple.log.length c0_, .int .i64 x0.tuple.term, .int .i64 x0.tuple.vote, .int .i64 x0.commit, .int .i64 x0.applied.index, .int .i64 x0.applied.term, .int .i64 x0.applied.sum, .int .i64 x0.applied.level, .bool x0.applied.final, .slice A1_ x0.votes.length c1_, .slice A2_ x0.next.length c2_, .slice A3_ x0.mtch.length c3_, .slice A4_ x0.caps.length c4_] 30 :: []) ∧ Zao x0 x1 x.1 x.2.1 x.2.2 = some r) (fun x => x.1) (Xr, false, 0) (by repeat (first | exact Sub.nil | refine Sub.cons rfl ?_)) ⟨hS, H⟩ ?_)
 rintro ⟨n, v36, v37⟩ w ⟨hS, H⟩
 dsimp only at hS H ⊢
 obtain _ | n := n
 ·have H0 : none = some r := H
  cases H0
 rw [Zao] at H
 refine Zd (fun K hK38 => Zd (fun K hK39 => Ze (Zb 1 rfl (Za rfl rfl rfl (Zf Zbg rfl) (Za rfl rfl rfl (Zh sc_27 rfl (Zhr _) hS Xa trivial Zgf) (Za rfl rfl rfl (Y0 el_27 rfl) (Za rfl rfl rfl (Xk rfl rfl) ?_)))))))
 refine Zg (Zc hK39 (Zy rfl (fun hb => ?_) (fun hb => ?_)))
 ·replace H := Zp H hb
  refine Zr (Zc hK38 (Zd (fun K hK41 => Yd (Zd (fun K hK42 => Yi 11 [] (fun _ _ => True) ⟨by kernel_rfl, by kernel_rfl⟩ hS (fun w hS hB => Zq [Tt,Tt,Tt,Tt,Tt,Tt,Tt,Tt,Tt,Tt,Tt] (by decide +kernel) PFC.h (LtK.put rfl rfl rfl (Zf Zbg rfl) ?_)))))))
  refine LtK.put rfl rfl rfl (Zh sc_27 rfl (Zhs _) hS Xa trivial Zgf) (LtK.put rfl rfl rfl (Zw rfl) ?_)
  obtain ⟨e43, hi45, H⟩ := bind_some H
  obtain ⟨j44, hi45a, hi45b, hi45c⟩ := Yt hi45
  refine LtK.put rfl rfl rfl (Xf el_27 rfl rfl hi45a hi45c (Rd.el (hS.rd0 s1_.rd) Zg6 hi45b)) (LtK.put rfl rfl rfl (Vj sc_4 rfl (Zhs _) (Rd.el (hS.rd0 s1_.rd) Zg6 hi45b) rfl) (LtK.put rfl rfl rfl (Zf Zbg rfl) (LtK.put rfl rfl rfl (Zh sc_27 rfl (Zhs _) hS hs0 trivial Zgf) (LtK.put rfl rfl rfl (Zw rfl) ?_))))
  obtain ⟨e46, hi48, H⟩ := bind_some H
  obtain ⟨j47, hi48a, hi48b, hi48c⟩ := Yt hi48
  refine LtK.put rfl rfl rfl (Xf el_27 rfl rfl hi48a hi48c (Rd.el (hS.rd0 s6_.rd) Zg6 hi48b)) (LtK.put rfl rfl rfl (Vj sc_4 rfl (Zhs _) (Rd.el (hS.rd0 s6_.rd) Zg6 hi48b) rfl) (LtK.put rfl rfl rfl (yv_neqB (by kernel_rfl) rfl rfl) (LtK.nil (Ye (by kernel_rfl) (Zc hK42 (Zy rfl (fun hb => ?_) (fun hb => ?_)))))))
  rotate_left
  ·replace H := Zo H hb
   refine Zr (Z3 (Zc hK41 (Ze (Zb 1 rfl (Za rfl rfl rfl (Xd rfl rfl) (Zb 1 rfl (Zg ?_)))))))
   exact X2 (n, v36, (IntKind.wrap .i64 (v37 + 1))) (by repeat (first | exact Sub.nil | refine Sub.cons rfl ?_)) ⟨hS, H⟩ (Nat.lt_succ_self _)
  replace H := Zp H hb
  refine Zd (fun K hK50 => Ze (Zb 1 rfl (Zg (Zc hK50 (Zk (Zx (Zj ?_)))))))
  refine Zj (Zx (Zj (Zm rfl (RV.tmp rfl RV.nil) rfl ?_)))
  obtain rfl := QJ H
  replace hS := hS.cut 0
  exact ⟨rfl, hS⟩
 replace H := Zo H hb
 refine X1 (Z8 (Z8 (Yz (Zc hK34 (Zd (fun K hK53 => Ze (Za rfl rfl rfl (Zf Vs rfl) ?_)))))))
 refine Za rfl rfl rfl (Zh X3 rfl (Zhr _) hS Xa trivial Zat) (Za rfl rfl rfl (Zf Vs rfl) (Za rfl rfl rfl (Zh X3 rfl (Zhr _) hS hs0 trivial Zat) ?_))
 obtain ⟨r54, hm55, H⟩ := bind_some H
 refine Zn rfl rfl rfl rfl (by kernel_rfl) rfl (c_ref20_ints x0.next x1.next A2_ c2_ A7_ c7_ _ (Zhu s2_.k (hS.rd0 s2_.rd) (hS.blk0 s2_.blk)) (Zhu s7_.k (hS.rd0 s7_.rd) (hS.blk0 s7_.blk)) hm55) ?_
 rintro e w ⟨rfl, hN⟩; refine ⟨_, rfl, ?_⟩; obtain ⟨hB, hS⟩ := hS.jn hN
 refine Zb 1 rfl (Zs 86 rfl (fun hb => ?_) (fun hb => ?_))
 rotate_left
 ·replace H := Zo H hb
  refine Zb 14 rfl (Zg (Zc hK53 (Zk (Zm rfl (RV.tmp rfl RV.nil) rfl ?_))))
  obtain rfl := QJ H
  replace hS := hS.cut 0
  exact ⟨rfl, hS⟩
 replace H := Zp H hb
 refine Za rfl rfl rfl (Zf Ji rfl) (Za rfl rfl rfl (Zh X3 rfl (Zhr _) hS Xa trivial Zbo) (Za rfl rfl rfl (Zf Ji rfl) (Za rfl rfl rfl (Zh X3 rfl (Zhr _) hS hs0 trivial Zbo) ?_)))
 obtain ⟨r57, hm58, H⟩ := bind_some H
 refine Zn rfl rfl rfl rfl (by kernel_rfl) rfl (c_ref20_ints x0.mtch x1.mtch A3_ c3_ A8_ c8_ _ (Zhu s3_.k (hS.rd0 s3_.rd) (hS.blk0 s3_.blk)) (Zhu s8_.k (hS.rd0 s8_.rd) (hS.blk0 s8_.blk)) hm58) ?_
 rintro e w ⟨rfl, hN⟩; refine ⟨_, rfl, ?_⟩; obtain ⟨hB, hS⟩ := hS.jn hN
 refine Zb 2 rfl (Zs 93 rfl (fun hb => ?_) (fun hb => ?_))
 rotate_left
 ·replace H := Zo H hb
  refine Zb 7 rfl (Zg (Zc hK53 (Zk (Zm rfl (RV.tmp rfl RV.nil) rfl ?_))))
  obtain rfl := QJ H
  replace hS := hS.cut 0
  exact ⟨rfl, hS⟩
 replace H := Zp H hb
 refine Za rfl rfl rfl (Zf Jl rfl) (Za rfl rfl rfl (Zh X3 rfl (Zhr _) hS Xa trivial Zdc) (Za rfl rfl rfl (Zf Jl rfl) (Za rfl rfl rfl (Zh X3 rfl (Zhr _) hS hs0 trivial Zdc) ?_)))
 obtain ⟨r60, hm61, H⟩ := bind_some H
 refine Zn rfl rfl rfl rfl (by kernel_rfl) rfl (c_ref20_ints x0.caps x1.caps A4_ c4_ A9_ c9_ _ (Zhu s4_.k (hS.rd0 s4_.rd) (hS.blk0 s4_.blk)) (Zhu s9_.k (hS.rd0 s9_.rd) (hS.blk0 s9_.blk)) hm61) ?_
 rintro e w ⟨rfl, hN⟩; refine ⟨_, rfl, ?_⟩; obtain ⟨hB, hS⟩ := hS.jn hN
 refine Zb 2 rfl (Zg (Zc hK53 (Zk (Zm rfl (RV.tmp rfl RV.nil) rfl ?_))))
 obtain rfl := QJ H
 replace hS := hS.cut 0
 exact ⟨rfl, hS⟩
theorem c_ref20_Alike (x0 : Ms) (x1 : Ms) (A0_ : OA) (c0_ : Nat) (A1_ : OA) (c1_ : Nat) (w0 : World) (s0_ : SlI w0 Vv A0_ c0_ x0.entries) (s1_ : SlI w0 Vv A1_ c1_ x1.entries) {r : Bool} (H : Zcj x0 x1 = some r) : Calls Tryz.prog 31 #[.agg #[.int .u8 x0.kind, .int .i64 x0.frm, .int .i64 x0.dst, .int .i64 x0.term, .int .i64 x0.cap, .int .i64 x0.last, .int .i64 x0.lastTerm, .int .i64 x0.commit, .bool x0.okk, .slice A0_ x0.entries.length c0_, .int .i64 x0.snap.index, .int .i64 x0.snap.term, .int .i64 x0.snap.sum, .int .i64 x0.snap.level, .bool x0.snap.final], .agg #[.int .u8 x1.kind, .int .i64 x1.frm, .int .i64 x1.dst, .int .i64 x1.term, .int .i64 x1.cap, .int .i64 x1.last, .int .i64 x1.lastTerm, .int .i64 x1.commit, .bool x1.okk, .slice A1_ x1.entries.length c1_, .int .i64 x1.snap.index, .int .i64 x1.snap.term, .int .i64 x1.snap.sum, .int .i64 x1.snap.level, .bool x1.snap.final]] w0 fun e w' => e = .returned (.bool r) ∧ St0 All w0 w' [] := by
 unfold Zcj at H
 refine Yn Tryz.func31 rfl Tryz.ntmps31 rfl ?_
 have hS := St0.start All w0
 refine Zd (fun K hK1 => Ze (Z4 rfl rfl rfl CellsOf.agg hS (fun b2 w hS hB => Z4 rfl rfl rfl CellsOf.agg hS (fun b4 w hS hB => Zb 1 rfl (Zg (Zc hK1 (Zd (fun K hK6 => ?_))))))))
 refine Ze (Za rfl rfl rfl (Zf Vo rfl) (Za rfl rfl rfl (Zh Zbq rfl (Zhr _) hS Xa trivial Y4) (Za rfl rfl rfl (Zf Vo rfl) (Za rfl rfl rfl (Zh Zbq rfl (Zhr _) hS hs0 trivial Y4) (Za rfl rfl rfl (Y1 rfl rfl) (Zb 1 rfl (Zs 10 rfl (fun hb => ?_) (fun hb => ?_))))))))
 rotate_left
 ·replace H := Zo H hb
  refine Zb 70 rfl (Zg (Zc hK6 (Zk (Zm rfl (RV.tmp rfl RV.nil) rfl ?_))))
  obtain rfl := QJ H
  replace hS := hS.cut 0
  exact ⟨rfl, hS⟩
 replace H := Zp H hb
 refine Za rfl rfl rfl (Zf Zck rfl) (Za rfl rfl rfl (Zh Z1 rfl (Zhr _) hS Xa trivial Vl) (Za rfl rfl rfl (Zf Zck rfl) (Za rfl rfl rfl (Zh Z1 rfl (Zhr _) hS hs0 trivial Vl) (Za rfl rfl rfl (Y1 rfl rfl) (Zb 2 rfl (Zs 17 rfl (fun hb => ?_) (fun hb => ?_)))))))
 rotate_left
 ·replace H := Zo H hb
  refine Zb 63 rfl (Zg (Zc hK6 (Zk (Zm rfl (RV.tmp rfl RV.nil) rfl ?_))))
  obtain rfl := QJ H
  replace hS := hS.cut 0
  exact ⟨rfl, hS⟩
 replace H := Zp H hb
 refine Za rfl rfl rfl (Zf Zeq rfl) (Za rfl rfl rfl (Zh Z1 rfl (Zhr _) hS Xa trivial Za0) (Za rfl rfl rfl (Zf Zeq rfl) (Za rfl rfl rfl (Zh Z1 rfl (Zhr _) hS hs0 trivial Za0) (Za rfl rfl rfl (Y1 rfl rfl) (Zb 2 rfl (Zs 24 rfl (fun hb => ?_) (fun hb => ?_)))))))
 rotate_left
 ·replace H := Zo H hb
  refine Zb 56 rfl (Zg (Zc hK6 (Zk (Zm rfl (RV.tmp rfl RV.nil) rfl ?_))))
  obtain rfl := QJ H
  replace hS := hS.cut 0
  exact ⟨rfl, hS⟩
 replace H := Zp H hb
 refine Za rfl rfl rfl (Zf Zca rfl) (Za rfl rfl rfl (Zh Z1 rfl (Zhr _) hS Xa trivial J9) (Za rfl rfl rfl (Zf Zca rfl) (Za rfl rfl rfl (Zh Z1 rfl (Zhr _) hS hs0 trivial J9) (Za rfl rfl rfl (Y1 rfl rfl) (Zb 2 rfl (Zs 31 rfl (fun hb => ?_) (fun hb => ?_)))))))
 rotate_left
 ·replace H := Zo H hb
  refine Zb 49 rfl (Zg (Zc hK6 (Zk (Zm rfl (RV.tmp rfl RV.nil) rfl ?_))))
  obtain rfl := QJ H
  replace hS := hS.cut 0
  exact ⟨rfl, hS⟩
 replace H := Zp H hb
 refine Za rfl rfl rfl (Zf fo_32_4 rfl) (Za rfl rfl rfl (Zh Z1 rfl (Zhr _) hS Xa trivial Zfw) (Za rfl rfl rfl (Zf fo_32_4 rfl) (Za rfl rfl rfl (Zh Z1 rfl (Zhr _) hS hs0 trivial Zfw) (Za rfl rfl rfl (Y1 rfl rfl) (Zb 2 rfl (Zs 38 rfl (fun hb => ?_) (fun hb => ?_)))))))
 rotate_left
 ·replace H := Zo H hb
  refine Zb 42 rfl (Zg (Zc hK6 (Zk (Zm rfl (RV.tmp rfl RV.nil) rfl ?_))))
  obtain rfl := QJ H
  replace hS := hS.cut 0
  exact ⟨rfl, hS⟩
 replace H := Zp H hb
 refine Za rfl rfl rfl (Zf V0 rfl) (Za rfl rfl rfl (Zh Z1 rfl (Zhr _) hS Xa trivial Jd) (Za rfl rfl rfl (Zf V0 rfl) (Za rfl rfl rfl (Zh Z1 rfl (Zhr _) hS hs0 trivial Jd) (Za rfl rfl rfl (Y1 rfl rfl) (Zb 2 rfl (Zs 45 rfl (fun hb => ?_) (fun hb => ?_)))))))
 rotate_left
 ·replace H := Zo H hb
  refine Zb 35 rfl (Zg (Zc hK6 (Zk (Zm rfl (RV.tmp rfl RV.nil) rfl ?_))))
  obtain rfl := QJ H
  replace hS := hS.cut 0
  exact ⟨rfl, hS⟩
 replace H := Zp H hb
 refine Za rfl rfl rfl (Zf Zfe rfl) (Za rfl rfl rfl (Zh Z1 rfl (Zhr _) hS Xa trivial Zgj) (Za rfl rfl rfl (Zf Zfe rfl) (Za rfl rfl rfl (Zh Z1 rfl (Zhr _) hS hs0 trivial Zgj) (Za rfl rfl rfl (Y1 rfl rfl) (Zb 2 rfl (Zs 52 rfl (fun hb => ?_) (fun hb => ?_)))))))
 rotate_left
 ·replace H := Zo H hb
  refine Zb 28 rfl (Zg (Zc hK6 (Zk (Zm rfl (RV.tmp rfl RV.nil) rfl ?_))))
  obtain rfl := QJ H
  replace hS := hS.cut 0
  exact ⟨rfl, hS⟩
 replace H := Zp H hb
 refine Za rfl rfl rfl (Zf Zdu rfl) (Za rfl rfl rfl (Zh Z1 rfl (Zhr _) hS Xa trivial Zey) (Za rfl rfl rfl (Zf Zdu rfl) (Za rfl rfl rfl (Zh Z1 rfl (Zhr _) hS hs0 trivial Zey) (Za rfl rfl rfl (Y1 rfl rfl) (Zb 2 rfl (Zs 59 rfl (fun hb => ?_) (fun hb => ?_)))))))
 rotate_left
 ·replace H := Zo H hb
  refine Zb 21 rfl (Zg (Zc hK6 (Zk (Zm rfl (RV.tmp rfl RV.nil) rfl ?_))))
  obtain rfl := QJ H
  replace hS := hS.cut 0
  exact ⟨rfl, hS⟩
 replace H := Zp H hb
 refine Za rfl rfl rfl (Zf Zf0 rfl) (Za rfl rfl rfl (Zh sc_4 rfl (Zhr _) hS Xa trivial sg8_1) (Za rfl rfl rfl (Zf Zf0 rfl) (Za rfl rfl rfl (Zh sc_4 rfl (Zhr _) hS hs0 trivial sg8_1) (Za rfl rfl rfl (yv_eqlB (by kernel_rfl) rfl rfl) (Zb 2 rfl (Zs 66 rfl (fun hb => ?_) (fun hb => ?_)))))))
 rotate_left
 ·replace H := Zo H hb
  refine Zb 14 rfl (Zg (Zc hK6 (Zk (Zm rfl (RV.tmp rfl RV.nil) rfl ?_))))
  obtain rfl := QJ H
  replace hS := hS.cut 0
  exact ⟨rfl, hS⟩
 replace H := Zp H hb
 refine Za rfl rfl rfl (Zf Xm rfl) (Za rfl rfl rfl (Zi Y6 rfl (Zhr _) hS Xa trivial Zae) (Za rfl rfl rfl (Zf Xm rfl) (Za rfl rfl rfl (Zi Y6 rfl (Zhr _) hS hs0 trivial Zae) (Za rfl rfl rfl (Zah (by kernel_rfl) rfl rfl (Zbc _ _ _ _ _ _ _ _ _ _)) (Zb 2 rfl (Zs 73 rfl (fun hb => ?_) (fun hb => ?_)))))))
 rotate_left
 ·replace H := Zo H hb
  refine Zb 7 rfl (Zg (Zc hK6 (Zk (Zm rfl (RV.tmp rfl RV.nil) rfl ?_))))
  obtain rfl := QJ H
  replace hS := hS.cut 0
  exact ⟨rfl, hS⟩
 replace H := Zp H hb
 refine Za rfl rfl rfl (Zf X8 rfl) (Za rfl rfl rfl (Zh Xx rfl (Zhr _) hS Xa trivial Zak) (Za rfl rfl rfl (Zf X8 rfl) (Za rfl rfl rfl (Zh Xx rfl (Zhr _) hS hs0 trivial Zak) ?_)))
 obtain ⟨r17, hm18, H⟩ := bind_some H
 refine Zn rfl rfl rfl rfl (by kernel_rfl) rfl (c_ref06_Same x0.entries x1.entries A0_ c0_ A1_ c1_ _ (Zhu s0_.k (hS.rd0 s0_.rd) (hS.blk0 s0_.blk)) (Zhu s1_.k (hS.rd0 s1_.rd) (hS.blk0 s1_.blk)) hm18) ?_
 rintro e w ⟨rfl, hN⟩; refine ⟨_, rfl, ?_⟩; obtain ⟨hB, hS⟩ := hS.jn hN
 refine Zb 2 rfl (Zg (Zc hK6 (Zk (Zm rfl (RV.tmp rfl RV.nil) rfl ?_))))
 obtain rfl := QJ H
 replace hS := hS.cut 0
 exact ⟨rfl, hS⟩
theorem c_ref20_All (x0 : List Ms) (x1 : List Ms) (A0_ : OA) (c0_ : Nat) (q0_ : List Mq) (A1_ : OA) (c1_ : Nat) (q1_ : List Mq) (w0 : World) (s0_ : SlI w0 enQ A0_ c0_ q0_) (s0_q : q0_.map Mq.m = x0) (s0_n : ∀ y ∈ q0_, SlI w0 Vv y.A y.c y.m.entries) (s1_ : SlI w0 enQ A1_ c1_ q1_) (s1_q : q1_.map Mq.m = x1) (s1_n : ∀ y ∈ q1_, SlI w0 Vv y.A y.c y.m.entries) {r : Bool} (H : Zco x0 x1 = some r) : Calls Tryz.prog 12 #[.slice A0_ x0.length c0_, .slice A1_ x1.length c1_] w0 fun e w' => e = .returned (.bool r) ∧ St0 All w0 w' [] := by
 unfold Zco at H
 refine Yn Tryz.func12 rfl Tryz.ntmps12 rfl ?_
 have hS := St0.start All w0
 refine Zd (fun K hK1 => Ze (Zb 1 rfl (Zg (Zc hK1 (Zd (fun K hK2 => Zd (fun K hK3 => Ze ?_)))))))
 refine Zb 1 rfl (Za rfl rfl rfl (Y0 Zbf rfl) (Zb 1 rfl (Za rfl rfl rfl (Y0 Zbf rfl) (Za rfl rfl rfl (Xu rfl rfl) (Zg (Zc hK3 (Zy rfl (fun hb => ?_) (fun hb => ?_))))))))
 ·replace H := Zp H hb
  refine Zd (fun K hK5 => Ze (Zb 1 rfl (Zg (Zc hK5 (Zk (Zj (Zm rfl (RV.tmp rfl RV.nil) rfl ?_)))))))
  obtain rfl := QJ H
  replace hS := hS.cut 0
  exact ⟨rfl, hS⟩
 replace H := Zo H hb
 refine Zr (Zc hK2 (Zd (fun K hK7 => Zd (fun K hK8 => Ze (Zb 1 rfl (Zg (Zc hK8 ?_)))))))
 refine Yd (Vq (X := Nat × Bool × Int) (fun x => (0, .slice A0_ x0.length c0_) :: (1, .slice A1_ x1.length c1_) :: (4, .bool x.2.1) :: (5, .int .i64 x.2.2) :: []) (fun x w => St0 All w0 w ([]) ∧ Za7 x0 x1 x.1 x.2.1 x.2.2 = some r) (fun x => x.1) (Xr, false, 0) (by repeat (first | exact Sub.nil | refine Sub.cons rfl ?_)) ⟨hS, H⟩ ?_)
 rintro ⟨n, v9, v10⟩ w ⟨hS, H⟩
 dsimp only at hS H ⊢
 obtain _ | n := n
 ·have H0 : none = some r := H
  cases H0
 rw [Za7] at H
 refine Zd (fun K hK11 => Zd (fun K hK12 => Ze (Zb 2 rfl (Za rfl rfl rfl (Y0 Zbf rfl) (Za rfl rfl rfl (Xk rfl rfl) (Zg (Zc hK12 ?_)))))))
 refine Zy rfl (fun hb => ?_) (fun hb => ?_)
 rotate_left
 ·replace H := Zo H hb
  refine X1 (Z8 (Z8 (Yz (Zc hK7 (Zd (fun K hK32 => Ze (Zb 1 rfl ?_)))))))
  refine Zg (Zc hK32 (Zk (Zm rfl (RV.tmp rfl RV.nil) rfl ?_)))
  obtain rfl := QJ H
  replace hS := hS.cut 0
  exact ⟨rfl, hS⟩
 replace H := Zp H hb
 refine Zr (Zc hK11 (Zd (fun K hK14 => Yd (Zd (fun K hK15 => Yi 10 [] (fun _ _ => True) ⟨by kernel_rfl, by kernel_rfl⟩ hS (fun w hS hB => Zq [Tt,Tt,Tt,Tt,Tt,Tt,Tt,Tt] (by decide +kernel) PFC.h (LtK.put rfl rfl rfl (Zw rfl) ?_)))))))
 refine LtK.put rfl rfl rfl (Zw rfl) ?_
 obtain ⟨e16, hi18, H⟩ := bind_some H
 obtain ⟨j17, A19, c20, hi18a, hi18b, hi18c⟩ := idxQ (q := q0_) s0_q hi18
 refine LtK.put rfl rfl rfl (Xf Zbf rfl rfl hi18a hi18c (Rd.el (hS.rd0 s0_.rd) Ze5 hi18b)) (LtK.put rfl rfl rfl (Zel Xn rfl (Zhs _) (Rd.el (hS.rd0 s0_.rd) Ze5 hi18b) Y2) (LtK.put rfl rfl rfl (Zw rfl) (LtK.put rfl rfl rfl (Zw rfl) ?_)))
 obtain ⟨e21, hi23, H⟩ := bind_some H
 obtain ⟨j22, A24, c25, hi23a, hi23b, hi23c⟩ := idxQ (q := q1_) s1_q hi23
 refine LtK.put rfl rfl rfl (Xf Zbf rfl rfl hi23a hi23c (Rd.el (hS.rd0 s1_.rd) Ze5 hi23b)) (LtK.put rfl rfl rfl (Zel Xn rfl (Zhs _) (Rd.el (hS.rd0 s1_.rd) Ze5 hi23b) Y2) (LtK.nil (Z6 [Ff,Ff,Ff,Ff,Ff,Ff,Ff,Ff,Tt] 8 ⟨by decide, by kernel_rfl, by kernel_rfl⟩ rfl rfl ?_)))
 try dsimp only [Z0]
 obtain ⟨r26, hm27, H⟩ := bind_some H
 refine Zn rfl rfl rfl rfl (by kernel_rfl) rfl (c_ref20_Alike e16 e21 A19 c20 A24 c25 _ (Zhu ((s0_n _ (List.mem_of_getElem? hi18b)).k) (hS.rd0 (s0_n _ (List.mem_of_getElem? hi18b)).rd) (hS.blk0 (s0_n _ (List.mem_of_getElem? hi18b)).blk)) (Zhu ((s1_n _ (List.mem_of_getElem? hi23b)).k) (hS.rd0 (s1_n _ (List.mem_of_getElem? hi23b)).rd) (hS.blk0 (s1_n _ (List.mem_of_getElem? hi23b)).blk)) hm27) ?_
 rintro e w ⟨rfl, hN⟩; refine ⟨_, rfl, ?_⟩; obtain ⟨hB, hS⟩ := hS.jn hN
 refine Zg (Z9 hB (Zq [Ff,Ff,Ff,Ff,Ff,Ff,Ff,Ff,Ff,Tt] (by decide +kernel) PFC.h (LtK.put rfl rfl rfl (Ys rfl) (LtK.nil (Ye (by kernel_rfl) (Zc hK15 (Zy rfl (fun hb => ?_) (fun hb => ?_))))))))
 rotate_left
 ·replace H := Zo H hb
  refine Zr (Z3 (Zc hK14 (Ze (Zb 1 rfl (Za rfl rfl rfl (Xd rfl rfl) (Zb 1 rfl (Zg ?_)))))))
  exact X2 (n, v9, (IntKind.wrap .i64 (v10 + 1))) (by repeat (first | exact Sub.nil | refine Sub.cons rfl ?_)) ⟨hS, H⟩ (Nat.lt_succ_self _)
 replace H := Zp H hb
 refine Zd (fun K hK29 => Ze (Zb 1 rfl (Zg (Zc hK29 (Zk (Zx (Zj ?_)))))))
 refine Zj (Zx (Zj (Zm rfl (RV.tmp rfl RV.nil) rfl ?_)))
 obtain rfl := QJ H
 replace hS := hS.cut 0
 exact ⟨rfl, hS⟩
theorem Zge (x0 : Int) (w0 : World) {r : Bool} (H : Za3 x0 = some r) : Calls Tryz.prog 85 #[.int .i64 x0] w0 fun e w' => e = .returned (.bool r) ∧ St0 All w0 w' [] := by
 unfold Za3 at H
 refine Yp Tryz.func85 rfl Tryz.ntmps85 rfl ?_
 have hS := St0.start All w0
 refine Zd (fun K hK1 => Ze (Zb 1 rfl (Zg (Zc hK1 (Zd (fun K hK2 => Ze (Zb 1 rfl ?_)))))))
 refine Za rfl rfl rfl (Zed rfl rfl) (Zb 1 rfl (Zs 5 rfl (fun hb => ?_) (fun hb => ?_)))
 rotate_left
 ·replace H := Zo H hb
  refine Zb 4 rfl (Zg (Zc hK2 (Zk (Zm rfl (RV.tmp rfl RV.nil) rfl ?_))))
  obtain rfl := QJ H
  replace hS := hS.cut 0
  exact ⟨rfl, hS⟩
 replace H := Zp H hb
 refine Zb 1 rfl (Za rfl rfl rfl (Za5 rfl rfl) (Zb 2 rfl (Zg (Zc hK2 (Zk (Zm rfl (RV.tmp rfl RV.nil) rfl ?_))))))
 obtain rfl := QJ H
 replace hS := hS.cut 0
 exact ⟨rfl, hS⟩
theorem c_ref20_entries (x0 : Ms) (A0_ : OA) (c0_ : Nat) (w0 : World) (s0_ : SlI w0 Vv A0_ c0_ x0.entries) {r : Bool} (H : Zcg x0 = some r) : Calls Tryz.prog 86 #[.agg #[.int .u8 x0.kind, .int .i64 x0.frm, .int .i64 x0.dst, .int .i64 x0.term, .int .i64 x0.cap, .int .i64 x0.last, .int .i64 x0.lastTerm, .int .i64 x0.commit, .bool x0.okk, .slice A0_ x0.entries.length c0_, .int .i64 x0.snap.index, .int .i64 x0.snap.term, .int .i64 x0.snap.sum, .int .i64 x0.snap.level, .bool x0.snap.final]] w0 fun e w' => e = .returned (.bool r) ∧ St0 All w0 w' [] := by
 unfold Zcg at H
 refine Yp Tryz.func86 rfl Tryz.ntmps86 rfl ?_
 have hS := St0.start All w0
 refine Zd (fun K hK1 => Ze (Z4 rfl rfl rfl CellsOf.agg hS (fun b2 w hS hB => Zb 1 rfl (Zg (Zc hK1 (Zd (fun K hK4 => Ze ?_)))))))
 refine Za rfl rfl rfl (Zf Zfe rfl) (Za rfl rfl rfl (Zh Z1 rfl (Zhr _) hS hs0 trivial Zgj) (Zb 1 rfl (Zg (Zc hK4 (Zd (fun K hK5 => Zd (fun K hK6 => Ze ?_)))))))
 refine Zb 1 rfl (Zg (Zc hK6 (Yd (Vq (X := Nat × Bool × Int × Int) (fun x => (1, .pointer (some ⟨b2, 0, none⟩)) :: (2, .bool x.2.1) :: (3, .int .i64 x.2.2.1) :: (4, .int .i64 x.2.2.2) :: []) (fun x w => St0 All w0 w (.box b2 [.int .u8 x0.kind, .int .i64 x0.frm, .int .i64 x0.dst, .int .i64 x0.term, .int .i64 x0.cap, .int .i64 x0.last, .int .i64 x0.lastTerm, .int .i64 x0.commit, .bool x0.okk, .slice A0_ x0.entries.length c0_, .int .i64 x0.snap.index, .int .i64 x0.snap.term, .int .i64 x0.snap.sum, .int .i64 x0.snap.level, .bool x0.snap.final] 32 :: []) ∧ Je x0 x.1 x.2.1 x.2.2.1 x.2.2.2 = some r) (fun x => x.1) (Xr, false, x0.lastTerm, 0) (by repeat (first | exact Sub.nil | refine Sub.cons rfl ?_)) ⟨hS, H⟩ ?_))))
 rintro ⟨n, v7, v8, v9⟩ w ⟨hS, H⟩
 dsimp only at hS H ⊢
 obtain _ | n := n
 ·have H0 : none = some r := H
  cases H0
 rw [Je] at H
 refine Zd (fun K hK10 => Zd (fun K hK11 => Ze (Zb 1 rfl (Za rfl rfl rfl (Zf X8 rfl) (Za rfl rfl rfl (Zh Xx rfl (Zhr _) hS hs0 trivial Zak) (Za rfl rfl rfl (Y0 Y8 rfl) (Za rfl rfl rfl (Xk rfl rfl) ?_)))))))
 refine Zg (Zc hK11 (Zy rfl (fun hb => ?_) (fun hb => ?_)))
 rotate_left
 ·replace H := Zo H hb
  refine X1 (Z8 (Z8 (Yz (Zc hK5 (Zd (fun K hK40 => Ze (Za rfl rfl rfl (Zf X8 rfl) ?_)))))))
  refine Za rfl rfl rfl (Zh Xx rfl (Zhr _) hS hs0 trivial Zak) (Za rfl rfl rfl (Y0 Y8 rfl) (Za rfl rfl rfl (Za5 rfl rfl) (Zb 1 rfl (Zg (Zc hK40 (Zk (Zm rfl (RV.tmp rfl RV.nil) rfl ?_)))))))
  obtain rfl := QJ H
  replace hS := hS.cut 0
  exact ⟨rfl, hS⟩
 replace H := Zp H hb
 refine Zr (Zc hK10 (Zd (fun K hK13 => Yd (Zd (fun K hK14 => Zd (fun K hK15 => Yi 28 [] (fun _ _ => True) ⟨by kernel_rfl, by kernel_rfl⟩ hS (fun w hS hB => Zq [Tt,Tt,Tt,Tt,Tt] (by decide +kernel) PFC.h ?_)))))))
 refine LtK.put rfl rfl rfl (Zf X8 rfl) (LtK.put rfl rfl rfl (Zh Xx rfl (Zhs _) hS hs0 trivial Zak) (LtK.put rfl rfl rfl (Zw rfl) ?_))
 obtain ⟨e16, hi18, H⟩ := bind_some H
 obtain ⟨j17, hi18a, hi18b, hi18c⟩ := Yt hi18
 refine LtK.put rfl rfl rfl (Xf Y8 rfl rfl hi18a hi18c (Rd.el (hS.rd0 s0_.rd) Xy hi18b)) (LtK.put rfl rfl rfl (Zel Jt rfl (Zhs _) (Rd.el (hS.rd0 s0_.rd) Xy hi18b) Zd3) (LtK.nil (Z6 [Ff,Ff,Ff,Ff,Ff,Tt] 5 ⟨by decide, by kernel_rfl, by kernel_rfl⟩ rfl rfl ?_)))
 try dsimp only [Z0]
 obtain ⟨r19, hm20, H⟩ := bind_some H
 refine Zn rfl rfl rfl rfl (by kernel_rfl) rfl (Zg2 e16 _ hm20) ?_
 rintro e w ⟨rfl, hN⟩; refine ⟨_, rfl, ?_⟩; obtain ⟨hB, hS⟩ := hS.jn hN
 refine Zg (Z9 hB (Zq [Ff,Ff,Ff,Ff,Ff,Ff,Tt,Tt] (by decide +kernel) PFC.h (LtK.put rfl rfl rfl (Ys rfl) (LtK.put rfl rfl rfl (Zw rfl) (LtK.nil (Jw 21 rfl (fun hb => ?_) (fun hb => ?_)))))))
 ·replace H := Zp H hb
  refine Zq [Ff,Ff,Ff,Ff,Ff,Ff,Ff,Ff,Tt,Tt,Tt,Tt,Tt,Tt,Tt,Tt,Tt,Tt,Tt,Tt,Tt,Tt,Tt,Tt,Tt,Tt,Tt,Tt] (by decide +kernel) PFC.h (LtK.skip rfl rfl rfl (LtK.skip rfl rfl rfl (LtK.skip rfl rfl rfl (LtK.skip rfl rfl rfl (LtK.skip rfl rfl rfl (LtK.skip rfl rfl rfl (LtK.skip rfl rfl rfl ?_)))))))
  refine LtK.skip rfl rfl rfl (LtK.put rfl rfl rfl (Ym rfl rfl rfl) (LtK.put rfl rfl rfl (Zw rfl) (LtK.skip rfl rfl rfl (LtK.skip rfl rfl rfl (LtK.skip rfl rfl rfl (LtK.skip rfl rfl rfl (LtK.skip rfl rfl rfl ?_)))))))
  refine LtK.skip rfl rfl rfl (LtK.skip rfl rfl rfl (LtK.skip rfl rfl rfl (LtK.skip rfl rfl rfl (LtK.put rfl rfl rfl (Ym rfl rfl rfl) (LtK.nil (Ye (by kernel_rfl) (Zc hK15 ?_)))))))
  refine Zt rfl rfl (Zd (fun K hK22 => Ze (Zb 1 rfl (Zg (Zc hK22 (Zk (Zj ?_)))))))
  refine Zx (Zj (Zj (Zx (Zj (Zm rfl (RV.tmp rfl RV.nil) rfl ?_)))))
  obtain rfl := QJ H
  replace hS := hS.cut 0
  exact ⟨rfl, hS⟩
 replace H := Zo H hb
 refine Zq [Ff,Ff,Ff,Ff,Ff,Ff,Ff,Ff,Tt,Tt,Tt,Tt,Tt,Tt,Tt,Tt,Tt,Tt] (by decide +kernel) PFC.h (LtK.put rfl rfl rfl (Zf X8 rfl) (LtK.put rfl rfl rfl (Zh Xx rfl (Zhs _) hS hs0 trivial Zak) (LtK.put rfl rfl rfl (Zw rfl) ?_)))
 obtain ⟨e24, hi26, H⟩ := bind_some H
 obtain ⟨j25, hi26a, hi26b, hi26c⟩ := Yt hi26
 refine LtK.put rfl rfl rfl (Xf Y8 rfl rfl hi26a hi26c (Rd.el (hS.rd0 s0_.rd) Xy hi26b)) (LtK.put rfl rfl rfl (Zau Zbt rfl (Rd.el (hS.rd0 s0_.rd) Xy hi26b)) (LtK.put rfl rfl rfl (Vj Z1 rfl (Zhs _) (Rd.el (hS.rd0 s0_.rd) Xy hi26b) rfl) (LtK.put rfl rfl rfl (Zw rfl) (LtK.put rfl rfl rfl (Xk rfl rfl) (LtK.put rfl rfl rfl (Y3 rfl rfl rfl) (LtK.put rfl rfl rfl (Zw rfl) (LtK.nil ?_)))))))
 refine Jw 31 rfl (fun hb => ?_) (fun hb => ?_)
 ·replace H := Zp H hb
  refine Zq [Ff,Ff,Ff,Ff,Ff,Ff,Ff,Ff,Ff,Ff,Ff,Ff,Ff,Ff,Ff,Ff,Ff,Ff,Tt,Tt,Tt,Tt,Tt,Tt,Tt,Tt,Tt,Tt] (by decide +kernel) PFC.h (LtK.skip rfl rfl rfl (LtK.skip rfl rfl rfl (LtK.skip rfl rfl rfl (LtK.skip rfl rfl rfl (LtK.skip rfl rfl rfl (LtK.skip rfl rfl rfl (LtK.skip rfl rfl rfl ?_)))))))
  refine LtK.skip rfl rfl rfl (LtK.skip rfl rfl rfl (LtK.put rfl rfl rfl (Ym rfl rfl rfl) (LtK.nil (Ye (by kernel_rfl) (Zc hK15 (Zt rfl rfl (Zd (fun K hK28 => ?_))))))))
  refine Ze (Zb 1 rfl (Zg (Zc hK28 (Zk (Zj (Zx (Zj ?_)))))))
  refine Zj (Zx (Zj (Zm rfl (RV.tmp rfl RV.nil) rfl ?_)))
  obtain rfl := QJ H
  replace hS := hS.cut 0
  exact ⟨rfl, hS⟩
 replace H := Zo H hb
 refine Zq [Ff,Ff,Ff,Ff,Ff,Ff,Ff,Ff,Ff,Ff,Ff,Ff,Ff,Ff,Ff,Ff,Ff,Ff,Tt,Tt,Tt,Tt,Tt,Tt,Tt,Tt,Tt,Tt] (by decide +kernel) PFC.h (LtK.put rfl rfl rfl (Zf X8 rfl) (LtK.put rfl rfl rfl (Zh Xx rfl (Zhs _) hS hs0 trivial Zak) (LtK.put rfl rfl rfl (Zw rfl) ?_)))
 obtain ⟨e30, hi32, H⟩ := bind_some H
 obtain ⟨j31, hi32a, hi32b, hi32c⟩ := Yt hi32
 refine LtK.put rfl rfl rfl (Xf Y8 rfl rfl hi32a hi32c (Rd.el (hS.rd0 s0_.rd) Xy hi32b)) (LtK.put rfl rfl rfl (Zau Zbt rfl (Rd.el (hS.rd0 s0_.rd) Xy hi32b)) (LtK.put rfl rfl rfl (Vj Z1 rfl (Zhs _) (Rd.el (hS.rd0 s0_.rd) Xy hi32b) rfl) (LtK.put rfl rfl rfl (Zf Zca rfl) (LtK.put rfl rfl rfl (Zh Z1 rfl (Zhs _) hS hs0 trivial J9) (LtK.put rfl rfl rfl (Xc rfl rfl) (LtK.put rfl rfl rfl (Y3 rfl rfl rfl) (LtK.nil ?_)))))))
 refine Ye (by kernel_rfl) (Zc hK15 (Zy rfl (fun hb => ?_) (fun hb => ?_)))
 ·replace H := Zp H hb
  refine Zd (fun K hK34 => Ze (Zb 1 rfl (Zg (Zc hK34 (Zk (Zj (Zx ?_)))))))
  refine Zj (Zj (Zx (Zj (Zm rfl (RV.tmp rfl RV.nil) rfl ?_))))
  obtain rfl := QJ H
  replace hS := hS.cut 0
  exact ⟨rfl, hS⟩
 replace H := Zo H hb
 refine Zr (Zc hK14 (Ze (Za rfl rfl rfl (Zf X8 rfl) (Za rfl rfl rfl (Zh Xx rfl (Zhr _) hS hs0 trivial Zak) (Zb 1 rfl ?_)))))
 obtain ⟨e36, hi38, H⟩ := bind_some H
 obtain ⟨j37, hi38a, hi38b, hi38c⟩ := Yt hi38
 refine Za rfl rfl rfl (Xf Y8 rfl rfl hi38a hi38c (Rd.el (hS.rd0 s0_.rd) Xy hi38b)) (Za rfl rfl rfl (Zau Zbt rfl (Rd.el (hS.rd0 s0_.rd) Xy hi38b)) (Za rfl rfl rfl (Vj Z1 rfl (Zhr _) (Rd.el (hS.rd0 s0_.rd) Xy hi38b) rfl) (Zb 1 rfl (Zg (Z3 (Zc hK13 (Ze ?_)))))))
 refine Zb 1 rfl (Za rfl rfl rfl (Xd rfl rfl) (Zb 1 rfl (Zg ?_)))
 exact X2 (n, v7, e36.term, (IntKind.wrap .i64 (v9 + 1))) (by repeat (first | exact Sub.nil | refine Sub.cons rfl ?_)) ⟨hS, H⟩ (Nat.lt_succ_self _)
end Go.Proofs.YtamjlcaoieliaaaGreat
