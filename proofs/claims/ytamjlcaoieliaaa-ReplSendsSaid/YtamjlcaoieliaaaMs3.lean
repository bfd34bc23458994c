/- Texts of one claim put together. -/
import Derived.Test.YtamjlcaoieliaaaMs1
import Derived.Test.YtamjlcaoieliaaaMs2
namespace Go.Proofs.Ytamjlcaoieliaaa
open Go Go.RowKit
set_option maxRecDepth 100000
set_option maxHeartbeats 4000000
theorem c_ref12_Great (x0 : Tu) (A0_ : OA) (c0_ : Nat) (w0 : World) (s0_ : SlI w0 Jv A0_ c0_ x0.log) {r : Bool} (H : Zct x0 = some r) : Calls Try.prog 32 #[.agg #[.int .i64 x0.snap.index, .int .i64 x0.snap.term, .int .i64 x0.snap.sum, .int .i64 x0.snap.level, .bool x0.snap.final, .slice A0_ x0.log.length c0_, .int .i64 x0.term, .int .i64 x0.vote]] w0 fun e w' => e = .returned (.bool r) ∧ St0 All w0 w' [] := by
 unfold Zct at H
 refine Yn Try.func32 rfl Try.ntmps32 rfl ?_
 have hS := St0.start All w0
 refine Zd (fun K hK1 => ?_)
 refine Zf ?_
 refine Yd rfl rfl rfl CellsOf.agg hS (fun b2 w hS hB => ?_)
 refine Zc 1 rfl ?_
 refine Zg ?_
 refine Zb hK1 ?_
 refine Zd (fun K hK4 => ?_)
 refine Zf ?_
 refine Za rfl rfl rfl (Ze Xz rfl) ?_
 refine Za rfl rfl rfl (Zh Xp rfl (Zgy _) hS hs0 trivial Js) ?_
 refine Za rfl rfl rfl (Yu Y6 rfl) ?_
 refine Za rfl rfl rfl (Xa rfl rfl) ?_
 refine Zc 1 rfl ?_
 refine Zg ?_
 refine Zb hK4 ?_
 refine Zk ?_
 refine Zl rfl (RV.tmp rfl RV.nil) rfl ?_
 obtain rfl := QJ H
 replace hS := hS.cut 0
 exact ⟨rfl, hS⟩
theorem c_ref20_Great (x0 : Co) (A0_ : OA) (c0_ : Nat) (A1_ : OA) (c1_ : Nat) (A2_ : OA) (c2_ : Nat) (A3_ : OA) (c3_ : Nat) (A4_ : OA) (c4_ : Nat) (w0 : World) (s0_ : SlI w0 Jv A0_ c0_ x0.tuple.log) (s1_ : SlI w0 enO A1_ c1_ x0.votes) (s2_ : SlI w0 V9 A2_ c2_ x0.next) (s3_ : SlI w0 V9 A3_ c3_ x0.mtch) (s4_ : SlI w0 V9 A4_ c4_ x0.caps) {r : Bool} (H : Zal x0 = some r) : Calls Try.prog 9 #[.agg #[.int .i64 x0.id, .int .i64 x0.n, .int .u8 x0.role, .int .i64 x0.binary, .int .i64 x0.tuple.snap.index, .int .i64 x0.tuple.snap.term, .int .i64 x0.tuple.snap.sum, .int .i64 x0.tuple.snap.level, .bool x0.tuple.snap.final, .slice A0_ x0.tuple.log.length c0_, .int .i64 x0.tuple.term, .int .i64 x0.tuple.vote, .int .i64 x0.commit, .int .i64 x0.applied.index, .int .i64 x0.applied.term, .int .i64 x0.applied.sum, .int .i64 x0.applied.level, .bool x0.applied.final, .slice A1_ x0.votes.length c1_, .slice A2_ x0.next.length c2_, .slice A3_ x0.mtch.length c3_, .slice A4_ x0.caps.length c4_]] w0 fun e w' => e = .returned (.bool r) ∧ St0 All w0 w' [] := by
 unfold Zal at H
 refine Yn Try.func9 rfl Try.ntmps9 rfl ?_
 have hS := St0.start All w0
 refine Zd (fun K hK1 => ?_)
 refine Zf ?_
 refine Yd rfl rfl rfl CellsOf.agg hS (fun b2 w hS hB => ?_)
 refine Zc 1 rfl ?_
 refine Zg ?_
 refine Zb hK1 ?_
 refine Zd (fun K hK4 => ?_)
 refine Zf ?_
 refine Za rfl rfl rfl (Ze Yz rfl) ?_
 refine Za rfl rfl rfl (Zi Yr rfl (Zgy _) hS hs0 trivial Jw) ?_
 obtain ⟨r5, hm6, H⟩ := bind_some H
 refine Zo rfl rfl rfl rfl (by kernel_rfl) rfl (c_ref12_Great x0.tuple A0_ c0_ _ (Zg1 s0_.k (hS.rd0 s0_.rd) (hS.blk0 s0_.blk)) hm6) ?_
 rintro e w ⟨rfl, hN⟩; refine ⟨_, rfl, ?_⟩; obtain ⟨hB, hS⟩ := hS.jn hN
 refine Zc 1 rfl ?_
 refine Zu 6 rfl (fun hb => ?_) (fun hb => ?_)
 ·replace H := Zq H hb
  refine Zc 38 rfl ?_
  refine Zg ?_
  refine Zb hK4 ?_
  refine Zk ?_
  refine Zl rfl (RV.tmp rfl RV.nil) rfl ?_
  obtain rfl := QJ H
  replace hS := hS.cut 0
  exact ⟨rfl, hS⟩
 replace H := Zp H hb
 refine Za rfl rfl rfl (Ze Zb2 rfl) ?_
 refine Za rfl rfl rfl (Zh sc_27 rfl (Zgy _) hS hs0 trivial Zgj) ?_
 refine Za rfl rfl rfl (Yu el_27 rfl) ?_
 refine Za rfl rfl rfl (Xa rfl rfl) ?_
 refine Zc 2 rfl ?_
 refine Zu 12 rfl (fun hb => ?_) (fun hb => ?_)
 ·replace H := Zq H hb
  refine Zc 32 rfl ?_
  refine Zg ?_
  refine Zb hK4 ?_
  refine Zk ?_
  refine Zl rfl (RV.tmp rfl RV.nil) rfl ?_
  obtain rfl := QJ H
  replace hS := hS.cut 0
  exact ⟨rfl, hS⟩
 replace H := Zp H hb
 refine Za rfl rfl rfl (Ze Vm rfl) ?_
 refine Za rfl rfl rfl (Zh Xt rfl (Zgy _) hS hs0 trivial Jz) ?_
 refine Za rfl rfl rfl (Yu Xm rfl) ?_
 refine Za rfl rfl rfl (Xa rfl rfl) ?_
 refine Zc 2 rfl ?_
 refine Zu 18 rfl (fun hb => ?_) (fun hb => ?_)
 ·replace H := Zq H hb
  refine Zc 26 rfl ?_
  refine Zg ?_
  refine Zb hK4 ?_
  refine Zk ?_
  refine Zl rfl (RV.tmp rfl RV.nil) rfl ?_
  obtain rfl := QJ H
  replace hS := hS.cut 0
  exact ⟨rfl, hS⟩
 replace H := Zp H hb
 refine Za rfl rfl rfl (Ze V3 rfl) ?_
 refine Za rfl rfl rfl (Zh Xt rfl (Zgy _) hS hs0 trivial Zat) ?_
 refine Za rfl rfl rfl (Yu Xm rfl) ?_
 refine Za rfl rfl rfl (Xa rfl rfl) ?_
 refine Zc 2 rfl ?_
 refine Zu 24 rfl (fun hb => ?_) (fun hb => ?_)
 ·replace H := Zq H hb
  refine Zc 20 rfl ?_
  refine Zg ?_
  refine Zb hK4 ?_
  refine Zk ?_
  refine Zl rfl (RV.tmp rfl RV.nil) rfl ?_
  obtain rfl := QJ H
  replace hS := hS.cut 0
  exact ⟨rfl, hS⟩
 replace H := Zp H hb
 refine Za rfl rfl rfl (Ze Zaa rfl) ?_
 refine Za rfl rfl rfl (Zh Xt rfl (Zgy _) hS hs0 trivial Zdr) ?_
 refine Za rfl rfl rfl (Yu Xm rfl) ?_
 refine Za rfl rfl rfl (Xa rfl rfl) ?_
 refine Zc 2 rfl ?_
 refine Zu 30 rfl (fun hb => ?_) (fun hb => ?_)
 ·replace H := Zq H hb
  refine Zc 14 rfl ?_
  refine Zg ?_
  refine Zb hK4 ?_
  refine Zk ?_
  refine Zl rfl (RV.tmp rfl RV.nil) rfl ?_
  obtain rfl := QJ H
  replace hS := hS.cut 0
  exact ⟨rfl, hS⟩
 replace H := Zp H hb
 refine Za rfl rfl rfl (Ze Yz rfl) ?_
 refine Za rfl rfl rfl (Ze Xg rfl) ?_
 refine Za rfl rfl rfl (Ze Yi rfl) ?_
 refine Za rfl rfl rfl (Zh Z0 rfl (Zgy _) hS hs0 trivial Zfn) ?_
 refine Za rfl rfl rfl (Xa rfl rfl) ?_
 refine Zc 2 rfl ?_
 refine Zu 37 rfl (fun hb => ?_) (fun hb => ?_)
 ·replace H := Zq H hb
  refine Zc 7 rfl ?_
  refine Zg ?_
  refine Zb hK4 ?_
  refine Zk ?_
  refine Zl rfl (RV.tmp rfl RV.nil) rfl ?_
  obtain rfl := QJ H
  replace hS := hS.cut 0
  exact ⟨rfl, hS⟩
 replace H := Zp H hb
 refine Za rfl rfl rfl (Ze Yz rfl) ?_
 refine Za rfl rfl rfl (Ze Xg rfl) ?_
 refine Za rfl rfl rfl (Ze Yi rfl) ?_
 refine Za rfl rfl rfl (Zh Z0 rfl (Zgy _) hS hs0 trivial Zfn) ?_
 refine Za rfl rfl rfl (Xh rfl rfl) ?_
 refine Zc 2 rfl ?_
 refine Zg ?_
 refine Zb hK4 ?_
 refine Zk ?_
 refine Zl rfl (RV.tmp rfl RV.nil) rfl ?_
 obtain rfl := QJ H
 replace hS := hS.cut 0
 exact ⟨rfl, hS⟩
theorem Zb8 (x0 : Int) (w0 : World) {r : Bool} (H : Jh x0 = some r) : Calls Try.prog 69 #[.int .i64 x0] w0 fun e w' => e = .returned (.bool r) ∧ St0 All w0 w' [] := by
 unfold Jh at H
 refine Yn Try.func69 rfl Try.ntmps69 rfl ?_
 have hS := St0.start All w0
 refine Zd (fun K hK1 => ?_)
 refine Zf ?_
 refine Zc 1 rfl ?_
 refine Zg ?_
 refine Zb hK1 ?_
 refine Zd (fun K hK2 => ?_)
 refine Zf ?_
 refine Zc 1 rfl ?_
 refine Za rfl rfl rfl (Zc7 rfl rfl) ?_
 refine Zc 1 rfl ?_
 refine Zu 5 rfl (fun hb => ?_) (fun hb => ?_)
 rotate_left
 ·replace H := Zp H hb
  refine Zc 4 rfl ?_
  refine Zg ?_
  refine Zb hK2 ?_
  refine Zk ?_
  refine Zl rfl (RV.tmp rfl RV.nil) rfl ?_
  obtain rfl := QJ H
  replace hS := hS.cut 0
  exact ⟨rfl, hS⟩
 replace H := Zq H hb
 refine Zc 1 rfl ?_
 refine Za rfl rfl rfl (Zah rfl rfl) ?_
 refine Zc 2 rfl ?_
 refine Zg ?_
 refine Zb hK2 ?_
 refine Zk ?_
 refine Zl rfl (RV.tmp rfl RV.nil) rfl ?_
 obtain rfl := QJ H
 replace hS := hS.cut 0
 exact ⟨rfl, hS⟩
theorem Zcv (w0 : World) {r : St} (H : Zan = some r) : Calls Try.prog 42 #[] w0 fun e w' => e = .returned (.agg #[.int .i64 r.index, .int .i64 r.term, .int .i64 r.sum, .int .i64 r.level, .bool r.final]) ∧ St0 All w0 w' [] := by
 unfold Zan at H
 refine gw_enter0 Try.func42 rfl Try.ntmps42 rfl ?_
 have hS := St0.start All w0
 refine Zd (fun K hK1 => ?_)
 refine Zf ?_
 refine Yb rfl rfl zc_23 hS (fun b2 w hS hB => ?_)
 refine Zg ?_
 refine Zb hK1 ?_
 refine Zd (fun K hK4 => ?_)
 refine Zf ?_
 refine Za rfl rfl rfl (Xw (cells := [.int .i64 0, .int .i64 0, .int .i64 0, .int .i64 1, .bool false]) rfl (by kernel_rfl)) ?_
 refine Zm rfl rfl rfl CellsOf.agg hS ps0 Zdx (by kernel_rfl) rfl (fun w hS hB => ?_)
 refine Zg ?_
 refine Zb hK4 ?_
 refine Zk ?_
 refine Zl rfl (RV.cell rfl (Zx Y4 hS hs0 Jl) RV.nil) rfl ?_
 obtain rfl := QJ H
 replace hS := hS.cut 0
 exact ⟨rfl, hS⟩
theorem Zaw (x0 : St) (w0 : World) {r : Bool} (H : Ja x0 = some r) : Calls Try.prog 40 #[.agg #[.int .i64 x0.index, .int .i64 x0.term, .int .i64 x0.sum, .int .i64 x0.level, .bool x0.final]] w0 fun e w' => e = .returned (.bool r) ∧ St0 All w0 w' [] := by
 unfold Ja at H
 refine Yn Try.func40 rfl Try.ntmps40 rfl ?_
 have hS := St0.start All w0
 refine Zd (fun K hK1 => ?_)
 refine Zf ?_
 refine Yd rfl rfl rfl CellsOf.agg hS (fun b2 w hS hB => ?_)
 refine Zc 1 rfl ?_
 refine Zg ?_
 refine Zb hK1 ?_
 refine Zd (fun K hK4 => ?_)
 refine Zd (fun K hK5 => ?_)
 refine Zf ?_
 refine Za rfl rfl rfl (Ze Yi rfl) ?_
 refine Za rfl rfl rfl (Zh Z0 rfl (Zgy _) hS hs0 trivial Y7) ?_
 obtain ⟨r6, hm7, H⟩ := bind_some H
 refine Zo rfl rfl rfl rfl (by kernel_rfl) rfl (Zb8 x0.index _ hm7) ?_
 rintro e w ⟨rfl, hN⟩; refine ⟨_, rfl, ?_⟩; obtain ⟨hB, hS⟩ := hS.jn hN
 refine Za rfl rfl rfl (Yt rfl) ?_
 refine Zc 1 rfl ?_
 refine Zu 7 rfl (fun hb => ?_) (fun hb => ?_)
 ·replace H := Zq H hb
  refine Zc 39 rfl ?_
  refine Zg ?_
  refine Zb hK5 ?_
  refine Zr rfl rfl ?_
  refine Zd (fun K hK8 => ?_)
  refine Zf ?_
  refine Zc 1 rfl ?_
  refine Zg ?_
  refine Zb hK8 ?_
  refine Zk ?_
  refine Zj ?_
  refine Zl rfl (RV.tmp rfl RV.nil) rfl ?_
  obtain rfl := QJ H
  replace hS := hS.cut 0
  exact ⟨rfl, hS⟩
 replace H := Zp H hb
 refine Za rfl rfl rfl (Ze Zc3 rfl) ?_
 refine Za rfl rfl rfl (Zh Z0 rfl (Zgy _) hS hs0 trivial Vo) ?_
 obtain ⟨r9, hm10, H⟩ := bind_some H
 refine Zo rfl rfl rfl rfl (by kernel_rfl) rfl (Zb8 x0.term _ hm10) ?_
 rintro e w ⟨rfl, hN⟩; refine ⟨_, rfl, ?_⟩; obtain ⟨hB, hS⟩ := hS.jn hN
 refine Za rfl rfl rfl (Yt rfl) ?_
 refine Zc 2 rfl ?_
 refine Zu 13 rfl (fun hb => ?_) (fun hb => ?_)
 ·replace H := Zq H hb
  refine Zc 33 rfl ?_
  refine Zg ?_
  refine Zb hK5 ?_
  refine Zr rfl rfl ?_
  refine Zd (fun K hK11 => ?_)
  refine Zf ?_
  refine Zc 1 rfl ?_
  refine Zg ?_
  refine Zb hK11 ?_
  refine Zk ?_
  refine Zj ?_
  refine Zl rfl (RV.tmp rfl RV.nil) rfl ?_
  obtain rfl := QJ H
  replace hS := hS.cut 0
  exact ⟨rfl, hS⟩
 replace H := Zp H hb
 refine Za rfl rfl rfl (Ze fo_23_2 rfl) ?_
 refine Za rfl rfl rfl (Zh Z0 rfl (Zgy _) hS hs0 trivial Zbk) ?_
 obtain ⟨r12, hm13, H⟩ := bind_some H
 refine Zo rfl rfl rfl rfl (by kernel_rfl) rfl (Zb8 x0.sum _ hm13) ?_
 rintro e w ⟨rfl, hN⟩; refine ⟨_, rfl, ?_⟩; obtain ⟨hB, hS⟩ := hS.jn hN
 refine Za rfl rfl rfl (Yt rfl) ?_
 refine Zc 2 rfl ?_
 refine Zu 19 rfl (fun hb => ?_) (fun hb => ?_)
 ·replace H := Zq H hb
  refine Zc 27 rfl ?_
  refine Zg ?_
  refine Zb hK5 ?_
  refine Zr rfl rfl ?_
  refine Zd (fun K hK14 => ?_)
  refine Zf ?_
  refine Zc 1 rfl ?_
  refine Zg ?_
  refine Zb hK14 ?_
  refine Zk ?_
  refine Zj ?_
  refine Zl rfl (RV.tmp rfl RV.nil) rfl ?_
  obtain rfl := QJ H
  replace hS := hS.cut 0
  exact ⟨rfl, hS⟩
 replace H := Zp H hb
 refine Za rfl rfl rfl (Ze Zc3 rfl) ?_
 refine Za rfl rfl rfl (Zh Z0 rfl (Zgy _) hS hs0 trivial Vo) ?_
 refine Za rfl rfl rfl (Xo rfl rfl) ?_
 refine Za rfl rfl rfl (Ze Yi rfl) ?_
 refine Za rfl rfl rfl (Zh Z0 rfl (Zgy _) hS hs0 trivial Y7) ?_
 refine Za rfl rfl rfl (Xo rfl rfl) ?_
 refine Za rfl rfl rfl (yv_neqB (by kernel_rfl) rfl rfl) ?_
 refine Zc 2 rfl ?_
 refine Zu 28 rfl (fun hb => ?_) (fun hb => ?_)
 ·replace H := Zq H hb
  refine Zc 18 rfl ?_
  refine Zg ?_
  refine Zb hK5 ?_
  refine Zr rfl rfl ?_
  refine Zd (fun K hK15 => ?_)
  refine Zf ?_
  refine Zc 1 rfl ?_
  refine Zg ?_
  refine Zb hK15 ?_
  refine Zk ?_
  refine Zj ?_
  refine Zl rfl (RV.tmp rfl RV.nil) rfl ?_
  obtain rfl := QJ H
  replace hS := hS.cut 0
  exact ⟨rfl, hS⟩
 replace H := Zp H hb
 refine Za rfl rfl rfl (Ze Zeb rfl) ?_
 refine Za rfl rfl rfl (Zh Z0 rfl (Zgy _) hS hs0 trivial Zbd) ?_
 refine Za rfl rfl rfl (Y5 rfl rfl) ?_
 refine Zc 1 rfl ?_
 refine Zu 32 rfl (fun hb => ?_) (fun hb => ?_)
 rotate_left
 ·replace H := Zp H hb
  refine Zc 6 rfl ?_
  refine Za rfl rfl rfl (Ze fo_23_4 rfl) ?_
  refine Za rfl rfl rfl (Zh sc_4 rfl (Zgy _) hS hs0 trivial Zfn) ?_
  refine Zc 1 rfl ?_
  refine Zu 41 rfl (fun hb => ?_) (fun hb => ?_)
  rotate_left
  ·replace H := Zp H hb
   refine Zc 5 rfl ?_
   refine Zg ?_
   refine Zb hK5 ?_
   refine Yo rfl rfl ?_
   refine Zt ?_
   refine Zb hK4 ?_
   refine Zd (fun K hK28 => ?_)
   refine Yg 9 [] (fun _ _ => True) ⟨by kernel_rfl, by kernel_rfl⟩ hS (fun w hS hB => ?_)
   refine Zn [true, true, true, true] (by decide +kernel) PFC.h ?_
   refine LtK.put rfl rfl rfl (Ze Yi rfl) ?_
   refine LtK.put rfl rfl rfl (Zh Z0 rfl (Zgz _) hS hs0 trivial Y7) ?_
   refine LtK.put rfl rfl rfl (Xa rfl rfl) ?_
   refine LtK.put rfl rfl rfl (Zs rfl) ?_
   refine LtK.nil ?_
   refine Xl 50 rfl (fun hb => ?_) (fun hb => ?_)
   ·replace H := Zq H hb
    refine Zn [false, false, false, false, true] (by decide +kernel) PFC.h ?_
    refine LtK.skip rfl rfl rfl ?_
    refine LtK.nil ?_
    refine Z4 [false, false, false, false, false, true] 5 ⟨by decide, by kernel_rfl, by kernel_rfl⟩ rfl rfl ?_
    try dsimp only [Zw]
    refine Xc rfl rfl rfl ?_
    refine Zg ?_
    refine Z7 (Below.refl _ _) ?_
    refine Zn [false, false, false, false, false, false, true, true, true] (by decide +kernel) PFC.h ?_
    refine LtK.skip rfl rfl rfl ?_
    refine LtK.put rfl rfl rfl (Z3 rfl rfl rfl) ?_
    refine LtK.put rfl rfl rfl (Zy rfl) ?_
    refine LtK.nil ?_
    refine Z6 (by kernel_rfl) ?_
    refine Zb hK28 ?_
    refine Zk ?_
    refine Zl rfl (RV.tmp rfl RV.nil) rfl ?_
    obtain rfl := QJ H
    replace hS := hS.cut 0
    exact ⟨rfl, hS⟩
   replace H := Zp H hb
   refine Zn [false, false, false, false, true] (by decide +kernel) PFC.h ?_
   refine LtK.put rfl rfl rfl (Zi Y4 rfl (Zgz _) hS hs0 trivial Jl) ?_
   refine LtK.nil ?_
   refine Z4 [false, false, false, false, false, true] 5 ⟨by decide, by kernel_rfl, by kernel_rfl⟩ rfl rfl ?_
   try dsimp only [Zw]
   obtain ⟨r29, hm30, H⟩ := bind_some H
   refine Zo rfl rfl rfl rfl (by kernel_rfl) rfl (Zcv _ hm30) ?_
   rintro e w ⟨rfl, hN⟩; refine ⟨_, rfl, ?_⟩; obtain ⟨hB, hS⟩ := hS.jn hN
   refine Zg ?_
   refine Z7 hB ?_
   refine Zn [false, false, false, false, false, false, true, true, true] (by decide +kernel) PFC.h ?_
   refine LtK.put rfl rfl rfl (Zai (by kernel_rfl) rfl rfl (Za6 _ _ _ _ _ _ _ _ _ _)) ?_
   refine LtK.put rfl rfl rfl (Yj rfl rfl rfl) ?_
   refine LtK.put rfl rfl rfl (Zy rfl) ?_
   refine LtK.nil ?_
   refine Z6 (by kernel_rfl) ?_
   refine Zb hK28 ?_
   refine Zk ?_
   refine Zl rfl (RV.tmp rfl RV.nil) rfl ?_
   obtain rfl := QJ H
   replace hS := hS.cut 0
   exact ⟨rfl, hS⟩
  replace H := Zq H hb
  refine Za rfl rfl rfl (Ze Zeb rfl) ?_
  refine Za rfl rfl rfl (Zh Z0 rfl (Zgy _) hS hs0 trivial Zbd) ?_
  refine Za rfl rfl rfl (Y5 rfl rfl) ?_
  refine Zc 2 rfl ?_
  refine Zg ?_
  refine Zb hK5 ?_
  refine Zz rfl (fun hb => ?_) (fun hb => ?_)
  ·replace H := Zq H hb
   refine Zd (fun K hK24 => ?_)
   refine Zf ?_
   refine Zc 1 rfl ?_
   refine Zg ?_
   refine Zb hK24 ?_
   refine Zk ?_
   refine Zj ?_
   refine Zl rfl (RV.tmp rfl RV.nil) rfl ?_
   obtain rfl := QJ H
   replace hS := hS.cut 0
   exact ⟨rfl, hS⟩
  replace H := Zp H hb
  refine Zt ?_
  refine Zb hK4 ?_
  refine Zd (fun K hK25 => ?_)
  refine Yg 9 [] (fun _ _ => True) ⟨by kernel_rfl, by kernel_rfl⟩ hS (fun w hS hB => ?_)
  refine Zn [true, true, true, true] (by decide +kernel) PFC.h ?_
  refine LtK.put rfl rfl rfl (Ze Yi rfl) ?_
  refine LtK.put rfl rfl rfl (Zh Z0 rfl (Zgz _) hS hs0 trivial Y7) ?_
  refine LtK.put rfl rfl rfl (Xa rfl rfl) ?_
  refine LtK.put rfl rfl rfl (Zs rfl) ?_
  refine LtK.nil ?_
  refine Xl 50 rfl (fun hb => ?_) (fun hb => ?_)
  ·replace H := Zq H hb
   refine Zn [false, false, false, false, true] (by decide +kernel) PFC.h ?_
   refine LtK.skip rfl rfl rfl ?_
   refine LtK.nil ?_
   refine Z4 [false, false, false, false, false, true] 5 ⟨by decide, by kernel_rfl, by kernel_rfl⟩ rfl rfl ?_
   try dsimp only [Zw]
   refine Xc rfl rfl rfl ?_
   refine Zg ?_
   refine Z7 (Below.refl _ _) ?_
   refine Zn [false, false, false, false, false, false, true, true, true] (by decide +kernel) PFC.h ?_
   refine LtK.skip rfl rfl rfl ?_
   refine LtK.put rfl rfl rfl (Z3 rfl rfl rfl) ?_
   refine LtK.put rfl rfl rfl (Zy rfl) ?_
   refine LtK.nil ?_
   refine Z6 (by kernel_rfl) ?_
   refine Zb hK25 ?_
   refine Zk ?_
   refine Zl rfl (RV.tmp rfl RV.nil) rfl ?_
   obtain rfl := QJ H
   replace hS := hS.cut 0
   exact ⟨rfl, hS⟩
  replace H := Zp H hb
  refine Zn [false, false, false, false, true] (by decide +kernel) PFC.h ?_
  refine LtK.put rfl rfl rfl (Zi Y4 rfl (Zgz _) hS hs0 trivial Jl) ?_
  refine LtK.nil ?_
  refine Z4 [false, false, false, false, false, true] 5 ⟨by decide, by kernel_rfl, by kernel_rfl⟩ rfl rfl ?_
  try dsimp only [Zw]
  obtain ⟨r26, hm27, H⟩ := bind_some H
  refine Zo rfl rfl rfl rfl (by kernel_rfl) rfl (Zcv _ hm27) ?_
  rintro e w ⟨rfl, hN⟩; refine ⟨_, rfl, ?_⟩; obtain ⟨hB, hS⟩ := hS.jn hN
  refine Zg ?_
  refine Z7 hB ?_
  refine Zn [false, false, false, false, false, false, true, true, true] (by decide +kernel) PFC.h ?_
  refine LtK.put rfl rfl rfl (Zai (by kernel_rfl) rfl rfl (Za6 _ _ _ _ _ _ _ _ _ _)) ?_
  refine LtK.put rfl rfl rfl (Yj rfl rfl rfl) ?_
  refine LtK.put rfl rfl rfl (Zy rfl) ?_
  refine LtK.nil ?_
  refine Z6 (by kernel_rfl) ?_
  refine Zb hK25 ?_
  refine Zk ?_
  refine Zl rfl (RV.tmp rfl RV.nil) rfl ?_
  obtain rfl := QJ H
  replace hS := hS.cut 0
  exact ⟨rfl, hS⟩
 replace H := Zq H hb
 refine Za rfl rfl rfl (Ze Zeb rfl) ?_
 refine Za rfl rfl rfl (Zh Z0 rfl (Zgy _) hS hs0 trivial Zbd) ?_
 refine Za rfl rfl rfl (Y5 rfl rfl) ?_
 refine Zc 3 rfl ?_
 refine Zu 38 rfl (fun hb => ?_) (fun hb => ?_)
 ·replace H := Zq H hb
  refine Zc 8 rfl ?_
  refine Zg ?_
  refine Zb hK5 ?_
  refine Zr rfl rfl ?_
  refine Zd (fun K hK16 => ?_)
  refine Zf ?_
  refine Zc 1 rfl ?_
  refine Zg ?_
  refine Zb hK16 ?_
  refine Zk ?_
  refine Zj ?_
  refine Zl rfl (RV.tmp rfl RV.nil) rfl ?_
  obtain rfl := QJ H
  replace hS := hS.cut 0
  exact ⟨rfl, hS⟩
 replace H := Zp H hb
 refine Za rfl rfl rfl (Ze fo_23_4 rfl) ?_
 refine Za rfl rfl rfl (Zh sc_4 rfl (Zgy _) hS hs0 trivial Zfn) ?_
 refine Zc 1 rfl ?_
 refine Zu 41 rfl (fun hb => ?_) (fun hb => ?_)
 rotate_left
 ·replace H := Zp H hb
  refine Zc 5 rfl ?_
  refine Zg ?_
  refine Zb hK5 ?_
  refine Yo rfl rfl ?_
  refine Zt ?_
  refine Zb hK4 ?_
  refine Zd (fun K hK21 => ?_)
  refine Yg 9 [] (fun _ _ => True) ⟨by kernel_rfl, by kernel_rfl⟩ hS (fun w hS hB => ?_)
  refine Zn [true, true, true, true] (by decide +kernel) PFC.h ?_
  refine LtK.put rfl rfl rfl (Ze Yi rfl) ?_
  refine LtK.put rfl rfl rfl (Zh Z0 rfl (Zgz _) hS hs0 trivial Y7) ?_
  refine LtK.put rfl rfl rfl (Xa rfl rfl) ?_
  refine LtK.put rfl rfl rfl (Zs rfl) ?_
  refine LtK.nil ?_
  refine Xl 50 rfl (fun hb => ?_) (fun hb => ?_)
  ·replace H := Zq H hb
   refine Zn [false, false, false, false, true] (by decide +kernel) PFC.h ?_
   refine LtK.skip rfl rfl rfl ?_
   refine LtK.nil ?_
   refine Z4 [false, false, false, false, false, true] 5 ⟨by decide, by kernel_rfl, by kernel_rfl⟩ rfl rfl ?_
   try dsimp only [Zw]
   refine Xc rfl rfl rfl ?_
   refine Zg ?_
   refine Z7 (Below.refl _ _) ?_
   refine Zn [false, false, false, false, false, false, true, true, true] (by decide +kernel) PFC.h ?_
   refine LtK.skip rfl rfl rfl ?_
   refine LtK.put rfl rfl rfl (Z3 rfl rfl rfl) ?_
   refine LtK.put rfl rfl rfl (Zy rfl) ?_
   refine LtK.nil ?_
   refine Z6 (by kernel_rfl) ?_
   refine Zb hK21 ?_
   refine Zk ?_
   refine Zl rfl (RV.tmp rfl RV.nil) rfl ?_
   obtain rfl := QJ H
   replace hS := hS.cut 0
   exact ⟨rfl, hS⟩
  replace H := Zp H hb
  refine Zn [false, false, false, false, true] (by decide +kernel) PFC.h ?_
  refine LtK.put rfl rfl rfl (Zi Y4 rfl (Zgz _) hS hs0 trivial Jl) ?_
  refine LtK.nil ?_
  refine Z4 [false, false, false, false, false, true] 5 ⟨by decide, by kernel_rfl, by kernel_rfl⟩ rfl rfl ?_
  try dsimp only [Zw]
  obtain ⟨r22, hm23, H⟩ := bind_some H
  refine Zo rfl rfl rfl rfl (by kernel_rfl) rfl (Zcv _ hm23) ?_
  rintro e w ⟨rfl, hN⟩; refine ⟨_, rfl, ?_⟩; obtain ⟨hB, hS⟩ := hS.jn hN
  refine Zg ?_
  refine Z7 hB ?_
  refine Zn [false, false, false, false, false, false, true, true, true] (by decide +kernel) PFC.h ?_
  refine LtK.put rfl rfl rfl (Zai (by kernel_rfl) rfl rfl (Za6 _ _ _ _ _ _ _ _ _ _)) ?_
  refine LtK.put rfl rfl rfl (Yj rfl rfl rfl) ?_
  refine LtK.put rfl rfl rfl (Zy rfl) ?_
  refine LtK.nil ?_
  refine Z6 (by kernel_rfl) ?_
  refine Zb hK21 ?_
  refine Zk ?_
  refine Zl rfl (RV.tmp rfl RV.nil) rfl ?_
  obtain rfl := QJ H
  replace hS := hS.cut 0
  exact ⟨rfl, hS⟩
 replace H := Zq H hb
 refine Za rfl rfl rfl (Ze Zeb rfl) ?_
 refine Za rfl rfl rfl (Zh Z0 rfl (Zgy _) hS hs0 trivial Zbd) ?_
 refine Za rfl rfl rfl (Y5 rfl rfl) ?_
 refine Zc 2 rfl ?_
 refine Zg ?_
 refine Zb hK5 ?_
 refine Zz rfl (fun hb => ?_) (fun hb => ?_)
 ·replace H := Zq H hb
  refine Zd (fun K hK17 => ?_)
  refine Zf ?_
  refine Zc 1 rfl ?_
  refine Zg ?_
  refine Zb hK17 ?_
  refine Zk ?_
  refine Zj ?_
  refine Zl rfl (RV.tmp rfl RV.nil) rfl ?_
  obtain rfl := QJ H
  replace hS := hS.cut 0
  exact ⟨rfl, hS⟩
 replace H := Zp H hb
 refine Zt ?_
 refine Zb hK4 ?_
 refine Zd (fun K hK18 => ?_)
 refine Yg 9 [] (fun _ _ => True) ⟨by kernel_rfl, by kernel_rfl⟩ hS (fun w hS hB => ?_)
 refine Zn [true, true, true, true] (by decide +kernel) PFC.h ?_
 refine LtK.put rfl rfl rfl (Ze Yi rfl) ?_
 refine LtK.put rfl rfl rfl (Zh Z0 rfl (Zgz _) hS hs0 trivial Y7) ?_
 refine LtK.put rfl rfl rfl (Xa rfl rfl) ?_
 refine LtK.put rfl rfl rfl (Zs rfl) ?_
 refine LtK.nil ?_
 refine Xl 50 rfl (fun hb => ?_) (fun hb => ?_)
 ·replace H := Zq H hb
  refine Zn [false, false, false, false, true] (by decide +kernel) PFC.h ?_
  refine LtK.skip rfl rfl rfl ?_
  refine LtK.nil ?_
  refine Z4 [false, false, false, false, false, true] 5 ⟨by decide, by kernel_rfl, by kernel_rfl⟩ rfl rfl ?_
  try dsimp only [Zw]
  refine Xc rfl rfl rfl ?_
  refine Zg ?_
  refine Z7 (Below.refl _ _) ?_
  refine Zn [false, false, false, false, false, false, true, true, true] (by decide +kernel) PFC.h ?_
  refine LtK.skip rfl rfl rfl ?_
  refine LtK.put rfl rfl rfl (Z3 rfl rfl rfl) ?_
  refine LtK.put rfl rfl rfl (Zy rfl) ?_
  refine LtK.nil ?_
  refine Z6 (by kernel_rfl) ?_
  refine Zb hK18 ?_
  refine Zk ?_
  refine Zl rfl (RV.tmp rfl RV.nil) rfl ?_
  obtain rfl := QJ H
  replace hS := hS.cut 0
  exact ⟨rfl, hS⟩
 replace H := Zp H hb
 refine Zn [false, false, false, false, true] (by decide +kernel) PFC.h ?_
 refine LtK.put rfl rfl rfl (Zi Y4 rfl (Zgz _) hS hs0 trivial Jl) ?_
 refine LtK.nil ?_
 refine Z4 [false, false, false, false, false, true] 5 ⟨by decide, by kernel_rfl, by kernel_rfl⟩ rfl rfl ?_
 try dsimp only [Zw]
 obtain ⟨r19, hm20, H⟩ := bind_some H
 refine Zo rfl rfl rfl rfl (by kernel_rfl) rfl (Zcv _ hm20) ?_
 rintro e w ⟨rfl, hN⟩; refine ⟨_, rfl, ?_⟩; obtain ⟨hB, hS⟩ := hS.jn hN
 refine Zg ?_
 refine Z7 hB ?_
 refine Zn [false, false, false, false, false, false, true, true, true] (by decide +kernel) PFC.h ?_
 refine LtK.put rfl rfl rfl (Zai (by kernel_rfl) rfl rfl (Za6 _ _ _ _ _ _ _ _ _ _)) ?_
 refine LtK.put rfl rfl rfl (Yj rfl rfl rfl) ?_
 refine LtK.put rfl rfl rfl (Zy rfl) ?_
 refine LtK.nil ?_
 refine Z6 (by kernel_rfl) ?_
 refine Zb hK18 ?_
 refine Zk ?_
 refine Zl rfl (RV.tmp rfl RV.nil) rfl ?_
 obtain rfl := QJ H
 replace hS := hS.cut 0
 exact ⟨rfl, hS⟩
theorem Zge (x0 : En) (w0 : World) {r : Bool} (H : Za1 x0 = some r) : Calls Try.prog 65 #[.agg #[.int .i64 x0.term, .int .i64 x0.kind, .int .i64 x0.value]] w0 fun e w' => e = .returned (.bool r) ∧ St0 All w0 w' [] := by
 unfold Za1 at H
 refine Yn Try.func65 rfl Try.ntmps65 rfl ?_
 have hS := St0.start All w0
 refine Zd (fun K hK1 => ?_)
 refine Zf ?_
 refine Yd rfl rfl rfl CellsOf.agg hS (fun b2 w hS hB => ?_)
 refine Zc 1 rfl ?_
 refine Zg ?_
 refine Zb hK1 ?_
 refine Zd (fun K hK4 => ?_)
 refine Zf ?_
 refine Za rfl rfl rfl (Ze Zb3 rfl) ?_
 refine Za rfl rfl rfl (Zh Z0 rfl (Zgy _) hS hs0 trivial Y7) ?_
 refine Za rfl rfl rfl (Zc7 rfl rfl) ?_
 refine Zc 1 rfl ?_
 refine Zu 6 rfl (fun hb => ?_) (fun hb => ?_)
 rotate_left
 ·replace H := Zp H hb
  refine Zc 30 rfl ?_
  refine Zg ?_
  refine Zb hK4 ?_
  refine Zk ?_
  refine Zl rfl (RV.tmp rfl RV.nil) rfl ?_
  obtain rfl := QJ H
  replace hS := hS.cut 0
  exact ⟨rfl, hS⟩
 replace H := Zq H hb
 refine Za rfl rfl rfl (Ze Zb3 rfl) ?_
 refine Za rfl rfl rfl (Zh Z0 rfl (Zgy _) hS hs0 trivial Y7) ?_
 obtain ⟨r5, hm6, H⟩ := bind_some H
 refine Zo rfl rfl rfl rfl (by kernel_rfl) rfl (Zb8 x0.term _ hm6) ?_
 rintro e w ⟨rfl, hN⟩; refine ⟨_, rfl, ?_⟩; obtain ⟨hB, hS⟩ := hS.jn hN
 refine Zc 2 rfl ?_
 refine Zu 11 rfl (fun hb => ?_) (fun hb => ?_)
 rotate_left
 ·replace H := Zp H hb
  refine Zc 25 rfl ?_
  refine Zg ?_
  refine Zb hK4 ?_
  refine Zk ?_
  refine Zl rfl (RV.tmp rfl RV.nil) rfl ?_
  obtain rfl := QJ H
  replace hS := hS.cut 0
  exact ⟨rfl, hS⟩
 replace H := Zq H hb
 refine Za rfl rfl rfl (Ze fo_56_1 rfl) ?_
 refine Za rfl rfl rfl (Zh Z0 rfl (Zgy _) hS hs0 trivial Vo) ?_
 refine Za rfl rfl rfl (Zc7 rfl rfl) ?_
 refine Zc 2 rfl ?_
 refine Zu 16 rfl (fun hb => ?_) (fun hb => ?_)
 rotate_left
 ·replace H := Zp H hb
  refine Zc 20 rfl ?_
  refine Zg ?_
  refine Zb hK4 ?_
  refine Zk ?_
  refine Zl rfl (RV.tmp rfl RV.nil) rfl ?_
  obtain rfl := QJ H
  replace hS := hS.cut 0
  exact ⟨rfl, hS⟩
 replace H := Zq H hb
 refine Za rfl rfl rfl (Ze fo_56_1 rfl) ?_
 refine Za rfl rfl rfl (Zh Z0 rfl (Zgy _) hS hs0 trivial Vo) ?_
 refine Za rfl rfl rfl (Xh rfl rfl) ?_
 refine Zc 2 rfl ?_
 refine Zu 21 rfl (fun hb => ?_) (fun hb => ?_)
 rotate_left
 ·replace H := Zp H hb
  refine Zc 15 rfl ?_
  refine Zg ?_
  refine Zb hK4 ?_
  refine Zk ?_
  refine Zl rfl (RV.tmp rfl RV.nil) rfl ?_
  obtain rfl := QJ H
  replace hS := hS.cut 0
  exact ⟨rfl, hS⟩
 replace H := Zq H hb
 refine Za rfl rfl rfl (Ze fo_56_2 rfl) ?_
 refine Za rfl rfl rfl (Zh Z0 rfl (Zgy _) hS hs0 trivial Zbk) ?_
 obtain ⟨r7, hm8, H⟩ := bind_some H
 refine Zo rfl rfl rfl rfl (by kernel_rfl) rfl (Zb8 x0.value _ hm8) ?_
 rintro e w ⟨rfl, hN⟩; refine ⟨_, rfl, ?_⟩; obtain ⟨hB, hS⟩ := hS.jn hN
 refine Zc 2 rfl ?_
 refine Zu 26 rfl (fun hb => ?_) (fun hb => ?_)
 rotate_left
 ·replace H := Zp H hb
  refine Zc 10 rfl ?_
  refine Zg ?_
  refine Zb hK4 ?_
  refine Zk ?_
  refine Zl rfl (RV.tmp rfl RV.nil) rfl ?_
  obtain rfl := QJ H
  replace hS := hS.cut 0
  exact ⟨rfl, hS⟩
 replace H := Zq H hb
 refine Za rfl rfl rfl (Ze fo_56_1 rfl) ?_
 refine Za rfl rfl rfl (Zh Z0 rfl (Zgy _) hS hs0 trivial Vo) ?_
 refine Za rfl rfl rfl (Xo rfl rfl) ?_
 refine Zc 1 rfl ?_
 refine Zu 30 rfl (fun hb => ?_) (fun hb => ?_)
 ·replace H := Zq H hb
  refine Zc 6 rfl ?_
  refine Zg ?_
  refine Zb hK4 ?_
  refine Zk ?_
  refine Zl rfl (RV.tmp rfl RV.nil) rfl ?_
  obtain rfl := QJ H
  replace hS := hS.cut 0
  exact ⟨rfl, hS⟩
 replace H := Zp H hb
 refine Za rfl rfl rfl (Ze fo_56_2 rfl) ?_
 refine Za rfl rfl rfl (Zh Z0 rfl (Zgy _) hS hs0 trivial Zbk) ?_
 refine Za rfl rfl rfl (Xo rfl rfl) ?_
 refine Zc 3 rfl ?_
 refine Zg ?_
 refine Zb hK4 ?_
 refine Zk ?_
 refine Zl rfl (RV.tmp rfl RV.nil) rfl ?_
 obtain rfl := QJ H
 replace hS := hS.cut 0
 exact ⟨rfl, hS⟩
theorem Zgd (x0 : Tu) (A0_ : OA) (c0_ : Nat) (w0 : World) (s0_ : SlI w0 Jv A0_ c0_ x0.log) {r : Bool} (H : Za3 x0 = some r) : Calls Try.prog 33 #[.agg #[.int .i64 x0.snap.index, .int .i64 x0.snap.term, .int .i64 x0.snap.sum, .int .i64 x0.snap.level, .bool x0.snap.final, .slice A0_ x0.log.length c0_, .int .i64 x0.term, .int .i64 x0.vote]] w0 fun e w' => e = .returned (.bool r) ∧ St0 All w0 w' [] := by
 unfold Za3 at H
 refine Yn Try.func33 rfl Try.ntmps33 rfl ?_
 have hS := St0.start All w0
 refine Zd (fun K hK1 => ?_)
 refine Zf ?_
 refine Yd rfl rfl rfl CellsOf.agg hS (fun b2 w hS hB => ?_)
 refine Zc 1 rfl ?_
 refine Zg ?_
 refine Zb hK1 ?_
 refine Zd (fun K hK4 => ?_)
 refine Zd (fun K hK5 => ?_)
 refine Zf ?_
 refine Za rfl rfl rfl (Ze Xg rfl) ?_
 refine Za rfl rfl rfl (Zi Y4 rfl (Zgy _) hS hs0 trivial Jl) ?_
 obtain ⟨r6, hm7, H⟩ := bind_some H
 refine Zo rfl rfl rfl rfl (by kernel_rfl) rfl (Zaw x0.snap _ hm7) ?_
 rintro e w ⟨rfl, hN⟩; refine ⟨_, rfl, ?_⟩; obtain ⟨hB, hS⟩ := hS.jn hN
 refine Za rfl rfl rfl (Yt rfl) ?_
 refine Zc 1 rfl ?_
 refine Zu 9 rfl (fun hb => ?_) (fun hb => ?_)
 ·replace H := Zq H hb
  refine Zc 21 rfl ?_
  refine Zg ?_
  refine Zb hK5 ?_
  refine Zr rfl rfl ?_
  refine Zd (fun K hK8 => ?_)
  refine Zf ?_
  refine Zc 1 rfl ?_
  refine Zg ?_
  refine Zb hK8 ?_
  refine Zk ?_
  refine Zj ?_
  refine Zl rfl (RV.tmp rfl RV.nil) rfl ?_
  obtain rfl := QJ H
  replace hS := hS.cut 0
  exact ⟨rfl, hS⟩
 replace H := Zp H hb
 refine Za rfl rfl rfl (Ze Xg rfl) ?_
 refine Za rfl rfl rfl (Ze Yi rfl) ?_
 refine Za rfl rfl rfl (Zh Z0 rfl (Zgy _) hS hs0 trivial Y7) ?_
 refine Za rfl rfl rfl (Xa rfl rfl) ?_
 refine Zc 2 rfl ?_
 refine Zu 15 rfl (fun hb => ?_) (fun hb => ?_)
 ·replace H := Zq H hb
  refine Zc 15 rfl ?_
  refine Zg ?_
  refine Zb hK5 ?_
  refine Zr rfl rfl ?_
  refine Zd (fun K hK9 => ?_)
  refine Zf ?_
  refine Zc 1 rfl ?_
  refine Zg ?_
  refine Zb hK9 ?_
  refine Zk ?_
  refine Zj ?_
  refine Zl rfl (RV.tmp rfl RV.nil) rfl ?_
  obtain rfl := QJ H
  replace hS := hS.cut 0
  exact ⟨rfl, hS⟩
 replace H := Zp H hb
 refine Za rfl rfl rfl (Ze Xz rfl) ?_
 refine Za rfl rfl rfl (Zh Xp rfl (Zgy _) hS hs0 trivial Js) ?_
 refine Za rfl rfl rfl (Yu Y6 rfl) ?_
 refine Za rfl rfl rfl (Xa rfl rfl) ?_
 refine Zc 2 rfl ?_
 refine Zu 21 rfl (fun hb => ?_) (fun hb => ?_)
 ·replace H := Zq H hb
  refine Zc 9 rfl ?_
  refine Zg ?_
  refine Zb hK5 ?_
  refine Zr rfl rfl ?_
  refine Zd (fun K hK10 => ?_)
  refine Zf ?_
  refine Zc 1 rfl ?_
  refine Zg ?_
  refine Zb hK10 ?_
  refine Zk ?_
  refine Zj ?_
  refine Zl rfl (RV.tmp rfl RV.nil) rfl ?_
  obtain rfl := QJ H
  replace hS := hS.cut 0
  exact ⟨rfl, hS⟩
 replace H := Zp H hb
 refine Za rfl rfl rfl (Ze J4 rfl) ?_
 refine Za rfl rfl rfl (Zh Z0 rfl (Zgy _) hS hs0 trivial Zfd) ?_
 refine Za rfl rfl rfl (Xh rfl rfl) ?_
 refine Zc 2 rfl ?_
 refine Zu 26 rfl (fun hb => ?_) (fun hb => ?_)
 ·replace H := Zq H hb
  refine Zc 4 rfl ?_
  refine Zg ?_
  refine Zb hK5 ?_
  refine Zr rfl rfl ?_
  refine Zd (fun K hK11 => ?_)
  refine Zf ?_
  refine Zc 1 rfl ?_
  refine Zg ?_
  refine Zb hK11 ?_
  refine Zk ?_
  refine Zj ?_
  refine Zl rfl (RV.tmp rfl RV.nil) rfl ?_
  obtain rfl := QJ H
  replace hS := hS.cut 0
  exact ⟨rfl, hS⟩
 replace H := Zp H hb
 refine Za rfl rfl rfl (Ze J4 rfl) ?_
 refine Za rfl rfl rfl (Zh Z0 rfl (Zgy _) hS hs0 trivial Zfd) ?_
 refine Za rfl rfl rfl (Xa rfl rfl) ?_
 refine Zc 1 rfl ?_
 refine Zg ?_
 refine Zb hK5 ?_
 refine Zz rfl (fun hb => ?_) (fun hb => ?_)
 ·replace H := Zq H hb
  refine Zd (fun K hK12 => ?_)
  refine Zf ?_
  refine Zc 1 rfl ?_
  refine Zg ?_
  refine Zb hK12 ?_
  refine Zk ?_
  refine Zj ?_
  refine Zl rfl (RV.tmp rfl RV.nil) rfl ?_
  obtain rfl := QJ H
  replace hS := hS.cut 0
  exact ⟨rfl, hS⟩
 replace H := Zp H hb
 refine Zt ?_
 refine Zb hK4 ?_
 refine Zd (fun K hK13 => ?_)
 refine Zf ?_
 refine Za rfl rfl rfl (Ze Xg rfl) ?_
 refine Za rfl rfl rfl (Ze Zc3 rfl) ?_
 refine Za rfl rfl rfl (Zh Z0 rfl (Zgy _) hS hs0 trivial Vo) ?_
 refine Zc 1 rfl ?_
 refine Zg ?_
 refine Zb hK13 ?_
 refine Zd (fun K hK14 => ?_)
 refine Zd (fun K hK15 => ?_)
 refine Zf ?_
 refine Zc 1 rfl ?_
 refine Zg ?_
 refine Zb hK15 ?_
 refine Yc ?_
 refine V0 (X := Nat × Bool × Int × Int) (fun x => (1, .pointer (some ⟨b2, 0, none⟩)) :: (2, .bool x.2.1) :: (3, .int .i64 x.2.2.1) :: (4, .int .i64 x.2.2.2) :: []) (fun x w => St0 All w0 w (.box b2 [.int .i64 x0.snap.index, .int .i64 x0.snap.term, .int .i64 x0.snap.sum, .int .i64 x0.snap.level, .bool x0.snap.final, .slice A0_ x0.log.length c0_, .int .i64 x0.term, .int .i64 x0.vote] 26 :: []) ∧ Jr x0 x.1 x.2.1 x.2.2.1 x.2.2.2 = some r) (fun x => x.1) (Xn, false, x0.snap.term, 0) (by repeat (first | exact Sub.nil | refine Sub.cons rfl ?_)) ⟨hS, H⟩ ?_
 rintro ⟨n, v16, v17, v18⟩ w ⟨hS, H⟩
 dsimp only at hS H ⊢
 obtain _ | n := n
 ·have H0 : none = some r := H
  cases H0
 rw [Jr] at H
 refine Zd (fun K hK19 => ?_)
 refine Zd (fun K hK20 => ?_)
 refine Zf ?_
 refine Zc 1 rfl ?_
 refine Za rfl rfl rfl (Ze Xz rfl) ?_
 refine Za rfl rfl rfl (Zh Xp rfl (Zgy _) hS hs0 trivial Js) ?_
 refine Za rfl rfl rfl (Yu Y6 rfl) ?_
 refine Za rfl rfl rfl (Xh rfl rfl) ?_
 refine Zg ?_
 refine Zb hK20 ?_
 refine Zz rfl (fun hb => ?_) (fun hb => ?_)
 rotate_left
 ·replace H := Zp H hb
  refine Vj ?_
  refine Ya ?_
  refine Ya ?_
  refine Y3 ?_
  refine Zb hK14 ?_
  refine Zd (fun K hK37 => ?_)
  refine Zf ?_
  refine Za rfl rfl rfl (Ze Jb rfl) ?_
  refine Za rfl rfl rfl (Zh Z0 rfl (Zgy _) hS hs0 trivial sg6_1) ?_
  refine Zc 1 rfl ?_
  refine Za rfl rfl rfl (Zc7 rfl rfl) ?_
  refine Zc 1 rfl ?_
  refine Zu 68 rfl (fun hb => ?_) (fun hb => ?_)
  rotate_left
  ·replace H := Zp H hb
   refine Zc 10 rfl ?_
   refine Zg ?_
   refine Zb hK37 ?_
   refine Zk ?_
   refine Zl rfl (RV.tmp rfl RV.nil) rfl ?_
   obtain rfl := QJ H
   replace hS := hS.cut 0
   exact ⟨rfl, hS⟩
  replace H := Zq H hb
  refine Za rfl rfl rfl (Ze Jb rfl) ?_
  refine Za rfl rfl rfl (Zh Z0 rfl (Zgy _) hS hs0 trivial sg6_1) ?_
  refine Za rfl rfl rfl (Zc7 rfl rfl) ?_
  refine Zc 2 rfl ?_
  refine Zu 73 rfl (fun hb => ?_) (fun hb => ?_)
  rotate_left
  ·replace H := Zp H hb
   refine Zc 5 rfl ?_
   refine Zg ?_
   refine Zb hK37 ?_
   refine Zk ?_
   refine Zl rfl (RV.tmp rfl RV.nil) rfl ?_
   obtain rfl := QJ H
   replace hS := hS.cut 0
   exact ⟨rfl, hS⟩
  replace H := Zq H hb
  refine Za rfl rfl rfl (Ze Jb rfl) ?_
  refine Za rfl rfl rfl (Zh Z0 rfl (Zgy _) hS hs0 trivial sg6_1) ?_
  refine Za rfl rfl rfl (Zah rfl rfl) ?_
  refine Zc 2 rfl ?_
  refine Zg ?_
  refine Zb hK37 ?_
  refine Zk ?_
  refine Zl rfl (RV.tmp rfl RV.nil) rfl ?_
  obtain rfl := QJ H
  replace hS := hS.cut 0
  exact ⟨rfl, hS⟩
 replace H := Zq H hb
 refine Zt ?_
 refine Zb hK19 ?_
 refine Zd (fun K hK21 => ?_)
 refine Yc ?_
 refine Zd (fun K hK22 => ?_)
 refine Zd (fun K hK23 => ?_)
 refine Zf ?_
 refine Za rfl rfl rfl (Ze Xz rfl) ?_
 refine Za rfl rfl rfl (Zh Xp rfl (Zgy _) hS hs0 trivial Js) ?_
 refine Zc 1 rfl ?_
 obtain ⟨e24, hi26, H⟩ := bind_some H
 obtain ⟨j25, hi26a, hi26b, hi26c⟩ := Yw hi26
 refine Za rfl rfl rfl (Y8 Y6 rfl rfl hi26a hi26c (Rd.el (hS.rd0 s0_.rd) X5 hi26b)) ?_
 refine Za rfl rfl rfl (Ze6 V7 rfl (Zgy _) (Rd.el (hS.rd0 s0_.rd) X5 hi26b) Zbv) ?_
 obtain ⟨r27, hm28, H⟩ := bind_some H
 refine Zo rfl rfl rfl rfl (by kernel_rfl) rfl (Zge e24 _ hm28) ?_
 rintro e w ⟨rfl, hN⟩; refine ⟨_, rfl, ?_⟩; obtain ⟨hB, hS⟩ := hS.jn hN
 refine Za rfl rfl rfl (Yt rfl) ?_
 refine Zc 1 rfl ?_
 refine Zu 48 rfl (fun hb => ?_) (fun hb => ?_)
 ·replace H := Zq H hb
  refine Zc 9 rfl ?_
  refine Zg ?_
  refine Zb hK23 ?_
  refine Zr rfl rfl ?_
  refine Zd (fun K hK29 => ?_)
  refine Zf ?_
  refine Zc 1 rfl ?_
  refine Zg ?_
  refine Zb hK29 ?_
  refine Zk ?_
  refine Zj ?_
  refine Zv ?_
  refine Zj ?_
  refine Zj ?_
  refine Zv ?_
  refine Zj ?_
  refine Zl rfl (RV.tmp rfl RV.nil) rfl ?_
  obtain rfl := QJ H
  replace hS := hS.cut 0
  exact ⟨rfl, hS⟩
 replace H := Zp H hb
 refine Za rfl rfl rfl (Ze Xz rfl) ?_
 refine Za rfl rfl rfl (Zh Xp rfl (Zgy _) hS hs0 trivial Js) ?_
 refine Zc 1 rfl ?_
 obtain ⟨e30, hi32, H⟩ := bind_some H
 obtain ⟨j31, hi32a, hi32b, hi32c⟩ := Yw hi32
 refine Za rfl rfl rfl (Y8 Y6 rfl rfl hi32a hi32c (Rd.el (hS.rd0 s0_.rd) X5 hi32b)) ?_
 refine Za rfl rfl rfl (Vd Zb3 rfl (Rd.el (hS.rd0 s0_.rd) X5 hi32b)) ?_
 refine Za rfl rfl rfl (X1 Z0 rfl (Zgy _) (Rd.el (hS.rd0 s0_.rd) X5 hi32b) rfl) ?_
 refine Zc 1 rfl ?_
 refine Za rfl rfl rfl (Xh rfl rfl) ?_
 refine Zc 1 rfl ?_
 refine Zg ?_
 refine Zb hK23 ?_
 refine Zz rfl (fun hb => ?_) (fun hb => ?_)
 ·replace H := Zq H hb
  refine Zd (fun K hK33 => ?_)
  refine Zf ?_
  refine Zc 1 rfl ?_
  refine Zg ?_
  refine Zb hK33 ?_
  refine Zk ?_
  refine Zj ?_
  refine Zv ?_
  refine Zj ?_
  refine Zj ?_
  refine Zv ?_
  refine Zj ?_
  refine Zl rfl (RV.tmp rfl RV.nil) rfl ?_
  obtain rfl := QJ H
  replace hS := hS.cut 0
  exact ⟨rfl, hS⟩
 replace H := Zp H hb
 refine Zt ?_
 refine Zb hK22 ?_
 refine Zf ?_
 refine Za rfl rfl rfl (Ze Xz rfl) ?_
 refine Za rfl rfl rfl (Zh Xp rfl (Zgy _) hS hs0 trivial Js) ?_
 refine Zc 1 rfl ?_
 obtain ⟨e34, hi36, H⟩ := bind_some H
 obtain ⟨j35, hi36a, hi36b, hi36c⟩ := Yw hi36
 refine Za rfl rfl rfl (Y8 Y6 rfl rfl hi36a hi36c (Rd.el (hS.rd0 s0_.rd) X5 hi36b)) ?_
 refine Za rfl rfl rfl (Vd Zb3 rfl (Rd.el (hS.rd0 s0_.rd) X5 hi36b)) ?_
 refine Za rfl rfl rfl (X1 Z0 rfl (Zgy _) (Rd.el (hS.rd0 s0_.rd) X5 hi36b) rfl) ?_
 refine Zc 1 rfl ?_
 refine Zg ?_
 refine Z2 ?_
 refine Zb hK21 ?_
 refine Zf ?_
 refine Zc 1 rfl ?_
 refine Za rfl rfl rfl (Xf rfl rfl) ?_
 refine Zc 1 rfl ?_
 refine Zg ?_
 exact Va (n, v16, e34.term, (IntKind.wrap .i64 (v18 + 1))) (by repeat (first | exact Sub.nil | refine Sub.cons rfl ?_)) ⟨hS, H⟩ (Nat.lt_succ_self _)
theorem Zag (x0 : Tu) (A0_ : OA) (c0_ : Nat) (w0 : World) (s0_ : SlI w0 Jv A0_ c0_ x0.log) {r : Int} (H : Vw x0 = some r) : Calls Try.prog 24 #[.agg #[.int .i64 x0.snap.index, .int .i64 x0.snap.term, .int .i64 x0.snap.sum, .int .i64 x0.snap.level, .bool x0.snap.final, .slice A0_ x0.log.length c0_, .int .i64 x0.term, .int .i64 x0.vote]] w0 fun e w' => e = .returned (.int .i64 r) ∧ St0 All w0 w' [] := by
 unfold Vw at H
 refine Yn Try.func24 rfl Try.ntmps24 rfl ?_
 have hS := St0.start All w0
 refine Zd (fun K hK1 => ?_)
 refine Zf ?_
 refine Yd rfl rfl rfl CellsOf.agg hS (fun b2 w hS hB => ?_)
 refine Zc 1 rfl ?_
 refine Zg ?_
 refine Zb hK1 ?_
 refine Zd (fun K hK4 => ?_)
 refine Zf ?_
 refine Za rfl rfl rfl (Ze Xg rfl) ?_
 refine Za rfl rfl rfl (Ze Yi rfl) ?_
 refine Za rfl rfl rfl (Zh Z0 rfl (Zgy _) hS hs0 trivial Y7) ?_
 refine Za rfl rfl rfl (Ze Xz rfl) ?_
 refine Za rfl rfl rfl (Zh Xp rfl (Zgy _) hS hs0 trivial Js) ?_
 refine Za rfl rfl rfl (Yu Y6 rfl) ?_
 refine Za rfl rfl rfl (Xf rfl rfl) ?_
 refine Zc 1 rfl ?_
 refine Zg ?_
 refine Zb hK4 ?_
 refine Zk ?_
 refine Zl rfl (RV.tmp rfl RV.nil) rfl ?_
 obtain rfl := QJ H
 replace hS := hS.cut 0
 exact ⟨rfl, hS⟩
theorem c_ref06_Next (x0 : St) (x1 : En) (w0 : World) {r : St} (H : Zcm x0 x1 = some r) : Calls Try.prog 101 #[.agg #[.int .i64 x0.index, .int .i64 x0.term, .int .i64 x0.sum, .int .i64 x0.level, .bool x0.final], .agg #[.int .i64 x1.term, .int .i64 x1.kind, .int .i64 x1.value]] w0 fun e w' => e = .returned (.agg #[.int .i64 r.index, .int .i64 r.term, .int .i64 r.sum, .int .i64 r.level, .bool r.final]) ∧ St0 All w0 w' [] := by
 unfold Zcm at H
 refine Y0 Try.func101 rfl Try.ntmps101 rfl ?_
 have hS := St0.start All w0
 refine Zd (fun K hK1 => ?_)
 refine Zf ?_
 refine Yd rfl rfl rfl CellsOf.agg hS (fun b2 w hS hB => ?_)
 refine Yd rfl rfl rfl CellsOf.agg hS (fun b4 w hS hB => ?_)
 refine Yb rfl rfl zc_23 hS (fun b6 w hS hB => ?_)
 refine Zg ?_
 refine Zb hK1 ?_
 refine Zd (fun K hK8 => ?_)
 refine Zd (fun K hK9 => ?_)
 refine Zf ?_
 refine Za rfl rfl rfl (Zi V7 rfl (Zgy _) hS Xr trivial Zbv) ?_
 obtain ⟨r10, hm11, H⟩ := bind_some H
 refine Zo rfl rfl rfl rfl (by kernel_rfl) rfl (Zge x1 _ hm11) ?_
 rintro e w ⟨rfl, hN⟩; refine ⟨_, rfl, ?_⟩; obtain ⟨hB, hS⟩ := hS.jn hN
 refine Za rfl rfl rfl (Yt rfl) ?_
 refine Zc 1 rfl ?_
 refine Zu 8 rfl (fun hb => ?_) (fun hb => ?_)
 ·replace H := Zq H hb
  refine Zc 9 rfl ?_
  refine Zg ?_
  refine Zb hK9 ?_
  refine Zr rfl rfl ?_
  refine Zd (fun K hK12 => ?_)
  refine Zf ?_
  refine Za rfl rfl rfl (Zi Y4 rfl (Zgy _) hS X0 trivial Jl) ?_
  refine Zm rfl rfl rfl CellsOf.agg hS ps0 Zdx (by kernel_rfl) rfl (fun w hS hB => ?_)
  refine Zg ?_
  refine Zb hK12 ?_
  refine Zk ?_
  refine Zj ?_
  refine Zl rfl (RV.cell rfl (Zx Y4 hS hs0 Jl) RV.nil) rfl ?_
  obtain rfl := QJ H
  replace hS := hS.cut 0
  exact ⟨rfl, hS⟩
 replace H := Zp H hb
 refine Za rfl rfl rfl (Zi Y4 rfl (Zgy _) hS X0 trivial Jl) ?_
 obtain ⟨r13, hm14, H⟩ := bind_some H
 refine Zo rfl rfl rfl rfl (by kernel_rfl) rfl (Zaw x0 _ hm14) ?_
 rintro e w ⟨rfl, hN⟩; refine ⟨_, rfl, ?_⟩; obtain ⟨hB, hS⟩ := hS.jn hN
 refine Za rfl rfl rfl (Yt rfl) ?_
 refine Zc 2 rfl ?_
 refine Zu 13 rfl (fun hb => ?_) (fun hb => ?_)
 ·replace H := Zq H hb
  refine Zc 4 rfl ?_
  refine Zg ?_
  refine Zb hK9 ?_
  refine Zr rfl rfl ?_
  refine Zd (fun K hK15 => ?_)
  refine Zf ?_
  refine Za rfl rfl rfl (Zi Y4 rfl (Zgy _) hS X0 trivial Jl) ?_
  refine Zm rfl rfl rfl CellsOf.agg hS ps0 Zdx (by kernel_rfl) rfl (fun w hS hB => ?_)
  refine Zg ?_
  refine Zb hK15 ?_
  refine Zk ?_
  refine Zj ?_
  refine Zl rfl (RV.cell rfl (Zx Y4 hS hs0 Jl) RV.nil) rfl ?_
  obtain rfl := QJ H
  replace hS := hS.cut 0
  exact ⟨rfl, hS⟩
 replace H := Zp H hb
 refine Za rfl rfl rfl (Ze Yi rfl) ?_
 refine Za rfl rfl rfl (Zh Z0 rfl (Zgy _) hS X0 trivial Y7) ?_
 refine Za rfl rfl rfl (Zc7 rfl rfl) ?_
 refine Zc 1 rfl ?_
 refine Zg ?_
 refine Zb hK9 ?_
 refine Zz rfl (fun hb => ?_) (fun hb => ?_)
 ·replace H := Zq H hb
  refine Zd (fun K hK16 => ?_)
  refine Zf ?_
  refine Za rfl rfl rfl (Zi Y4 rfl (Zgy _) hS X0 trivial Jl) ?_
  refine Zm rfl rfl rfl CellsOf.agg hS ps0 Zdx (by kernel_rfl) rfl (fun w hS hB => ?_)
  refine Zg ?_
  refine Zb hK16 ?_
  refine Zk ?_
  refine Zj ?_
  refine Zl rfl (RV.cell rfl (Zx Y4 hS hs0 Jl) RV.nil) rfl ?_
  obtain rfl := QJ H
  replace hS := hS.cut 0
  exact ⟨rfl, hS⟩
 replace H := Zp H hb
 refine Zt ?_
 refine Zb hK8 ?_
 refine Zd (fun K hK17 => ?_)
 refine Zf ?_
 refine Za rfl rfl rfl (Ze Yi rfl) ?_
 refine Za rfl rfl rfl (Zh Z0 rfl (Zgy _) hS X0 trivial Y7) ?_
 refine Za rfl rfl rfl (Xf rfl rfl) ?_
 refine Za rfl rfl rfl (Ze Yi rfl) ?_
 refine Zm rfl rfl rfl CellsOf.int hS ps2 st0_1 (by kernel_rfl) rfl (fun w hS hB => ?_)
 refine Zg ?_
 refine Zb hK17 ?_
 refine Zd (fun K hK18 => ?_)
 refine Zf ?_
 refine Za rfl rfl rfl (Ze Zb3 rfl) ?_
 refine Za rfl rfl rfl (Zh Z0 rfl (Zgy _) hS Xr trivial Y7) ?_
 refine Za rfl rfl rfl (Ze Zc3 rfl) ?_
 refine Zm rfl rfl rfl CellsOf.int hS ps2 st1_1 (by kernel_rfl) rfl (fun w hS hB => ?_)
 refine Zg ?_
 refine Zb hK18 ?_
 refine Zd (fun K hK19 => ?_)
 refine Zd (fun K hK20 => ?_)
 refine Zf ?_
 refine Za rfl rfl rfl (Ze fo_56_1 rfl) ?_
 refine Za rfl rfl rfl (Zh Z0 rfl (Zgy _) hS Xr trivial Vo) ?_
 refine Zg ?_
 refine Zb hK20 ?_
 refine Yc ?_
 refine Zd (fun K hK21 => ?_)
 refine Zf ?_
 refine Za rfl rfl rfl (Xo rfl rfl) ?_
 refine Zc 1 rfl ?_
 refine Zg ?_
 refine Zb hK21 ?_
 refine Zz rfl (fun hb => ?_) (fun hb => ?_)
 ·replace H := Zq H hb
  refine Zf ?_
  refine Za rfl rfl rfl (Ze fo_23_2 rfl) ?_
  refine Za rfl rfl rfl (Zh Z0 rfl (Zgy _) hS X0 trivial Zbk) ?_
  refine Za rfl rfl rfl (yx_mul rfl rfl) ?_
  refine Za rfl rfl rfl (Ze fo_56_2 rfl) ?_
  refine Za rfl rfl rfl (Zh Z0 rfl (Zgy _) hS Xr trivial Zbk) ?_
  refine Za rfl rfl rfl (Xf rfl rfl) ?_
  refine Za rfl rfl rfl (Xf rfl rfl) ?_
  refine Za rfl rfl rfl (yx_rem rfl rfl (by decide)) ?_
  refine Za rfl rfl rfl (Ze fo_23_2 rfl) ?_
  refine Zm rfl rfl rfl CellsOf.int hS ps2 st2_1 (by kernel_rfl) rfl (fun w hS hB => ?_)
  refine Zg ?_
  refine Z2 ?_
  refine Zb hK19 ?_
  refine Zd (fun K hK22 => ?_)
  refine Zf ?_
  refine Za rfl rfl rfl (Zi Y4 rfl (Zgy _) hS X0 trivial Jl) ?_
  refine Zm rfl rfl rfl CellsOf.agg hS ps0 Zdx (by kernel_rfl) rfl (fun w hS hB => ?_)
  refine Zg ?_
  refine Zb hK22 ?_
  refine Zk ?_
  refine Zl rfl (RV.cell rfl (Zx Y4 hS hs0 Jl) RV.nil) rfl ?_
  obtain rfl := QJ H
  replace hS := hS.cut 0
  exact ⟨rfl, hS⟩
 replace H := Zp H hb
 refine Zd (fun K hK23 => ?_)
 refine Zf ?_
 refine Za rfl rfl rfl (Xo rfl rfl) ?_
 refine Zc 1 rfl ?_
 refine Zg ?_
 refine Zb hK23 ?_
 refine Zz rfl (fun hb => ?_) (fun hb => ?_)
 ·replace H := Zq H hb
  refine Zf ?_
  refine Za rfl rfl rfl (Ze Zeb rfl) ?_
  refine Zm rfl rfl rfl CellsOf.int hS ps2 st3_1 (by kernel_rfl) rfl (fun w hS hB => ?_)
  refine Zg ?_
  refine Z2 ?_
  refine Zb hK19 ?_
  refine Zd (fun K hK24 => ?_)
  refine Zf ?_
  refine Za rfl rfl rfl (Zi Y4 rfl (Zgy _) hS X0 trivial Jl) ?_
  refine Zm rfl rfl rfl CellsOf.agg hS ps0 Zdx (by kernel_rfl) rfl (fun w hS hB => ?_)
  refine Zg ?_
  refine Zb hK24 ?_
  refine Zk ?_
  refine Zl rfl (RV.cell rfl (Zx Y4 hS hs0 Jl) RV.nil) rfl ?_
  obtain rfl := QJ H
  replace hS := hS.cut 0
  exact ⟨rfl, hS⟩
 replace H := Zp H hb
 refine Zd (fun K hK25 => ?_)
 refine Zf ?_
 refine Za rfl rfl rfl (Xo rfl rfl) ?_
 refine Zc 1 rfl ?_
 refine Zg ?_
 refine Zb hK25 ?_
 refine Zz rfl (fun hb => ?_) (fun hb => ?_)
 ·replace H := Zq H hb
  refine Zd (fun K hK26 => ?_)
  refine Zf ?_
  refine Za rfl rfl rfl (Ze fo_23_4 rfl) ?_
  refine Za rfl rfl rfl (Zh sc_4 rfl (Zgy _) hS X0 trivial Zfn) ?_
  refine Za rfl rfl rfl (Yt rfl) ?_
  refine Zg ?_
  refine Zb hK26 ?_
  refine Zz rfl (fun hb => ?_) (fun hb => ?_)
  rotate_left
  ·replace H := Zp H hb
   refine Zt ?_
   refine Z2 ?_
   refine Zb hK19 ?_
   refine Zd (fun K hK28 => ?_)
   refine Zf ?_
   refine Za rfl rfl rfl (Zi Y4 rfl (Zgy _) hS X0 trivial Jl) ?_
   refine Zm rfl rfl rfl CellsOf.agg hS ps0 Zdx (by kernel_rfl) rfl (fun w hS hB => ?_)
   refine Zg ?_
   refine Zb hK28 ?_
   refine Zk ?_
   refine Zl rfl (RV.cell rfl (Zx Y4 hS hs0 Jl) RV.nil) rfl ?_
   obtain rfl := QJ H
   replace hS := hS.cut 0
   exact ⟨rfl, hS⟩
  replace H := Zq H hb
  refine Zf ?_
  refine Za rfl rfl rfl (Ze Zeb rfl) ?_
  refine Zm rfl rfl rfl CellsOf.int hS ps2 st3_1 (by kernel_rfl) rfl (fun w hS hB => ?_)
  refine Zg ?_
  refine Z2 ?_
  refine Zb hK19 ?_
  refine Zd (fun K hK27 => ?_)
  refine Zf ?_
  refine Za rfl rfl rfl (Zi Y4 rfl (Zgy _) hS X0 trivial Jl) ?_
  refine Zm rfl rfl rfl CellsOf.agg hS ps0 Zdx (by kernel_rfl) rfl (fun w hS hB => ?_)
  refine Zg ?_
  refine Zb hK27 ?_
  refine Zk ?_
  refine Zl rfl (RV.cell rfl (Zx Y4 hS hs0 Jl) RV.nil) rfl ?_
  obtain rfl := QJ H
  replace hS := hS.cut 0
  exact ⟨rfl, hS⟩
 replace H := Zp H hb
 refine Zd (fun K hK29 => ?_)
 refine Zf ?_
 refine Za rfl rfl rfl (Xo rfl rfl) ?_
 refine Zc 1 rfl ?_
 refine Zg ?_
 refine Zb hK29 ?_
 refine Zz rfl (fun hb => ?_) (fun hb => ?_)
 rotate_left
 ·replace H := Zp H hb
  refine Zt ?_
  refine Z2 ?_
  refine Zb hK19 ?_
  refine Zd (fun K hK31 => ?_)
  refine Zf ?_
  refine Za rfl rfl rfl (Zi Y4 rfl (Zgy _) hS X0 trivial Jl) ?_
  refine Zm rfl rfl rfl CellsOf.agg hS ps0 Zdx (by kernel_rfl) rfl (fun w hS hB => ?_)
  refine Zg ?_
  refine Zb hK31 ?_
  refine Zk ?_
  refine Zl rfl (RV.cell rfl (Zx Y4 hS hs0 Jl) RV.nil) rfl ?_
  obtain rfl := QJ H
  replace hS := hS.cut 0
  exact ⟨rfl, hS⟩
 replace H := Zq H hb
 refine Zf ?_
 refine Za rfl rfl rfl (Ze Zeb rfl) ?_
 refine Za rfl rfl rfl (Zh Z0 rfl (Zgy _) hS X0 trivial Zbd) ?_
 refine Za rfl rfl rfl (Xo rfl rfl) ?_
 refine Za rfl rfl rfl (Ze fo_23_4 rfl) ?_
 refine Zm rfl rfl rfl CellsOf.bool hS ps2 st4_1 (by kernel_rfl) rfl (fun w hS hB => ?_)
 refine Zg ?_
 refine Z2 ?_
 refine Zb hK19 ?_
 refine Zd (fun K hK30 => ?_)
 refine Zf ?_
 refine Za rfl rfl rfl (Zi Y4 rfl (Zgy _) hS X0 trivial Jl) ?_
 refine Zm rfl rfl rfl CellsOf.agg hS ps0 Zdx (by kernel_rfl) rfl (fun w hS hB => ?_)
 refine Zg ?_
 refine Zb hK30 ?_
 refine Zk ?_
 refine Zl rfl (RV.cell rfl (Zx Y4 hS hs0 Jl) RV.nil) rfl ?_
 obtain rfl := QJ H
 replace hS := hS.cut 0
 exact ⟨rfl, hS⟩
theorem c_ref06_All (x0 : St) (x1 : List En) (A0_ : OA) (c0_ : Nat) (w0 : World) (s0_ : SlI w0 Jv A0_ c0_ x1) {r : St} (H : Zf8 x0 x1 = some r) : Calls Try.prog 66 #[.agg #[.int .i64 x0.index, .int .i64 x0.term, .int .i64 x0.sum, .int .i64 x0.level, .bool x0.final], .slice A0_ x1.length c0_] w0 fun e w' => e = .returned (.agg #[.int .i64 r.index, .int .i64 r.term, .int .i64 r.sum, .int .i64 r.level, .bool r.final]) ∧ St0 All w0 w' [] := by
 unfold Zf8 at H
 refine Y0 Try.func66 rfl Try.ntmps66 rfl ?_
 have hS := St0.start All w0
 refine Zd (fun K hK1 => ?_)
 refine Zf ?_
 refine Yd rfl rfl rfl CellsOf.agg hS (fun b2 w hS hB => ?_)
 refine Yb rfl rfl zc_23 hS (fun b4 w hS hB => ?_)
 refine Zg ?_
 refine Zb hK1 ?_
 refine Zd (fun K hK6 => ?_)
 refine Zd (fun K hK7 => ?_)
 refine Zf ?_
 refine Zc 1 rfl ?_
 refine Zg ?_
 refine Zb hK7 ?_
 refine Yc ?_
 refine V0 (X := Nat × Int × Int × Int × Int × Int × Bool) (fun x => (1, .slice A0_ x1.length c0_) :: (2, .pointer (some ⟨b2, 0, none⟩)) :: (4, .pointer (some ⟨b4, 0, none⟩)) :: (5, .int .i64 x.2.1) :: []) (fun x w => St0 All w0 w (.box b4 [.int .i64 0, .int .i64 0, .int .i64 0, .int .i64 0, .bool false] 23 :: .box b2 [.int .i64 x.2.2.1, .int .i64 x.2.2.2.1, .int .i64 x.2.2.2.2.1, .int .i64 x.2.2.2.2.2.1, .bool x.2.2.2.2.2.2] 23 :: []) ∧ Zap x1 x.1 x.2.1 x.2.2.1 x.2.2.2.1 x.2.2.2.2.1 x.2.2.2.2.2.1 x.2.2.2.2.2.2 = some r) (fun x => x.1) (Xn, 0, x0.index, x0.term, x0.sum, x0.level, x0.final) (by repeat (first | exact Sub.nil | refine Sub.cons rfl ?_)) ⟨hS, H⟩ ?_
 rintro ⟨n, v8, v9, v10, v11, v12, v13⟩ w ⟨hS, H⟩
 dsimp only at hS H ⊢
 obtain _ | n := n
 ·have H0 : none = some r := H
  cases H0
 rw [Zap] at H
 refine Zd (fun K hK14 => ?_)
 refine Zd (fun K hK15 => ?_)
 refine Zf ?_
 refine Zc 2 rfl ?_
 refine Za rfl rfl rfl (Yu Y6 rfl) ?_
 refine Za rfl rfl rfl (Xh rfl rfl) ?_
 refine Zg ?_
 refine Zb hK15 ?_
 refine Zz rfl (fun hb => ?_) (fun hb => ?_)
 rotate_left
 ·replace H := Zp H hb
  refine Vj ?_
  refine Ya ?_
  refine Ya ?_
  refine Y3 ?_
  refine Zb hK6 ?_
  refine Zd (fun K hK22 => ?_)
  refine Zf ?_
  refine Za rfl rfl rfl (Zi Y4 rfl (Zgy _) hS Xr trivial Jl) ?_
  refine Zm rfl rfl rfl CellsOf.agg hS ps0 Zdx (by kernel_rfl) rfl (fun w hS hB => ?_)
  refine Zg ?_
  refine Zb hK22 ?_
  refine Zk ?_
  refine Zl rfl (RV.cell rfl (Zx Y4 hS hs0 Jl) RV.nil) rfl ?_
  obtain rfl := QJ H
  replace hS := hS.cut 0
  exact ⟨rfl, hS⟩
 replace H := Zq H hb
 refine Zt ?_
 refine Zb hK14 ?_
 refine Zd (fun K hK16 => ?_)
 refine Yc ?_
 refine Yg 7 [6] (fun i b => (i = 6 → b ≠ b2)) ⟨by kernel_rfl, by kernel_rfl⟩ hS (fun w hS hB => ?_)
 refine Zn [true, true, true, true, true] (by decide +kernel) PFC.h ?_
 refine LtK.put rfl rfl rfl (Zi Y4 rfl (Zgz _) hS Xr trivial Jl) ?_
 refine LtK.put rfl rfl rfl (Zs rfl) ?_
 refine LtK.put rfl rfl rfl (Zs rfl) ?_
 obtain ⟨e17, hi19, H⟩ := bind_some H
 obtain ⟨j18, hi19a, hi19b, hi19c⟩ := Yw hi19
 refine LtK.put rfl rfl rfl (Y8 Y6 rfl rfl hi19a hi19c (Rd.el (hS.rd0 s0_.rd) X5 hi19b)) ?_
 refine LtK.put rfl rfl rfl (Ze6 V7 rfl (Zgz _) (Rd.el (hS.rd0 s0_.rd) X5 hi19b) Zbv) ?_
 refine LtK.nil ?_
 refine Z4 [false, false, false, false, false, true] 5 ⟨by decide, by kernel_rfl, by kernel_rfl⟩ rfl rfl ?_
 try dsimp only [Zw]
 obtain ⟨r20, hm21, H⟩ := bind_some H
 refine Zo rfl rfl rfl rfl (by kernel_rfl) rfl (c_ref06_Next (⟨v9, v10, v11, v12, v13⟩ : St) e17 _ hm21) ?_
 rintro e w ⟨rfl, hN⟩; refine ⟨_, rfl, ?_⟩; obtain ⟨hB, hS⟩ := hS.jn hN
 refine Zg ?_
 refine Z7 hB ?_
 refine Yp [false, false, false, false, false, false, true] 6 ⟨by decide, by kernel_rfl, by kernel_rfl⟩ rfl rfl ?_
 try dsimp only [Zw]
 refine Zm rfl rfl rfl CellsOf.agg hS ps1 Zdx (by kernel_rfl) rfl (fun w hS hB => ?_)
 refine Zg ?_
 refine Ye (hB.sub (fun _ _ h => by simpa using h)) ?_
 refine Z6 (by kernel_rfl) ?_
 refine Z2 ?_
 refine Zb hK16 ?_
 refine Zf ?_
 refine Zc 1 rfl ?_
 refine Za rfl rfl rfl (Xf rfl rfl) ?_
 refine Zc 1 rfl ?_
 refine Zg ?_
 exact Va (n, (IntKind.wrap .i64 (v8 + 1)), r20.index, r20.term, r20.sum, r20.level, r20.final) (by repeat (first | exact Sub.nil | refine Sub.cons rfl ?_)) ⟨hS, H⟩ (Nat.lt_succ_self _)
theorem c_ref12_State (x0 : Tu) (x1 : Int) (A0_ : OA) (c0_ : Nat) (w0 : World) (s0_ : SlI w0 Jv A0_ c0_ x0.log) {r : St × Bool} (H : Zby x0 x1 = some r) : Calls Try.prog 34 #[.agg #[.int .i64 x0.snap.index, .int .i64 x0.snap.term, .int .i64 x0.snap.sum, .int .i64 x0.snap.level, .bool x0.snap.final, .slice A0_ x0.log.length c0_, .int .i64 x0.term, .int .i64 x0.vote], .int .i64 x1] w0 fun e w' => e = .returned (.tuple #[.agg #[.int .i64 r.1.index, .int .i64 r.1.term, .int .i64 r.1.sum, .int .i64 r.1.level, .bool r.1.final], .bool r.2]) ∧ St0 All w0 w' [] := by
 unfold Zby at H
 refine Y0 Try.func34 rfl Try.ntmps34 rfl ?_
 have hS := St0.start All w0
 refine Zd (fun K hK1 => ?_)
 refine Zf ?_
 refine Yd rfl rfl rfl CellsOf.agg hS (fun b2 w hS hB => ?_)
 refine Yb rfl rfl zc_23 hS (fun b4 w hS hB => ?_)
 refine Zc 1 rfl ?_
 refine Zg ?_
 refine Zb hK1 ?_
 refine Zd (fun K hK6 => ?_)
 refine Zd (fun K hK7 => ?_)
 refine Zf ?_
 refine Zc 1 rfl ?_
 refine Za rfl rfl rfl (Ze Xg rfl) ?_
 refine Za rfl rfl rfl (Ze Yi rfl) ?_
 refine Za rfl rfl rfl (Zh Z0 rfl (Zgy _) hS Xr trivial Y7) ?_
 refine Za rfl rfl rfl (Xh rfl rfl) ?_
 refine Zc 1 rfl ?_
 refine Zu 11 rfl (fun hb => ?_) (fun hb => ?_)
 ·replace H := Zq H hb
  refine Zc 5 rfl ?_
  refine Zg ?_
  refine Zb hK7 ?_
  refine Zr rfl rfl ?_
  refine Zd (fun K hK8 => ?_)
  refine Zf ?_
  refine Za rfl rfl rfl (Xw (cells := [.int .i64 0, .int .i64 0, .int .i64 0, .int .i64 0, .bool false]) rfl (by kernel_rfl)) ?_
  refine Zm rfl rfl rfl CellsOf.agg hS ps0 Zdx (by kernel_rfl) rfl (fun w hS hB => ?_)
  refine Zc 1 rfl ?_
  refine Zg ?_
  refine Zb hK8 ?_
  refine Zk ?_
  refine Zj ?_
  refine Zl rfl (RV.cell rfl (Zx Y4 hS hs0 Jl) (RV.tmp rfl RV.nil)) rfl ?_
  obtain rfl := QJ H
  replace hS := hS.cut 0
  exact ⟨rfl, hS⟩
 replace H := Zp H hb
 refine Zc 1 rfl ?_
 refine Za rfl rfl rfl (Zi Yr rfl (Zgy _) hS Xr trivial Vl) ?_
 obtain ⟨r9, hm10, H⟩ := bind_some H
 refine Zo rfl rfl rfl rfl (by kernel_rfl) rfl (Zag x0 A0_ c0_ _ (Zg1 s0_.k (hS.rd0 s0_.rd) (hS.blk0 s0_.blk)) hm10) ?_
 rintro e w ⟨rfl, hN⟩; refine ⟨_, rfl, ?_⟩; obtain ⟨hB, hS⟩ := hS.jn hN
 refine Za rfl rfl rfl (Xa rfl rfl) ?_
 refine Zc 1 rfl ?_
 refine Zg ?_
 refine Zb hK7 ?_
 refine Zz rfl (fun hb => ?_) (fun hb => ?_)
 ·replace H := Zq H hb
  refine Zd (fun K hK11 => ?_)
  refine Zf ?_
  refine Za rfl rfl rfl (Xw (cells := [.int .i64 0, .int .i64 0, .int .i64 0, .int .i64 0, .bool false]) rfl (by kernel_rfl)) ?_
  refine Zm rfl rfl rfl CellsOf.agg hS ps0 Zdx (by kernel_rfl) rfl (fun w hS hB => ?_)
  refine Zc 1 rfl ?_
  refine Zg ?_
  refine Zb hK11 ?_
  refine Zk ?_
  refine Zj ?_
  refine Zl rfl (RV.cell rfl (Zx Y4 hS hs0 Jl) (RV.tmp rfl RV.nil)) rfl ?_
  obtain rfl := QJ H
  replace hS := hS.cut 0
  exact ⟨rfl, hS⟩
 replace H := Zp H hb
 refine Zt ?_
 refine Zb hK6 ?_
 refine Zd (fun K hK12 => ?_)
 refine Yg 13 [11] (fun i b => (i = 11 → b ≠ b4)) ⟨by kernel_rfl, by kernel_rfl⟩ hS (fun w hS hB => ?_)
 refine Zn [true, true, true, true, true, true, true, true, true, true] (by decide +kernel) PFC.h ?_
 refine LtK.put rfl rfl rfl (Ze Xg rfl) ?_
 refine LtK.put rfl rfl rfl (Zi Y4 rfl (Zgz _) hS Xr trivial Jl) ?_
 refine LtK.put rfl rfl rfl (Ze Xz rfl) ?_
 refine LtK.put rfl rfl rfl (Zh Xp rfl (Zgz _) hS Xr trivial Js) ?_
 refine LtK.put rfl rfl rfl (Zs rfl) ?_
 refine LtK.put rfl rfl rfl (Ze Xg rfl) ?_
 refine LtK.put rfl rfl rfl (Ze Yi rfl) ?_
 refine LtK.put rfl rfl rfl (Zh Z0 rfl (Zgz _) hS Xr trivial Y7) ?_
 refine LtK.put rfl rfl rfl (J0 rfl rfl) ?_
 obtain ⟨l13, ht14, H⟩ := bind_some H
 refine LtK.put rfl rfl rfl (yx_slice_h Y6 rfl rfl s0_.k.1 ht14) ?_
 refine LtK.nil ?_
 refine Z4 [false, false, false, false, false, false, false, false, false, false, true] 10 ⟨by decide, by kernel_rfl, by kernel_rfl⟩ rfl rfl ?_
 try dsimp only [Zw]
 obtain ⟨r15, hm16, H⟩ := bind_some H
 refine Zo rfl rfl rfl rfl (by kernel_rfl) rfl (c_ref06_All x0.snap l13 A0_ c0_ _ (Zg1 (k_take s0_.k ht14) (Rd.takeI X5 (hS.rd0 s0_.rd) ht14) (hS.blk0 s0_.blk)) hm16) ?_
 rintro e w ⟨rfl, hN⟩; refine ⟨_, rfl, ?_⟩; obtain ⟨hB, hS⟩ := hS.jn hN
 refine Zg ?_
 refine Z7 hB ?_
 refine Yp [false, false, false, false, false, false, false, false, false, false, false, true] 11 ⟨by decide, by kernel_rfl, by kernel_rfl⟩ rfl rfl ?_
 try dsimp only [Zw]
 refine Zm rfl rfl rfl CellsOf.agg hS ps0 Zdx (by kernel_rfl) rfl (fun w hS hB => ?_)
 refine Zg ?_
 refine Ye (hB.sub (fun _ _ h => by simpa using h)) ?_
 refine Zn [false, false, false, false, false, false, false, false, false, false, false, false, true] (by decide +kernel) PFC.h ?_
 refine LtK.put rfl rfl rfl (Zy rfl) ?_
 refine LtK.nil ?_
 refine Z6 (by kernel_rfl) ?_
 refine Zb hK12 ?_
 refine Zk ?_
 refine Zl rfl (RV.cell rfl (Zx Y4 hS hs0 Jl) (RV.tmp rfl RV.nil)) rfl ?_
 obtain rfl := QJ H
 replace hS := hS.cut 0
 exact ⟨rfl, hS⟩
theorem c_ref20_Right (x0 : Co) (A0_ : OA) (c0_ : Nat) (A1_ : OA) (c1_ : Nat) (A2_ : OA) (c2_ : Nat) (A3_ : OA) (c3_ : Nat) (A4_ : OA) (c4_ : Nat) (w0 : World) (s0_ : SlI w0 Jv A0_ c0_ x0.tuple.log) (s1_ : SlI w0 enO A1_ c1_ x0.votes) (s2_ : SlI w0 V9 A2_ c2_ x0.next) (s3_ : SlI w0 V9 A3_ c3_ x0.mtch) (s4_ : SlI w0 V9 A4_ c4_ x0.caps) {r : Bool} (H : Zbw x0 = some r) : Calls Try.prog 10 #[.agg #[.int .i64 x0.id, .int .i64 x0.n, .int .u8 x0.role, .int .i64 x0.binary, .int .i64 x0.tuple.snap.index, .int .i64 x0.tuple.snap.term, .int .i64 x0.tuple.snap.sum, .int .i64 x0.tuple.snap.level, .bool x0.tuple.snap.final, .slice A0_ x0.tuple.log.length c0_, .int .i64 x0.tuple.term, .int .i64 x0.tuple.vote, .int .i64 x0.commit, .int .i64 x0.applied.index, .int .i64 x0.applied.term, .int .i64 x0.applied.sum, .int .i64 x0.applied.level, .bool x0.applied.final, .slice A1_ x0.votes.length c1_, .slice A2_ x0.next.length c2_, .slice A3_ x0.mtch.length c3_, .slice A4_ x0.caps.length c4_]] w0 fun e w' => e = .returned (.bool r) ∧ St0 All w0 w' [] := by
 unfold Zbw at H
 refine Yn Try.func10 rfl Try.ntmps10 rfl ?_
 have hS := St0.start All w0
 refine Zd (fun K hK1 => ?_)
 refine Zf ?_
 refine Yd rfl rfl rfl CellsOf.agg hS (fun b2 w hS hB => ?_)
 refine Zc 1 rfl ?_
 refine Zg ?_
 refine Zb hK1 ?_
 refine Zd (fun K hK4 => ?_)
 refine Zd (fun K hK5 => ?_)
 refine Zf ?_
 refine Za rfl rfl rfl (Ze Jc rfl) ?_
 refine Za rfl rfl rfl (Zh Z0 rfl (Zgy _) hS hs0 trivial Vo) ?_
 refine Za rfl rfl rfl (Xh rfl rfl) ?_
 refine Zc 1 rfl ?_
 refine Zu 10 rfl (fun hb => ?_) (fun hb => ?_)
 ·replace H := Zq H hb
  refine Zc 37 rfl ?_
  refine Zg ?_
  refine Zb hK5 ?_
  refine Zr rfl rfl ?_
  refine Zd (fun K hK6 => ?_)
  refine Zf ?_
  refine Zc 1 rfl ?_
  refine Zg ?_
  refine Zb hK6 ?_
  refine Zk ?_
  refine Zj ?_
  refine Zl rfl (RV.tmp rfl RV.nil) rfl ?_
  obtain rfl := QJ H
  replace hS := hS.cut 0
  exact ⟨rfl, hS⟩
 replace H := Zp H hb
 refine Za rfl rfl rfl (Ze Jc rfl) ?_
 refine Za rfl rfl rfl (Zh Z0 rfl (Zgy _) hS hs0 trivial Vo) ?_
 refine Za rfl rfl rfl (Xa rfl rfl) ?_
 refine Zc 2 rfl ?_
 refine Zu 15 rfl (fun hb => ?_) (fun hb => ?_)
 ·replace H := Zq H hb
  refine Zc 32 rfl ?_
  refine Zg ?_
  refine Zb hK5 ?_
  refine Zr rfl rfl ?_
  refine Zd (fun K hK7 => ?_)
  refine Zf ?_
  refine Zc 1 rfl ?_
  refine Zg ?_
  refine Zb hK7 ?_
  refine Zk ?_
  refine Zj ?_
  refine Zl rfl (RV.tmp rfl RV.nil) rfl ?_
  obtain rfl := QJ H
  replace hS := hS.cut 0
  exact ⟨rfl, hS⟩
 replace H := Zp H hb
 refine Za rfl rfl rfl (Ze Zay rfl) ?_
 refine Za rfl rfl rfl (Zh Z0 rfl (Zgy _) hS hs0 trivial Y7) ?_
 refine Za rfl rfl rfl (Xh rfl rfl) ?_
 refine Zc 2 rfl ?_
 refine Zu 20 rfl (fun hb => ?_) (fun hb => ?_)
 ·replace H := Zq H hb
  refine Zc 27 rfl ?_
  refine Zg ?_
  refine Zb hK5 ?_
  refine Zr rfl rfl ?_
  refine Zd (fun K hK8 => ?_)
  refine Zf ?_
  refine Zc 1 rfl ?_
  refine Zg ?_
  refine Zb hK8 ?_
  refine Zk ?_
  refine Zj ?_
  refine Zl rfl (RV.tmp rfl RV.nil) rfl ?_
  obtain rfl := QJ H
  replace hS := hS.cut 0
  exact ⟨rfl, hS⟩
 replace H := Zp H hb
 refine Za rfl rfl rfl (Ze Zay rfl) ?_
 refine Za rfl rfl rfl (Zh Z0 rfl (Zgy _) hS hs0 trivial Y7) ?_
 refine Za rfl rfl rfl (Ze Jc rfl) ?_
 refine Za rfl rfl rfl (Zh Z0 rfl (Zgy _) hS hs0 trivial Vo) ?_
 refine Za rfl rfl rfl (Xa rfl rfl) ?_
 refine Zc 2 rfl ?_
 refine Zu 27 rfl (fun hb => ?_) (fun hb => ?_)
 ·replace H := Zq H hb
  refine Zc 20 rfl ?_
  refine Zg ?_
  refine Zb hK5 ?_
  refine Zr rfl rfl ?_
  refine Zd (fun K hK9 => ?_)
  refine Zf ?_
  refine Zc 1 rfl ?_
  refine Zg ?_
  refine Zb hK9 ?_
  refine Zk ?_
  refine Zj ?_
  refine Zl rfl (RV.tmp rfl RV.nil) rfl ?_
  obtain rfl := QJ H
  replace hS := hS.cut 0
  exact ⟨rfl, hS⟩
 replace H := Zp H hb
 refine Za rfl rfl rfl (Ze Zcj rfl) ?_
 refine Za rfl rfl rfl (Zh Zbs rfl (Zgy _) hS hs0 trivial Zbk) ?_
 refine Za rfl rfl rfl (Xa rfl rfl) ?_
 refine Zc 2 rfl ?_
 refine Zu 32 rfl (fun hb => ?_) (fun hb => ?_)
 ·replace H := Zq H hb
  refine Zc 15 rfl ?_
  refine Zg ?_
  refine Zb hK5 ?_
  refine Zr rfl rfl ?_
  refine Zd (fun K hK10 => ?_)
  refine Zf ?_
  refine Zc 1 rfl ?_
  refine Zg ?_
  refine Zb hK10 ?_
  refine Zk ?_
  refine Zj ?_
  refine Zl rfl (RV.tmp rfl RV.nil) rfl ?_
  obtain rfl := QJ H
  replace hS := hS.cut 0
  exact ⟨rfl, hS⟩
 replace H := Zp H hb
 refine Za rfl rfl rfl (Ze Zed rfl) ?_
 refine Za rfl rfl rfl (Zh Z0 rfl (Zgy _) hS hs0 trivial Zbd) ?_
 refine Za rfl rfl rfl (Xh rfl rfl) ?_
 refine Zc 2 rfl ?_
 refine Zu 37 rfl (fun hb => ?_) (fun hb => ?_)
 ·replace H := Zq H hb
  refine Zc 10 rfl ?_
  refine Zg ?_
  refine Zb hK5 ?_
  refine Zr rfl rfl ?_
  refine Zd (fun K hK11 => ?_)
  refine Zf ?_
  refine Zc 1 rfl ?_
  refine Zg ?_
  refine Zb hK11 ?_
  refine Zk ?_
  refine Zj ?_
  refine Zl rfl (RV.tmp rfl RV.nil) rfl ?_
  obtain rfl := QJ H
  replace hS := hS.cut 0
  exact ⟨rfl, hS⟩
 replace H := Zp H hb
 refine Za rfl rfl rfl (Ze Zed rfl) ?_
 refine Za rfl rfl rfl (Zh Z0 rfl (Zgy _) hS hs0 trivial Zbd) ?_
 refine Za rfl rfl rfl (Xa rfl rfl) ?_
 refine Zc 2 rfl ?_
 refine Zu 42 rfl (fun hb => ?_) (fun hb => ?_)
 ·replace H := Zq H hb
  refine Zc 5 rfl ?_
  refine Zg ?_
  refine Zb hK5 ?_
  refine Zr rfl rfl ?_
  refine Zd (fun K hK12 => ?_)
  refine Zf ?_
  refine Zc 1 rfl ?_
  refine Zg ?_
  refine Zb hK12 ?_
  refine Zk ?_
  refine Zj ?_
  refine Zl rfl (RV.tmp rfl RV.nil) rfl ?_
  obtain rfl := QJ H
  replace hS := hS.cut 0
  exact ⟨rfl, hS⟩
 replace H := Zp H hb
 refine Za rfl rfl rfl (Ze Yz rfl) ?_
 refine Za rfl rfl rfl (Zi Yr rfl (Zgy _) hS hs0 trivial Jw) ?_
 obtain ⟨r13, hm14, H⟩ := bind_some H
 refine Zo rfl rfl rfl rfl (by kernel_rfl) rfl (Zgd x0.tuple A0_ c0_ _ (Zg1 s0_.k (hS.rd0 s0_.rd) (hS.blk0 s0_.blk)) hm14) ?_
 rintro e w ⟨rfl, hN⟩; refine ⟨_, rfl, ?_⟩; obtain ⟨hB, hS⟩ := hS.jn hN
 refine Za rfl rfl rfl (Yt rfl) ?_
 refine Zc 1 rfl ?_
 refine Zg ?_
 refine Zb hK5 ?_
 refine Zz rfl (fun hb => ?_) (fun hb => ?_)
 ·replace H := Zq H hb
  refine Zd (fun K hK15 => ?_)
  refine Zf ?_
  refine Zc 1 rfl ?_
  refine Zg ?_
  refine Zb hK15 ?_
  refine Zk ?_
  refine Zj ?_
  refine Zl rfl (RV.tmp rfl RV.nil) rfl ?_
  obtain rfl := QJ H
  replace hS := hS.cut 0
  exact ⟨rfl, hS⟩
 replace H := Zp H hb
 refine Zt ?_
 refine Zb hK4 ?_
 refine Zd (fun K hK16 => ?_)
 refine Zf ?_
 refine Za rfl rfl rfl (Ze Yz rfl) ?_
 refine Za rfl rfl rfl (Zi Yr rfl (Zgy _) hS hs0 trivial Jw) ?_
 refine Za rfl rfl rfl (Ze V5 rfl) ?_
 refine Za rfl rfl rfl (Zh Z0 rfl (Zgy _) hS hs0 trivial Zbe) ?_
 obtain ⟨r17, hm18, H⟩ := bind_some H
 refine Zo rfl rfl rfl rfl (by kernel_rfl) rfl (c_ref12_State x0.tuple x0.commit A0_ c0_ _ (Zg1 s0_.k (hS.rd0 s0_.rd) (hS.blk0 s0_.blk)) hm18) ?_
 rintro e w ⟨rfl, hN⟩; refine ⟨_, rfl, ?_⟩; obtain ⟨hB, hS⟩ := hS.jn hN
 refine Zc 1 rfl ?_
 refine Za rfl rfl rfl (Z1 rfl rfl) ?_
 refine Za rfl rfl rfl (Z1 rfl rfl) ?_
 refine Yb rfl rfl zc_23 hS (fun b19 w hS hB => ?_)
 refine Zm rfl rfl rfl CellsOf.agg hS ps0 Zdx (by kernel_rfl) rfl (fun w hS hB => ?_)
 refine Zc 1 rfl ?_
 refine Zg ?_
 refine Zb hK16 ?_
 refine Zd (fun K hK21 => ?_)
 refine Zd (fun K hK22 => ?_)
 refine Zf ?_
 refine Zc 1 rfl ?_
 refine Za rfl rfl rfl (Yt rfl) ?_
 refine Zc 1 rfl ?_
 refine Zu 58 rfl (fun hb => ?_) (fun hb => ?_)
 ·replace H := Zq H hb
  refine Zc 37 rfl ?_
  refine Zg ?_
  refine Zb hK22 ?_
  refine Zr rfl rfl ?_
  refine Zd (fun K hK23 => ?_)
  refine Zf ?_
  refine Zc 1 rfl ?_
  refine Zg ?_
  refine Zb hK23 ?_
  refine Zk ?_
  refine Zj ?_
  refine Zl rfl (RV.tmp rfl RV.nil) rfl ?_
  obtain rfl := QJ H
  replace hS := hS.cut 0
  exact ⟨rfl, hS⟩
 replace H := Zp H hb
 refine Za rfl rfl rfl (Zi Y4 rfl (Zgy _) hS hs0 trivial Jl) ?_
 refine Za rfl rfl rfl (Ze Zef rfl) ?_
 refine Za rfl rfl rfl (Zi Y4 rfl (Zgy _) hS Xr trivial sg13_5) ?_
 refine Za rfl rfl rfl (yv_neqS (by kernel_rfl) rfl rfl (Za6 _ _ _ _ _ _ _ _ _ _)) ?_
 refine Zc 2 rfl ?_
 refine Zu 64 rfl (fun hb => ?_) (fun hb => ?_)
 ·replace H := Zq H hb
  refine Zc 31 rfl ?_
  refine Zg ?_
  refine Zb hK22 ?_
  refine Zr rfl rfl ?_
  refine Zd (fun K hK24 => ?_)
  refine Zf ?_
  refine Zc 1 rfl ?_
  refine Zg ?_
  refine Zb hK24 ?_
  refine Zk ?_
  refine Zj ?_
  refine Zl rfl (RV.tmp rfl RV.nil) rfl ?_
  obtain rfl := QJ H
  replace hS := hS.cut 0
  exact ⟨rfl, hS⟩
 replace H := Zp H hb
 refine Za rfl rfl rfl (Ze Zb2 rfl) ?_
 refine Za rfl rfl rfl (Zh sc_27 rfl (Zgy _) hS Xr trivial Zgj) ?_
 refine Za rfl rfl rfl (Yu el_27 rfl) ?_
 refine Za rfl rfl rfl (Ze Jc rfl) ?_
 refine Za rfl rfl rfl (Zh Z0 rfl (Zgy _) hS Xr trivial Vo) ?_
 refine Za rfl rfl rfl (Y5 rfl rfl) ?_
 refine Zc 2 rfl ?_
 refine Zu 72 rfl (fun hb => ?_) (fun hb => ?_)
 ·replace H := Zq H hb
  refine Zc 23 rfl ?_
  refine Zg ?_
  refine Zb hK22 ?_
  refine Zr rfl rfl ?_
  refine Zd (fun K hK25 => ?_)
  refine Zf ?_
  refine Zc 1 rfl ?_
  refine Zg ?_
  refine Zb hK25 ?_
  refine Zk ?_
  refine Zj ?_
  refine Zl rfl (RV.tmp rfl RV.nil) rfl ?_
  obtain rfl := QJ H
  replace hS := hS.cut 0
  exact ⟨rfl, hS⟩
 replace H := Zp H hb
 refine Za rfl rfl rfl (Ze Vm rfl) ?_
 refine Za rfl rfl rfl (Zh Xt rfl (Zgy _) hS Xr trivial Jz) ?_
 refine Za rfl rfl rfl (Yu Xm rfl) ?_
 refine Za rfl rfl rfl (Ze Jc rfl) ?_
 refine Za rfl rfl rfl (Zh Z0 rfl (Zgy _) hS Xr trivial Vo) ?_
 refine Za rfl rfl rfl (Y5 rfl rfl) ?_
 refine Zc 2 rfl ?_
 refine Zu 80 rfl (fun hb => ?_) (fun hb => ?_)
 ·replace H := Zq H hb
  refine Zc 15 rfl ?_
  refine Zg ?_
  refine Zb hK22 ?_
  refine Zr rfl rfl ?_
  refine Zd (fun K hK26 => ?_)
  refine Zf ?_
  refine Zc 1 rfl ?_
  refine Zg ?_
  refine Zb hK26 ?_
  refine Zk ?_
  refine Zj ?_
  refine Zl rfl (RV.tmp rfl RV.nil) rfl ?_
  obtain rfl := QJ H
  replace hS := hS.cut 0
  exact ⟨rfl, hS⟩
 replace H := Zp H hb
 refine Za rfl rfl rfl (Ze V3 rfl) ?_
 refine Za rfl rfl rfl (Zh Xt rfl (Zgy _) hS Xr trivial Zat) ?_
 refine Za rfl rfl rfl (Yu Xm rfl) ?_
 refine Za rfl rfl rfl (Ze Jc rfl) ?_
 refine Za rfl rfl rfl (Zh Z0 rfl (Zgy _) hS Xr trivial Vo) ?_
 refine Za rfl rfl rfl (Y5 rfl rfl) ?_
 refine Zc 2 rfl ?_
 refine Zu 88 rfl (fun hb => ?_) (fun hb => ?_)
 ·replace H := Zq H hb
  refine Zc 7 rfl ?_
  refine Zg ?_
  refine Zb hK22 ?_
  refine Zr rfl rfl ?_
  refine Zd (fun K hK27 => ?_)
  refine Zf ?_
  refine Zc 1 rfl ?_
  refine Zg ?_
  refine Zb hK27 ?_
  refine Zk ?_
  refine Zj ?_
  refine Zl rfl (RV.tmp rfl RV.nil) rfl ?_
  obtain rfl := QJ H
  replace hS := hS.cut 0
  exact ⟨rfl, hS⟩
 replace H := Zp H hb
 refine Za rfl rfl rfl (Ze Zaa rfl) ?_
 refine Za rfl rfl rfl (Zh Xt rfl (Zgy _) hS Xr trivial Zdr) ?_
 refine Za rfl rfl rfl (Yu Xm rfl) ?_
 refine Za rfl rfl rfl (Ze Jc rfl) ?_
 refine Za rfl rfl rfl (Zh Z0 rfl (Zgy _) hS Xr trivial Vo) ?_
 refine Za rfl rfl rfl (Y5 rfl rfl) ?_
 refine Zc 1 rfl ?_
 refine Zg ?_
 refine Zb hK22 ?_
 refine Zz rfl (fun hb => ?_) (fun hb => ?_)
 ·replace H := Zq H hb
  refine Zd (fun K hK28 => ?_)
  refine Zf ?_
  refine Zc 1 rfl ?_
  refine Zg ?_
  refine Zb hK28 ?_
  refine Zk ?_
  refine Zj ?_
  refine Zl rfl (RV.tmp rfl RV.nil) rfl ?_
  obtain rfl := QJ H
  replace hS := hS.cut 0
  exact ⟨rfl, hS⟩
 replace H := Zp H hb
 refine Zt ?_
 refine Zb hK21 ?_
 refine Zd (fun K hK29 => ?_)
 refine Zf ?_
 refine Za rfl rfl rfl (Ze Yz rfl) ?_
 refine Za rfl rfl rfl (Zi Yr rfl (Zgy _) hS Xr trivial Jw) ?_
 obtain ⟨r30, hm31, H⟩ := bind_some H
 refine Zo rfl rfl rfl rfl (by kernel_rfl) rfl (Zag x0.tuple A0_ c0_ _ (Zg1 s0_.k (hS.rd0 s0_.rd) (hS.blk0 s0_.blk)) hm31) ?_
 rintro e w ⟨rfl, hN⟩; refine ⟨_, rfl, ?_⟩; obtain ⟨hB, hS⟩ := hS.jn hN
 refine Zc 1 rfl ?_
 refine Zg ?_
 refine Zb hK29 ?_
 refine Zd (fun K hK32 => ?_)
 refine Zd (fun K hK33 => ?_)
 refine Zf ?_
 refine Zc 1 rfl ?_
 refine Zg ?_
 refine Zb hK33 ?_
 refine Yc ?_
 refine V0 (X := Nat × Bool × Int) (fun x => (1, .pointer (some ⟨b2, 0, none⟩)) :: (2, .bool x.2.1) :: (5, .int .i64 r30) :: (6, .int .i64 x.2.2) :: []) (fun x w => St0 All w0 w (.box b19 [.int .i64 r17.1.index, .int .i64 r17.1.term, .int .i64 r17.1.sum, .int .i64 r17.1.level, .bool r17.1.final] 23 :: .box b2 [.int .i64 x0.id, .int .i64 x0.n, .int .u8 x0.role, .int .i64 x0.binary, .int .i64 x0.tuple.snap.index, .int .i64 x0.tuple.snap.term, .int .i64 x0.tuple.snap.sum, .int .i64 x0.tuple.snap.level, .bool x0.tuple.snap.final, .slice A0_ x0.tuple.log.length c0_, .int .i64 x0.tuple.term, .int .i64 x0.tuple.vote, .int .i64 x0.commit, .int .i64 x0.applied.index, .int .i64 x0.applied.term, .int .i64 x0.applied.sum, .int .i64 x0.applied.level, .bool x0.applied.final, .slice A1_ x0.votes.length c1_, .slice A2_ x0.next.length c2_, .slice A3_ x0.mtch.length c3_, .slice A4_ x0.caps.length c4_] 30 :: []) ∧ Jo x0 r30 x.1 x.2.1 x.2.2 = some r) (fun x => x.1) (Xn, false, 0) (by repeat (first | exact Sub.nil | refine Sub.cons rfl ?_)) ⟨hS, H⟩ ?_
 rintro ⟨n, v34, v35⟩ w ⟨hS, H⟩
 dsimp only at hS H ⊢
 obtain _ | n := n
 ·have H0 : none = some r := H
  cases H0
 rw [Jo] at H
 refine Zd (fun K hK36 => ?_)
 refine Zd (fun K hK37 => ?_)
 refine Zf ?_
 refine Zc 1 rfl ?_
 refine Za rfl rfl rfl (Ze Jc rfl) ?_
 refine Za rfl rfl rfl (Zh Z0 rfl (Zgy _) hS Xr trivial Vo) ?_
 refine Za rfl rfl rfl (Xh rfl rfl) ?_
 refine Zg ?_
 refine Zb hK37 ?_
 refine Zz rfl (fun hb => ?_) (fun hb => ?_)
 rotate_left
 ·replace H := Zp H hb
  refine Vj ?_
  refine Ya ?_
  refine Ya ?_
  refine Y3 ?_
  refine Zb hK32 ?_
  refine Zd (fun K hK64 => ?_)
  refine Zd (fun K hK65 => ?_)
  refine Zf ?_
  refine Za rfl rfl rfl (Ze Zcj rfl) ?_
  refine Za rfl rfl rfl (Zh Zbs rfl (Zgy _) hS Xr trivial Zbk) ?_
  refine Za rfl rfl rfl (Y5 rfl rfl) ?_
  refine Zc 1 rfl ?_
  refine Zu 157 rfl (fun hb => ?_) (fun hb => ?_)
  rotate_left
  ·replace H := Zp H hb
   refine Zc 13 rfl ?_
   refine Zg ?_
   refine Zb hK65 ?_
   refine Yo rfl rfl ?_
   refine Zt ?_
   refine Zb hK64 ?_
   refine Zd (fun K hK72 => ?_)
   refine Yg 11 [] (fun _ _ => True) ⟨by kernel_rfl, by kernel_rfl⟩ hS (fun w hS hB => ?_)
   refine Zn [true, true, true, true, true, true, true, true, true, true, true] (by decide +kernel) PFC.h ?_
   refine LtK.put rfl rfl rfl (Ze Zaa rfl) ?_
   refine LtK.put rfl rfl rfl (Zh Xt rfl (Zgz _) hS Xr trivial Zdr) ?_
   refine LtK.put rfl rfl rfl (Ze Zay rfl) ?_
   refine LtK.put rfl rfl rfl (Zh Z0 rfl (Zgz _) hS Xr trivial Y7) ?_
   refine LtK.put rfl rfl rfl (J0 rfl rfl) ?_
   obtain ⟨e73, hi75, H⟩ := bind_some H
   obtain ⟨j74, hi75a, hi75b, hi75c⟩ := Yw hi75
   refine LtK.put rfl rfl rfl (Y8 Xm rfl rfl hi75a hi75c (Rd.el (hS.rd0 s4_.rd) Yl hi75b)) ?_
   refine LtK.put rfl rfl rfl (X1 Z0 rfl (Zgz _) (Rd.el (hS.rd0 s4_.rd) Yl hi75b) rfl) ?_
   refine LtK.put rfl rfl rfl (Ze Zed rfl) ?_
   refine LtK.put rfl rfl rfl (Zh Z0 rfl (Zgz _) hS Xr trivial Zbd) ?_
   refine LtK.put rfl rfl rfl (Xo rfl rfl) ?_
   refine LtK.put rfl rfl rfl (Zy rfl) ?_
   refine LtK.nil ?_
   refine Z6 (by kernel_rfl) ?_
   refine Zb hK72 ?_
   refine Zk ?_
   refine Zl rfl (RV.tmp rfl RV.nil) rfl ?_
   obtain rfl := QJ H
   replace hS := hS.cut 0
   exact ⟨rfl, hS⟩
  replace H := Zq H hb
  refine Za rfl rfl rfl (Ze Yz rfl) ?_
  refine Za rfl rfl rfl (Ze Jb rfl) ?_
  refine Za rfl rfl rfl (Zh Z0 rfl (Zgy _) hS Xr trivial Zbc) ?_
  refine Za rfl rfl rfl (Xh rfl rfl) ?_
  refine Zc 1 rfl ?_
  refine Zu 162 rfl (fun hb => ?_) (fun hb => ?_)
  ·replace H := Zq H hb
   refine Zc 8 rfl ?_
   refine Zg ?_
   refine Zb hK65 ?_
   refine Zr rfl rfl ?_
   refine Zd (fun K hK66 => ?_)
   refine Zf ?_
   refine Zc 1 rfl ?_
   refine Zg ?_
   refine Zb hK66 ?_
   refine Zk ?_
   refine Zj ?_
   refine Zl rfl (RV.tmp rfl RV.nil) rfl ?_
   obtain rfl := QJ H
   replace hS := hS.cut 0
   exact ⟨rfl, hS⟩
  replace H := Zp H hb
  refine Za rfl rfl rfl (Ze Yz rfl) ?_
  refine Za rfl rfl rfl (Ze J4 rfl) ?_
  refine Za rfl rfl rfl (Zh Z0 rfl (Zgy _) hS Xr trivial sg11_1) ?_
  refine Za rfl rfl rfl (Ze Zay rfl) ?_
  refine Za rfl rfl rfl (Zh Z0 rfl (Zgy _) hS Xr trivial Y7) ?_
  refine Za rfl rfl rfl (Y5 rfl rfl) ?_
  refine Zc 2 rfl ?_
  refine Zg ?_
  refine Zb hK65 ?_
  refine Zz rfl (fun hb => ?_) (fun hb => ?_)
  ·replace H := Zq H hb
   refine Zd (fun K hK67 => ?_)
   refine Zf ?_
   refine Zc 1 rfl ?_
   refine Zg ?_
   refine Zb hK67 ?_
   refine Zk ?_
   refine Zj ?_
   refine Zl rfl (RV.tmp rfl RV.nil) rfl ?_
   obtain rfl := QJ H
   replace hS := hS.cut 0
   exact ⟨rfl, hS⟩
  replace H := Zp H hb
  refine Zt ?_
  refine Zb hK64 ?_
  refine Zd (fun K hK68 => ?_)
  refine Yg 11 [] (fun _ _ => True) ⟨by kernel_rfl, by kernel_rfl⟩ hS (fun w hS hB => ?_)
  refine Zn [true, true, true, true, true, true, true, true, true, true, true] (by decide +kernel) PFC.h ?_
  refine LtK.put rfl rfl rfl (Ze Zaa rfl) ?_
  refine LtK.put rfl rfl rfl (Zh Xt rfl (Zgz _) hS Xr trivial Zdr) ?_
  refine LtK.put rfl rfl rfl (Ze Zay rfl) ?_
  refine LtK.put rfl rfl rfl (Zh Z0 rfl (Zgz _) hS Xr trivial Y7) ?_
  refine LtK.put rfl rfl rfl (J0 rfl rfl) ?_
  obtain ⟨e69, hi71, H⟩ := bind_some H
  obtain ⟨j70, hi71a, hi71b, hi71c⟩ := Yw hi71
  refine LtK.put rfl rfl rfl (Y8 Xm rfl rfl hi71a hi71c (Rd.el (hS.rd0 s4_.rd) Yl hi71b)) ?_
  refine LtK.put rfl rfl rfl (X1 Z0 rfl (Zgz _) (Rd.el (hS.rd0 s4_.rd) Yl hi71b) rfl) ?_
  refine LtK.put rfl rfl rfl (Ze Zed rfl) ?_
  refine LtK.put rfl rfl rfl (Zh Z0 rfl (Zgz _) hS Xr trivial Zbd) ?_
  refine LtK.put rfl rfl rfl (Xo rfl rfl) ?_
  refine LtK.put rfl rfl rfl (Zy rfl) ?_
  refine LtK.nil ?_
  refine Z6 (by kernel_rfl) ?_
  refine Zb hK68 ?_
  refine Zk ?_
  refine Zl rfl (RV.tmp rfl RV.nil) rfl ?_
  obtain rfl := QJ H
  replace hS := hS.cut 0
  exact ⟨rfl, hS⟩
 replace H := Zq H hb
 refine Zt ?_
 refine Zb hK36 ?_
 refine Zd (fun K hK38 => ?_)
 refine Yc ?_
 refine Zd (fun K hK39 => ?_)
 refine Zf ?_
 refine Za rfl rfl rfl (Ze Vm rfl) ?_
 refine Za rfl rfl rfl (Zh Xt rfl (Zgy _) hS Xr trivial Jz) ?_
 refine Zc 1 rfl ?_
 obtain ⟨e40, hi42, H⟩ := bind_some H
 obtain ⟨j41, hi42a, hi42b, hi42c⟩ := Yw hi42
 refine Za rfl rfl rfl (Y8 Xm rfl rfl hi42a hi42c (Rd.el (hS.rd0 s2_.rd) Yl hi42b)) ?_
 refine Za rfl rfl rfl (X1 Z0 rfl (Zgy _) (Rd.el (hS.rd0 s2_.rd) Yl hi42b) rfl) ?_
 refine Za rfl rfl rfl (Xh rfl rfl) ?_
 refine Zc 1 rfl ?_
 refine Zu 111 rfl (fun hb => ?_) (fun hb => ?_)
 ·replace H := Zq H hb
  refine Zc 42 rfl ?_
  refine Zg ?_
  refine Zb hK39 ?_
  refine Zr rfl rfl ?_
  refine Zd (fun K hK43 => ?_)
  refine Zf ?_
  refine Zc 1 rfl ?_
  refine Zg ?_
  refine Zb hK43 ?_
  refine Zk ?_
  refine Zv ?_
  refine Zj ?_
  refine Zj ?_
  refine Zv ?_
  refine Zj ?_
  refine Zl rfl (RV.tmp rfl RV.nil) rfl ?_
  obtain rfl := QJ H
  replace hS := hS.cut 0
  exact ⟨rfl, hS⟩
 replace H := Zp H hb
 refine Za rfl rfl rfl (Ze Vm rfl) ?_
 refine Za rfl rfl rfl (Zh Xt rfl (Zgy _) hS Xr trivial Jz) ?_
 refine Zc 1 rfl ?_
 obtain ⟨e44, hi46, H⟩ := bind_some H
 obtain ⟨j45, hi46a, hi46b, hi46c⟩ := Yw hi46
 refine Za rfl rfl rfl (Y8 Xm rfl rfl hi46a hi46c (Rd.el (hS.rd0 s2_.rd) Yl hi46b)) ?_
 refine Za rfl rfl rfl (X1 Z0 rfl (Zgy _) (Rd.el (hS.rd0 s2_.rd) Yl hi46b) rfl) ?_
 refine Zc 1 rfl ?_
 refine Za rfl rfl rfl (Xf rfl rfl) ?_
 refine Za rfl rfl rfl (Xa rfl rfl) ?_
 refine Zc 2 rfl ?_
 refine Zu 121 rfl (fun hb => ?_) (fun hb => ?_)
 ·replace H := Zq H hb
  refine Zc 32 rfl ?_
  refine Zg ?_
  refine Zb hK39 ?_
  refine Zr rfl rfl ?_
  refine Zd (fun K hK47 => ?_)
  refine Zf ?_
  refine Zc 1 rfl ?_
  refine Zg ?_
  refine Zb hK47 ?_
  refine Zk ?_
  refine Zv ?_
  refine Zj ?_
  refine Zj ?_
  refine Zv ?_
  refine Zj ?_
  refine Zl rfl (RV.tmp rfl RV.nil) rfl ?_
  obtain rfl := QJ H
  replace hS := hS.cut 0
  exact ⟨rfl, hS⟩
 replace H := Zp H hb
 refine Za rfl rfl rfl (Ze V3 rfl) ?_
 refine Za rfl rfl rfl (Zh Xt rfl (Zgy _) hS Xr trivial Zat) ?_
 refine Zc 1 rfl ?_
 obtain ⟨e48, hi50, H⟩ := bind_some H
 obtain ⟨j49, hi50a, hi50b, hi50c⟩ := Yw hi50
 refine Za rfl rfl rfl (Y8 Xm rfl rfl hi50a hi50c (Rd.el (hS.rd0 s3_.rd) Yl hi50b)) ?_
 refine Za rfl rfl rfl (X1 Z0 rfl (Zgy _) (Rd.el (hS.rd0 s3_.rd) Yl hi50b) rfl) ?_
 refine Za rfl rfl rfl (Xh rfl rfl) ?_
 refine Zc 2 rfl ?_
 refine Zu 129 rfl (fun hb => ?_) (fun hb => ?_)
 ·replace H := Zq H hb
  refine Zc 24 rfl ?_
  refine Zg ?_
  refine Zb hK39 ?_
  refine Zr rfl rfl ?_
  refine Zd (fun K hK51 => ?_)
  refine Zf ?_
  refine Zc 1 rfl ?_
  refine Zg ?_
  refine Zb hK51 ?_
  refine Zk ?_
  refine Zv ?_
  refine Zj ?_
  refine Zj ?_
  refine Zv ?_
  refine Zj ?_
  refine Zl rfl (RV.tmp rfl RV.nil) rfl ?_
  obtain rfl := QJ H
  replace hS := hS.cut 0
  exact ⟨rfl, hS⟩
 replace H := Zp H hb
 refine Za rfl rfl rfl (Ze V3 rfl) ?_
 refine Za rfl rfl rfl (Zh Xt rfl (Zgy _) hS Xr trivial Zat) ?_
 refine Zc 1 rfl ?_
 obtain ⟨e52, hi54, H⟩ := bind_some H
 obtain ⟨j53, hi54a, hi54b, hi54c⟩ := Yw hi54
 refine Za rfl rfl rfl (Y8 Xm rfl rfl hi54a hi54c (Rd.el (hS.rd0 s3_.rd) Yl hi54b)) ?_
 refine Za rfl rfl rfl (X1 Z0 rfl (Zgy _) (Rd.el (hS.rd0 s3_.rd) Yl hi54b) rfl) ?_
 refine Zc 1 rfl ?_
 refine Za rfl rfl rfl (Xa rfl rfl) ?_
 refine Zc 2 rfl ?_
 refine Zu 138 rfl (fun hb => ?_) (fun hb => ?_)
 ·replace H := Zq H hb
  refine Zc 15 rfl ?_
  refine Zg ?_
  refine Zb hK39 ?_
  refine Zr rfl rfl ?_
  refine Zd (fun K hK55 => ?_)
  refine Zf ?_
  refine Zc 1 rfl ?_
  refine Zg ?_
  refine Zb hK55 ?_
  refine Zk ?_
  refine Zv ?_
  refine Zj ?_
  refine Zj ?_
  refine Zv ?_
  refine Zj ?_
  refine Zl rfl (RV.tmp rfl RV.nil) rfl ?_
  obtain rfl := QJ H
  replace hS := hS.cut 0
  exact ⟨rfl, hS⟩
 replace H := Zp H hb
 refine Za rfl rfl rfl (Ze Zaa rfl) ?_
 refine Za rfl rfl rfl (Zh Xt rfl (Zgy _) hS Xr trivial Zdr) ?_
 refine Zc 1 rfl ?_
 obtain ⟨e56, hi58, H⟩ := bind_some H
 obtain ⟨j57, hi58a, hi58b, hi58c⟩ := Yw hi58
 refine Za rfl rfl rfl (Y8 Xm rfl rfl hi58a hi58c (Rd.el (hS.rd0 s4_.rd) Yl hi58b)) ?_
 refine Za rfl rfl rfl (X1 Z0 rfl (Zgy _) (Rd.el (hS.rd0 s4_.rd) Yl hi58b) rfl) ?_
 refine Za rfl rfl rfl (Xh rfl rfl) ?_
 refine Zc 2 rfl ?_
 refine Zu 146 rfl (fun hb => ?_) (fun hb => ?_)
 ·replace H := Zq H hb
  refine Zc 7 rfl ?_
  refine Zg ?_
  refine Zb hK39 ?_
  refine Zr rfl rfl ?_
  refine Zd (fun K hK59 => ?_)
  refine Zf ?_
  refine Zc 1 rfl ?_
  refine Zg ?_
  refine Zb hK59 ?_
  refine Zk ?_
  refine Zv ?_
  refine Zj ?_
  refine Zj ?_
  refine Zv ?_
  refine Zj ?_
  refine Zl rfl (RV.tmp rfl RV.nil) rfl ?_
  obtain rfl := QJ H
  replace hS := hS.cut 0
  exact ⟨rfl, hS⟩
 replace H := Zp H hb
 refine Za rfl rfl rfl (Ze Zaa rfl) ?_
 refine Za rfl rfl rfl (Zh Xt rfl (Zgy _) hS Xr trivial Zdr) ?_
 refine Zc 1 rfl ?_
 obtain ⟨e60, hi62, H⟩ := bind_some H
 obtain ⟨j61, hi62a, hi62b, hi62c⟩ := Yw hi62
 refine Za rfl rfl rfl (Y8 Xm rfl rfl hi62a hi62c (Rd.el (hS.rd0 s4_.rd) Yl hi62b)) ?_
 refine Za rfl rfl rfl (X1 Z0 rfl (Zgy _) (Rd.el (hS.rd0 s4_.rd) Yl hi62b) rfl) ?_
 refine Za rfl rfl rfl (Xa rfl rfl) ?_
 refine Zc 1 rfl ?_
 refine Zg ?_
 refine Zb hK39 ?_
 refine Zz rfl (fun hb => ?_) (fun hb => ?_)
 rotate_left
 ·replace H := Zp H hb
  refine Zt ?_
  refine Z2 ?_
  refine Zb hK38 ?_
  refine Zf ?_
  refine Zc 1 rfl ?_
  refine Za rfl rfl rfl (Xf rfl rfl) ?_
  refine Zc 1 rfl ?_
  refine Zg ?_
  exact Va (n, v34, (IntKind.wrap .i64 (v35 + 1))) (by repeat (first | exact Sub.nil | refine Sub.cons rfl ?_)) ⟨hS, H⟩ (Nat.lt_succ_self _)
 replace H := Zq H hb
 refine Zd (fun K hK63 => ?_)
 refine Zf ?_
 refine Zc 1 rfl ?_
 refine Zg ?_
 refine Zb hK63 ?_
 refine Zk ?_
 refine Zv ?_
 refine Zj ?_
 refine Zj ?_
 refine Zv ?_
 refine Zj ?_
 refine Zl rfl (RV.tmp rfl RV.nil) rfl ?_
 obtain rfl := QJ H
 replace hS := hS.cut 0
 exact ⟨rfl, hS⟩
theorem c_ref12_First (w0 : World) {r : Tu} (H : Zgg = some r) : Calls Try.prog 16 #[] w0 fun e w' => ∃ (A0 : OA) (c0 : Nat), e = .returned (.agg #[.int .i64 r.snap.index, .int .i64 r.snap.term, .int .i64 r.snap.sum, .int .i64 r.snap.level, .bool r.snap.final, .slice A0 r.log.length c0, .int .i64 r.term, .int .i64 r.vote]) ∧ (r.log.length ≤ c0 ∧ c0 ≤ maxLen) ∧ St0 All w0 w' [.rd A0 (Yf Jv r.log)] := by
 unfold Zgg at H
 refine gw_enter0 Try.func16 rfl Try.ntmps16 rfl ?_
 have hS := St0.start All w0
 refine Zd (fun K hK1 => ?_)
 refine Zf ?_
 refine Yb rfl rfl Zey hS (fun b2 w hS hB => ?_)
 refine Zg ?_
 refine Zb hK1 ?_
 refine Zd (fun K hK4 => ?_)
 refine Zf ?_
 obtain ⟨r5, hm6, H⟩ := bind_some H
 refine Zo rfl rfl rfl rfl (by kernel_rfl) rfl (Zcv _ hm6) ?_
 rintro e w ⟨rfl, hN⟩; refine ⟨_, rfl, ?_⟩; obtain ⟨hB, hS⟩ := hS.jn hN
 refine Za rfl rfl rfl (Xw (cells := [.int .i64 r5.index, .int .i64 r5.term, .int .i64 r5.sum, .int .i64 r5.level, .bool r5.final, .slice none 0 0, .int .i64 0, .int .i64 0]) rfl (by kernel_rfl)) ?_
 refine Zm rfl rfl rfl CellsOf.agg hS ps0 Zb0 (by kernel_rfl) rfl (fun w hS hB => ?_)
 refine Zg ?_
 refine Zb hK4 ?_
 refine Zk ?_
 refine Zl rfl (RV.cell rfl (Zx Yr hS hs0 Vl) RV.nil) rfl ?_
 obtain rfl := QJ H
 have hS := hS.nilRd
 replace hS := hS.cut 1
 exact ⟨none, 0, rfl, ⟨Nat.le_refl _, Nat.zero_le _⟩, hS⟩
theorem Zdf (x0 : Tu) (A0_ : OA) (c0_ : Nat) (w0 : World) (s0_ : SlI w0 Jv A0_ c0_ x0.log) {r : Tu} (H : Zaj x0 = some r) : Calls Try.prog 41 #[.agg #[.int .i64 x0.snap.index, .int .i64 x0.snap.term, .int .i64 x0.snap.sum, .int .i64 x0.snap.level, .bool x0.snap.final, .slice A0_ x0.log.length c0_, .int .i64 x0.term, .int .i64 x0.vote]] w0 fun e w' => ∃ (A0 : OA) (c0 : Nat), e = .returned (.agg #[.int .i64 r.snap.index, .int .i64 r.snap.term, .int .i64 r.snap.sum, .int .i64 r.snap.level, .bool r.snap.final, .slice A0 r.log.length c0, .int .i64 r.term, .int .i64 r.vote]) ∧ (r.log.length ≤ c0 ∧ c0 ≤ maxLen) ∧ St0 All w0 w' [.row (.slice A0 r.log.length c0) 56 3 r.log.length (Yf Jv r.log)] := by
 unfold Zaj at H
 refine Yn Try.func41 rfl Try.ntmps41 rfl ?_
 have hS := St0.start All w0
 refine Zd (fun K hK1 => ?_)
 refine Zf ?_
 refine Yd rfl rfl rfl CellsOf.agg hS (fun b2 w hS hB => ?_)
 refine Yb rfl rfl Zey hS (fun b4 w hS hB => ?_)
 refine Zg ?_
 refine Zb hK1 ?_
 refine Zd (fun K hK6 => ?_)
 refine Zf ?_
 refine Zfi Y6 rfl rfl hS (fun b7 w hS hB => ?_)
 refine Za rfl rfl rfl (Ze Xz rfl) ?_
 refine Za rfl rfl rfl (Zh Xp rfl (Zgy _) hS X0 trivial Js) ?_
 obtain ⟨l9, hf10, H⟩ := bind_some H
 refine Zbq (ys := x0.log) X5 oc_enE em_24 (by decide) rfl rfl rfl rfl hS (fun _ => ps0) (hS.rd0 s0_.rd) hf10 (fun A11 c12 w k13 hS => ?_)
 refine Za rfl rfl rfl (Ze Xz rfl) ?_
 refine Zm rfl rfl rfl CellsOf.slice hS ps2 st5_1 (by kernel_rfl) rfl (fun w hS hB => ?_)
 refine Zg ?_
 refine Zb hK6 ?_
 refine Zd (fun K hK14 => ?_)
 refine Zf ?_
 refine Za rfl rfl rfl (Zi Yr rfl (Zgy _) hS X0 trivial Vl) ?_
 refine Zm rfl rfl rfl CellsOf.agg hS ps1 Zb0 (by kernel_rfl) rfl (fun w hS hB => ?_)
 refine Zg ?_
 refine Zb hK14 ?_
 refine Zk ?_
 refine Zl rfl (RV.cell rfl (Zx Yr hS Xr Vl) RV.nil) rfl ?_
 obtain rfl := QJ H
 have hS := hS.front 0 rfl
 replace hS := hS.cut 1
 exact ⟨A11, c12, rfl, k13, hS⟩
theorem Zf9 (x0 : Int) (x1 : Int) (x2 : Int) (x3 : Tu) (A0_ : OA) (c0_ : Nat) (w0 : World) (s0_ : SlI w0 Jv A0_ c0_ x3.log) {r : Co} (H : Zbl x0 x1 x2 x3 = some r) : Calls Try.prog 15 #[.int .i64 x0, .int .i64 x1, .int .i64 x2, .agg #[.int .i64 x3.snap.index, .int .i64 x3.snap.term, .int .i64 x3.snap.sum, .int .i64 x3.snap.level, .bool x3.snap.final, .slice A0_ x3.log.length c0_, .int .i64 x3.term, .int .i64 x3.vote]] w0 fun e w' => ∃ (A0 : OA) (c0 : Nat) (A1 : OA) (c1 : Nat) (A2 : OA) (c2 : Nat) (A3 : OA) (c3 : Nat) (A4 : OA) (c4 : Nat), e = .returned (.agg #[.int .i64 r.id, .int .i64 r.n, .int .u8 r.role, .int .i64 r.binary, .int .i64 r.tuple.snap.index, .int .i64 r.tuple.snap.term, .int .i64 r.tuple.snap.sum, .int .i64 r.tuple.snap.level, .bool r.tuple.snap.final, .slice A0 r.tuple.log.length c0, .int .i64 r.tuple.term, .int .i64 r.tuple.vote, .int .i64 r.commit, .int .i64 r.applied.index, .int .i64 r.applied.term, .int .i64 r.applied.sum, .int .i64 r.applied.level, .bool r.applied.final, .slice A1 r.votes.length c1, .slice A2 r.next.length c2, .slice A3 r.mtch.length c3, .slice A4 r.caps.length c4]) ∧ (r.tuple.log.length ≤ c0 ∧ c0 ≤ maxLen) ∧ (r.votes.length ≤ c1 ∧ c1 ≤ maxLen) ∧ (r.next.length ≤ c2 ∧ c2 ≤ maxLen) ∧ (r.mtch.length ≤ c3 ∧ c3 ≤ maxLen) ∧ (r.caps.length ≤ c4 ∧ c4 ≤ maxLen) ∧ St0 All w0 w' [.row (.slice A0 r.tuple.log.length c0) 56 3 r.tuple.log.length (Yf Jv r.tuple.log), .row (.slice A1 r.votes.length c1) 4 1 r.votes.length (Yf enO r.votes), .row (.slice A2 r.next.length c2) 3 1 r.next.length (Yf V9 r.next), .row (.slice A3 r.mtch.length c3) 3 1 r.mtch.length (Yf V9 r.mtch), .row (.slice A4 r.caps.length c4) 3 1 r.caps.length (Yf V9 r.caps)] := by
 unfold Zbl at H
 refine gw_enter4 Try.func15 rfl Try.ntmps15 rfl ?_
 have hS := St0.start All w0
 refine Zd (fun K hK1 => ?_)
 refine Zf ?_
 refine Yd rfl rfl rfl CellsOf.agg hS (fun b2 w hS hB => ?_)
 refine Yb rfl rfl Zex hS (fun b4 w hS hB => ?_)
 refine Zg ?_
 refine Zb hK1 ?_
 refine Zd (fun K hK6 => ?_)
 refine Zd (fun K hK7 => ?_)
 refine Zf ?_
 refine Zc 1 rfl ?_
 refine Za rfl rfl rfl (Xh rfl rfl) ?_
 refine Zc 1 rfl ?_
 refine Zu 13 rfl (fun hb => ?_) (fun hb => ?_)
 ·replace H := Zq H hb
  refine Zc 12 rfl ?_
  refine Zg ?_
  refine Zb hK7 ?_
  refine Zr rfl rfl ?_
  refine Zd (fun K hK8 => ?_)
  refine Zf ?_
  refine Za rfl rfl rfl (Xw (cells := [.int .i64 0, .int .i64 0, .int .u8 0, .int .i64 0, .int .i64 0, .int .i64 0, .int .i64 0, .int .i64 0, .bool false, .slice none 0 0, .int .i64 0, .int .i64 0, .int .i64 0, .int .i64 0, .int .i64 0, .int .i64 0, .int .i64 0, .bool false, .slice none 0 0, .slice none 0 0, .slice none 0 0, .slice none 0 0]) rfl (by kernel_rfl)) ?_
  refine Zm rfl rfl rfl CellsOf.agg hS ps0 Yy (by kernel_rfl) rfl (fun w hS hB => ?_)
  refine Zg ?_
  refine Zb hK8 ?_
  refine Zk ?_
  refine Zj ?_
  refine Zl rfl (RV.cell rfl (Zx Yh hS hs0 Z8) RV.nil) rfl ?_
  obtain rfl := QJ H
  have hS := hS.nilRow 3 1
  have hS := hS.nilRow 3 1
  have hS := hS.nilRow 3 1
  have hS := hS.nilRow 4 1
  have hS := hS.nilRow 56 3
  replace hS := hS.cut 5
  exact ⟨none, 0, none, 0, none, 0, none, 0, none, 0, rfl, ⟨Nat.le_refl _, Nat.zero_le _⟩, ⟨Nat.le_refl _, Nat.zero_le _⟩, ⟨Nat.le_refl _, Nat.zero_le _⟩, ⟨Nat.le_refl _, Nat.zero_le _⟩, ⟨Nat.le_refl _, Nat.zero_le _⟩, hS⟩
 replace H := Zp H hb
 refine Zc 1 rfl ?_
 refine Za rfl rfl rfl (Xa rfl rfl) ?_
 refine Zc 2 rfl ?_
 refine Zu 17 rfl (fun hb => ?_) (fun hb => ?_)
 ·replace H := Zq H hb
  refine Zc 8 rfl ?_
  refine Zg ?_
  refine Zb hK7 ?_
  refine Zr rfl rfl ?_
  refine Zd (fun K hK9 => ?_)
  refine Zf ?_
  refine Za rfl rfl rfl (Xw (cells := [.int .i64 0, .int .i64 0, .int .u8 0, .int .i64 0, .int .i64 0, .int .i64 0, .int .i64 0, .int .i64 0, .bool false, .slice none 0 0, .int .i64 0, .int .i64 0, .int .i64 0, .int .i64 0, .int .i64 0, .int .i64 0, .int .i64 0, .bool false, .slice none 0 0, .slice none 0 0, .slice none 0 0, .slice none 0 0]) rfl (by kernel_rfl)) ?_
  refine Zm rfl rfl rfl CellsOf.agg hS ps0 Yy (by kernel_rfl) rfl (fun w hS hB => ?_)
  refine Zg ?_
  refine Zb hK9 ?_
  refine Zk ?_
  refine Zj ?_
  refine Zl rfl (RV.cell rfl (Zx Yh hS hs0 Z8) RV.nil) rfl ?_
  obtain rfl := QJ H
  have hS := hS.nilRow 3 1
  have hS := hS.nilRow 3 1
  have hS := hS.nilRow 3 1
  have hS := hS.nilRow 4 1
  have hS := hS.nilRow 56 3
  replace hS := hS.cut 5
  exact ⟨none, 0, none, 0, none, 0, none, 0, none, 0, rfl, ⟨Nat.le_refl _, Nat.zero_le _⟩, ⟨Nat.le_refl _, Nat.zero_le _⟩, ⟨Nat.le_refl _, Nat.zero_le _⟩, ⟨Nat.le_refl _, Nat.zero_le _⟩, ⟨Nat.le_refl _, Nat.zero_le _⟩, hS⟩
 replace H := Zp H hb
 refine Zc 1 rfl ?_
 refine Za rfl rfl rfl (Xh rfl rfl) ?_
 refine Zc 2 rfl ?_
 refine Zu 21 rfl (fun hb => ?_) (fun hb => ?_)
 ·replace H := Zq H hb
  refine Zc 4 rfl ?_
  refine Zg ?_
  refine Zb hK7 ?_
  refine Zr rfl rfl ?_
  refine Zd (fun K hK10 => ?_)
  refine Zf ?_
  refine Za rfl rfl rfl (Xw (cells := [.int .i64 0, .int .i64 0, .int .u8 0, .int .i64 0, .int .i64 0, .int .i64 0, .int .i64 0, .int .i64 0, .bool false, .slice none 0 0, .int .i64 0, .int .i64 0, .int .i64 0, .int .i64 0, .int .i64 0, .int .i64 0, .int .i64 0, .bool false, .slice none 0 0, .slice none 0 0, .slice none 0 0, .slice none 0 0]) rfl (by kernel_rfl)) ?_
  refine Zm rfl rfl rfl CellsOf.agg hS ps0 Yy (by kernel_rfl) rfl (fun w hS hB => ?_)
  refine Zg ?_
  refine Zb hK10 ?_
  refine Zk ?_
  refine Zj ?_
  refine Zl rfl (RV.cell rfl (Zx Yh hS hs0 Z8) RV.nil) rfl ?_
  obtain rfl := QJ H
  have hS := hS.nilRow 3 1
  have hS := hS.nilRow 3 1
  have hS := hS.nilRow 3 1
  have hS := hS.nilRow 4 1
  have hS := hS.nilRow 56 3
  replace hS := hS.cut 5
  exact ⟨none, 0, none, 0, none, 0, none, 0, none, 0, rfl, ⟨Nat.le_refl _, Nat.zero_le _⟩, ⟨Nat.le_refl _, Nat.zero_le _⟩, ⟨Nat.le_refl _, Nat.zero_le _⟩, ⟨Nat.le_refl _, Nat.zero_le _⟩, ⟨Nat.le_refl _, Nat.zero_le _⟩, hS⟩
 replace H := Zp H hb
 refine Zc 2 rfl ?_
 refine Za rfl rfl rfl (Xa rfl rfl) ?_
 refine Zc 1 rfl ?_
 refine Zg ?_
 refine Zb hK7 ?_
 refine Zz rfl (fun hb => ?_) (fun hb => ?_)
 ·replace H := Zq H hb
  refine Zd (fun K hK11 => ?_)
  refine Zf ?_
  refine Za rfl rfl rfl (Xw (cells := [.int .i64 0, .int .i64 0, .int .u8 0, .int .i64 0, .int .i64 0, .int .i64 0, .int .i64 0, .int .i64 0, .bool false, .slice none 0 0, .int .i64 0, .int .i64 0, .int .i64 0, .int .i64 0, .int .i64 0, .int .i64 0, .int .i64 0, .bool false, .slice none 0 0, .slice none 0 0, .slice none 0 0, .slice none 0 0]) rfl (by kernel_rfl)) ?_
  refine Zm rfl rfl rfl CellsOf.agg hS ps0 Yy (by kernel_rfl) rfl (fun w hS hB => ?_)
  refine Zg ?_
  refine Zb hK11 ?_
  refine Zk ?_
  refine Zj ?_
  refine Zl rfl (RV.cell rfl (Zx Yh hS hs0 Z8) RV.nil) rfl ?_
  obtain rfl := QJ H
  have hS := hS.nilRow 3 1
  have hS := hS.nilRow 3 1
  have hS := hS.nilRow 3 1
  have hS := hS.nilRow 4 1
  have hS := hS.nilRow 56 3
  replace hS := hS.cut 5
  exact ⟨none, 0, none, 0, none, 0, none, 0, none, 0, rfl, ⟨Nat.le_refl _, Nat.zero_le _⟩, ⟨Nat.le_refl _, Nat.zero_le _⟩, ⟨Nat.le_refl _, Nat.zero_le _⟩, ⟨Nat.le_refl _, Nat.zero_le _⟩, ⟨Nat.le_refl _, Nat.zero_le _⟩, hS⟩
 replace H := Zp H hb
 refine Zt ?_
 refine Zb hK6 ?_
 refine Zd (fun K hK12 => ?_)
 refine Yg 13 [12] (fun i b => (i = 12 → b = b4 ∨ b = b2)) ⟨by kernel_rfl, by kernel_rfl⟩ hS (fun w hS hB => ?_)
 refine Zd8 [⟨11, 9, 30, [.int .i64 0, .int .i64 0, .int .u8 0, .int .i64 0, .int .i64 0, .int .i64 0, .int .i64 0, .int .i64 0, .bool false, .slice none 0 0, .int .i64 0, .int .i64 0, .int .i64 0, .int .i64 0, .int .i64 0, .int .i64 0, .int .i64 0, .bool false, .slice none 0 0, .slice none 0 0, .slice none 0 0, .slice none 0 0]⟩] (.cons rfl Zex rfl rfl rfl .nil) hS (fun hok => ?_)
 dsimp only [List.cons_append, List.nil_append]
 refine Ji [true, true, true, true, false, true, true, true, true, true] [] (fun _ => True) (by decide +kernel) (fun _ h => by cases h) PFC.h (fun X Y tk ht w hS => ?_)
 refine LtK.put rfl rfl rfl (Zs rfl) ?_
 refine LtK.put rfl rfl rfl (Zs rfl) ?_
 refine LtK.put rfl rfl rfl (Zs rfl) ?_
 refine LtK.put rfl rfl rfl (Zi Yr rfl (Zg0 _ _) hS Xr trivial Vl) ?_
 refine LtK.put rfl rfl rfl (Ze Xg rfl) ?_
 refine LtK.put rfl rfl rfl (Ze Yi rfl) ?_
 refine LtK.put rfl rfl rfl (Zh Z0 rfl (Zg0 _ _) hS Xr trivial Y7) ?_
 refine LtK.put rfl rfl rfl (Ze Xg rfl) ?_
 refine LtK.put rfl rfl rfl (Zi Y4 rfl (Zg0 _ _) hS Xr trivial Jl) ?_
 refine Zds ht hS (by repeat (first | exact App.nil | apply App.cons)) (by repeat (first | exact App.nil | apply App.cons)) ?_
 dsimp only [List.cons_append, List.nil_append]
 refine Zch [false, false, false, false, true] 4 hok ⟨by decide, by decide +kernel, by decide, by decide⟩ rfl rfl (fun _ => rfl) (fun _ => rfl) rfl (Ze5 (by decide +kernel)) (fun X Y tk ht w hS => ?_)
 try dsimp only [Zw]
 obtain ⟨r13, hm14, H⟩ := bind_some H
 refine Zo rfl rfl rfl rfl (by kernel_rfl) rfl (Zdf x3 A0_ c0_ _ (Zg1 s0_.k (hS.rd0 s0_.rd) (hS.blk0 s0_.blk)) hm14) ?_
 rintro e w ⟨A15, c16, rfl, k17, hN⟩; refine ⟨_, rfl, ?_⟩; obtain ⟨hB, hS⟩ := hS.jn hN
 refine Zg ?_
 refine Zcp ht hS hB (by repeat (first | exact App.nil | apply App.cons)) (by repeat (first | exact App.nil | apply App.cons)) ?_
 dsimp only [List.cons_append, List.nil_append]
 refine Ji [false, false, false, false, false, false, false, false, false, false, true] [] (fun _ => True) (by decide +kernel) (fun _ h => by cases h) PFC.h (fun X Y tk ht w hS => ?_)
 refine LtK.put rfl rfl rfl (Xw (cells := [.int .i64 x0, .int .i64 x1, .int .u8 0, .int .i64 x2, .int .i64 r13.snap.index, .int .i64 r13.snap.term, .int .i64 r13.snap.sum, .int .i64 r13.snap.level, .bool r13.snap.final, .slice A15 r13.log.length c16, .int .i64 r13.term, .int .i64 r13.vote, .int .i64 x3.snap.index, .int .i64 x3.snap.index, .int .i64 x3.snap.term, .int .i64 x3.snap.sum, .int .i64 x3.snap.level, .bool x3.snap.final, .slice none 0 0, .slice none 0 0, .slice none 0 0, .slice none 0 0]) rfl (by kernel_rfl)) ?_
 refine Zds ht hS (by repeat (first | exact App.nil | apply App.cons)) (by repeat (first | exact App.nil | apply App.cons)) ?_
 dsimp only [List.cons_append, List.nil_append]
 refine Ze8 hok (by decide) (by decide +kernel) (fun _ => rfl) (fun _ => rfl) rfl (fun tk htk w hS => ?_)
 obtain ⟨b19, tkb19, rfl, htk21⟩ := tk_cons htk
 obtain rfl := tk_nil htk21
 dsimp only [tkH, tkL, List.map] at hS ⊢
 refine Yp [false, false, false, false, false, false, false, false, false, false, false, false, true] 12 ⟨by decide, by kernel_rfl, by kernel_rfl⟩ rfl rfl ?_
 try dsimp only [Zw]
 refine Zm rfl rfl rfl CellsOf.agg hS ps3 Yy (by kernel_rfl) rfl (fun w hS hB => ?_)
 refine Zg ?_
 refine Ye (hB.sub (fun b _ h => by have h0 : b = b4 ∨ b = b2 := (by simpa using h); rcases h0 with h0 | h0; (rw [h0]; exact hS.ne 1 3 rfl rfl rfl); (rw [h0]; exact hS.ne 2 3 rfl rfl rfl))) ?_
 refine Z6 (by kernel_rfl) ?_
 refine Zb hK12 ?_
 refine Zd (fun K hK22 => ?_)
 refine Zd (fun K hK23 => ?_)
 refine Zf ?_
 refine Zc 1 rfl ?_
 refine Zg ?_
 refine Zb hK23 ?_
 refine Yc ?_
 replace hS := hS.nilRow 4 1
 replace hS := hS.nilRow 3 1
 replace hS := hS.nilRow 3 1
 replace hS := hS.nilRow 3 1
 refine V0 (X := Nat × Int × List Bool × OA × Nat × List Int × OA × Nat × List Int × OA × Nat × List Int × OA × Nat) (fun x => (0, .int .i64 x0) :: (1, .int .i64 x1) :: (2, .int .i64 x2) :: (7, .pointer (some ⟨b2, 0, none⟩)) :: (8, .pointer (some ⟨b4, 0, none⟩)) :: (9, .pointer (some ⟨b19, 0, none⟩)) :: (10, .int .i64 x.2.1) :: []) (fun x w => St0 All w0 w (.row (.slice x.2.2.2.2.2.2.2.2.2.2.2.2.1 x.2.2.2.2.2.2.2.2.2.2.2.1.length x.2.2.2.2.2.2.2.2.2.2.2.2.2) 3 1 x.2.2.2.2.2.2.2.2.2.2.2.1.length (Yf V9 x.2.2.2.2.2.2.2.2.2.2.2.1) :: .row (.slice x.2.2.2.2.2.2.2.2.2.1 x.2.2.2.2.2.2.2.2.1.length x.2.2.2.2.2.2.2.2.2.2.1) 3 1 x.2.2.2.2.2.2.2.2.1.length (Yf V9 x.2.2.2.2.2.2.2.2.1) :: .row (.slice x.2.2.2.2.2.2.1 x.2.2.2.2.2.1.length x.2.2.2.2.2.2.2.1) 3 1 x.2.2.2.2.2.1.length (Yf V9 x.2.2.2.2.2.1) :: .row (.slice x.2.2.2.1 x.2.2.1.length x.2.2.2.2.1) 4 1 x.2.2.1.length (Yf enO x.2.2.1) :: .row (.slice A15 r13.log.length c16) 56 3 r13.log.length (Yf Jv r13.log) :: .box b4 [.int .i64 0, .int .i64 0, .int .u8 0, .int .i64 0, .int .i64 0, .int .i64 0, .int .i64 0, .int .i64 0, .bool false, .slice none 0 0, .int .i64 0, .int .i64 0, .int .i64 0, .int .i64 0, .int .i64 0, .int .i64 0, .int .i64 0, .bool false, .slice none 0 0, .slice none 0 0, .slice none 0 0, .slice none 0 0] 30 :: .box b2 [.int .i64 x3.snap.index, .int .i64 x3.snap.term, .int .i64 x3.snap.sum, .int .i64 x3.snap.level, .bool x3.snap.final, .slice A0_ x3.log.length c0_, .int .i64 x3.term, .int .i64 x3.vote] 26 :: .box b19 [.int .i64 x0, .int .i64 x1, .int .u8 0, .int .i64 x2, .int .i64 r13.snap.index, .int .i64 r13.snap.term, .int .i64 r13.snap.sum, .int .i64 r13.snap.level, .bool r13.snap.final, .slice A15 r13.log.length c16, .int .i64 r13.term, .int .i64 r13.vote, .int .i64 x3.snap.index, .int .i64 x3.snap.index, .int .i64 x3.snap.term, .int .i64 x3.snap.sum, .int .i64 x3.snap.level, .bool x3.snap.final, .slice x.2.2.2.1 x.2.2.1.length x.2.2.2.2.1, .slice x.2.2.2.2.2.2.1 x.2.2.2.2.2.1.length x.2.2.2.2.2.2.2.1, .slice x.2.2.2.2.2.2.2.2.2.1 x.2.2.2.2.2.2.2.2.1.length x.2.2.2.2.2.2.2.2.2.2.1, .slice x.2.2.2.2.2.2.2.2.2.2.2.2.1 x.2.2.2.2.2.2.2.2.2.2.2.1.length x.2.2.2.2.2.2.2.2.2.2.2.2.2] 30 :: []) ∧ (x.2.2.1.length ≤ x.2.2.2.2.1 ∧ x.2.2.2.2.1 ≤ maxLen) ∧ (x.2.2.2.2.2.1.length ≤ x.2.2.2.2.2.2.2.1 ∧ x.2.2.2.2.2.2.2.1 ≤ maxLen) ∧ (x.2.2.2.2.2.2.2.2.1.length ≤ x.2.2.2.2.2.2.2.2.2.2.1 ∧ x.2.2.2.2.2.2.2.2.2.2.1 ≤ maxLen) ∧ (x.2.2.2.2.2.2.2.2.2.2.2.1.length ≤ x.2.2.2.2.2.2.2.2.2.2.2.2.2 ∧ x.2.2.2.2.2.2.2.2.2.2.2.2.2 ≤ maxLen) ∧ Zas x0 x1 x2 x3 r13 x.1 x.2.1 x.2.2.1 x.2.2.2.2.2.1 x.2.2.2.2.2.2.2.2.1 x.2.2.2.2.2.2.2.2.2.2.2.1 = some r) (fun x => x.1) (Xn, 1, [], none, 0, [], none, 0, [], none, 0, [], none, 0) (by repeat (first | exact Sub.nil | refine Sub.cons rfl ?_)) ⟨hS, ⟨Nat.le_refl _, Nat.zero_le _⟩, ⟨Nat.le_refl _, Nat.zero_le _⟩, ⟨Nat.le_refl _, Nat.zero_le _⟩, ⟨Nat.le_refl _, Nat.zero_le _⟩, H⟩ ?_
 rintro ⟨n, v24, v25, A26, c27, v30, A31, c32, v35, A36, c37, v40, A41, c42⟩ w ⟨hS, k28, k33, k38, k43, H⟩
 dsimp only at hS k28 k33 k38 k43 H ⊢
 obtain _ | n := n
 ·have H0 : none = some r := H
  cases H0
 rw [Zas] at H
 refine Zd (fun K hK45 => ?_)
 refine Zd (fun K hK46 => ?_)
 refine Zf ?_
 refine Zc 2 rfl ?_
 refine Za rfl rfl rfl (Zah rfl rfl) ?_
 refine Zg ?_
 refine Zb hK46 ?_
 refine Zz rfl (fun hb => ?_) (fun hb => ?_)
 rotate_left
 ·replace H := Zp H hb
  refine Vj ?_
  refine Ya ?_
  refine Ya ?_
  refine Y3 ?_
  refine Zb hK22 ?_
  refine Zd (fun K hK81 => ?_)
  refine Zf ?_
  refine Za rfl rfl rfl (Ze Zaa rfl) ?_
  refine Za rfl rfl rfl (Zh Xt rfl (Zgy _) hS hs7 trivial Zdr) ?_
  refine Zc 1 rfl ?_
  refine Za rfl rfl rfl (J0 rfl rfl) ?_
  refine Zc 1 rfl ?_
  obtain ⟨e82, hi84, H⟩ := bind_some H
  obtain ⟨j83, hi84a, hi84b, hi84c⟩ := Yw hi84
  refine Za rfl rfl rfl (Y8 Xm rfl rfl hi84a hi84c (Rd.el (hS.row_rd hs0) Yl hi84b)) ?_
  refine wpX_storeR (a' := x2) (zs := (Zen v40 (IntKind.wrap .i64 (x0 - 1)) x2)) Yl rfl rfl rfl CellsOf.int hS ps0 (Rd.el (hS.row_rd hs0) Yl hi84b) hi84a hi84b rfl st0_1 (by kernel_rfl) rfl (fun w hS => ?_)
  have hi85b := setI_at (a := x2) hi84a hi84b
  have hi85a := hi84a
  refine Zg ?_
  refine Zb hK81 ?_
  refine Zd (fun K hK86 => ?_)
  refine Zf ?_
  refine Za rfl rfl rfl (Zi Yh rfl (Zgy _) hS hs7 trivial Z8) ?_
  refine Zm rfl rfl rfl CellsOf.agg hS ps5 Yy (by kernel_rfl) rfl (fun w hS hB => ?_)
  refine Zg ?_
  refine Zb hK86 ?_
  refine Zk ?_
  refine Zl rfl (RV.cell rfl (Zx Yh hS hs5 Z8) RV.nil) rfl ?_
  obtain rfl := QJ H
  have hS := hS.front 0 rfl
  have hS := hS.front 1 rfl
  have hS := hS.front 2 rfl
  have hS := hS.front 3 rfl
  have hS := hS.front 4 rfl
  replace hS := hS.cut 5
  exact ⟨A15, c16, A26, c27, A31, c32, A36, c37, A41, c42, by (repeat rw [(Zcc rfl)]); rfl, k17, k28, k33, k38, (k_set k43), hS.eqv (by (repeat rw [(Zcc rfl)]); rfl)⟩
 replace H := Zq H hb
 refine Zt ?_
 refine Zb hK45 ?_
 refine Zd (fun K hK47 => ?_)
 refine Yc ?_
 refine Zd (fun K hK48 => ?_)
 refine Zf ?_
 refine Za rfl rfl rfl (Ze Zb2 rfl) ?_
 refine Za rfl rfl rfl (Zh sc_27 rfl (Zgy _) hS hs7 trivial Zgj) ?_
 refine Yx (ps := [(0, .const (.bool false))]) [.bool false] el_27 zc_4 rfl rfl rfl rfl rfl (by kernel_rfl) hS (fun b49 w hS hB => ?_)
 obtain ⟨l51, hf52, H⟩ := bind_some H
 refine Zbq (ys := ([false] : List Bool)) he_enO oc_enO em_27 (by decide) rfl rfl rfl rfl hS (fun _ => ps4) (hS.box_rd hs0) hf52 (fun A53 c54 w k55 hS => ?_)
 refine Za rfl rfl rfl (Ze Zb2 rfl) ?_
 refine Zm rfl rfl rfl CellsOf.slice hS ps8 st18_1 (by kernel_rfl) rfl (fun w hS hB => ?_)
 refine Zg ?_
 refine Zb hK48 ?_
 refine Zd (fun K hK56 => ?_)
 refine Yg 9 [6, 8] (fun i b => (i = 6 → False) ∧ (i = 8 → b ≠ b19)) ⟨by kernel_rfl, by kernel_rfl⟩ hS (fun w hS hB => ?_)
 refine Y2 [true] [6] (fun _ => False) (by decide +kernel) (by intro j hj b hb; simp only [List.mem_cons, List.not_mem_nil, or_false] at hj; (try rcases hj with rfl | rfl | rfl | rfl | rfl) <;> first | (simp [hb]; done) | simp_all) PFC.h ?_
 refine LtK.put rfl rfl rfl (Ze Vm rfl) ?_
 refine LtK.nil ?_
 refine Zn [false, true] (by decide +kernel) PFC.h ?_
 refine LtK.put rfl rfl rfl (Zh Xt rfl (Zgz _) hS hs8 trivial Jz) ?_
 refine LtK.nil ?_
 refine Z4 [false, false, true] 2 ⟨by decide, by kernel_rfl, by kernel_rfl⟩ rfl rfl ?_
 try dsimp only [Zw]
 refine Za rfl rfl rfl (Zi Yr rfl (Zgy _) hS hs7 trivial Vl) ?_
 refine Zg ?_
 refine Z7 (Below.refl _ _) ?_
 refine Z4 [false, false, false, true] 3 ⟨by decide, by kernel_rfl, by kernel_rfl⟩ rfl rfl ?_
 try dsimp only [Zw]
 obtain ⟨r57, hm58, H⟩ := bind_some H
 refine Zo rfl rfl rfl rfl (by kernel_rfl) rfl (Zag x3 A0_ c0_ _ (Zg1 s0_.k (hS.rd0 s0_.rd) (hS.blk0 s0_.blk)) hm58) ?_
 rintro e w ⟨rfl, hN⟩; refine ⟨_, rfl, ?_⟩; obtain ⟨hB, hS⟩ := hS.jn hN
 refine Zg ?_
 refine Z7 hB ?_
 refine Y2 [false, false, false, false, true] [6] (fun _ => False) (by decide +kernel) (by intro j hj b hb; simp only [List.mem_cons, List.not_mem_nil, or_false] at hj; (try rcases hj with rfl | rfl | rfl | rfl | rfl) <;> first | (simp [hb]; done) | simp_all) PFC.h ?_
 refine LtK.put rfl rfl rfl (Xf rfl rfl) ?_
 refine LtK.nil ?_
 refine Z4 [false, false, false, false, false, true] 5 ⟨by decide, by kernel_rfl, by kernel_rfl⟩ rfl rfl ?_
 try dsimp only [Zw]
 refine Yx (ps := [(0, .tmp 52)]) [.int .i64 (IntKind.wrap .i64 (r57 + 1))] Xm zc_3 rfl rfl rfl rfl rfl (by kernel_rfl) hS (fun b59 w hS hB => ?_)
 refine Zg ?_
 refine Z7 hB ?_
 refine Yp [false, false, false, false, false, false, true] 6 ⟨by decide, by kernel_rfl, by kernel_rfl⟩ rfl rfl ?_
 try dsimp only [Zw]
 obtain ⟨l61, hf62, H⟩ := bind_some H
 refine wpX_append2 (ys := ([(IntKind.wrap .i64 (r57 + 1))] : List Int)) Yl oc_enI em_28 (by decide) rfl rfl rfl rfl hS (fun _ => ps4) (hS.box_rd hs0) hf62 (fun A63 c64 w k65 hS hB => ?_)
 refine Zg ?_
 refine Ye (hB.sub (fun _ _ h => by simp at h)) ?_
 refine Zn [false, false, false, false, false, false, false, true] (by decide +kernel) PFC.h ?_
 refine LtK.put rfl rfl rfl (Ze Vm rfl) ?_
 refine LtK.nil ?_
 refine Yp [false, false, false, false, false, false, false, false, true] 8 ⟨by decide, by kernel_rfl, by kernel_rfl⟩ rfl rfl ?_
 try dsimp only [Zw]
 refine Zm rfl rfl rfl CellsOf.slice hS ps9 st19_1 (by kernel_rfl) rfl (fun w hS hB => ?_)
 refine Zg ?_
 refine Ye (hB.sub (fun _ _ h => by simpa using h)) ?_
 refine Z6 (by kernel_rfl) ?_
 refine Zb hK56 ?_
 refine Zd (fun K hK66 => ?_)
 refine Zf ?_
 refine Za rfl rfl rfl (Ze V3 rfl) ?_
 refine Za rfl rfl rfl (Zh Xt rfl (Zgy _) hS hs9 trivial Zat) ?_
 refine Yx (ps := [(0, .const (.int .i64 0))]) [.int .i64 0] Xm zc_3 rfl rfl rfl rfl rfl (by kernel_rfl) hS (fun b67 w hS hB => ?_)
 obtain ⟨l69, hf70, H⟩ := bind_some H
 refine Zbq (ys := ([0] : List Int)) Yl oc_enI em_28 (by decide) rfl rfl rfl rfl hS (fun _ => ps4) (hS.box_rd hs0) hf70 (fun A71 c72 w k73 hS => ?_)
 refine Za rfl rfl rfl (Ze V3 rfl) ?_
 refine Zm rfl rfl rfl CellsOf.slice hS ps10 st20_1 (by kernel_rfl) rfl (fun w hS hB => ?_)
 refine Zg ?_
 refine Zb hK66 ?_
 refine Zf ?_
 refine Za rfl rfl rfl (Ze Zaa rfl) ?_
 refine Za rfl rfl rfl (Zh Xt rfl (Zgy _) hS Zei trivial Zdr) ?_
 refine Yx (ps := [(0, .const (.int .i64 0))]) [.int .i64 0] Xm zc_3 rfl rfl rfl rfl rfl (by kernel_rfl) hS (fun b74 w hS hB => ?_)
 obtain ⟨l76, hf77, H⟩ := bind_some H
 refine Zbq (ys := ([0] : List Int)) Yl oc_enI em_28 (by decide) rfl rfl rfl rfl hS (fun _ => ps4) (hS.box_rd hs0) hf77 (fun A78 c79 w k80 hS => ?_)
 refine Za rfl rfl rfl (Ze Zaa rfl) ?_
 refine Zm rfl rfl rfl CellsOf.slice hS ps11 st21_1 (by kernel_rfl) rfl (fun w hS hB => ?_)
 refine Zg ?_
 refine Z2 ?_
 refine Zb hK47 ?_
 refine Zf ?_
 refine Zc 1 rfl ?_
 refine Za rfl rfl rfl (Xf rfl rfl) ?_
 refine Zc 1 rfl ?_
 refine Zg ?_
 exact Va (n, (IntKind.wrap .i64 (v24 + 1)), l51, A53, c54, l61, A63, c64, l69, A71, c72, l76, A78, c79) (by repeat (first | exact Sub.nil | refine Sub.cons rfl ?_)) ⟨(hS.sub (List.Sublist.cons _ (List.Sublist.cons _ (List.Sublist.cons _ (List.Sublist.cons _ (List.Sublist.cons_cons _ (List.Sublist.cons_cons _ (List.Sublist.cons_cons _ (List.Sublist.cons_cons _ (List.Sublist.cons_cons _ (List.Sublist.cons_cons _ (List.Sublist.cons_cons _ (List.Sublist.cons_cons _ List.Sublist.slnil))))))))))))), k55, k65, k73, k80, H⟩ (Nat.lt_succ_self _)
theorem Zck (x0 : List En) (A0_ : OA) (c0_ : Nat) (w0 : World) (s0_ : SlI w0 Jv A0_ c0_ x0) {r : List En} (H : X9 x0 = some r) : Calls Try.prog 83 #[.slice A0_ x0.length c0_] w0 fun e w' => ∃ (A0 : OA) (c0 : Nat), e = .returned (.slice A0 r.length c0) ∧ (r.length ≤ c0 ∧ c0 ≤ maxLen) ∧ St0 All w0 w' [.row (.slice A0 r.length c0) 56 3 r.length (Yf Jv r)] := by
 unfold X9 at H
 obtain ⟨rfl, hfew⟩ := Zd5 H
 cases A0_ with
 | none =>
  obtain rfl : r = [] := by
   cases r with
   | nil => rfl
   | cons e l => obtain ⟨b, o, h, _⟩ := s0_.rd 0 _ rfl; cases h
  refine Yn Try.func83 rfl Try.ntmps83 rfl ?_
  have hS := St0.start All w0
  refine Zd (fun K hK1 => ?_)
  refine Zf ?_
  refine Zc 1 rfl ?_
  refine Zg ?_
  refine Zb hK1 ?_
  refine Zd (fun K hK2 => ?_)
  refine Zd (fun K hK3 => ?_)
  refine Zf ?_
  refine Zc 1 rfl ?_
  refine Za rfl rfl rfl (Zde (e := 56) (by kernel_rfl) rfl rfl) ?_
  refine Zg ?_
  refine Zb hK3 ?_
  refine Zr rfl rfl ?_
  refine Zd (fun K hK4 => ?_)
  refine Zf ?_
  refine Zc 1 rfl ?_
  refine Zg ?_
  refine Zb hK4 ?_
  refine Zk ?_
  refine Zj ?_
  refine Zl rfl (RV.tmp rfl RV.nil) rfl ?_
  have hS := hS.nilRow 56 3
  replace hS := hS.cut 1
  exact ⟨none, 0, rfl, ⟨Nat.le_refl _, Nat.zero_le _⟩, hS⟩
 | some a0 =>
  refine Yn Try.func83 rfl Try.ntmps83 rfl ?_
  have hS := St0.start All w0
  have H : (Zfm ([] ++ r)).bind (fun z => some z) = some r := by rw [List.nil_append, H]; rfl
  refine Zd (fun K hK5 => ?_)
  refine Zf ?_
  refine Zc 1 rfl ?_
  refine Zg ?_
  refine Zb hK5 ?_
  refine Zd (fun K hK6 => ?_)
  refine Zd (fun K hK7 => ?_)
  refine Zf ?_
  refine Zc 1 rfl ?_
  refine Za rfl rfl rfl (Zde (e := 56) (by kernel_rfl) rfl rfl) ?_
  refine Zg ?_
  refine Zb hK7 ?_
  refine Yo rfl rfl ?_
  refine Zt ?_
  refine Zb hK6 ?_
  refine Zd (fun K hK8 => ?_)
  refine Zf ?_
  refine Zfi Y6 rfl rfl hS (fun b9 w hS hB => ?_)
  refine Zc 1 rfl ?_
  obtain ⟨l11, hf12, H⟩ := bind_some H
  refine Zbq (ys := r) X5 oc_enE em_24 (by decide) rfl rfl rfl rfl hS (fun _ => ps0) (hS.rd0 s0_.rd) hf12 (fun A13 c14 w k15 hS => ?_)
  refine Zc 1 rfl ?_
  refine Zg ?_
  refine Zb hK8 ?_
  refine Zk ?_
  refine Zl rfl (RV.tmp rfl RV.nil) rfl ?_
  obtain rfl := QJ H
  have hS := hS.front 0 rfl
  replace hS := hS.cut 1
  exact ⟨A13, c14, rfl, k15, hS⟩
theorem c_tuple_Own (x0 : Tu) (A0_ : OA) (c0_ : Nat) (w0 : World) (s0_ : SlI w0 Jv A0_ c0_ x0.log) {r : Tu} (H : Zf4 x0 = some r) : Calls Try.prog 70 #[.agg #[.int .i64 x0.snap.index, .int .i64 x0.snap.term, .int .i64 x0.snap.sum, .int .i64 x0.snap.level, .bool x0.snap.final, .slice A0_ x0.log.length c0_, .int .i64 x0.term, .int .i64 x0.vote]] w0 fun e w' => ∃ (A0 : OA) (c0 : Nat), e = .returned (.agg #[.int .i64 r.snap.index, .int .i64 r.snap.term, .int .i64 r.snap.sum, .int .i64 r.snap.level, .bool r.snap.final, .slice A0 r.log.length c0, .int .i64 r.term, .int .i64 r.vote]) ∧ (r.log.length ≤ c0 ∧ c0 ≤ maxLen) ∧ St0 All w0 w' [.row (.slice A0 r.log.length c0) 56 3 r.log.length (Yf Jv r.log)] := by
 unfold Zf4 at H
 refine Yn Try.func70 rfl Try.ntmps70 rfl ?_
 have hS := St0.start All w0
 refine Zd (fun K hK1 => ?_)
 refine Zf ?_
 refine Yd rfl rfl rfl CellsOf.agg hS (fun b2 w hS hB => ?_)
 refine Yb rfl rfl Zey hS (fun b4 w hS hB => ?_)
 refine Zg ?_
 refine Zb hK1 ?_
 refine Zd (fun K hK6 => ?_)
 refine Zf ?_
 refine Za rfl rfl rfl (Ze Xz rfl) ?_
 refine Za rfl rfl rfl (Zh Xp rfl (Zgy _) hS Xr trivial Js) ?_
 obtain ⟨r7, hm8, H⟩ := bind_some H
 refine Zo rfl rfl rfl rfl (by kernel_rfl) rfl (Zck x0.log A0_ c0_ _ (Zg1 s0_.k (hS.rd0 s0_.rd) (hS.blk0 s0_.blk)) hm8) ?_
 rintro e w ⟨A9, c10, rfl, k11, hN⟩; refine ⟨_, rfl, ?_⟩; obtain ⟨hB, hS⟩ := hS.jn hN
 refine Za rfl rfl rfl (Ze Xz rfl) ?_
 refine Zm rfl rfl rfl CellsOf.slice hS ps2 st5_1 (by kernel_rfl) rfl (fun w hS hB => ?_)
 refine Zg ?_
 refine Zb hK6 ?_
 refine Zd (fun K hK13 => ?_)
 refine Zf ?_
 refine Za rfl rfl rfl (Zi Yr rfl (Zgy _) hS X0 trivial Vl) ?_
 refine Zm rfl rfl rfl CellsOf.agg hS ps1 Zb0 (by kernel_rfl) rfl (fun w hS hB => ?_)
 refine Zg ?_
 refine Zb hK13 ?_
 refine Zk ?_
 refine Zl rfl (RV.cell rfl (Zx Yr hS Xr Vl) RV.nil) rfl ?_
 obtain rfl := QJ H
 have hS := hS.front 0 rfl
 replace hS := hS.cut 1
 exact ⟨A9, c10, rfl, k11, hS⟩
theorem Ze1 (x0 : List Bool) (A0_ : OA) (c0_ : Nat) (w0 : World) (s0_ : SlI w0 enO A0_ c0_ x0) {r : List Bool} (H : Jg x0 = some r) : Calls Try.prog 71 #[.slice A0_ x0.length c0_] w0 fun e w' => ∃ (A0 : OA) (c0 : Nat), e = .returned (.slice A0 r.length c0) ∧ (r.length ≤ c0 ∧ c0 ≤ maxLen) ∧ St0 All w0 w' [.row (.slice A0 r.length c0) 4 1 r.length (Yf enO r)] := by
 unfold Jg at H
 obtain ⟨rfl, hfew⟩ := Zd5 H
 cases A0_ with
 | none =>
  obtain rfl : r = [] := by
   cases r with
   | nil => rfl
   | cons e l => obtain ⟨b, o, h, _⟩ := s0_.rd 0 _ rfl; cases h
  refine Yn Try.func71 rfl Try.ntmps71 rfl ?_
  have hS := St0.start All w0
  refine Zd (fun K hK1 => ?_)
  refine Zf ?_
  refine Zc 1 rfl ?_
  refine Zg ?_
  refine Zb hK1 ?_
  refine Zd (fun K hK2 => ?_)
  refine Zd (fun K hK3 => ?_)
  refine Zf ?_
  refine Zc 1 rfl ?_
  refine Za rfl rfl rfl (Zde (e := 4) (by kernel_rfl) rfl rfl) ?_
  refine Zg ?_
  refine Zb hK3 ?_
  refine Zr rfl rfl ?_
  refine Zd (fun K hK4 => ?_)
  refine Zf ?_
  refine Zc 1 rfl ?_
  refine Zg ?_
  refine Zb hK4 ?_
  refine Zk ?_
  refine Zj ?_
  refine Zl rfl (RV.tmp rfl RV.nil) rfl ?_
  have hS := hS.nilRow 4 1
  replace hS := hS.cut 1
  exact ⟨none, 0, rfl, ⟨Nat.le_refl _, Nat.zero_le _⟩, hS⟩
 | some a0 =>
  refine Yn Try.func71 rfl Try.ntmps71 rfl ?_
  have hS := St0.start All w0
  have H : (Zfm ([] ++ r)).bind (fun z => some z) = some r := by rw [List.nil_append, H]; rfl
  refine Zd (fun K hK5 => ?_)
  refine Zf ?_
  refine Zc 1 rfl ?_
  refine Zg ?_
  refine Zb hK5 ?_
  refine Zd (fun K hK6 => ?_)
  refine Zd (fun K hK7 => ?_)
  refine Zf ?_
  refine Zc 1 rfl ?_
  refine Za rfl rfl rfl (Zde (e := 4) (by kernel_rfl) rfl rfl) ?_
  refine Zg ?_
  refine Zb hK7 ?_
  refine Yo rfl rfl ?_
  refine Zt ?_
  refine Zb hK6 ?_
  refine Zd (fun K hK8 => ?_)
  refine Zf ?_
  refine Zfi el_27 rfl rfl hS (fun b9 w hS hB => ?_)
  refine Zc 1 rfl ?_
  obtain ⟨l11, hf12, H⟩ := bind_some H
  refine Zbq (ys := r) he_enO oc_enO em_27 (by decide) rfl rfl rfl rfl hS (fun _ => ps0) (hS.rd0 s0_.rd) hf12 (fun A13 c14 w k15 hS => ?_)
  refine Zc 1 rfl ?_
  refine Zg ?_
  refine Zb hK8 ?_
  refine Zk ?_
  refine Zl rfl (RV.tmp rfl RV.nil) rfl ?_
  obtain rfl := QJ H
  have hS := hS.front 0 rfl
  replace hS := hS.cut 1
  exact ⟨A13, c14, rfl, k15, hS⟩
theorem Zav (x0 : List Int) (A0_ : OA) (c0_ : Nat) (w0 : World) (s0_ : SlI w0 V9 A0_ c0_ x0) {r : List Int} (H : Vk x0 = some r) : Calls Try.prog 72 #[.slice A0_ x0.length c0_] w0 fun e w' => ∃ (A0 : OA) (c0 : Nat), e = .returned (.slice A0 r.length c0) ∧ (r.length ≤ c0 ∧ c0 ≤ maxLen) ∧ St0 All w0 w' [.row (.slice A0 r.length c0) 3 1 r.length (Yf V9 r)] := by
 unfold Vk at H
 obtain ⟨rfl, hfew⟩ := Zd5 H
 cases A0_ with
 | none =>
  obtain rfl : r = [] := by
   cases r with
   | nil => rfl
   | cons e l => obtain ⟨b, o, h, _⟩ := s0_.rd 0 _ rfl; cases h
  refine Yn Try.func72 rfl Try.ntmps72 rfl ?_
  have hS := St0.start All w0
  refine Zd (fun K hK1 => ?_)
  refine Zf ?_
  refine Zc 1 rfl ?_
  refine Zg ?_
  refine Zb hK1 ?_
  refine Zd (fun K hK2 => ?_)
  refine Zd (fun K hK3 => ?_)
  refine Zf ?_
  refine Zc 1 rfl ?_
  refine Za rfl rfl rfl (Zde (e := 3) (by kernel_rfl) rfl rfl) ?_
  refine Zg ?_
  refine Zb hK3 ?_
  refine Zr rfl rfl ?_
  refine Zd (fun K hK4 => ?_)
  refine Zf ?_
  refine Zc 1 rfl ?_
  refine Zg ?_
  refine Zb hK4 ?_
  refine Zk ?_
  refine Zj ?_
  refine Zl rfl (RV.tmp rfl RV.nil) rfl ?_
  have hS := hS.nilRow 3 1
  replace hS := hS.cut 1
  exact ⟨none, 0, rfl, ⟨Nat.le_refl _, Nat.zero_le _⟩, hS⟩
 | some a0 =>
  refine Yn Try.func72 rfl Try.ntmps72 rfl ?_
  have hS := St0.start All w0
  have H : (Zfm ([] ++ r)).bind (fun z => some z) = some r := by rw [List.nil_append, H]; rfl
  refine Zd (fun K hK5 => ?_)
  refine Zf ?_
  refine Zc 1 rfl ?_
  refine Zg ?_
  refine Zb hK5 ?_
  refine Zd (fun K hK6 => ?_)
  refine Zd (fun K hK7 => ?_)
  refine Zf ?_
  refine Zc 1 rfl ?_
  refine Za rfl rfl rfl (Zde (e := 3) (by kernel_rfl) rfl rfl) ?_
  refine Zg ?_
  refine Zb hK7 ?_
  refine Yo rfl rfl ?_
  refine Zt ?_
  refine Zb hK6 ?_
  refine Zd (fun K hK8 => ?_)
  refine Zf ?_
  refine Zfi Xm rfl rfl hS (fun b9 w hS hB => ?_)
  refine Zc 1 rfl ?_
  obtain ⟨l11, hf12, H⟩ := bind_some H
  refine Zbq (ys := r) Yl oc_enI em_28 (by decide) rfl rfl rfl rfl hS (fun _ => ps0) (hS.rd0 s0_.rd) hf12 (fun A13 c14 w k15 hS => ?_)
  refine Zc 1 rfl ?_
  refine Zg ?_
  refine Zb hK8 ?_
  refine Zk ?_
  refine Zl rfl (RV.tmp rfl RV.nil) rfl ?_
  obtain rfl := QJ H
  have hS := hS.front 0 rfl
  replace hS := hS.cut 1
  exact ⟨A13, c14, rfl, k15, hS⟩
theorem Zd2 (x0 : Co) (A0_ : OA) (c0_ : Nat) (A1_ : OA) (c1_ : Nat) (A2_ : OA) (c2_ : Nat) (A3_ : OA) (c3_ : Nat) (A4_ : OA) (c4_ : Nat) (w0 : World) (s0_ : SlI w0 Jv A0_ c0_ x0.tuple.log) (s1_ : SlI w0 enO A1_ c1_ x0.votes) (s2_ : SlI w0 V9 A2_ c2_ x0.next) (s3_ : SlI w0 V9 A3_ c3_ x0.mtch) (s4_ : SlI w0 V9 A4_ c4_ x0.caps) {r : Co} (H : Zbb x0 = some r) : Calls Try.prog 43 #[.agg #[.int .i64 x0.id, .int .i64 x0.n, .int .u8 x0.role, .int .i64 x0.binary, .int .i64 x0.tuple.snap.index, .int .i64 x0.tuple.snap.term, .int .i64 x0.tuple.snap.sum, .int .i64 x0.tuple.snap.level, .bool x0.tuple.snap.final, .slice A0_ x0.tuple.log.length c0_, .int .i64 x0.tuple.term, .int .i64 x0.tuple.vote, .int .i64 x0.commit, .int .i64 x0.applied.index, .int .i64 x0.applied.term, .int .i64 x0.applied.sum, .int .i64 x0.applied.level, .bool x0.applied.final, .slice A1_ x0.votes.length c1_, .slice A2_ x0.next.length c2_, .slice A3_ x0.mtch.length c3_, .slice A4_ x0.caps.length c4_]] w0 fun e w' => ∃ (A0 : OA) (c0 : Nat) (A1 : OA) (c1 : Nat) (A2 : OA) (c2 : Nat) (A3 : OA) (c3 : Nat) (A4 : OA) (c4 : Nat), e = .returned (.agg #[.int .i64 r.id, .int .i64 r.n, .int .u8 r.role, .int .i64 r.binary, .int .i64 r.tuple.snap.index, .int .i64 r.tuple.snap.term, .int .i64 r.tuple.snap.sum, .int .i64 r.tuple.snap.level, .bool r.tuple.snap.final, .slice A0 r.tuple.log.length c0, .int .i64 r.tuple.term, .int .i64 r.tuple.vote, .int .i64 r.commit, .int .i64 r.applied.index, .int .i64 r.applied.term, .int .i64 r.applied.sum, .int .i64 r.applied.level, .bool r.applied.final, .slice A1 r.votes.length c1, .slice A2 r.next.length c2, .slice A3 r.mtch.length c3, .slice A4 r.caps.length c4]) ∧ (r.tuple.log.length ≤ c0 ∧ c0 ≤ maxLen) ∧ (r.votes.length ≤ c1 ∧ c1 ≤ maxLen) ∧ (r.next.length ≤ c2 ∧ c2 ≤ maxLen) ∧ (r.mtch.length ≤ c3 ∧ c3 ≤ maxLen) ∧ (r.caps.length ≤ c4 ∧ c4 ≤ maxLen) ∧ St0 All w0 w' [.row (.slice A0 r.tuple.log.length c0) 56 3 r.tuple.log.length (Yf Jv r.tuple.log), .row (.slice A1 r.votes.length c1) 4 1 r.votes.length (Yf enO r.votes), .row (.slice A2 r.next.length c2) 3 1 r.next.length (Yf V9 r.next), .row (.slice A3 r.mtch.length c3) 3 1 r.mtch.length (Yf V9 r.mtch), .row (.slice A4 r.caps.length c4) 3 1 r.caps.length (Yf V9 r.caps)] := by
 unfold Zbb at H
 refine Yn Try.func43 rfl Try.ntmps43 rfl ?_
 have hS := St0.start All w0
 refine Zd (fun K hK1 => ?_)
 refine Zf ?_
 refine Yd rfl rfl rfl CellsOf.agg hS (fun b2 w hS hB => ?_)
 refine Yb rfl rfl Zex hS (fun b4 w hS hB => ?_)
 refine Zg ?_
 refine Zb hK1 ?_
 refine Zd (fun K hK6 => ?_)
 refine Zf ?_
 refine Za rfl rfl rfl (Ze Yz rfl) ?_
 refine Za rfl rfl rfl (Zi Yr rfl (Zgy _) hS Xr trivial Jw) ?_
 obtain ⟨r7, hm8, H⟩ := bind_some H
 refine Zo rfl rfl rfl rfl (by kernel_rfl) rfl (c_tuple_Own x0.tuple A0_ c0_ _ (Zg1 s0_.k (hS.rd0 s0_.rd) (hS.blk0 s0_.blk)) hm8) ?_
 rintro e w ⟨A9, c10, rfl, k11, hN⟩; refine ⟨_, rfl, ?_⟩; obtain ⟨hB, hS⟩ := hS.jn hN
 refine Za rfl rfl rfl (Ze Yz rfl) ?_
 refine Zm rfl rfl rfl CellsOf.agg hS ps2 st4_8 (by kernel_rfl) rfl (fun w hS hB => ?_)
 refine Zg ?_
 refine Zb hK6 ?_
 refine Zd (fun K hK13 => ?_)
 refine Yg 20 [13, 15, 17, 19] (fun i b => (i = 13 → b ≠ b2) ∧ (i = 15 → b ≠ b2) ∧ (i = 17 → b ≠ b2) ∧ (i = 19 → b ≠ b2)) ⟨by kernel_rfl, by kernel_rfl⟩ hS (fun w hS hB => ?_)
 refine Zn [true, true, false, true, true, false, true, true, false, true, true] (by decide +kernel) PFC.h ?_
 refine LtK.put rfl rfl rfl (Ze Zb2 rfl) ?_
 refine LtK.put rfl rfl rfl (Zh sc_27 rfl (Zgz _) hS X0 trivial Zgj) ?_
 refine LtK.put rfl rfl rfl (Ze Vm rfl) ?_
 refine LtK.put rfl rfl rfl (Zh Xt rfl (Zgz _) hS X0 trivial Jz) ?_
 refine LtK.put rfl rfl rfl (Ze V3 rfl) ?_
 refine LtK.put rfl rfl rfl (Zh Xt rfl (Zgz _) hS X0 trivial Zat) ?_
 refine LtK.put rfl rfl rfl (Ze Zaa rfl) ?_
 refine LtK.put rfl rfl rfl (Zh Xt rfl (Zgz _) hS X0 trivial Zdr) ?_
 refine LtK.nil ?_
 refine Z4 [false, false, true] 2 ⟨by decide, by kernel_rfl, by kernel_rfl⟩ rfl rfl ?_
 try dsimp only [Zw]
 obtain ⟨r14, hm15, H⟩ := bind_some H
 refine Zo rfl rfl rfl rfl (by kernel_rfl) rfl (Ze1 x0.votes A1_ c1_ _ (Zg1 s1_.k (hS.rd0 s1_.rd) (hS.blk0 s1_.blk)) hm15) ?_
 rintro e w ⟨A16, c17, rfl, k18, hN⟩; refine ⟨_, rfl, ?_⟩; obtain ⟨hB, hS⟩ := hS.jn hN
 refine Zg ?_
 refine Z7 hB ?_
 refine Zn [false, false, false, false, false, false, false, false, false, false, false, false, true] (by decide +kernel) PFC.h ?_
 refine LtK.put rfl rfl rfl (Ze Zb2 rfl) ?_
 refine LtK.nil ?_
 refine Z4 [false, false, false, false, false, true] 5 ⟨by decide, by kernel_rfl, by kernel_rfl⟩ rfl rfl ?_
 try dsimp only [Zw]
 obtain ⟨r20, hm21, H⟩ := bind_some H
 refine Zo rfl rfl rfl rfl (by kernel_rfl) rfl (Zav x0.next A2_ c2_ _ (Zg1 s2_.k (hS.rd0 s2_.rd) (hS.blk0 s2_.blk)) hm21) ?_
 rintro e w ⟨A22, c23, rfl, k24, hN⟩; refine ⟨_, rfl, ?_⟩; obtain ⟨hB, hS⟩ := hS.jn hN
 refine Zg ?_
 refine Z7 hB ?_
 refine Z4 [false, false, false, false, false, false, false, false, true] 8 ⟨by decide, by kernel_rfl, by kernel_rfl⟩ rfl rfl ?_
 try dsimp only [Zw]
 obtain ⟨r26, hm27, H⟩ := bind_some H
 refine Zo rfl rfl rfl rfl (by kernel_rfl) rfl (Zav x0.mtch A3_ c3_ _ (Zg1 s3_.k (hS.rd0 s3_.rd) (hS.blk0 s3_.blk)) hm27) ?_
 rintro e w ⟨A28, c29, rfl, k30, hN⟩; refine ⟨_, rfl, ?_⟩; obtain ⟨hB, hS⟩ := hS.jn hN
 refine Zg ?_
 refine Z7 hB ?_
 refine Z4 [false, false, false, false, false, false, false, false, false, false, false, true] 11 ⟨by decide, by kernel_rfl, by kernel_rfl⟩ rfl rfl ?_
 try dsimp only [Zw]
 obtain ⟨r32, hm33, H⟩ := bind_some H
 refine Zo rfl rfl rfl rfl (by kernel_rfl) rfl (Zav x0.caps A4_ c4_ _ (Zg1 s4_.k (hS.rd0 s4_.rd) (hS.blk0 s4_.blk)) hm33) ?_
 rintro e w ⟨A34, c35, rfl, k36, hN⟩; refine ⟨_, rfl, ?_⟩; obtain ⟨hB, hS⟩ := hS.jn hN
 refine Zg ?_
 refine Z7 hB ?_
 refine Yp [false, false, false, false, false, false, false, false, false, false, false, false, false, true] 13 ⟨by decide, by kernel_rfl, by kernel_rfl⟩ rfl rfl ?_
 try dsimp only [Zw]
 refine Zm rfl rfl rfl CellsOf.slice hS ps6 st18_1 (by kernel_rfl) rfl (fun w hS hB => ?_)
 refine Zg ?_
 refine Ye (hB.sub (fun _ _ h => by simpa using h)) ?_
 refine Zn [false, false, false, false, false, false, false, false, false, false, false, false, false, false, true] (by decide +kernel) PFC.h ?_
 refine LtK.put rfl rfl rfl (Ze Vm rfl) ?_
 refine LtK.nil ?_
 refine Yp [false, false, false, false, false, false, false, false, false, false, false, false, false, false, false, true] 15 ⟨by decide, by kernel_rfl, by kernel_rfl⟩ rfl rfl ?_
 try dsimp only [Zw]
 refine Zm rfl rfl rfl CellsOf.slice hS ps6 st19_1 (by kernel_rfl) rfl (fun w hS hB => ?_)
 refine Zg ?_
 refine Ye (hB.sub (fun _ _ h => by simpa using h)) ?_
 refine Zn [false, false, false, false, false, false, false, false, false, false, false, false, false, false, false, false, true] (by decide +kernel) PFC.h ?_
 refine LtK.put rfl rfl rfl (Ze V3 rfl) ?_
 refine LtK.nil ?_
 refine Yp [false, false, false, false, false, false, false, false, false, false, false, false, false, false, false, false, false, true] 17 ⟨by decide, by kernel_rfl, by kernel_rfl⟩ rfl rfl ?_
 try dsimp only [Zw]
 refine Zm rfl rfl rfl CellsOf.slice hS ps6 st20_1 (by kernel_rfl) rfl (fun w hS hB => ?_)
 refine Zg ?_
 refine Ye (hB.sub (fun _ _ h => by simpa using h)) ?_
 refine Zn [false, false, false, false, false, false, false, false, false, false, false, false, false, false, false, false, false, false, true] (by decide +kernel) PFC.h ?_
 refine LtK.put rfl rfl rfl (Ze Zaa rfl) ?_
 refine LtK.nil ?_
 refine Yp [false, false, false, false, false, false, false, false, false, false, false, false, false, false, false, false, false, false, false, true] 19 ⟨by decide, by kernel_rfl, by kernel_rfl⟩ rfl rfl ?_
 try dsimp only [Zw]
 refine Zm rfl rfl rfl CellsOf.slice hS ps6 st21_1 (by kernel_rfl) rfl (fun w hS hB => ?_)
 refine Zg ?_
 refine Ye (hB.sub (fun _ _ h => by simpa using h)) ?_
 refine Z6 (by kernel_rfl) ?_
 refine Zb hK13 ?_
 refine Zd (fun K hK38 => ?_)
 refine Zf ?_
 refine Za rfl rfl rfl (Zi Yh rfl (Zgy _) hS hs6 trivial Z8) ?_
 refine Zm rfl rfl rfl CellsOf.agg hS ps5 Yy (by kernel_rfl) rfl (fun w hS hB => ?_)
 refine Zg ?_
 refine Zb hK38 ?_
 refine Zk ?_
 refine Zl rfl (RV.cell rfl (Zx Yh hS hs5 Z8) RV.nil) rfl ?_
 obtain rfl := QJ H
 have hS := hS.front 0 rfl
 have hS := hS.front 1 rfl
 have hS := hS.front 2 rfl
 have hS := hS.front 3 rfl
 have hS := hS.front 4 rfl
 replace hS := hS.cut 5
 exact ⟨A9, c10, A16, c17, A22, c23, A28, c29, A34, c35, rfl, k11, k18, k24, k30, k36, hS⟩
theorem Zdq (x0 : Tu) (A0_ : OA) (c0_ : Nat) (w0 : World) (s0_ : SlI w0 Jv A0_ c0_ x0.log) {r : Int} (H : Zae x0 = some r) : Calls Try.prog 54 #[.agg #[.int .i64 x0.snap.index, .int .i64 x0.snap.term, .int .i64 x0.snap.sum, .int .i64 x0.snap.level, .bool x0.snap.final, .slice A0_ x0.log.length c0_, .int .i64 x0.term, .int .i64 x0.vote]] w0 fun e w' => e = .returned (.int .i64 r) ∧ St0 All w0 w' [] := by
 unfold Zae at H
 refine Yn Try.func54 rfl Try.ntmps54 rfl ?_
 have hS := St0.start All w0
 refine Zd (fun K hK1 => ?_)
 refine Zf ?_
 refine Yd rfl rfl rfl CellsOf.agg hS (fun b2 w hS hB => ?_)
 refine Zc 1 rfl ?_
 refine Zg ?_
 refine Zb hK1 ?_
 refine Zd (fun K hK4 => ?_)
 refine Zf ?_
 refine Za rfl rfl rfl (Ze Xg rfl) ?_
 refine Za rfl rfl rfl (Ze Yi rfl) ?_
 refine Za rfl rfl rfl (Zh Z0 rfl (Zgy _) hS hs0 trivial Y7) ?_
 refine Za rfl rfl rfl (Ze Xz rfl) ?_
 refine Za rfl rfl rfl (Zh Xp rfl (Zgy _) hS hs0 trivial Js) ?_
 refine Za rfl rfl rfl (Yu Y6 rfl) ?_
 refine Za rfl rfl rfl (Xf rfl rfl) ?_
 refine Zc 1 rfl ?_
 refine Zg ?_
 refine Zb hK4 ?_
 refine Zk ?_
 refine Zl rfl (RV.tmp rfl RV.nil) rfl ?_
 obtain rfl := QJ H
 replace hS := hS.cut 0
 exact ⟨rfl, hS⟩
theorem Zac (x0 : Int) (x1 : Int) (x2 : Int) (w0 : World) {r : Bool} (H : Vy x0 x1 x2 = some r) : Calls Try.prog 74 #[.int .i64 x0, .int .i64 x1, .int .i64 x2] w0 fun e w' => e = .returned (.bool r) ∧ St0 All w0 w' [] := by
 unfold Vy at H
 refine Zao Try.func74 rfl Try.ntmps74 rfl ?_
 have hS := St0.start All w0
 refine Zd (fun K hK1 => ?_)
 refine Zf ?_
 refine Zc 1 rfl ?_
 refine Zg ?_
 refine Zb hK1 ?_
 refine Zd (fun K hK2 => ?_)
 refine Zf ?_
 refine Zc 2 rfl ?_
 refine Za rfl rfl rfl (Zc7 rfl rfl) ?_
 refine Zc 1 rfl ?_
 refine Zu 10 rfl (fun hb => ?_) (fun hb => ?_)
 rotate_left
 ·replace H := Zp H hb
  refine Zc 5 rfl ?_
  refine Zg ?_
  refine Zb hK2 ?_
  refine Zk ?_
  refine Zl rfl (RV.tmp rfl RV.nil) rfl ?_
  obtain rfl := QJ H
  replace hS := hS.cut 0
  exact ⟨rfl, hS⟩
 replace H := Zq H hb
 refine Zc 2 rfl ?_
 refine Za rfl rfl rfl (Zah rfl rfl) ?_
 refine Zc 2 rfl ?_
 refine Zg ?_
 refine Zb hK2 ?_
 refine Zk ?_
 refine Zl rfl (RV.tmp rfl RV.nil) rfl ?_
 obtain rfl := QJ H
 replace hS := hS.cut 0
 exact ⟨rfl, hS⟩
theorem c_entry_First (w0 : World) {r : St} (H : Zd9 = some r) : Calls Try.prog 121 #[] w0 fun e w' => e = .returned (.agg #[.int .i64 r.index, .int .i64 r.term, .int .i64 r.sum, .int .i64 r.level, .bool r.final]) ∧ St0 All w0 w' [] := by
 unfold Zd9 at H
 refine gw_enter0 Try.func121 rfl Try.ntmps121 rfl ?_
 have hS := St0.start All w0
 refine Zd (fun K hK1 => ?_)
 refine Zf ?_
 refine Yb rfl rfl zc_23 hS (fun b2 w hS hB => ?_)
 refine Zg ?_
 refine Zb hK1 ?_
 refine Zd (fun K hK4 => ?_)
 refine Zf ?_
 refine Za rfl rfl rfl (Xw (cells := [.int .i64 0, .int .i64 0, .int .i64 0, .int .i64 1, .bool false]) rfl (by kernel_rfl)) ?_
 refine Zm rfl rfl rfl CellsOf.agg hS ps0 Zdx (by kernel_rfl) rfl (fun w hS hB => ?_)
 refine Zg ?_
 refine Zb hK4 ?_
 refine Zk ?_
 refine Zl rfl (RV.cell rfl (Zx Y4 hS hs0 Jl) RV.nil) rfl ?_
 obtain rfl := QJ H
 replace hS := hS.cut 0
 exact ⟨rfl, hS⟩
theorem Jj (x0 : Int) (w0 : World) {r : Bool} (H : Ve x0 = some r) : Calls Try.prog 122 #[.int .i64 x0] w0 fun e w' => e = .returned (.bool r) ∧ St0 All w0 w' [] := by
 unfold Ve at H
 refine Yn Try.func122 rfl Try.ntmps122 rfl ?_
 have hS := St0.start All w0
 refine Zd (fun K hK1 => ?_)
 refine Zf ?_
 refine Zc 1 rfl ?_
 refine Zg ?_
 refine Zb hK1 ?_
 refine Zd (fun K hK2 => ?_)
 refine Zf ?_
 refine Zc 1 rfl ?_
 refine Za rfl rfl rfl (Zc7 rfl rfl) ?_
 refine Zc 1 rfl ?_
 refine Zu 5 rfl (fun hb => ?_) (fun hb => ?_)
 rotate_left
 ·replace H := Zp H hb
  refine Zc 4 rfl ?_
  refine Zg ?_
  refine Zb hK2 ?_
  refine Zk ?_
  refine Zl rfl (RV.tmp rfl RV.nil) rfl ?_
  obtain rfl := QJ H
  replace hS := hS.cut 0
  exact ⟨rfl, hS⟩
 replace H := Zq H hb
 refine Zc 1 rfl ?_
 refine Za rfl rfl rfl (Zah rfl rfl) ?_
 refine Zc 2 rfl ?_
 refine Zg ?_
 refine Zb hK2 ?_
 refine Zk ?_
 refine Zl rfl (RV.tmp rfl RV.nil) rfl ?_
 obtain rfl := QJ H
 replace hS := hS.cut 0
 exact ⟨rfl, hS⟩
theorem Zco (x0 : St) (w0 : World) {r : Bool} (H : Ju x0 = some r) : Calls Try.prog 112 #[.agg #[.int .i64 x0.index, .int .i64 x0.term, .int .i64 x0.sum, .int .i64 x0.level, .bool x0.final]] w0 fun e w' => e = .returned (.bool r) ∧ St0 All w0 w' [] := by
 unfold Ju at H
 refine Yn Try.func112 rfl Try.ntmps112 rfl ?_
 have hS := St0.start All w0
 refine Zd (fun K hK1 => ?_)
 refine Zf ?_
 refine Yd rfl rfl rfl CellsOf.agg hS (fun b2 w hS hB => ?_)
 refine Zc 1 rfl ?_
 refine Zg ?_
 refine Zb hK1 ?_
 refine Zd (fun K hK4 => ?_)
 refine Yc ?_
 refine Zd (fun K hK5 => ?_)
 refine Zf ?_
 refine Za rfl rfl rfl (Ze Yi rfl) ?_
 refine Za rfl rfl rfl (Zh Z0 rfl (Zgy _) hS hs0 trivial Y7) ?_
 refine Za rfl rfl rfl (Xo rfl rfl) ?_
 refine Zc 1 rfl ?_
 refine Zg ?_
 refine Zb hK5 ?_
 refine Zz rfl (fun hb => ?_) (fun hb => ?_)
 ·replace H := Zq H hb
  refine Zd (fun K hK6 => ?_)
  refine Yg 4 [] (fun _ _ => True) ⟨by kernel_rfl, by kernel_rfl⟩ hS (fun w hS hB => ?_)
  refine Zn [true] (by decide +kernel) PFC.h ?_
  refine LtK.put rfl rfl rfl (Zi Y4 rfl (Zgz _) hS hs0 trivial Jl) ?_
  refine LtK.nil ?_
  refine Z4 [false, true] 1 ⟨by decide, by kernel_rfl, by kernel_rfl⟩ rfl rfl ?_
  try dsimp only [Zw]
  obtain ⟨r7, hm8, H⟩ := bind_some H
  refine Zo rfl rfl rfl rfl (by kernel_rfl) rfl (c_entry_First _ hm8) ?_
  rintro e w ⟨rfl, hN⟩; refine ⟨_, rfl, ?_⟩; obtain ⟨hB, hS⟩ := hS.jn hN
  refine Zg ?_
  refine Z7 hB ?_
  refine Zn [false, false, true, true] (by decide +kernel) PFC.h ?_
  refine LtK.put rfl rfl rfl (Zai (by kernel_rfl) rfl rfl (Za6 _ _ _ _ _ _ _ _ _ _)) ?_
  refine LtK.put rfl rfl rfl (Zy rfl) ?_
  refine LtK.nil ?_
  refine Z6 (by kernel_rfl) ?_
  refine Zb hK6 ?_
  refine Zk ?_
  refine Zv ?_
  refine Zj ?_
  refine Zl rfl (RV.tmp rfl RV.nil) rfl ?_
  obtain rfl := QJ H
  replace hS := hS.cut 0
  exact ⟨rfl, hS⟩
 replace H := Zp H hb
 refine Zd (fun K hK9 => ?_)
 refine Zf ?_
 refine Za rfl rfl rfl (Ze fo_23_4 rfl) ?_
 refine Za rfl rfl rfl (Zh sc_4 rfl (Zgy _) hS hs0 trivial Zfn) ?_
 refine Zc 1 rfl ?_
 refine Zg ?_
 refine Zb hK9 ?_
 refine Zz rfl (fun hb => ?_) (fun hb => ?_)
 ·replace H := Zq H hb
  refine Zd (fun K hK10 => ?_)
  refine Zf ?_
  refine Za rfl rfl rfl (Ze Zeb rfl) ?_
  refine Za rfl rfl rfl (Zh Z0 rfl (Zgy _) hS hs0 trivial Zbd) ?_
  refine Za rfl rfl rfl (Xo rfl rfl) ?_
  refine Zc 1 rfl ?_
  refine Zu 16 rfl (fun hb => ?_) (fun hb => ?_)
  rotate_left
  ·replace H := Zp H hb
   refine Zc 20 rfl ?_
   refine Zg ?_
   refine Zb hK10 ?_
   refine Zk ?_
   refine Zv ?_
   refine Zj ?_
   refine Zl rfl (RV.tmp rfl RV.nil) rfl ?_
   obtain rfl := QJ H
   replace hS := hS.cut 0
   exact ⟨rfl, hS⟩
  replace H := Zq H hb
  refine Za rfl rfl rfl (Ze Yi rfl) ?_
  refine Za rfl rfl rfl (Zh Z0 rfl (Zgy _) hS hs0 trivial Y7) ?_
  obtain ⟨r11, hm12, H⟩ := bind_some H
  refine Zo rfl rfl rfl rfl (by kernel_rfl) rfl (Jj x0.index _ hm12) ?_
  rintro e w ⟨rfl, hN⟩; refine ⟨_, rfl, ?_⟩; obtain ⟨hB, hS⟩ := hS.jn hN
  refine Zc 2 rfl ?_
  refine Zu 21 rfl (fun hb => ?_) (fun hb => ?_)
  rotate_left
  ·replace H := Zp H hb
   refine Zc 15 rfl ?_
   refine Zg ?_
   refine Zb hK10 ?_
   refine Zk ?_
   refine Zv ?_
   refine Zj ?_
   refine Zl rfl (RV.tmp rfl RV.nil) rfl ?_
   obtain rfl := QJ H
   replace hS := hS.cut 0
   exact ⟨rfl, hS⟩
  replace H := Zq H hb
  refine Za rfl rfl rfl (Ze Zc3 rfl) ?_
  refine Za rfl rfl rfl (Zh Z0 rfl (Zgy _) hS hs0 trivial Vo) ?_
  refine Za rfl rfl rfl (Xa rfl rfl) ?_
  refine Zc 2 rfl ?_
  refine Zu 26 rfl (fun hb => ?_) (fun hb => ?_)
  rotate_left
  ·replace H := Zp H hb
   refine Zc 10 rfl ?_
   refine Zg ?_
   refine Zb hK10 ?_
   refine Zk ?_
   refine Zv ?_
   refine Zj ?_
   refine Zl rfl (RV.tmp rfl RV.nil) rfl ?_
   obtain rfl := QJ H
   replace hS := hS.cut 0
   exact ⟨rfl, hS⟩
  replace H := Zq H hb
  refine Za rfl rfl rfl (Ze Zc3 rfl) ?_
  refine Za rfl rfl rfl (Zh Z0 rfl (Zgy _) hS hs0 trivial Vo) ?_
  obtain ⟨r13, hm14, H⟩ := bind_some H
  refine Zo rfl rfl rfl rfl (by kernel_rfl) rfl (Jj x0.term _ hm14) ?_
  rintro e w ⟨rfl, hN⟩; refine ⟨_, rfl, ?_⟩; obtain ⟨hB, hS⟩ := hS.jn hN
  refine Zc 2 rfl ?_
  refine Zu 31 rfl (fun hb => ?_) (fun hb => ?_)
  rotate_left
  ·replace H := Zp H hb
   refine Zc 5 rfl ?_
   refine Zg ?_
   refine Zb hK10 ?_
   refine Zk ?_
   refine Zv ?_
   refine Zj ?_
   refine Zl rfl (RV.tmp rfl RV.nil) rfl ?_
   obtain rfl := QJ H
   replace hS := hS.cut 0
   exact ⟨rfl, hS⟩
  replace H := Zq H hb
  refine Za rfl rfl rfl (Ze fo_23_2 rfl) ?_
  refine Za rfl rfl rfl (Zh Z0 rfl (Zgy _) hS hs0 trivial Zbk) ?_
  obtain ⟨r15, hm16, H⟩ := bind_some H
  refine Zo rfl rfl rfl rfl (by kernel_rfl) rfl (Jj x0.sum _ hm16) ?_
  rintro e w ⟨rfl, hN⟩; refine ⟨_, rfl, ?_⟩; obtain ⟨hB, hS⟩ := hS.jn hN
  refine Zc 2 rfl ?_
  refine Zg ?_
  refine Zb hK10 ?_
  refine Zk ?_
  refine Zv ?_
  refine Zj ?_
  refine Zl rfl (RV.tmp rfl RV.nil) rfl ?_
  obtain rfl := QJ H
  replace hS := hS.cut 0
  exact ⟨rfl, hS⟩
 replace H := Zp H hb
 refine Zt ?_
 refine Z2 ?_
 refine Zb hK4 ?_
 refine Zd (fun K hK17 => ?_)
 refine Zf ?_
 refine Za rfl rfl rfl (Ze Zeb rfl) ?_
 refine Za rfl rfl rfl (Zh Z0 rfl (Zgy _) hS hs0 trivial Zbd) ?_
 refine Za rfl rfl rfl (Xo rfl rfl) ?_
 refine Zc 1 rfl ?_
 refine Zu 39 rfl (fun hb => ?_) (fun hb => ?_)
 ·replace H := Zq H hb
  refine Zc 5 rfl ?_
  refine Za rfl rfl rfl (Ze Yi rfl) ?_
  refine Za rfl rfl rfl (Zh Z0 rfl (Zgy _) hS hs0 trivial Y7) ?_
  obtain ⟨r18, hm19, H⟩ := bind_some H
  refine Zo rfl rfl rfl rfl (by kernel_rfl) rfl (Jj x0.index _ hm19) ?_
  rintro e w ⟨rfl, hN⟩; refine ⟨_, rfl, ?_⟩; obtain ⟨hB, hS⟩ := hS.jn hN
  refine Zc 2 rfl ?_
  refine Zu 49 rfl (fun hb => ?_) (fun hb => ?_)
  rotate_left
  ·replace H := Zp H hb
   refine Zc 15 rfl ?_
   refine Zg ?_
   refine Zb hK17 ?_
   refine Zk ?_
   refine Zl rfl (RV.tmp rfl RV.nil) rfl ?_
   obtain rfl := QJ H
   replace hS := hS.cut 0
   exact ⟨rfl, hS⟩
  replace H := Zq H hb
  refine Za rfl rfl rfl (Ze Zc3 rfl) ?_
  refine Za rfl rfl rfl (Zh Z0 rfl (Zgy _) hS hs0 trivial Vo) ?_
  refine Za rfl rfl rfl (Xa rfl rfl) ?_
  refine Zc 2 rfl ?_
  refine Zu 54 rfl (fun hb => ?_) (fun hb => ?_)
  rotate_left
  ·replace H := Zp H hb
   refine Zc 10 rfl ?_
   refine Zg ?_
   refine Zb hK17 ?_
   refine Zk ?_
   refine Zl rfl (RV.tmp rfl RV.nil) rfl ?_
   obtain rfl := QJ H
   replace hS := hS.cut 0
   exact ⟨rfl, hS⟩
  replace H := Zq H hb
  refine Za rfl rfl rfl (Ze Zc3 rfl) ?_
  refine Za rfl rfl rfl (Zh Z0 rfl (Zgy _) hS hs0 trivial Vo) ?_
  obtain ⟨r20, hm21, H⟩ := bind_some H
  refine Zo rfl rfl rfl rfl (by kernel_rfl) rfl (Jj x0.term _ hm21) ?_
  rintro e w ⟨rfl, hN⟩; refine ⟨_, rfl, ?_⟩; obtain ⟨hB, hS⟩ := hS.jn hN
  refine Zc 2 rfl ?_
  refine Zu 59 rfl (fun hb => ?_) (fun hb => ?_)
  rotate_left
  ·replace H := Zp H hb
   refine Zc 5 rfl ?_
   refine Zg ?_
   refine Zb hK17 ?_
   refine Zk ?_
   refine Zl rfl (RV.tmp rfl RV.nil) rfl ?_
   obtain rfl := QJ H
   replace hS := hS.cut 0
   exact ⟨rfl, hS⟩
  replace H := Zq H hb
  refine Za rfl rfl rfl (Ze fo_23_2 rfl) ?_
  refine Za rfl rfl rfl (Zh Z0 rfl (Zgy _) hS hs0 trivial Zbk) ?_
  obtain ⟨r22, hm23, H⟩ := bind_some H
  refine Zo rfl rfl rfl rfl (by kernel_rfl) rfl (Jj x0.sum _ hm23) ?_
  rintro e w ⟨rfl, hN⟩; refine ⟨_, rfl, ?_⟩; obtain ⟨hB, hS⟩ := hS.jn hN
  refine Zc 2 rfl ?_
  refine Zg ?_
  refine Zb hK17 ?_
  refine Zk ?_
  refine Zl rfl (RV.tmp rfl RV.nil) rfl ?_
  obtain rfl := QJ H
  replace hS := hS.cut 0
  exact ⟨rfl, hS⟩
 replace H := Zp H hb
 refine Za rfl rfl rfl (Ze Zeb rfl) ?_
 refine Za rfl rfl rfl (Zh Z0 rfl (Zgy _) hS hs0 trivial Zbd) ?_
 refine Za rfl rfl rfl (Xo rfl rfl) ?_
 refine Zc 2 rfl ?_
 refine Zu 44 rfl (fun hb => ?_) (fun hb => ?_)
 rotate_left
 ·replace H := Zp H hb
  refine Zc 20 rfl ?_
  refine Zg ?_
  refine Zb hK17 ?_
  refine Zk ?_
  refine Zl rfl (RV.tmp rfl RV.nil) rfl ?_
  obtain rfl := QJ H
  replace hS := hS.cut 0
  exact ⟨rfl, hS⟩
 replace H := Zq H hb
 refine Za rfl rfl rfl (Ze Yi rfl) ?_
 refine Za rfl rfl rfl (Zh Z0 rfl (Zgy _) hS hs0 trivial Y7) ?_
 obtain ⟨r24, hm25, H⟩ := bind_some H
 refine Zo rfl rfl rfl rfl (by kernel_rfl) rfl (Jj x0.index _ hm25) ?_
 rintro e w ⟨rfl, hN⟩; refine ⟨_, rfl, ?_⟩; obtain ⟨hB, hS⟩ := hS.jn hN
 refine Zc 2 rfl ?_
 refine Zu 49 rfl (fun hb => ?_) (fun hb => ?_)
 rotate_left
 ·replace H := Zp H hb
  refine Zc 15 rfl ?_
  refine Zg ?_
  refine Zb hK17 ?_
  refine Zk ?_
  refine Zl rfl (RV.tmp rfl RV.nil) rfl ?_
  obtain rfl := QJ H
  replace hS := hS.cut 0
  exact ⟨rfl, hS⟩
 replace H := Zq H hb
 refine Za rfl rfl rfl (Ze Zc3 rfl) ?_
 refine Za rfl rfl rfl (Zh Z0 rfl (Zgy _) hS hs0 trivial Vo) ?_
 refine Za rfl rfl rfl (Xa rfl rfl) ?_
 refine Zc 2 rfl ?_
 refine Zu 54 rfl (fun hb => ?_) (fun hb => ?_)
 rotate_left
 ·replace H := Zp H hb
  refine Zc 10 rfl ?_
  refine Zg ?_
  refine Zb hK17 ?_
  refine Zk ?_
  refine Zl rfl (RV.tmp rfl RV.nil) rfl ?_
  obtain rfl := QJ H
  replace hS := hS.cut 0
  exact ⟨rfl, hS⟩
 replace H := Zq H hb
 refine Za rfl rfl rfl (Ze Zc3 rfl) ?_
 refine Za rfl rfl rfl (Zh Z0 rfl (Zgy _) hS hs0 trivial Vo) ?_
 obtain ⟨r26, hm27, H⟩ := bind_some H
 refine Zo rfl rfl rfl rfl (by kernel_rfl) rfl (Jj x0.term _ hm27) ?_
 rintro e w ⟨rfl, hN⟩; refine ⟨_, rfl, ?_⟩; obtain ⟨hB, hS⟩ := hS.jn hN
 refine Zc 2 rfl ?_
 refine Zu 59 rfl (fun hb => ?_) (fun hb => ?_)
 rotate_left
 ·replace H := Zp H hb
  refine Zc 5 rfl ?_
  refine Zg ?_
  refine Zb hK17 ?_
  refine Zk ?_
  refine Zl rfl (RV.tmp rfl RV.nil) rfl ?_
  obtain rfl := QJ H
  replace hS := hS.cut 0
  exact ⟨rfl, hS⟩
 replace H := Zq H hb
 refine Za rfl rfl rfl (Ze fo_23_2 rfl) ?_
 refine Za rfl rfl rfl (Zh Z0 rfl (Zgy _) hS hs0 trivial Zbk) ?_
 obtain ⟨r28, hm29, H⟩ := bind_some H
 refine Zo rfl rfl rfl rfl (by kernel_rfl) rfl (Jj x0.sum _ hm29) ?_
 rintro e w ⟨rfl, hN⟩; refine ⟨_, rfl, ?_⟩; obtain ⟨hB, hS⟩ := hS.jn hN
 refine Zc 2 rfl ?_
 refine Zg ?_
 refine Zb hK17 ?_
 refine Zk ?_
 refine Zl rfl (RV.tmp rfl RV.nil) rfl ?_
 obtain rfl := QJ H
 replace hS := hS.cut 0
 exact ⟨rfl, hS⟩
theorem Zfl (x0 : List Int) (x1 : Int) (x2 : Int) (x3 : Int) (A0_ : OA) (c0_ : Nat) (w0 : World) (s0_ : SlI w0 V9 A0_ c0_ x0) {r : Bool} (H : Zbo x0 x1 x2 x3 = some r) : Calls Try.prog 79 #[.slice A0_ x0.length c0_, .int .i64 x1, .int .i64 x2, .int .i64 x3] w0 fun e w' => e = .returned (.bool r) ∧ St0 All w0 w' [] := by
 unfold Zbo at H
 refine gw_enter4 Try.func79 rfl Try.ntmps79 rfl ?_
 have hS := St0.start All w0
 refine Zd (fun K hK1 => ?_)
 refine Zf ?_
 refine Yd rfl rfl rfl CellsOf.int hS (fun b2 w hS hB => ?_)
 refine Yd rfl rfl rfl CellsOf.int hS (fun b4 w hS hB => ?_)
 refine Zc 1 rfl ?_
 refine Zg ?_
 refine Zb hK1 ?_
 refine Zd (fun K hK6 => ?_)
 refine Zf ?_
 refine Zc 1 rfl ?_
 refine Za rfl rfl rfl (Yu Xm rfl) ?_
 refine Zc 1 rfl ?_
 refine Za rfl rfl rfl (Xo rfl rfl) ?_
 refine Zc 1 rfl ?_
 refine Zu 13 rfl (fun hb => ?_) (fun hb => ?_)
 rotate_left
 ·replace H := Zp H hb
  refine Zc 6 rfl ?_
  refine Zg ?_
  refine Zb hK6 ?_
  refine Zk ?_
  refine Zl rfl (RV.tmp rfl RV.nil) rfl ?_
  obtain rfl := QJ H
  replace hS := hS.cut 0
  exact ⟨rfl, hS⟩
 replace H := Zq H hb
 refine Zc 1 rfl ?_
 refine Za rfl rfl rfl (X4 rfl rfl) ?_
 refine Za2 rfl rfl rfl rfl (by kernel_rfl) rfl ?_
 show Calls _ _ #[_, _] _ _
 refine Y0 Try.func108 rfl Try.ntmps108 rfl ?_
 refine Zd (fun K hK7 => ?_)
 refine Zf ?_
 refine Zc 1 rfl ?_
 refine Zg ?_
 refine Zb hK7 ?_
 refine Zd (fun K hK8 => ?_)
 refine Zf ?_
 refine Zc 2 rfl ?_
 refine Za2 rfl rfl rfl rfl (by kernel_rfl) rfl ?_
 show Calls _ _ #[_, _] _ _
 refine Y0 Try.func95 rfl Try.ntmps95 rfl ?_
 refine Zd (fun K hK9 => ?_)
 refine Zf ?_
 refine Zc 1 rfl ?_
 refine Zg ?_
 refine Zb hK9 ?_
 refine Zd (fun K hK10 => ?_)
 refine Zd (fun K hK11 => ?_)
 refine Zf ?_
 refine Zc 1 rfl ?_
 refine Za rfl rfl rfl (Yu Xm rfl) ?_
 refine Zc 1 rfl ?_
 refine Zg ?_
 refine Zb hK11 ?_
 refine Yc ?_
 refine V0 (X := Nat × Int × Int) (fun x => (0, .slice A0_ x0.length c0_) :: (1, .func (.func 109) #[] #[.pointer (some ⟨b2, 0, none⟩), .pointer (some ⟨b4, 0, none⟩)]) :: (4, .int .i64 x.2.1) :: (7, .int .i64 (x0.length : Int)) :: (8, .int .i64 x.2.2) :: []) (fun x w => St0 All w0 w (.box b4 [.int .i64 x3] 3 :: .box b2 [.int .i64 x2] 3 :: []) ∧ Za0 x0 x2 x3 x.1 x.2.1 x.2.2 = some r) (fun x => x.1) (Xn, 0, 0) (by repeat (first | exact Sub.nil | refine Sub.cons rfl ?_)) ⟨hS, H⟩ ?_
 rintro ⟨n, v12, v13⟩ w ⟨hS, H⟩
 dsimp only at hS H ⊢
 obtain _ | n := n
 ·have H0 : none = some r := H
  cases H0
 rw [Za0] at H
 refine Zd (fun K hK14 => ?_)
 refine Zf ?_
 refine Za rfl rfl rfl (Xh rfl rfl) ?_
 refine Zg ?_
 refine Zb hK14 ?_
 refine Zd (fun K hK15 => ?_)
 refine Zz rfl (fun hb => ?_) (fun hb => ?_)
 rotate_left
 ·replace H := Zp H hb
  refine Vj ?_
  refine Ya ?_
  refine Ya ?_
  refine Y3 ?_
  refine Zb hK10 ?_
  refine Zd (fun K hK27 => ?_)
  refine Zf ?_
  refine Zc 1 rfl ?_
  refine Zg ?_
  refine Zb hK27 ?_
  refine Zk ?_
  refine Zl rfl (RV.tmp rfl RV.nil) rfl ?_
  refine ⟨_, rfl, ?_⟩
  refine Za rfl rfl rfl (Zc7 rfl rfl) ?_
  refine Zc 1 rfl ?_
  refine Zg ?_
  refine Zb hK8 ?_
  refine Zk ?_
  refine Zl rfl (RV.tmp rfl RV.nil) rfl ?_
  refine ⟨_, rfl, ?_⟩
  refine Za rfl rfl rfl (Yt rfl) ?_
  refine Zc 2 rfl ?_
  refine Zg ?_
  refine Zb hK6 ?_
  refine Zk ?_
  refine Zl rfl (RV.tmp rfl RV.nil) rfl ?_
  obtain rfl := QJ H
  replace hS := hS.cut 0
  exact ⟨rfl, hS⟩
 replace H := Zq H hb
 refine Zt ?_
 refine Zb hK15 ?_
 refine Zd (fun K hK16 => ?_)
 refine Yc ?_
 refine Zd (fun K hK17 => ?_)
 refine Zf ?_
 refine Zc 2 rfl ?_
 refine Zg ?_
 refine Zb hK17 ?_
 refine Zd (fun K hK18 => ?_)
 refine Zf ?_
 refine Zc 3 rfl ?_
 obtain ⟨e19, hi21, H⟩ := bind_some H
 obtain ⟨j20, hi21a, hi21b, hi21c⟩ := Yw hi21
 refine Za rfl rfl rfl (Y8 Xm rfl rfl hi21a hi21c (Rd.el (hS.rd0 s0_.rd) Yl hi21b)) ?_
 refine Za rfl rfl rfl (X1 Z0 rfl (Zgy _) (Rd.el (hS.rd0 s0_.rd) Yl hi21b) rfl) ?_
 refine Za2 rfl rfl rfl rfl (by kernel_rfl) rfl ?_
 show Calls _ _ #[_, _, _] _ _
 refine Zao Try.func109 rfl Try.ntmps109 rfl ?_
 refine Zd (fun K hK22 => ?_)
 refine Zf ?_
 refine Zc 1 rfl ?_
 refine Zg ?_
 refine Zb hK22 ?_
 refine Zd (fun K hK23 => ?_)
 refine Zf ?_
 refine Zc 1 rfl ?_
 refine Za rfl rfl rfl (Zh Z0 rfl (Zgy _) hS Xr trivial Y7) ?_
 refine Za rfl rfl rfl (Zh Z0 rfl (Zgy _) hS hs0 trivial Y7) ?_
 obtain ⟨r24, hm25, H⟩ := bind_some H
 refine Zo rfl rfl rfl rfl (by kernel_rfl) rfl (Zac e19 x2 x3 _ hm25) ?_
 rintro e w ⟨rfl, hN⟩; refine ⟨_, rfl, ?_⟩; obtain ⟨hB, hS⟩ := hS.jn hN
 refine Za rfl rfl rfl (Yt rfl) ?_
 refine Zc 1 rfl ?_
 refine Zg ?_
 refine Zb hK23 ?_
 refine Zk ?_
 refine Zl rfl (RV.tmp rfl RV.nil) rfl ?_
 refine ⟨_, rfl, ?_⟩
 refine Zg ?_
 refine Zb hK18 ?_
 refine Zz rfl (fun hb => ?_) (fun hb => ?_)
 rotate_left
 ·replace H := Zp H hb
  refine Zt ?_
  refine Z2 ?_
  refine Zb hK16 ?_
  refine Zf ?_
  refine Za rfl rfl rfl (Xf rfl rfl) ?_
  refine Zc 1 rfl ?_
  refine Zg ?_
  exact Va (n, v12, (IntKind.wrap .i64 (v13 + 1))) (by repeat (first | exact Sub.nil | refine Sub.cons rfl ?_)) ⟨hS, H⟩ (Nat.lt_succ_self _)
 replace H := Zq H hb
 refine Zd (fun K hK26 => ?_)
 refine Zf ?_
 refine Zc 2 rfl ?_
 refine Zg ?_
 refine Zb hK26 ?_
 refine Zk ?_
 refine Zv ?_
 refine Zj ?_
 refine Zj ?_
 refine Zv ?_
 refine Zj ?_
 refine Zl rfl (RV.tmp rfl RV.nil) rfl ?_
 refine ⟨_, rfl, ?_⟩
 refine Za rfl rfl rfl (Zc7 rfl rfl) ?_
 refine Zc 1 rfl ?_
 refine Zg ?_
 refine Zb hK8 ?_
 refine Zk ?_
 refine Zl rfl (RV.tmp rfl RV.nil) rfl ?_
 refine ⟨_, rfl, ?_⟩
 refine Za rfl rfl rfl (Yt rfl) ?_
 refine Zc 2 rfl ?_
 refine Zg ?_
 refine Zb hK6 ?_
 refine Zk ?_
 refine Zl rfl (RV.tmp rfl RV.nil) rfl ?_
 obtain rfl := QJ H
 replace hS := hS.cut 0
 exact ⟨rfl, hS⟩
theorem Zf3 (x0 : Co) (A0_ : OA) (c0_ : Nat) (A1_ : OA) (c1_ : Nat) (A2_ : OA) (c2_ : Nat) (A3_ : OA) (c3_ : Nat) (A4_ : OA) (c4_ : Nat) (w0 : World) (s0_ : SlI w0 Jv A0_ c0_ x0.tuple.log) (s1_ : SlI w0 enO A1_ c1_ x0.votes) (s2_ : SlI w0 V9 A2_ c2_ x0.next) (s3_ : SlI w0 V9 A3_ c3_ x0.mtch) (s4_ : SlI w0 V9 A4_ c4_ x0.caps) {r : Bool} (H : Zbi x0 = some r) : Calls Try.prog 44 #[.agg #[.int .i64 x0.id, .int .i64 x0.n, .int .u8 x0.role, .int .i64 x0.binary, .int .i64 x0.tuple.snap.index, .int .i64 x0.tuple.snap.term, .int .i64 x0.tuple.snap.sum, .int .i64 x0.tuple.snap.level, .bool x0.tuple.snap.final, .slice A0_ x0.tuple.log.length c0_, .int .i64 x0.tuple.term, .int .i64 x0.tuple.vote, .int .i64 x0.commit, .int .i64 x0.applied.index, .int .i64 x0.applied.term, .int .i64 x0.applied.sum, .int .i64 x0.applied.level, .bool x0.applied.final, .slice A1_ x0.votes.length c1_, .slice A2_ x0.next.length c2_, .slice A3_ x0.mtch.length c3_, .slice A4_ x0.caps.length c4_]] w0 fun e w' => e = .returned (.bool r) ∧ St0 All w0 w' [] := by
 unfold Zbi at H
 refine Yn Try.func44 rfl Try.ntmps44 rfl ?_
 have hS := St0.start All w0
 refine Zd (fun K hK1 => ?_)
 refine Zf ?_
 refine Yd rfl rfl rfl CellsOf.agg hS (fun b2 w hS hB => ?_)
 refine Zc 1 rfl ?_
 refine Zg ?_
 refine Zb hK1 ?_
 refine Zd (fun K hK4 => ?_)
 refine Zf ?_
 refine Za rfl rfl rfl (Ze Yz rfl) ?_
 refine Za rfl rfl rfl (Zi Yr rfl (Zgy _) hS hs0 trivial Jw) ?_
 obtain ⟨r5, hm6, H⟩ := bind_some H
 refine Zo rfl rfl rfl rfl (by kernel_rfl) rfl (Zdq x0.tuple A0_ c0_ _ (Zg1 s0_.k (hS.rd0 s0_.rd) (hS.blk0 s0_.blk)) hm6) ?_
 rintro e w ⟨rfl, hN⟩; refine ⟨_, rfl, ?_⟩; obtain ⟨hB, hS⟩ := hS.jn hN
 refine Yb rfl rfl zc_3 hS (fun b7 w hS hB => ?_)
 refine Zm rfl rfl rfl CellsOf.int hS ps0 st0_1 (by kernel_rfl) rfl (fun w hS hB => ?_)
 refine Zg ?_
 refine Zb hK4 ?_
 refine Zd (fun K hK9 => ?_)
 refine Zd (fun K hK10 => ?_)
 refine Zf ?_
 refine Za rfl rfl rfl (X4 rfl rfl) ?_
 refine Za rfl rfl rfl (X4 rfl rfl) ?_
 refine Za rfl rfl rfl (X4 rfl rfl) ?_
 refine Za rfl rfl rfl (X4 rfl rfl) ?_
 refine Za rfl rfl rfl (X4 rfl rfl) ?_
 refine Za rfl rfl rfl (X4 rfl rfl) ?_
 refine Za rfl rfl rfl (Xw (cells := [.func (.func 73) #[] #[.pointer (some ⟨b2, 0, none⟩)], .func (.func 75) #[] #[.pointer (some ⟨b2, 0, none⟩)], .func (.func 77) #[] #[.pointer (some ⟨b2, 0, none⟩)], .func (.func 78) #[] #[.pointer (some ⟨b2, 0, none⟩), .pointer (some ⟨b7, 0, none⟩)], .func (.func 80) #[] #[.pointer (some ⟨b2, 0, none⟩)], .func (.func 81) #[] #[.pointer (some ⟨b2, 0, none⟩)]]) rfl (by kernel_rfl)) ?_
 refine Zc 1 rfl ?_
 refine Zg ?_
 refine Zb hK10 ?_
 refine Yc ?_
 refine wpC_rounds 60 ?_
 refine Zd (fun K hK11 => ?_)
 refine Zf ?_
 refine Za rfl rfl rfl (Xh rfl rfl) ?_
 refine Zg ?_
 refine Zb hK11 ?_
 refine Zd (fun K hK12 => ?_)
 refine Zr rfl rfl ?_
 refine Zt ?_
 refine Zb hK12 ?_
 refine Zd (fun K hK13 => ?_)
 refine Yc ?_
 refine Zd (fun K hK14 => ?_)
 refine Zf ?_
 refine Za rfl rfl rfl (Zgr (n := 6) (e := 34) (j := 0) (by kernel_rfl) (by kernel_rfl) (by kernel_rfl) rfl rfl rfl (by decide) rfl) ?_
 refine Zc 1 rfl ?_
 refine Zg ?_
 refine Zb hK14 ?_
 refine Zd (fun K hK15 => ?_)
 refine Zf ?_
 refine Zc 1 rfl ?_
 refine Za2 rfl rfl rfl rfl (by kernel_rfl) rfl ?_
 show Calls _ _ #[_] _ _
 refine Yn Try.func73 rfl Try.ntmps73 rfl ?_
 refine Zd (fun K hK16 => ?_)
 refine Zf ?_
 refine Zc 1 rfl ?_
 refine Zg ?_
 refine Zb hK16 ?_
 refine Zd (fun K hK17 => ?_)
 refine Zf ?_
 refine Za rfl rfl rfl (Ze Jc rfl) ?_
 refine Za rfl rfl rfl (Zh Z0 rfl (Zgy _) hS Xr trivial Vo) ?_
 obtain ⟨r18, hm19, H⟩ := bind_some H
 refine Zo rfl rfl rfl rfl (by kernel_rfl) rfl (Zac x0.n 1 5 _ hm19) ?_
 rintro e w ⟨rfl, hN⟩; refine ⟨_, rfl, ?_⟩; obtain ⟨hB, hS⟩ := hS.jn hN
 refine Zc 1 rfl ?_
 refine Zu 5 rfl (fun hb => ?_) (fun hb => ?_)
 rotate_left
 ·replace H := Zp H hb
  refine Zc 7 rfl ?_
  refine Zg ?_
  refine Zb hK17 ?_
  refine Zk ?_
  refine Zl rfl (RV.tmp rfl RV.nil) rfl ?_
  refine ⟨_, rfl, ?_⟩
  refine Za rfl rfl rfl (Yt rfl) ?_
  refine Zg ?_
  refine Zb hK15 ?_
  refine Zr rfl rfl ?_
  refine Zd (fun K hK94 => ?_)
  refine Zf ?_
  refine Zc 1 rfl ?_
  refine Zg ?_
  refine Zb hK94 ?_
  refine Zk ?_
  refine Zv ?_
  refine Zj ?_
  refine Zj ?_
  refine Zv ?_
  refine Zj ?_
  refine Zl rfl (RV.tmp rfl RV.nil) rfl ?_
  obtain rfl := QJ H
  replace hS := hS.cut 0
  exact ⟨rfl, hS⟩
 replace H := Zq H hb
 refine Za rfl rfl rfl (Ze Zay rfl) ?_
 refine Za rfl rfl rfl (Zh Z0 rfl (Zgy _) hS Xr trivial Y7) ?_
 refine Za rfl rfl rfl (Ze Jc rfl) ?_
 refine Za rfl rfl rfl (Zh Z0 rfl (Zgy _) hS Xr trivial Vo) ?_
 obtain ⟨r20, hm21, H⟩ := bind_some H
 refine Zo rfl rfl rfl rfl (by kernel_rfl) rfl (Zac x0.id 1 x0.n _ hm21) ?_
 rintro e w ⟨rfl, hN⟩; refine ⟨_, rfl, ?_⟩; obtain ⟨hB, hS⟩ := hS.jn hN
 refine Zc 2 rfl ?_
 refine Zg ?_
 refine Zb hK17 ?_
 refine Zk ?_
 refine Zl rfl (RV.tmp rfl RV.nil) rfl ?_
 refine ⟨_, rfl, ?_⟩
 refine Za rfl rfl rfl (Yt rfl) ?_
 refine Zg ?_
 refine Zb hK15 ?_
 refine Zz rfl (fun hb => ?_) (fun hb => ?_)
 ·replace H := Zq H hb
  refine Zd (fun K hK22 => ?_)
  refine Zf ?_
  refine Zc 1 rfl ?_
  refine Zg ?_
  refine Zb hK22 ?_
  refine Zk ?_
  refine Zv ?_
  refine Zj ?_
  refine Zj ?_
  refine Zv ?_
  refine Zj ?_
  refine Zl rfl (RV.tmp rfl RV.nil) rfl ?_
  obtain rfl := QJ H
  replace hS := hS.cut 0
  exact ⟨rfl, hS⟩
 replace H := Zp H hb
 refine Zt ?_
 refine Z2 ?_
 refine Zb hK13 ?_
 refine Zf ?_
 refine Za rfl rfl rfl (Xf rfl rfl) ?_
 refine Zc 1 rfl ?_
 refine Zg ?_
 refine QH_more ?_
 refine Zd (fun K hK23 => ?_)
 refine Zf ?_
 refine Za rfl rfl rfl (Xh rfl rfl) ?_
 refine Zg ?_
 refine Zb hK23 ?_
 refine Zd (fun K hK24 => ?_)
 refine Zr rfl rfl ?_
 refine Zt ?_
 refine Zb hK24 ?_
 refine Zd (fun K hK25 => ?_)
 refine Yc ?_
 refine Zd (fun K hK26 => ?_)
 refine Zf ?_
 refine Za rfl rfl rfl (Zgr (n := 6) (e := 34) (j := 1) (by kernel_rfl) (by kernel_rfl) (by kernel_rfl) rfl rfl rfl (by decide) rfl) ?_
 refine Zc 1 rfl ?_
 refine Zg ?_
 refine Zb hK26 ?_
 refine Zd (fun K hK27 => ?_)
 refine Zf ?_
 refine Zc 1 rfl ?_
 refine Za2 rfl rfl rfl rfl (by kernel_rfl) rfl ?_
 show Calls _ _ #[_] _ _
 refine Yn Try.func75 rfl Try.ntmps75 rfl ?_
 refine Zd (fun K hK28 => ?_)
 refine Zf ?_
 refine Zc 1 rfl ?_
 refine Zg ?_
 refine Zb hK28 ?_
 refine Zd (fun K hK29 => ?_)
 refine Zf ?_
 refine Za rfl rfl rfl (Ze Zcj rfl) ?_
 refine Za rfl rfl rfl (Zh Zbs rfl (Zgy _) hS Xr trivial Zbk) ?_
 refine Za rfl rfl rfl (Zah rfl rfl) ?_
 refine Zc 1 rfl ?_
 refine Zu 5 rfl (fun hb => ?_) (fun hb => ?_)
 rotate_left
 ·replace H := Zp H hb
  refine Zc 10 rfl ?_
  refine Zg ?_
  refine Zb hK29 ?_
  refine Zk ?_
  refine Zl rfl (RV.tmp rfl RV.nil) rfl ?_
  refine ⟨_, rfl, ?_⟩
  refine Za rfl rfl rfl (Yt rfl) ?_
  refine Zg ?_
  refine Zb hK27 ?_
  refine Zr rfl rfl ?_
  refine Zd (fun K hK93 => ?_)
  refine Zf ?_
  refine Zc 1 rfl ?_
  refine Zg ?_
  refine Zb hK93 ?_
  refine Zk ?_
  refine Zv ?_
  refine Zj ?_
  refine Zj ?_
  refine Zv ?_
  refine Zj ?_
  refine Zl rfl (RV.tmp rfl RV.nil) rfl ?_
  obtain rfl := QJ H
  replace hS := hS.cut 0
  exact ⟨rfl, hS⟩
 replace H := Zq H hb
 refine Za rfl rfl rfl (Ze Zed rfl) ?_
 refine Za rfl rfl rfl (Zh Z0 rfl (Zgy _) hS Xr trivial Zbd) ?_
 obtain ⟨r30, hm31, H⟩ := bind_some H
 refine Zo rfl rfl rfl rfl (by kernel_rfl) rfl (Zac x0.binary 1 2 _ hm31) ?_
 rintro e w ⟨rfl, hN⟩; refine ⟨_, rfl, ?_⟩; obtain ⟨hB, hS⟩ := hS.jn hN
 refine Zc 2 rfl ?_
 refine Zu 10 rfl (fun hb => ?_) (fun hb => ?_)
 rotate_left
 ·replace H := Zp H hb
  refine Zc 5 rfl ?_
  refine Zg ?_
  refine Zb hK29 ?_
  refine Zk ?_
  refine Zl rfl (RV.tmp rfl RV.nil) rfl ?_
  refine ⟨_, rfl, ?_⟩
  refine Za rfl rfl rfl (Yt rfl) ?_
  refine Zg ?_
  refine Zb hK27 ?_
  refine Zr rfl rfl ?_
  refine Zd (fun K hK92 => ?_)
  refine Zf ?_
  refine Zc 1 rfl ?_
  refine Zg ?_
  refine Zb hK92 ?_
  refine Zk ?_
  refine Zv ?_
  refine Zj ?_
  refine Zj ?_
  refine Zv ?_
  refine Zj ?_
  refine Zl rfl (RV.tmp rfl RV.nil) rfl ?_
  obtain rfl := QJ H
  replace hS := hS.cut 0
  exact ⟨rfl, hS⟩
 replace H := Zq H hb
 refine Za rfl rfl rfl (Ze Yz rfl) ?_
 refine Za rfl rfl rfl (Zi Yr rfl (Zgy _) hS Xr trivial Jw) ?_
 obtain ⟨r32, hm33, H⟩ := bind_some H
 refine Zo rfl rfl rfl rfl (by kernel_rfl) rfl (c_tuple_Right x0.tuple A0_ c0_ _ (Zg1 s0_.k (hS.rd0 s0_.rd) (hS.blk0 s0_.blk)) hm33) ?_
 rintro e w ⟨rfl, hN⟩; refine ⟨_, rfl, ?_⟩; obtain ⟨hB, hS⟩ := hS.jn hN
 refine Zc 2 rfl ?_
 refine Zg ?_
 refine Zb hK29 ?_
 refine Zk ?_
 refine Zl rfl (RV.tmp rfl RV.nil) rfl ?_
 refine ⟨_, rfl, ?_⟩
 refine Za rfl rfl rfl (Yt rfl) ?_
 refine Zg ?_
 refine Zb hK27 ?_
 refine Zz rfl (fun hb => ?_) (fun hb => ?_)
 ·replace H := Zq H hb
  refine Zd (fun K hK34 => ?_)
  refine Zf ?_
  refine Zc 1 rfl ?_
  refine Zg ?_
  refine Zb hK34 ?_
  refine Zk ?_
  refine Zv ?_
  refine Zj ?_
  refine Zj ?_
  refine Zv ?_
  refine Zj ?_
  refine Zl rfl (RV.tmp rfl RV.nil) rfl ?_
  obtain rfl := QJ H
  replace hS := hS.cut 0
  exact ⟨rfl, hS⟩
 replace H := Zp H hb
 refine Zt ?_
 refine Z2 ?_
 refine Zb hK25 ?_
 refine Zf ?_
 refine Za rfl rfl rfl (Xf rfl rfl) ?_
 refine Zc 1 rfl ?_
 refine Zg ?_
 refine QH_more ?_
 refine Zd (fun K hK35 => ?_)
 refine Zf ?_
 refine Za rfl rfl rfl (Xh rfl rfl) ?_
 refine Zg ?_
 refine Zb hK35 ?_
 refine Zd (fun K hK36 => ?_)
 refine Zr rfl rfl ?_
 refine Zt ?_
 refine Zb hK36 ?_
 refine Zd (fun K hK37 => ?_)
 refine Yc ?_
 refine Zd (fun K hK38 => ?_)
 refine Zf ?_
 refine Za rfl rfl rfl (Zgr (n := 6) (e := 34) (j := 2) (by kernel_rfl) (by kernel_rfl) (by kernel_rfl) rfl rfl rfl (by decide) rfl) ?_
 refine Zc 1 rfl ?_
 refine Zg ?_
 refine Zb hK38 ?_
 refine Zd (fun K hK39 => ?_)
 refine Zf ?_
 refine Zc 1 rfl ?_
 refine Za2 rfl rfl rfl rfl (by kernel_rfl) rfl ?_
 show Calls _ _ #[_] _ _
 refine Yn Try.func77 rfl Try.ntmps77 rfl ?_
 refine Zd (fun K hK40 => ?_)
 refine Zf ?_
 refine Zc 1 rfl ?_
 refine Zg ?_
 refine Zb hK40 ?_
 refine Zd (fun K hK41 => ?_)
 refine Zf ?_
 refine Za rfl rfl rfl (Ze Yz rfl) ?_
 refine Za rfl rfl rfl (Zi Yr rfl (Zgy _) hS Xr trivial Jw) ?_
 refine Za rfl rfl rfl (Ze V5 rfl) ?_
 refine Za rfl rfl rfl (Zh Z0 rfl (Zgy _) hS Xr trivial Zbe) ?_
 obtain ⟨r42, hm43, H⟩ := bind_some H
 refine Zo rfl rfl rfl rfl (by kernel_rfl) rfl (Za5 x0.tuple x0.commit A0_ c0_ _ (Zg1 s0_.k (hS.rd0 s0_.rd) (hS.blk0 s0_.blk)) hm43) ?_
 rintro e w ⟨rfl, hN⟩; refine ⟨_, rfl, ?_⟩; obtain ⟨hB, hS⟩ := hS.jn hN
 refine Zc 1 rfl ?_
 refine Za rfl rfl rfl (Z1 rfl rfl) ?_
 refine Za rfl rfl rfl (Z1 rfl rfl) ?_
 refine Yb rfl rfl zc_23 hS (fun b44 w hS hB => ?_)
 refine Zm rfl rfl rfl CellsOf.agg hS ps0 Zdx (by kernel_rfl) rfl (fun w hS hB => ?_)
 refine Zc 1 rfl ?_
 refine Zg ?_
 refine Zb hK41 ?_
 refine Zd (fun K hK46 => ?_)
 refine Zf ?_
 refine Zc 2 rfl ?_
 refine Zu 13 rfl (fun hb => ?_) (fun hb => ?_)
 rotate_left
 ·replace H := Zp H hb
  refine Zc 6 rfl ?_
  refine Zg ?_
  refine Zb hK46 ?_
  refine Zk ?_
  refine Zl rfl (RV.tmp rfl RV.nil) rfl ?_
  refine ⟨_, rfl, ?_⟩
  refine Za rfl rfl rfl (Yt rfl) ?_
  refine Zg ?_
  refine Zb hK39 ?_
  refine Zr rfl rfl ?_
  refine Zd (fun K hK91 => ?_)
  refine Zf ?_
  refine Zc 1 rfl ?_
  refine Zg ?_
  refine Zb hK91 ?_
  refine Zk ?_
  refine Zv ?_
  refine Zj ?_
  refine Zj ?_
  refine Zv ?_
  refine Zj ?_
  refine Zl rfl (RV.tmp rfl RV.nil) rfl ?_
  obtain rfl := QJ H
  replace hS := hS.cut 0
  exact ⟨rfl, hS⟩
 replace H := Zq H hb
 refine Za rfl rfl rfl (Zi Y4 rfl (Zgy _) hS hs0 trivial Jl) ?_
 refine Za rfl rfl rfl (Ze Zef rfl) ?_
 refine Za rfl rfl rfl (Zi Y4 rfl (Zgy _) hS X0 trivial sg13_5) ?_
 refine Za rfl rfl rfl (Zai (by kernel_rfl) rfl rfl (Za6 _ _ _ _ _ _ _ _ _ _)) ?_
 refine Zc 2 rfl ?_
 refine Zg ?_
 refine Zb hK46 ?_
 refine Zk ?_
 refine Zl rfl (RV.tmp rfl RV.nil) rfl ?_
 refine ⟨_, rfl, ?_⟩
 refine Za rfl rfl rfl (Yt rfl) ?_
 refine Zg ?_
 refine Zb hK39 ?_
 refine Zz rfl (fun hb => ?_) (fun hb => ?_)
 ·replace H := Zq H hb
  refine Zd (fun K hK47 => ?_)
  refine Zf ?_
  refine Zc 1 rfl ?_
  refine Zg ?_
  refine Zb hK47 ?_
  refine Zk ?_
  refine Zv ?_
  refine Zj ?_
  refine Zj ?_
  refine Zv ?_
  refine Zj ?_
  refine Zl rfl (RV.tmp rfl RV.nil) rfl ?_
  obtain rfl := QJ H
  replace hS := hS.cut 0
  exact ⟨rfl, hS⟩
 replace H := Zp H hb
 refine Zt ?_
 refine Z2 ?_
 refine Zb hK37 ?_
 refine Zf ?_
 refine Za rfl rfl rfl (Xf rfl rfl) ?_
 refine Zc 1 rfl ?_
 refine Zg ?_
 refine QH_more ?_
 refine Zd (fun K hK48 => ?_)
 refine Zf ?_
 refine Za rfl rfl rfl (Xh rfl rfl) ?_
 refine Zg ?_
 refine Zb hK48 ?_
 refine Zd (fun K hK49 => ?_)
 refine Zr rfl rfl ?_
 refine Zt ?_
 refine Zb hK49 ?_
 refine Zd (fun K hK50 => ?_)
 refine Yc ?_
 refine Zd (fun K hK51 => ?_)
 refine Zf ?_
 refine Za rfl rfl rfl (Zgr (n := 6) (e := 34) (j := 3) (by kernel_rfl) (by kernel_rfl) (by kernel_rfl) rfl rfl rfl (by decide) rfl) ?_
 refine Zc 1 rfl ?_
 refine Zg ?_
 refine Zb hK51 ?_
 refine Zd (fun K hK52 => ?_)
 refine Zf ?_
 refine Zc 1 rfl ?_
 refine Za2 rfl rfl rfl rfl (by kernel_rfl) rfl ?_
 show Calls _ _ #[_, _] _ _
 refine Y0 Try.func78 rfl Try.ntmps78 rfl ?_
 refine Zd (fun K hK53 => ?_)
 refine Zf ?_
 refine Zc 1 rfl ?_
 refine Zg ?_
 refine Zb hK53 ?_
 refine Zd (fun K hK54 => ?_)
 refine Zf ?_
 refine Za rfl rfl rfl (Ze Zb2 rfl) ?_
 refine Za rfl rfl rfl (Zh sc_27 rfl (Zgy _) hS X0 trivial Zgj) ?_
 refine Za rfl rfl rfl (Yu el_27 rfl) ?_
 refine Za rfl rfl rfl (Ze Jc rfl) ?_
 refine Za rfl rfl rfl (Zh Z0 rfl (Zgy _) hS X0 trivial Vo) ?_
 refine Za rfl rfl rfl (Xo rfl rfl) ?_
 refine Zc 1 rfl ?_
 refine Zu 9 rfl (fun hb => ?_) (fun hb => ?_)
 rotate_left
 ·replace H := Zp H hb
  refine Zc 17 rfl ?_
  refine Zg ?_
  refine Zb hK54 ?_
  refine Zk ?_
  refine Zl rfl (RV.tmp rfl RV.nil) rfl ?_
  refine ⟨_, rfl, ?_⟩
  refine Za rfl rfl rfl (Yt rfl) ?_
  refine Zg ?_
  refine Zb hK52 ?_
  refine Zr rfl rfl ?_
  refine Zd (fun K hK90 => ?_)
  refine Zf ?_
  refine Zc 1 rfl ?_
  refine Zg ?_
  refine Zb hK90 ?_
  refine Zk ?_
  refine Zv ?_
  refine Zj ?_
  refine Zj ?_
  refine Zv ?_
  refine Zj ?_
  refine Zl rfl (RV.tmp rfl RV.nil) rfl ?_
  obtain rfl := QJ H
  replace hS := hS.cut 0
  exact ⟨rfl, hS⟩
 replace H := Zq H hb
 refine Za rfl rfl rfl (Ze Vm rfl) ?_
 refine Za rfl rfl rfl (Zh Xt rfl (Zgy _) hS X0 trivial Jz) ?_
 refine Za rfl rfl rfl (Ze Jc rfl) ?_
 refine Za rfl rfl rfl (Zh Z0 rfl (Zgy _) hS X0 trivial Vo) ?_
 refine Za rfl rfl rfl (Zh Z0 rfl (Zgy _) hS Xr trivial Y7) ?_
 refine Za rfl rfl rfl (Xf rfl rfl) ?_
 obtain ⟨r55, hm56, H⟩ := bind_some H
 refine Zo rfl rfl rfl rfl (by kernel_rfl) rfl (Zfl x0.next x0.n 1 (IntKind.wrap .i64 (r5 + 1)) A2_ c2_ _ (Zg1 s2_.k (hS.rd0 s2_.rd) (hS.blk0 s2_.blk)) hm56) ?_
 rintro e w ⟨rfl, hN⟩; refine ⟨_, rfl, ?_⟩; obtain ⟨hB, hS⟩ := hS.jn hN
 refine Zc 2 rfl ?_
 refine Zu 18 rfl (fun hb => ?_) (fun hb => ?_)
 rotate_left
 ·replace H := Zp H hb
  refine Zc 8 rfl ?_
  refine Zg ?_
  refine Zb hK54 ?_
  refine Zk ?_
  refine Zl rfl (RV.tmp rfl RV.nil) rfl ?_
  refine ⟨_, rfl, ?_⟩
  refine Za rfl rfl rfl (Yt rfl) ?_
  refine Zg ?_
  refine Zb hK52 ?_
  refine Zr rfl rfl ?_
  refine Zd (fun K hK89 => ?_)
  refine Zf ?_
  refine Zc 1 rfl ?_
  refine Zg ?_
  refine Zb hK89 ?_
  refine Zk ?_
  refine Zv ?_
  refine Zj ?_
  refine Zj ?_
  refine Zv ?_
  refine Zj ?_
  refine Zl rfl (RV.tmp rfl RV.nil) rfl ?_
  obtain rfl := QJ H
  replace hS := hS.cut 0
  exact ⟨rfl, hS⟩
 replace H := Zq H hb
 refine Za rfl rfl rfl (Ze V3 rfl) ?_
 refine Za rfl rfl rfl (Zh Xt rfl (Zgy _) hS X0 trivial Zat) ?_
 refine Za rfl rfl rfl (Ze Jc rfl) ?_
 refine Za rfl rfl rfl (Zh Z0 rfl (Zgy _) hS X0 trivial Vo) ?_
 refine Za rfl rfl rfl (Zh Z0 rfl (Zgy _) hS Xr trivial Y7) ?_
 obtain ⟨r57, hm58, H⟩ := bind_some H
 refine Zo rfl rfl rfl rfl (by kernel_rfl) rfl (Zfl x0.mtch x0.n 0 r5 A3_ c3_ _ (Zg1 s3_.k (hS.rd0 s3_.rd) (hS.blk0 s3_.blk)) hm58) ?_
 rintro e w ⟨rfl, hN⟩; refine ⟨_, rfl, ?_⟩; obtain ⟨hB, hS⟩ := hS.jn hN
 refine Zc 2 rfl ?_
 refine Zg ?_
 refine Zb hK54 ?_
 refine Zk ?_
 refine Zl rfl (RV.tmp rfl RV.nil) rfl ?_
 refine ⟨_, rfl, ?_⟩
 refine Za rfl rfl rfl (Yt rfl) ?_
 refine Zg ?_
 refine Zb hK52 ?_
 refine Zz rfl (fun hb => ?_) (fun hb => ?_)
 ·replace H := Zq H hb
  refine Zd (fun K hK59 => ?_)
  refine Zf ?_
  refine Zc 1 rfl ?_
  refine Zg ?_
  refine Zb hK59 ?_
  refine Zk ?_
  refine Zv ?_
  refine Zj ?_
  refine Zj ?_
  refine Zv ?_
  refine Zj ?_
  refine Zl rfl (RV.tmp rfl RV.nil) rfl ?_
  obtain rfl := QJ H
  replace hS := hS.cut 0
  exact ⟨rfl, hS⟩
 replace H := Zp H hb
 refine Zt ?_
 refine Z2 ?_
 refine Zb hK50 ?_
 refine Zf ?_
 refine Za rfl rfl rfl (Xf rfl rfl) ?_
 refine Zc 1 rfl ?_
 refine Zg ?_
 refine QH_more ?_
 refine Zd (fun K hK60 => ?_)
 refine Zf ?_
 refine Za rfl rfl rfl (Xh rfl rfl) ?_
 refine Zg ?_
 refine Zb hK60 ?_
 refine Zd (fun K hK61 => ?_)
 refine Zr rfl rfl ?_
 refine Zt ?_
 refine Zb hK61 ?_
 refine Zd (fun K hK62 => ?_)
 refine Yc ?_
 refine Zd (fun K hK63 => ?_)
 refine Zf ?_
 refine Za rfl rfl rfl (Zgr (n := 6) (e := 34) (j := 4) (by kernel_rfl) (by kernel_rfl) (by kernel_rfl) rfl rfl rfl (by decide) rfl) ?_
 refine Zc 1 rfl ?_
 refine Zg ?_
 refine Zb hK63 ?_
 refine Zd (fun K hK64 => ?_)
 refine Zf ?_
 refine Zc 1 rfl ?_
 refine Za2 rfl rfl rfl rfl (by kernel_rfl) rfl ?_
 show Calls _ _ #[_] _ _
 refine Yn Try.func80 rfl Try.ntmps80 rfl ?_
 refine Zd (fun K hK65 => ?_)
 refine Zf ?_
 refine Zc 1 rfl ?_
 refine Zg ?_
 refine Zb hK65 ?_
 refine Zd (fun K hK66 => ?_)
 refine Yg 18 [] (fun _ _ => True) ⟨by kernel_rfl, by kernel_rfl⟩ hS (fun w hS hB => ?_)
 refine Zn [true, true, true, true] (by decide +kernel) PFC.h ?_
 refine LtK.put rfl rfl rfl (Ze Zaa rfl) ?_
 refine LtK.put rfl rfl rfl (Zh Xt rfl (Zgz _) hS X0 trivial Zdr) ?_
 refine LtK.put rfl rfl rfl (Ze Jc rfl) ?_
 refine LtK.put rfl rfl rfl (Zh Z0 rfl (Zgz _) hS X0 trivial Vo) ?_
 refine LtK.nil ?_
 refine Z4 [false, false, false, false, true] 4 ⟨by decide, by kernel_rfl, by kernel_rfl⟩ rfl rfl ?_
 try dsimp only [Zw]
 obtain ⟨r67, hm68, H⟩ := bind_some H
 refine Zo rfl rfl rfl rfl (by kernel_rfl) rfl (Zfl x0.caps x0.n 0 2 A4_ c4_ _ (Zg1 s4_.k (hS.rd0 s4_.rd) (hS.blk0 s4_.blk)) hm68) ?_
 rintro e w ⟨rfl, hN⟩; refine ⟨_, rfl, ?_⟩; obtain ⟨hB, hS⟩ := hS.jn hN
 refine Zg ?_
 refine Z7 hB ?_
 refine Zn [false, false, false, false, false, true] (by decide +kernel) PFC.h ?_
 refine LtK.put rfl rfl rfl (Zs rfl) ?_
 refine LtK.nil ?_
 refine Xl 7 rfl (fun hb => ?_) (fun hb => ?_)
 rotate_left
 ·replace H := Zp H hb
  refine Zn [false, false, false, false, false, false, true, true, true, true, true, true, true, true, true, true, true, true] (by decide +kernel) PFC.h ?_
  refine LtK.skip rfl rfl rfl ?_
  refine LtK.skip rfl rfl rfl ?_
  refine LtK.skip rfl rfl rfl ?_
  refine LtK.skip rfl rfl rfl ?_
  refine LtK.skip rfl rfl rfl ?_
  refine LtK.skip rfl rfl rfl ?_
  refine LtK.skip rfl rfl rfl ?_
  refine LtK.skip rfl rfl rfl ?_
  refine LtK.skip rfl rfl rfl ?_
  refine LtK.skip rfl rfl rfl ?_
  refine LtK.put rfl rfl rfl (Yj rfl rfl rfl) ?_
  refine LtK.put rfl rfl rfl (Zy rfl) ?_
  refine LtK.nil ?_
  refine Z6 (by kernel_rfl) ?_
  refine Zb hK66 ?_
  refine Zk ?_
  refine Zl rfl (RV.tmp rfl RV.nil) rfl ?_
  refine ⟨_, rfl, ?_⟩
  refine Za rfl rfl rfl (Yt rfl) ?_
  refine Zg ?_
  refine Zb hK64 ?_
  refine Zr rfl rfl ?_
  refine Zd (fun K hK88 => ?_)
  refine Zf ?_
  refine Zc 1 rfl ?_
  refine Zg ?_
  refine Zb hK88 ?_
  refine Zk ?_
  refine Zv ?_
  refine Zj ?_
  refine Zj ?_
  refine Zv ?_
  refine Zj ?_
  refine Zl rfl (RV.tmp rfl RV.nil) rfl ?_
  obtain rfl := QJ H
  replace hS := hS.cut 0
  exact ⟨rfl, hS⟩
 replace H := Zq H hb
 refine Zn [false, false, false, false, false, false, true, true, true, true, true, true, true, true, true, true, true, true] (by decide +kernel) PFC.h ?_
 refine LtK.put rfl rfl rfl (Ze Zaa rfl) ?_
 refine LtK.put rfl rfl rfl (Zh Xt rfl (Zgz _) hS X0 trivial Zdr) ?_
 refine LtK.put rfl rfl rfl (Ze Zay rfl) ?_
 refine LtK.put rfl rfl rfl (Zh Z0 rfl (Zgz _) hS X0 trivial Y7) ?_
 refine LtK.put rfl rfl rfl (J0 rfl rfl) ?_
 obtain ⟨e69, hi71, H⟩ := bind_some H
 obtain ⟨j70, hi71a, hi71b, hi71c⟩ := Yw hi71
 refine LtK.put rfl rfl rfl (Y8 Xm rfl rfl hi71a hi71c (Rd.el (hS.rd0 s4_.rd) Yl hi71b)) ?_
 refine LtK.put rfl rfl rfl (X1 Z0 rfl (Zgz _) (Rd.el (hS.rd0 s4_.rd) Yl hi71b) rfl) ?_
 refine LtK.put rfl rfl rfl (Ze Zed rfl) ?_
 refine LtK.put rfl rfl rfl (Zh Z0 rfl (Zgz _) hS X0 trivial Zbd) ?_
 refine LtK.put rfl rfl rfl (Xo rfl rfl) ?_
 refine LtK.put rfl rfl rfl (Z3 rfl rfl rfl) ?_
 refine LtK.put rfl rfl rfl (Zy rfl) ?_
 refine LtK.nil ?_
 refine Z6 (by kernel_rfl) ?_
 refine Zb hK66 ?_
 refine Zk ?_
 refine Zl rfl (RV.tmp rfl RV.nil) rfl ?_
 refine ⟨_, rfl, ?_⟩
 refine Za rfl rfl rfl (Yt rfl) ?_
 refine Zg ?_
 refine Zb hK64 ?_
 refine Zz rfl (fun hb => ?_) (fun hb => ?_)
 ·replace H := Zq H hb
  refine Zd (fun K hK72 => ?_)
  refine Zf ?_
  refine Zc 1 rfl ?_
  refine Zg ?_
  refine Zb hK72 ?_
  refine Zk ?_
  refine Zv ?_
  refine Zj ?_
  refine Zj ?_
  refine Zv ?_
  refine Zj ?_
  refine Zl rfl (RV.tmp rfl RV.nil) rfl ?_
  obtain rfl := QJ H
  replace hS := hS.cut 0
  exact ⟨rfl, hS⟩
 replace H := Zp H hb
 refine Zt ?_
 refine Z2 ?_
 refine Zb hK62 ?_
 refine Zf ?_
 refine Za rfl rfl rfl (Xf rfl rfl) ?_
 refine Zc 1 rfl ?_
 refine Zg ?_
 refine QH_more ?_
 refine Zd (fun K hK73 => ?_)
 refine Zf ?_
 refine Za rfl rfl rfl (Xh rfl rfl) ?_
 refine Zg ?_
 refine Zb hK73 ?_
 refine Zd (fun K hK74 => ?_)
 refine Zr rfl rfl ?_
 refine Zt ?_
 refine Zb hK74 ?_
 refine Zd (fun K hK75 => ?_)
 refine Yc ?_
 refine Zd (fun K hK76 => ?_)
 refine Zf ?_
 refine Za rfl rfl rfl (Zgr (n := 6) (e := 34) (j := 5) (by kernel_rfl) (by kernel_rfl) (by kernel_rfl) rfl rfl rfl (by decide) rfl) ?_
 refine Zc 1 rfl ?_
 refine Zg ?_
 refine Zb hK76 ?_
 refine Zd (fun K hK77 => ?_)
 refine Zf ?_
 refine Zc 1 rfl ?_
 refine Za2 rfl rfl rfl rfl (by kernel_rfl) rfl ?_
 show Calls _ _ #[_] _ _
 refine Yn Try.func81 rfl Try.ntmps81 rfl ?_
 refine Zd (fun K hK78 => ?_)
 refine Zf ?_
 refine Zc 1 rfl ?_
 refine Zg ?_
 refine Zb hK78 ?_
 refine Zd (fun K hK79 => ?_)
 refine Zf ?_
 refine Za rfl rfl rfl (Ze Zcj rfl) ?_
 refine Za rfl rfl rfl (Zh Zbs rfl (Zgy _) hS X0 trivial Zbk) ?_
 refine Za rfl rfl rfl (Xo rfl rfl) ?_
 refine Zc 1 rfl ?_
 refine Zu 5 rfl (fun hb => ?_) (fun hb => ?_)
 ·replace H := Zq H hb
  refine Zc 14 rfl ?_
  refine Zg ?_
  refine Zb hK79 ?_
  refine Zk ?_
  refine Zl rfl (RV.tmp rfl RV.nil) rfl ?_
  refine ⟨_, rfl, ?_⟩
  refine Za rfl rfl rfl (Yt rfl) ?_
  refine Zg ?_
  refine Zb hK77 ?_
  refine Yo rfl rfl ?_
  refine Zt ?_
  refine Z2 ?_
  refine Zb hK75 ?_
  refine Zf ?_
  refine Za rfl rfl rfl (Xf rfl rfl) ?_
  refine Zc 1 rfl ?_
  refine Zg ?_
  refine QH_more ?_
  refine Zd (fun K hK80 => ?_)
  refine Zf ?_
  refine Za rfl rfl rfl (Xh rfl rfl) ?_
  refine Zg ?_
  refine Zb hK80 ?_
  refine Zd (fun K hK81 => ?_)
  refine Yo rfl rfl ?_
  refine Vj ?_
  refine Ya ?_
  refine Ya ?_
  refine Y3 ?_
  refine Zb hK9 ?_
  refine Zd (fun K hK82 => ?_)
  refine Zf ?_
  refine Zc 1 rfl ?_
  refine Zg ?_
  refine Zb hK82 ?_
  refine Zk ?_
  refine Zl rfl (RV.tmp rfl RV.nil) rfl ?_
  obtain rfl := QJ H
  replace hS := hS.cut 0
  exact ⟨rfl, hS⟩
 replace H := Zp H hb
 refine Za rfl rfl rfl (Ze Yz rfl) ?_
 refine Za rfl rfl rfl (Ze Jb rfl) ?_
 refine Za rfl rfl rfl (Zh Z0 rfl (Zgy _) hS X0 trivial Zbc) ?_
 refine Za rfl rfl rfl (Xa rfl rfl) ?_
 refine Zc 1 rfl ?_
 refine Zu 10 rfl (fun hb => ?_) (fun hb => ?_)
 rotate_left
 ·replace H := Zp H hb
  refine Zc 9 rfl ?_
  refine Zg ?_
  refine Zb hK79 ?_
  refine Zk ?_
  refine Zl rfl (RV.tmp rfl RV.nil) rfl ?_
  refine ⟨_, rfl, ?_⟩
  refine Za rfl rfl rfl (Yt rfl) ?_
  refine Zg ?_
  refine Zb hK77 ?_
  refine Zr rfl rfl ?_
  refine Zd (fun K hK87 => ?_)
  refine Zf ?_
  refine Zc 1 rfl ?_
  refine Zg ?_
  refine Zb hK87 ?_
  refine Zk ?_
  refine Zv ?_
  refine Zj ?_
  refine Zj ?_
  refine Zv ?_
  refine Zj ?_
  refine Zl rfl (RV.tmp rfl RV.nil) rfl ?_
  obtain rfl := QJ H
  replace hS := hS.cut 0
  exact ⟨rfl, hS⟩
 replace H := Zq H hb
 refine Za rfl rfl rfl (Ze Yz rfl) ?_
 refine Za rfl rfl rfl (Ze J4 rfl) ?_
 refine Za rfl rfl rfl (Zh Z0 rfl (Zgy _) hS X0 trivial sg11_1) ?_
 refine Za rfl rfl rfl (Ze Zay rfl) ?_
 refine Za rfl rfl rfl (Zh Z0 rfl (Zgy _) hS X0 trivial Y7) ?_
 refine Za rfl rfl rfl (Xo rfl rfl) ?_
 refine Zc 3 rfl ?_
 refine Zg ?_
 refine Zb hK79 ?_
 refine Zk ?_
 refine Zl rfl (RV.tmp rfl RV.nil) rfl ?_
 refine ⟨_, rfl, ?_⟩
 refine Za rfl rfl rfl (Yt rfl) ?_
 refine Zg ?_
 refine Zb hK77 ?_
 refine Zz rfl (fun hb => ?_) (fun hb => ?_)
 ·replace H := Zq H hb
  refine Zd (fun K hK83 => ?_)
  refine Zf ?_
  refine Zc 1 rfl ?_
  refine Zg ?_
  refine Zb hK83 ?_
  refine Zk ?_
  refine Zv ?_
  refine Zj ?_
  refine Zj ?_
  refine Zv ?_
  refine Zj ?_
  refine Zl rfl (RV.tmp rfl RV.nil) rfl ?_
  obtain rfl := QJ H
  replace hS := hS.cut 0
  exact ⟨rfl, hS⟩
 replace H := Zp H hb
 refine Zt ?_
 refine Z2 ?_
 refine Zb hK75 ?_
 refine Zf ?_
 refine Za rfl rfl rfl (Xf rfl rfl) ?_
 refine Zc 1 rfl ?_
 refine Zg ?_
 refine QH_more ?_
 refine Zd (fun K hK84 => ?_)
 refine Zf ?_
 refine Za rfl rfl rfl (Xh rfl rfl) ?_
 refine Zg ?_
 refine Zb hK84 ?_
 refine Zd (fun K hK85 => ?_)
 refine Yo rfl rfl ?_
 refine Vj ?_
 refine Ya ?_
 refine Ya ?_
 refine Y3 ?_
 refine Zb hK9 ?_
 refine Zd (fun K hK86 => ?_)
 refine Zf ?_
 refine Zc 1 rfl ?_
 refine Zg ?_
 refine Zb hK86 ?_
 refine Zk ?_
 refine Zl rfl (RV.tmp rfl RV.nil) rfl ?_
 obtain rfl := QJ H
 replace hS := hS.cut 0
 exact ⟨rfl, hS⟩
theorem c_tuple_At (x0 : Tu) (x1 : Int) (A0_ : OA) (c0_ : Nat) (w0 : World) (s0_ : SlI w0 Jv A0_ c0_ x0.log) {r : En × Bool} (H : m_tuple_At x0 x1 = some r) : Calls Try.prog 93 #[.agg #[.int .i64 x0.snap.index, .int .i64 x0.snap.term, .int .i64 x0.snap.sum, .int .i64 x0.snap.level, .bool x0.snap.final, .slice A0_ x0.log.length c0_, .int .i64 x0.term, .int .i64 x0.vote], .int .i64 x1] w0 fun e w' => e = .returned (.tuple #[.agg #[.int .i64 r.1.term, .int .i64 r.1.kind, .int .i64 r.1.value], .bool r.2]) ∧ St0 All w0 w' [] := by
 unfold m_tuple_At at H
 refine Y0 Try.func93 rfl Try.ntmps93 rfl ?_
 have hS := St0.start All w0
 refine Zd (fun K hK1 => ?_)
 refine Zf ?_
 refine Yd rfl rfl rfl CellsOf.agg hS (fun b2 w hS hB => ?_)
 refine Yb rfl rfl Zb6 hS (fun b4 w hS hB => ?_)
 refine Zc 1 rfl ?_
 refine Zg ?_
 refine Zb hK1 ?_
 refine Zd (fun K hK6 => ?_)
 refine Zd (fun K hK7 => ?_)
 refine Zf ?_
 refine Zc 1 rfl ?_
 refine Za rfl rfl rfl (Ze Xg rfl) ?_
 refine Za rfl rfl rfl (Ze Yi rfl) ?_
 refine Za rfl rfl rfl (Zh Z0 rfl (Zgy _) hS Xr trivial Y7) ?_
 refine Za rfl rfl rfl (Zah rfl rfl) ?_
 refine Zc 1 rfl ?_
 refine Zu 11 rfl (fun hb => ?_) (fun hb => ?_)
 ·replace H := Zq H hb
  refine Zc 5 rfl ?_
  refine Zg ?_
  refine Zb hK7 ?_
  refine Zr rfl rfl ?_
  refine Zd (fun K hK8 => ?_)
  refine Zf ?_
  refine Za rfl rfl rfl (Zi V7 rfl (Zgy _) hS hs0 trivial Zbv) ?_
  refine Zm rfl rfl rfl CellsOf.agg hS ps0 Zft (by kernel_rfl) rfl (fun w hS hB => ?_)
  refine Zc 1 rfl ?_
  refine Zg ?_
  refine Zb hK8 ?_
  refine Zk ?_
  refine Zj ?_
  refine Zl rfl (RV.cell rfl (Zx V7 hS hs0 Zbv) (RV.tmp rfl RV.nil)) rfl ?_
  obtain rfl := QJ H
  replace hS := hS.cut 0
  exact ⟨rfl, hS⟩
 replace H := Zp H hb
 refine Zc 1 rfl ?_
 refine Za rfl rfl rfl (Zi Yr rfl (Zgy _) hS Xr trivial Vl) ?_
 obtain ⟨r9, hm10, H⟩ := bind_some H
 refine Zo rfl rfl rfl rfl (by kernel_rfl) rfl (Zdq x0 A0_ c0_ _ (Zg1 s0_.k (hS.rd0 s0_.rd) (hS.blk0 s0_.blk)) hm10) ?_
 rintro e w ⟨rfl, hN⟩; refine ⟨_, rfl, ?_⟩; obtain ⟨hB, hS⟩ := hS.jn hN
 refine Za rfl rfl rfl (Xa rfl rfl) ?_
 refine Zc 1 rfl ?_
 refine Zg ?_
 refine Zb hK7 ?_
 refine Zz rfl (fun hb => ?_) (fun hb => ?_)
 ·replace H := Zq H hb
  refine Zd (fun K hK11 => ?_)
  refine Zf ?_
  refine Za rfl rfl rfl (Zi V7 rfl (Zgy _) hS hs0 trivial Zbv) ?_
  refine Zm rfl rfl rfl CellsOf.agg hS ps0 Zft (by kernel_rfl) rfl (fun w hS hB => ?_)
  refine Zc 1 rfl ?_
  refine Zg ?_
  refine Zb hK11 ?_
  refine Zk ?_
  refine Zj ?_
  refine Zl rfl (RV.cell rfl (Zx V7 hS hs0 Zbv) (RV.tmp rfl RV.nil)) rfl ?_
  obtain rfl := QJ H
  replace hS := hS.cut 0
  exact ⟨rfl, hS⟩
 replace H := Zp H hb
 refine Zt ?_
 refine Zb hK6 ?_
 refine Zd (fun K hK12 => ?_)
 refine Zf ?_
 refine Za rfl rfl rfl (Ze Xz rfl) ?_
 refine Za rfl rfl rfl (Zh Xp rfl (Zgy _) hS Xr trivial Js) ?_
 refine Zc 1 rfl ?_
 refine Za rfl rfl rfl (Ze Xg rfl) ?_
 refine Za rfl rfl rfl (Ze Yi rfl) ?_
 refine Za rfl rfl rfl (Zh Z0 rfl (Zgy _) hS Xr trivial Y7) ?_
 refine Za rfl rfl rfl (J0 rfl rfl) ?_
 refine Za rfl rfl rfl (J0 rfl rfl) ?_
 obtain ⟨e13, hi15, H⟩ := bind_some H
 obtain ⟨j14, hi15a, hi15b, hi15c⟩ := Yw hi15
 refine Za rfl rfl rfl (Y8 Y6 rfl rfl hi15a hi15c (Rd.el (hS.rd0 s0_.rd) X5 hi15b)) ?_
 refine Za rfl rfl rfl (Ze6 V7 rfl (Zgy _) (Rd.el (hS.rd0 s0_.rd) X5 hi15b) Zbv) ?_
 refine Zm rfl rfl rfl CellsOf.agg hS ps0 Zft (by kernel_rfl) rfl (fun w hS hB => ?_)
 refine Zc 1 rfl ?_
 refine Zg ?_
 refine Zb hK12 ?_
 refine Zk ?_
 refine Zl rfl (RV.cell rfl (Zx V7 hS hs0 Zbv) (RV.tmp rfl RV.nil)) rfl ?_
 obtain rfl := QJ H
 replace hS := hS.cut 0
 exact ⟨rfl, hS⟩
theorem Zfo (x0 : Tu) (x1 : Int) (A0_ : OA) (c0_ : Nat) (w0 : World) (s0_ : SlI w0 Jv A0_ c0_ x0.log) {r : Int × Bool} (H : Zar x0 x1 = some r) : Calls Try.prog 57 #[.agg #[.int .i64 x0.snap.index, .int .i64 x0.snap.term, .int .i64 x0.snap.sum, .int .i64 x0.snap.level, .bool x0.snap.final, .slice A0_ x0.log.length c0_, .int .i64 x0.term, .int .i64 x0.vote], .int .i64 x1] w0 fun e w' => e = .returned (.tuple #[.int .i64 r.1, .bool r.2]) ∧ St0 All w0 w' [] := by
 unfold Zar at H
 refine Y0 Try.func57 rfl Try.ntmps57 rfl ?_
 have hS := St0.start All w0
 refine Zd (fun K hK1 => ?_)
 refine Zf ?_
 refine Yd rfl rfl rfl CellsOf.agg hS (fun b2 w hS hB => ?_)
 refine Zc 2 rfl ?_
 refine Zg ?_
 refine Zb hK1 ?_
 refine Zd (fun K hK4 => ?_)
 refine Zd (fun K hK5 => ?_)
 refine Zf ?_
 refine Zc 1 rfl ?_
 refine Za rfl rfl rfl (Ze Xg rfl) ?_
 refine Za rfl rfl rfl (Ze Yi rfl) ?_
 refine Za rfl rfl rfl (Zh Z0 rfl (Zgy _) hS hs0 trivial Y7) ?_
 refine Za rfl rfl rfl (Xo rfl rfl) ?_
 refine Zg ?_
 refine Zb hK5 ?_
 refine Zz rfl (fun hb => ?_) (fun hb => ?_)
 ·replace H := Zq H hb
  refine Zd (fun K hK6 => ?_)
  refine Zf ?_
  refine Za rfl rfl rfl (Ze Xg rfl) ?_
  refine Za rfl rfl rfl (Ze Zc3 rfl) ?_
  refine Za rfl rfl rfl (Zh Z0 rfl (Zgy _) hS hs0 trivial Vo) ?_
  refine Zc 2 rfl ?_
  refine Zg ?_
  refine Zb hK6 ?_
  refine Zk ?_
  refine Zj ?_
  refine Zl rfl (RV.tmp rfl (RV.tmp rfl RV.nil)) rfl ?_
  obtain rfl := QJ H
  replace hS := hS.cut 0
  exact ⟨rfl, hS⟩
 replace H := Zp H hb
 refine Zt ?_
 refine Zb hK4 ?_
 refine Zd (fun K hK7 => ?_)
 refine Zf ?_
 refine Za rfl rfl rfl (Zi Yr rfl (Zgy _) hS hs0 trivial Vl) ?_
 refine Zc 1 rfl ?_
 obtain ⟨r8, hm9, H⟩ := bind_some H
 refine Zo rfl rfl rfl rfl (by kernel_rfl) rfl (c_tuple_At x0 x1 A0_ c0_ _ (Zg1 s0_.k (hS.rd0 s0_.rd) (hS.blk0 s0_.blk)) hm9) ?_
 rintro e w ⟨rfl, hN⟩; refine ⟨_, rfl, ?_⟩; obtain ⟨hB, hS⟩ := hS.jn hN
 refine Zc 1 rfl ?_
 refine Za rfl rfl rfl (Z1 rfl rfl) ?_
 refine Za rfl rfl rfl (Z1 rfl rfl) ?_
 refine Yb rfl rfl Zb6 hS (fun b10 w hS hB => ?_)
 refine Zm rfl rfl rfl CellsOf.agg hS ps0 Zft (by kernel_rfl) rfl (fun w hS hB => ?_)
 refine Zc 1 rfl ?_
 refine Zg ?_
 refine Zb hK7 ?_
 refine Zd (fun K hK12 => ?_)
 refine Zf ?_
 refine Za rfl rfl rfl (Ze Zb3 rfl) ?_
 refine Za rfl rfl rfl (Zh Z0 rfl (Zgy _) hS hs0 trivial Y7) ?_
 refine Zc 3 rfl ?_
 refine Zg ?_
 refine Zb hK12 ?_
 refine Zk ?_
 refine Zl rfl (RV.tmp rfl (RV.tmp rfl RV.nil)) rfl ?_
 obtain rfl := QJ H
 replace hS := hS.cut 0
 exact ⟨rfl, hS⟩
end Go.Proofs.Ytamjlcaoieliaaa
