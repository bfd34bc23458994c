/- Texts of one claim put together. -/
import Derived.Test.YtamjlcaoieliaaaMs1
import Derived.Test.YtamjlcaoieliaaaMs2
import Derived.Test.YtamjlcaoieliaaaMs3
namespace Go.Proofs.Ytamjlcaoieliaaa
open Go Go.RowKit
set_option maxRecDepth 100000
set_option maxHeartbeats 4000000
theorem c_msg_entries (x0 : Ms) (A0_ : OA) (c0_ : Nat) (w0 : World) (s0_ : SlI w0 Jv A0_ c0_ x0.entries) {r : Bool} (H : Zc1 x0 = some r) : Calls Try.prog 111 #[.agg #[.int .u8 x0.kind, .int .i64 x0.frm, .int .i64 x0.dst, .int .i64 x0.term, .int .i64 x0.cap, .int .i64 x0.last, .int .i64 x0.lastTerm, .int .i64 x0.commit, .bool x0.okk, .slice A0_ x0.entries.length c0_, .int .i64 x0.snap.index, .int .i64 x0.snap.term, .int .i64 x0.snap.sum, .int .i64 x0.snap.level, .bool x0.snap.final]] w0 fun e w' => e = .returned (.bool r) ∧ St0 All w0 w' [] := by
 unfold Zc1 at H
 refine Yn Try.func111 rfl Try.ntmps111 rfl ?_
 have hS := St0.start All w0
 refine Zd (fun K hK1 => ?_)
 refine Zf ?_
 refine Yd rfl rfl rfl CellsOf.agg hS (fun b2 w hS hB => ?_)
 refine Zc 1 rfl ?_
 refine Zg ?_
 refine Zb hK1 ?_
 refine Zd (fun K hK4 => ?_)
 refine Zf ?_
 refine Za rfl rfl rfl (Ze fo_36_6 rfl) ?_
 refine Za rfl rfl rfl (Zh Z0 rfl (Zgy _) hS hs0 trivial sg6_1) ?_
 refine Zc 1 rfl ?_
 refine Zg ?_
 refine Zb hK4 ?_
 refine Zd (fun K hK5 => ?_)
 refine Zd (fun K hK6 => ?_)
 refine Zf ?_
 refine Za rfl rfl rfl (Ze Vc rfl) ?_
 refine Za rfl rfl rfl (Zh Xp rfl (Zgy _) hS hs0 trivial Zak) ?_
 refine Za rfl rfl rfl (Yu Y6 rfl) ?_
 refine Zc 1 rfl ?_
 refine Zg ?_
 refine Zb hK6 ?_
 refine Yc ?_
 refine V0 (X := Nat × Bool × Int × Int) (fun x => (1, .pointer (some ⟨b2, 0, none⟩)) :: (2, .bool x.2.1) :: (3, .int .i64 x.2.2.1) :: (9, .slice A0_ x0.entries.length c0_) :: (10, .int .i64 (x0.entries.length : Int)) :: (11, .int .i64 x.2.2.2) :: []) (fun x w => St0 All w0 w (.box b2 [.int .u8 x0.kind, .int .i64 x0.frm, .int .i64 x0.dst, .int .i64 x0.term, .int .i64 x0.cap, .int .i64 x0.last, .int .i64 x0.lastTerm, .int .i64 x0.commit, .bool x0.okk, .slice A0_ x0.entries.length c0_, .int .i64 x0.snap.index, .int .i64 x0.snap.term, .int .i64 x0.snap.sum, .int .i64 x0.snap.level, .bool x0.snap.final] 36 :: []) ∧ Jn x0 x.1 x.2.1 x.2.2.1 x.2.2.2 = some r) (fun x => x.1) (Xn, false, x0.lastTerm, 0) (by repeat (first | exact Sub.nil | refine Sub.cons rfl ?_)) ⟨hS, H⟩ ?_
 rintro ⟨n, v7, v8, v9⟩ w ⟨hS, H⟩
 dsimp only at hS H ⊢
 obtain _ | n := n
 ·have H0 : none = some r := H
  cases H0
 rw [Jn] at H
 refine Zd (fun K hK10 => ?_)
 refine Zf ?_
 refine Za rfl rfl rfl (Xh rfl rfl) ?_
 refine Zg ?_
 refine Zb hK10 ?_
 refine Zd (fun K hK11 => ?_)
 refine Zz rfl (fun hb => ?_) (fun hb => ?_)
 rotate_left
 ·replace H := Zp H hb
  refine Vj ?_
  refine Ya ?_
  refine Ya ?_
  refine Y3 ?_
  refine Zb hK5 ?_
  refine Zd (fun K hK27 => ?_)
  refine Zf ?_
  refine Za rfl rfl rfl (Ze Vc rfl) ?_
  refine Za rfl rfl rfl (Zh Xp rfl (Zgy _) hS hs0 trivial Zak) ?_
  refine Za rfl rfl rfl (Yu Y6 rfl) ?_
  refine Za rfl rfl rfl (Zah rfl rfl) ?_
  refine Zc 1 rfl ?_
  refine Zg ?_
  refine Zb hK27 ?_
  refine Zk ?_
  refine Zl rfl (RV.tmp rfl RV.nil) rfl ?_
  obtain rfl := QJ H
  replace hS := hS.cut 0
  exact ⟨rfl, hS⟩
 replace H := Zq H hb
 refine Zt ?_
 refine Zb hK11 ?_
 refine Zd (fun K hK12 => ?_)
 refine Yc ?_
 refine Zd (fun K hK13 => ?_)
 refine Zf ?_
 obtain ⟨e14, hi16, H⟩ := bind_some H
 obtain ⟨j15, hi16a, hi16b, hi16c⟩ := Yw hi16
 refine Za rfl rfl rfl (Y8 Y6 rfl rfl hi16a hi16c (Rd.el (hS.rd0 s0_.rd) X5 hi16b)) ?_
 refine Za rfl rfl rfl (Ze6 V7 rfl (Zgy _) (Rd.el (hS.rd0 s0_.rd) X5 hi16b) Zbv) ?_
 refine Yb rfl rfl Zb6 hS (fun b17 w hS hB => ?_)
 refine Zm rfl rfl rfl CellsOf.agg hS ps0 Zft (by kernel_rfl) rfl (fun w hS hB => ?_)
 refine Zg ?_
 refine Zb hK13 ?_
 refine Zd (fun K hK19 => ?_)
 refine Zd (fun K hK20 => ?_)
 refine Zf ?_
 refine Za rfl rfl rfl (Zi V7 rfl (Zgy _) hS hs0 trivial Zbv) ?_
 obtain ⟨r21, hm22, H⟩ := bind_some H
 refine Zo rfl rfl rfl rfl (by kernel_rfl) rfl (c_entry_Right e14 _ hm22) ?_
 rintro e w ⟨rfl, hN⟩; refine ⟨_, rfl, ?_⟩; obtain ⟨hB, hS⟩ := hS.jn hN
 refine Za rfl rfl rfl (Yt rfl) ?_
 refine Zc 1 rfl ?_
 refine Zu 18 rfl (fun hb => ?_) (fun hb => ?_)
 ·replace H := Zq H hb
  refine Zc 8 rfl ?_
  refine Zg ?_
  refine Zb hK20 ?_
  refine Zr rfl rfl ?_
  refine Zd (fun K hK23 => ?_)
  refine Zf ?_
  refine Zc 1 rfl ?_
  refine Zg ?_
  refine Zb hK23 ?_
  refine Zk ?_
  refine Zj ?_
  refine Zv ?_
  refine Zj ?_
  refine Zj ?_
  refine Zv ?_
  refine Zj ?_
  refine Zl rfl (RV.tmp rfl RV.nil) rfl ?_
  obtain rfl := QJ H
  replace hS := hS.cut 0
  exact ⟨rfl, hS⟩
 replace H := Zp H hb
 refine Za rfl rfl rfl (Ze Zb3 rfl) ?_
 refine Za rfl rfl rfl (Zh Z0 rfl (Zgy _) hS hs0 trivial Y7) ?_
 refine Zc 1 rfl ?_
 refine Za rfl rfl rfl (Ze Ze3 rfl) ?_
 refine Za rfl rfl rfl (Zh Z0 rfl (Zgy _) hS Xr trivial Zbd) ?_
 obtain ⟨r24, hm25, H⟩ := bind_some H
 refine Zo rfl rfl rfl rfl (by kernel_rfl) rfl (Zac e14.term v8 x0.term _ hm25) ?_
 rintro e w ⟨rfl, hN⟩; refine ⟨_, rfl, ?_⟩; obtain ⟨hB, hS⟩ := hS.jn hN
 refine Za rfl rfl rfl (Yt rfl) ?_
 refine Zc 1 rfl ?_
 refine Zg ?_
 refine Zb hK20 ?_
 refine Zz rfl (fun hb => ?_) (fun hb => ?_)
 rotate_left
 ·replace H := Zp H hb
  refine Zt ?_
  refine Zb hK19 ?_
  refine Zf ?_
  refine Za rfl rfl rfl (Ze Zb3 rfl) ?_
  refine Za rfl rfl rfl (Zh Z0 rfl (Zgy _) hS hs0 trivial Y7) ?_
  refine Zc 1 rfl ?_
  refine Zg ?_
  refine Z2 ?_
  refine Zb hK12 ?_
  refine Zf ?_
  refine Za rfl rfl rfl (Xf rfl rfl) ?_
  refine Zc 1 rfl ?_
  refine Zg ?_
  exact Va (n, v7, e14.term, (IntKind.wrap .i64 (v9 + 1))) (by repeat (first | exact Sub.nil | refine Sub.cons rfl ?_)) ⟨(hS.sub (List.Sublist.cons _ (List.Sublist.cons_cons _ List.Sublist.slnil))), H⟩ (Nat.lt_succ_self _)
 replace H := Zq H hb
 refine Zd (fun K hK26 => ?_)
 refine Zf ?_
 refine Zc 1 rfl ?_
 refine Zg ?_
 refine Zb hK26 ?_
 refine Zk ?_
 refine Zj ?_
 refine Zv ?_
 refine Zj ?_
 refine Zj ?_
 refine Zv ?_
 refine Zj ?_
 refine Zl rfl (RV.tmp rfl RV.nil) rfl ?_
 obtain rfl := QJ H
 replace hS := hS.cut 0
 exact ⟨rfl, hS⟩
theorem c_msg_Fine (x0 : Ms) (x1 : Int) (A0_ : OA) (c0_ : Nat) (w0 : World) (s0_ : SlI w0 Jv A0_ c0_ x0.entries) {r : Bool} (H : Zd3 x0 x1 = some r) : Calls Try.prog 84 #[.agg #[.int .u8 x0.kind, .int .i64 x0.frm, .int .i64 x0.dst, .int .i64 x0.term, .int .i64 x0.cap, .int .i64 x0.last, .int .i64 x0.lastTerm, .int .i64 x0.commit, .bool x0.okk, .slice A0_ x0.entries.length c0_, .int .i64 x0.snap.index, .int .i64 x0.snap.term, .int .i64 x0.snap.sum, .int .i64 x0.snap.level, .bool x0.snap.final], .int .i64 x1] w0 fun e w' => e = .returned (.bool r) ∧ St0 All w0 w' [] := by
 unfold Zd3 at H
 refine Y0 Try.func84 rfl Try.ntmps84 rfl ?_
 have hS := St0.start All w0
 refine Zd (fun K hK1 => ?_)
 refine Zf ?_
 refine Yd rfl rfl rfl CellsOf.agg hS (fun b2 w hS hB => ?_)
 refine Zc 1 rfl ?_
 refine Zg ?_
 refine Zb hK1 ?_
 refine wpC_scope1 0 rfl ?_
 refine Zd (fun K hK4 => ?_)
 refine Zd (fun K hK5 => ?_)
 refine Zf ?_
 refine Zc 1 rfl ?_
 obtain ⟨r6, hm7, H⟩ := bind_some H
 refine Zo rfl rfl rfl rfl (by kernel_rfl) rfl (Zac x1 1 5 _ hm7) ?_
 rintro e w ⟨rfl, hN⟩; refine ⟨_, rfl, ?_⟩; obtain ⟨hB, hS⟩ := hS.jn hN
 refine Za rfl rfl rfl (Yt rfl) ?_
 refine Zc 1 rfl ?_
 refine Zu 8 rfl (fun hb => ?_) (fun hb => ?_)
 ·replace H := Zq H hb
  refine Zc 16 rfl ?_
  refine Zg ?_
  refine Zb hK5 ?_
  refine Zr rfl rfl ?_
  refine Vi ?_
  refine Xb ?_
  refine Vz ?_
  refine Zd (fun K hK8 => ?_)
  refine Zt ?_
  refine Zb hK8 ?_
  refine Zd (fun K hK9 => ?_)
  refine Zf ?_
  refine Zc 1 rfl ?_
  refine Zg ?_
  refine Zb hK9 ?_
  refine Zk ?_
  refine Z5 ?_
  refine Zl rfl (RV.tmp rfl RV.nil) rfl ?_
  obtain rfl := QJ H
  replace hS := hS.cut 0
  exact ⟨rfl, hS⟩
 replace H := Zp H hb
 refine Za rfl rfl rfl (Ze Zee rfl) ?_
 refine Za rfl rfl rfl (Zh Z0 rfl (Zgy _) hS hs0 trivial Vo) ?_
 refine Za rfl rfl rfl (Ze Zga rfl) ?_
 refine Za rfl rfl rfl (Zh Z0 rfl (Zgy _) hS hs0 trivial Zbk) ?_
 refine Yx (ps := [(0, .tmp 10), (1, .tmp 12)]) [.int .i64 x0.frm, .int .i64 x0.dst] Xm zc_3 rfl rfl rfl rfl rfl (by kernel_rfl) hS (fun b10 w hS hB => ?_)
 refine Zc 1 rfl ?_
 obtain ⟨r12, hm13, H⟩ := bind_some H
 refine Zo rfl rfl rfl rfl (by kernel_rfl) rfl (Zfl ([x0.frm, x0.dst] : List Int) 2 1 x1 (some ⟨b10, 0, none⟩) 2 _ (Zg1 ⟨Nat.le_refl 2, by decide⟩ (hS.box_rd hs0) (hS.box_blk hs0)) hm13) ?_
 rintro e w ⟨rfl, hN⟩; refine ⟨_, rfl, ?_⟩; obtain ⟨hB, hS⟩ := hS.jn hN
 refine Za rfl rfl rfl (Yt rfl) ?_
 refine Zc 2 rfl ?_
 refine Zu 18 rfl (fun hb => ?_) (fun hb => ?_)
 ·replace H := Zq H hb
  refine Zc 6 rfl ?_
  refine Zg ?_
  refine Zb hK5 ?_
  refine Zr rfl rfl ?_
  refine Vi ?_
  refine Xb ?_
  refine Vz ?_
  refine Zd (fun K hK14 => ?_)
  refine Zt ?_
  refine Zb hK14 ?_
  refine Zd (fun K hK15 => ?_)
  refine Zf ?_
  refine Zc 1 rfl ?_
  refine Zg ?_
  refine Zb hK15 ?_
  refine Zk ?_
  refine Z5 ?_
  refine Zl rfl (RV.tmp rfl RV.nil) rfl ?_
  obtain rfl := QJ H
  replace hS := hS.cut 0
  exact ⟨rfl, hS⟩
 replace H := Zp H hb
 refine Za rfl rfl rfl (Ze Zee rfl) ?_
 refine Za rfl rfl rfl (Zh Z0 rfl (Zgy _) hS Xr trivial Vo) ?_
 refine Za rfl rfl rfl (Ze Zga rfl) ?_
 refine Za rfl rfl rfl (Zh Z0 rfl (Zgy _) hS Xr trivial Zbk) ?_
 refine Za rfl rfl rfl (Xo rfl rfl) ?_
 refine Zc 1 rfl ?_
 refine Zg ?_
 refine Zb hK5 ?_
 refine Zz rfl (fun hb => ?_) (fun hb => ?_)
 ·replace H := Zq H hb
  refine Vi ?_
  refine Xb ?_
  refine Vz ?_
  refine Zd (fun K hK16 => ?_)
  refine Zt ?_
  refine Zb hK16 ?_
  refine Zd (fun K hK17 => ?_)
  refine Zf ?_
  refine Zc 1 rfl ?_
  refine Zg ?_
  refine Zb hK17 ?_
  refine Zk ?_
  refine Z5 ?_
  refine Zl rfl (RV.tmp rfl RV.nil) rfl ?_
  obtain rfl := QJ H
  replace hS := hS.cut 0
  exact ⟨rfl, hS⟩
 replace H := Zp H hb
 refine Zt ?_
 refine Zb hK4 ?_
 refine Zd (fun K hK18 => ?_)
 refine Zd (fun K hK19 => ?_)
 refine Zf ?_
 refine Za rfl rfl rfl (Ze Vq rfl) ?_
 refine Za rfl rfl rfl (Zh Zbs rfl (Zgy _) hS Xr trivial Y7) ?_
 refine Za rfl rfl rfl (yx_conv (k' := .i64) (by kernel_rfl) (by kernel_rfl) rfl) ?_
 obtain ⟨r20, hm21, H⟩ := bind_some H
 refine Zo rfl rfl rfl rfl (by kernel_rfl) rfl (Zac (IntKind.wrap .i64 x0.kind) 1 5 _ hm21) ?_
 rintro e w ⟨rfl, hN⟩; refine ⟨_, rfl, ?_⟩; obtain ⟨hB, hS⟩ := hS.jn hN
 refine Za rfl rfl rfl (Yt rfl) ?_
 refine Zc 1 rfl ?_
 refine Zu 30 rfl (fun hb => ?_) (fun hb => ?_)
 ·replace H := Zq H hb
  refine Zc 11 rfl ?_
  refine Zg ?_
  refine Zb hK19 ?_
  refine Zr rfl rfl ?_
  refine Vi ?_
  refine Xb ?_
  refine Vz ?_
  refine Zd (fun K hK22 => ?_)
  refine Zt ?_
  refine Zb hK22 ?_
  refine Zd (fun K hK23 => ?_)
  refine Zf ?_
  refine Zc 1 rfl ?_
  refine Zg ?_
  refine Zb hK23 ?_
  refine Zk ?_
  refine Z5 ?_
  refine Zl rfl (RV.tmp rfl RV.nil) rfl ?_
  obtain rfl := QJ H
  replace hS := hS.cut 0
  exact ⟨rfl, hS⟩
 replace H := Zp H hb
 refine Za rfl rfl rfl (Ze Ze3 rfl) ?_
 refine Za rfl rfl rfl (Zh Z0 rfl (Zgy _) hS Xr trivial Zbd) ?_
 obtain ⟨r24, hm25, H⟩ := bind_some H
 refine Zo rfl rfl rfl rfl (by kernel_rfl) rfl (Zac x0.term 1 1073741824 _ hm25) ?_
 rintro e w ⟨rfl, hN⟩; refine ⟨_, rfl, ?_⟩; obtain ⟨hB, hS⟩ := hS.jn hN
 refine Za rfl rfl rfl (Yt rfl) ?_
 refine Zc 2 rfl ?_
 refine Zu 36 rfl (fun hb => ?_) (fun hb => ?_)
 ·replace H := Zq H hb
  refine Zc 5 rfl ?_
  refine Zg ?_
  refine Zb hK19 ?_
  refine Zr rfl rfl ?_
  refine Vi ?_
  refine Xb ?_
  refine Vz ?_
  refine Zd (fun K hK26 => ?_)
  refine Zt ?_
  refine Zb hK26 ?_
  refine Zd (fun K hK27 => ?_)
  refine Zf ?_
  refine Zc 1 rfl ?_
  refine Zg ?_
  refine Zb hK27 ?_
  refine Zk ?_
  refine Z5 ?_
  refine Zl rfl (RV.tmp rfl RV.nil) rfl ?_
  obtain rfl := QJ H
  replace hS := hS.cut 0
  exact ⟨rfl, hS⟩
 replace H := Zp H hb
 refine Za rfl rfl rfl (Ze fo_36_4 rfl) ?_
 refine Za rfl rfl rfl (Zh Z0 rfl (Zgy _) hS Xr trivial Zfn) ?_
 obtain ⟨r28, hm29, H⟩ := bind_some H
 refine Zo rfl rfl rfl rfl (by kernel_rfl) rfl (Zac x0.cap 1 2 _ hm29) ?_
 rintro e w ⟨rfl, hN⟩; refine ⟨_, rfl, ?_⟩; obtain ⟨hB, hS⟩ := hS.jn hN
 refine Za rfl rfl rfl (Yt rfl) ?_
 refine Zc 1 rfl ?_
 refine Zg ?_
 refine Zb hK19 ?_
 refine Zz rfl (fun hb => ?_) (fun hb => ?_)
 ·replace H := Zq H hb
  refine Vi ?_
  refine Xb ?_
  refine Vz ?_
  refine Zd (fun K hK30 => ?_)
  refine Zt ?_
  refine Zb hK30 ?_
  refine Zd (fun K hK31 => ?_)
  refine Zf ?_
  refine Zc 1 rfl ?_
  refine Zg ?_
  refine Zb hK31 ?_
  refine Zk ?_
  refine Z5 ?_
  refine Zl rfl (RV.tmp rfl RV.nil) rfl ?_
  obtain rfl := QJ H
  replace hS := hS.cut 0
  exact ⟨rfl, hS⟩
 replace H := Zp H hb
 refine Zt ?_
 refine Zb hK18 ?_
 refine Zd (fun K hK32 => ?_)
 refine Zd (fun K hK33 => ?_)
 refine Zf ?_
 refine Za rfl rfl rfl (Ze Vx rfl) ?_
 refine Za rfl rfl rfl (Zh Z0 rfl (Zgy _) hS Xr trivial Js) ?_
 refine Za rfl rfl rfl (Ze fo_36_6 rfl) ?_
 refine Za rfl rfl rfl (Zh Z0 rfl (Zgy _) hS Xr trivial sg6_1) ?_
 refine Za rfl rfl rfl (Ze Zdn rfl) ?_
 refine Za rfl rfl rfl (Zh Z0 rfl (Zgy _) hS Xr trivial Zfd) ?_
 refine Yx (ps := [(0, .tmp 43), (1, .tmp 45), (2, .tmp 47)]) [.int .i64 x0.last, .int .i64 x0.lastTerm, .int .i64 x0.commit] Xm zc_3 rfl rfl rfl rfl rfl (by kernel_rfl) hS (fun b34 w hS hB => ?_)
 obtain ⟨r36, hm37, H⟩ := bind_some H
 refine Zo rfl rfl rfl rfl (by kernel_rfl) rfl (Zfl ([x0.last, x0.lastTerm, x0.commit] : List Int) 3 0 1073741824 (some ⟨b34, 0, none⟩) 3 _ (Zg1 ⟨Nat.le_refl 3, by decide⟩ (hS.box_rd hs0) (hS.box_blk hs0)) hm37) ?_
 rintro e w ⟨rfl, hN⟩; refine ⟨_, rfl, ?_⟩; obtain ⟨hB, hS⟩ := hS.jn hN
 refine Za rfl rfl rfl (Yt rfl) ?_
 refine Zc 1 rfl ?_
 refine Zu 51 rfl (fun hb => ?_) (fun hb => ?_)
 ·replace H := Zq H hb
  refine Zc 4 rfl ?_
  refine Zg ?_
  refine Zb hK33 ?_
  refine Zr rfl rfl ?_
  refine Vi ?_
  refine Xb ?_
  refine Vz ?_
  refine Zd (fun K hK38 => ?_)
  refine Zt ?_
  refine Zb hK38 ?_
  refine Zd (fun K hK39 => ?_)
  refine Zf ?_
  refine Zc 1 rfl ?_
  refine Zg ?_
  refine Zb hK39 ?_
  refine Zk ?_
  refine Z5 ?_
  refine Zl rfl (RV.tmp rfl RV.nil) rfl ?_
  obtain rfl := QJ H
  replace hS := hS.cut 0
  exact ⟨rfl, hS⟩
 replace H := Zp H hb
 refine Za rfl rfl rfl (Zi Vp rfl (Zgy _) hS X0 trivial Xv) ?_
 obtain ⟨r40, hm41, H⟩ := bind_some H
 refine Zo rfl rfl rfl rfl (by kernel_rfl) rfl (c_msg_entries x0 A0_ c0_ _ (Zg1 s0_.k (hS.rd0 s0_.rd) (hS.blk0 s0_.blk)) hm41) ?_
 rintro e w ⟨rfl, hN⟩; refine ⟨_, rfl, ?_⟩; obtain ⟨hB, hS⟩ := hS.jn hN
 refine Za rfl rfl rfl (Yt rfl) ?_
 refine Zc 1 rfl ?_
 refine Zg ?_
 refine Zb hK33 ?_
 refine Zz rfl (fun hb => ?_) (fun hb => ?_)
 ·replace H := Zq H hb
  refine Vi ?_
  refine Xb ?_
  refine Vz ?_
  refine Zd (fun K hK42 => ?_)
  refine Zt ?_
  refine Zb hK42 ?_
  refine Zd (fun K hK43 => ?_)
  refine Zf ?_
  refine Zc 1 rfl ?_
  refine Zg ?_
  refine Zb hK43 ?_
  refine Zk ?_
  refine Z5 ?_
  refine Zl rfl (RV.tmp rfl RV.nil) rfl ?_
  obtain rfl := QJ H
  replace hS := hS.cut 0
  exact ⟨rfl, hS⟩
 replace H := Zp H hb
 refine Zt ?_
 refine Zb hK32 ?_
 refine Zd (fun K hK44 => ?_)
 refine Zd (fun K hK45 => ?_)
 refine Zf ?_
 refine Za rfl rfl rfl (Ze Vq rfl) ?_
 refine Za rfl rfl rfl (Zh Zbs rfl (Zgy _) hS X0 trivial Y7) ?_
 refine Za rfl rfl rfl (Y5 rfl rfl) ?_
 refine Zc 1 rfl ?_
 refine Zu 59 rfl (fun hb => ?_) (fun hb => ?_)
 rotate_left
 ·replace H := Zp H hb
  refine Zc 10 rfl ?_
  refine Zg ?_
  refine Zb hK45 ?_
  refine Yo rfl rfl ?_
  refine Zt ?_
  refine Zb hK44 ?_
  refine Zd (fun K hK75 => ?_)
  refine Zd (fun K hK76 => ?_)
  refine Zf ?_
  refine Za rfl rfl rfl (Ze Zf0 rfl) ?_
  refine Za rfl rfl rfl (Zh sc_4 rfl (Zgy _) hS X0 trivial sg8_1) ?_
  refine Zc 1 rfl ?_
  refine Zu 72 rfl (fun hb => ?_) (fun hb => ?_)
  rotate_left
  ·replace H := Zp H hb
   refine Zc 9 rfl ?_
   refine Zg ?_
   refine Zb hK76 ?_
   refine Yo rfl rfl ?_
   refine Zt ?_
   refine Zb hK75 ?_
   refine Zd (fun K hK93 => ?_)
   refine Zd (fun K hK94 => ?_)
   refine Zf ?_
   refine Za rfl rfl rfl (Ze Vq rfl) ?_
   refine Za rfl rfl rfl (Zh Zbs rfl (Zgy _) hS X0 trivial Y7) ?_
   refine Za rfl rfl rfl (Xo rfl rfl) ?_
   refine Zg ?_
   refine Zb hK94 ?_
   refine Zz rfl (fun hb => ?_) (fun hb => ?_)
   rotate_left
   ·replace H := Zp H hb
    refine Zt ?_
    refine Zb hK93 ?_
    refine Zd (fun K hK98 => ?_)
    refine Zd (fun K hK99 => ?_)
    refine Zf ?_
    refine Za rfl rfl rfl (Ze Xi rfl) ?_
    refine Za rfl rfl rfl (Zi Y4 rfl (Zgy _) hS X0 trivial Zaf) ?_
    refine Za rfl rfl rfl (Xw (cells := [.int .i64 0, .int .i64 0, .int .i64 0, .int .i64 0, .bool false]) rfl (by kernel_rfl)) ?_
    refine Za rfl rfl rfl (Zai (by kernel_rfl) rfl rfl (Za6 _ _ _ _ _ _ _ _ _ _)) ?_
    refine Zc 1 rfl ?_
    refine Zg ?_
    refine Zb hK99 ?_
    refine Zk ?_
    refine Zj ?_
    refine Z5 ?_
    refine Zl rfl (RV.tmp rfl RV.nil) rfl ?_
    obtain rfl := QJ H
    replace hS := hS.cut 0
    exact ⟨rfl, hS⟩
   replace H := Zq H hb
   refine Zd (fun K hK95 => ?_)
   refine Zf ?_
   refine Za rfl rfl rfl (Ze Xi rfl) ?_
   refine Za rfl rfl rfl (Ze Yi rfl) ?_
   refine Za rfl rfl rfl (Zh Z0 rfl (Zgy _) hS X0 trivial Zbc) ?_
   refine Za rfl rfl rfl (Xa rfl rfl) ?_
   refine Zc 1 rfl ?_
   refine Zu 89 rfl (fun hb => ?_) (fun hb => ?_)
   rotate_left
   ·replace H := Zp H hb
    refine Zc 5 rfl ?_
    refine Zg ?_
    refine Zb hK95 ?_
    refine Zk ?_
    refine Zj ?_
    refine Z5 ?_
    refine Zl rfl (RV.tmp rfl RV.nil) rfl ?_
    obtain rfl := QJ H
    replace hS := hS.cut 0
    exact ⟨rfl, hS⟩
   replace H := Zq H hb
   refine Za rfl rfl rfl (Ze Xi rfl) ?_
   refine Za rfl rfl rfl (Zi Y4 rfl (Zgy _) hS X0 trivial Zaf) ?_
   obtain ⟨r96, hm97, H⟩ := bind_some H
   refine Zo rfl rfl rfl rfl (by kernel_rfl) rfl (Zco x0.snap _ hm97) ?_
   rintro e w ⟨rfl, hN⟩; refine ⟨_, rfl, ?_⟩; obtain ⟨hB, hS⟩ := hS.jn hN
   refine Zc 2 rfl ?_
   refine Zg ?_
   refine Zb hK95 ?_
   refine Zk ?_
   refine Zj ?_
   refine Z5 ?_
   refine Zl rfl (RV.tmp rfl RV.nil) rfl ?_
   obtain rfl := QJ H
   replace hS := hS.cut 0
   exact ⟨rfl, hS⟩
  replace H := Zq H hb
  refine Za rfl rfl rfl (Ze Vq rfl) ?_
  refine Za rfl rfl rfl (Zh Zbs rfl (Zgy _) hS X0 trivial Y7) ?_
  refine Za rfl rfl rfl (Y5 rfl rfl) ?_
  refine Zc 2 rfl ?_
  refine Zu 77 rfl (fun hb => ?_) (fun hb => ?_)
  rotate_left
  ·replace H := Zp H hb
   refine Zc 4 rfl ?_
   refine Zg ?_
   refine Zb hK76 ?_
   refine Yo rfl rfl ?_
   refine Zt ?_
   refine Zb hK75 ?_
   refine Zd (fun K hK86 => ?_)
   refine Zd (fun K hK87 => ?_)
   refine Zf ?_
   refine Za rfl rfl rfl (Ze Vq rfl) ?_
   refine Za rfl rfl rfl (Zh Zbs rfl (Zgy _) hS X0 trivial Y7) ?_
   refine Za rfl rfl rfl (Xo rfl rfl) ?_
   refine Zg ?_
   refine Zb hK87 ?_
   refine Zz rfl (fun hb => ?_) (fun hb => ?_)
   rotate_left
   ·replace H := Zp H hb
    refine Zt ?_
    refine Zb hK86 ?_
    refine Zd (fun K hK91 => ?_)
    refine Zd (fun K hK92 => ?_)
    refine Zf ?_
    refine Za rfl rfl rfl (Ze Xi rfl) ?_
    refine Za rfl rfl rfl (Zi Y4 rfl (Zgy _) hS X0 trivial Zaf) ?_
    refine Za rfl rfl rfl (Xw (cells := [.int .i64 0, .int .i64 0, .int .i64 0, .int .i64 0, .bool false]) rfl (by kernel_rfl)) ?_
    refine Za rfl rfl rfl (Zai (by kernel_rfl) rfl rfl (Za6 _ _ _ _ _ _ _ _ _ _)) ?_
    refine Zc 1 rfl ?_
    refine Zg ?_
    refine Zb hK92 ?_
    refine Zk ?_
    refine Zj ?_
    refine Z5 ?_
    refine Zl rfl (RV.tmp rfl RV.nil) rfl ?_
    obtain rfl := QJ H
    replace hS := hS.cut 0
    exact ⟨rfl, hS⟩
   replace H := Zq H hb
   refine Zd (fun K hK88 => ?_)
   refine Zf ?_
   refine Za rfl rfl rfl (Ze Xi rfl) ?_
   refine Za rfl rfl rfl (Ze Yi rfl) ?_
   refine Za rfl rfl rfl (Zh Z0 rfl (Zgy _) hS X0 trivial Zbc) ?_
   refine Za rfl rfl rfl (Xa rfl rfl) ?_
   refine Zc 1 rfl ?_
   refine Zu 89 rfl (fun hb => ?_) (fun hb => ?_)
   rotate_left
   ·replace H := Zp H hb
    refine Zc 5 rfl ?_
    refine Zg ?_
    refine Zb hK88 ?_
    refine Zk ?_
    refine Zj ?_
    refine Z5 ?_
    refine Zl rfl (RV.tmp rfl RV.nil) rfl ?_
    obtain rfl := QJ H
    replace hS := hS.cut 0
    exact ⟨rfl, hS⟩
   replace H := Zq H hb
   refine Za rfl rfl rfl (Ze Xi rfl) ?_
   refine Za rfl rfl rfl (Zi Y4 rfl (Zgy _) hS X0 trivial Zaf) ?_
   obtain ⟨r89, hm90, H⟩ := bind_some H
   refine Zo rfl rfl rfl rfl (by kernel_rfl) rfl (Zco x0.snap _ hm90) ?_
   rintro e w ⟨rfl, hN⟩; refine ⟨_, rfl, ?_⟩; obtain ⟨hB, hS⟩ := hS.jn hN
   refine Zc 2 rfl ?_
   refine Zg ?_
   refine Zb hK88 ?_
   refine Zk ?_
   refine Zj ?_
   refine Z5 ?_
   refine Zl rfl (RV.tmp rfl RV.nil) rfl ?_
   obtain rfl := QJ H
   replace hS := hS.cut 0
   exact ⟨rfl, hS⟩
  replace H := Zq H hb
  refine Za rfl rfl rfl (Ze Vq rfl) ?_
  refine Za rfl rfl rfl (Zh Zbs rfl (Zgy _) hS X0 trivial Y7) ?_
  refine Za rfl rfl rfl (Y5 rfl rfl) ?_
  refine Zc 1 rfl ?_
  refine Zg ?_
  refine Zb hK76 ?_
  refine Zz rfl (fun hb => ?_) (fun hb => ?_)
  ·replace H := Zq H hb
   refine Vi ?_
   refine Xb ?_
   refine Vz ?_
   refine Zd (fun K hK77 => ?_)
   refine Zt ?_
   refine Zb hK77 ?_
   refine Zd (fun K hK78 => ?_)
   refine Zf ?_
   refine Zc 1 rfl ?_
   refine Zg ?_
   refine Zb hK78 ?_
   refine Zk ?_
   refine Z5 ?_
   refine Zl rfl (RV.tmp rfl RV.nil) rfl ?_
   obtain rfl := QJ H
   replace hS := hS.cut 0
   exact ⟨rfl, hS⟩
  replace H := Zp H hb
  refine Zt ?_
  refine Zb hK75 ?_
  refine Zd (fun K hK79 => ?_)
  refine Zd (fun K hK80 => ?_)
  refine Zf ?_
  refine Za rfl rfl rfl (Ze Vq rfl) ?_
  refine Za rfl rfl rfl (Zh Zbs rfl (Zgy _) hS X0 trivial Y7) ?_
  refine Za rfl rfl rfl (Xo rfl rfl) ?_
  refine Zg ?_
  refine Zb hK80 ?_
  refine Zz rfl (fun hb => ?_) (fun hb => ?_)
  rotate_left
  ·replace H := Zp H hb
   refine Zt ?_
   refine Zb hK79 ?_
   refine Zd (fun K hK84 => ?_)
   refine Zd (fun K hK85 => ?_)
   refine Zf ?_
   refine Za rfl rfl rfl (Ze Xi rfl) ?_
   refine Za rfl rfl rfl (Zi Y4 rfl (Zgy _) hS X0 trivial Zaf) ?_
   refine Za rfl rfl rfl (Xw (cells := [.int .i64 0, .int .i64 0, .int .i64 0, .int .i64 0, .bool false]) rfl (by kernel_rfl)) ?_
   refine Za rfl rfl rfl (Zai (by kernel_rfl) rfl rfl (Za6 _ _ _ _ _ _ _ _ _ _)) ?_
   refine Zc 1 rfl ?_
   refine Zg ?_
   refine Zb hK85 ?_
   refine Zk ?_
   refine Zj ?_
   refine Z5 ?_
   refine Zl rfl (RV.tmp rfl RV.nil) rfl ?_
   obtain rfl := QJ H
   replace hS := hS.cut 0
   exact ⟨rfl, hS⟩
  replace H := Zq H hb
  refine Zd (fun K hK81 => ?_)
  refine Zf ?_
  refine Za rfl rfl rfl (Ze Xi rfl) ?_
  refine Za rfl rfl rfl (Ze Yi rfl) ?_
  refine Za rfl rfl rfl (Zh Z0 rfl (Zgy _) hS X0 trivial Zbc) ?_
  refine Za rfl rfl rfl (Xa rfl rfl) ?_
  refine Zc 1 rfl ?_
  refine Zu 89 rfl (fun hb => ?_) (fun hb => ?_)
  rotate_left
  ·replace H := Zp H hb
   refine Zc 5 rfl ?_
   refine Zg ?_
   refine Zb hK81 ?_
   refine Zk ?_
   refine Zj ?_
   refine Z5 ?_
   refine Zl rfl (RV.tmp rfl RV.nil) rfl ?_
   obtain rfl := QJ H
   replace hS := hS.cut 0
   exact ⟨rfl, hS⟩
  replace H := Zq H hb
  refine Za rfl rfl rfl (Ze Xi rfl) ?_
  refine Za rfl rfl rfl (Zi Y4 rfl (Zgy _) hS X0 trivial Zaf) ?_
  obtain ⟨r82, hm83, H⟩ := bind_some H
  refine Zo rfl rfl rfl rfl (by kernel_rfl) rfl (Zco x0.snap _ hm83) ?_
  rintro e w ⟨rfl, hN⟩; refine ⟨_, rfl, ?_⟩; obtain ⟨hB, hS⟩ := hS.jn hN
  refine Zc 2 rfl ?_
  refine Zg ?_
  refine Zb hK81 ?_
  refine Zk ?_
  refine Zj ?_
  refine Z5 ?_
  refine Zl rfl (RV.tmp rfl RV.nil) rfl ?_
  obtain rfl := QJ H
  replace hS := hS.cut 0
  exact ⟨rfl, hS⟩
 replace H := Zq H hb
 refine Za rfl rfl rfl (Ze Vc rfl) ?_
 refine Za rfl rfl rfl (Zh Xp rfl (Zgy _) hS X0 trivial Zak) ?_
 refine Za rfl rfl rfl (Yu Y6 rfl) ?_
 refine Za rfl rfl rfl (Xa rfl rfl) ?_
 refine Zc 1 rfl ?_
 refine Zu 64 rfl (fun hb => ?_) (fun hb => ?_)
 ·replace H := Zq H hb
  refine Zc 5 rfl ?_
  refine Zg ?_
  refine Zb hK45 ?_
  refine Zr rfl rfl ?_
  refine Vi ?_
  refine Xb ?_
  refine Vz ?_
  refine Zd (fun K hK46 => ?_)
  refine Zt ?_
  refine Zb hK46 ?_
  refine Zd (fun K hK47 => ?_)
  refine Zf ?_
  refine Zc 1 rfl ?_
  refine Zg ?_
  refine Zb hK47 ?_
  refine Zk ?_
  refine Z5 ?_
  refine Zl rfl (RV.tmp rfl RV.nil) rfl ?_
  obtain rfl := QJ H
  replace hS := hS.cut 0
  exact ⟨rfl, hS⟩
 replace H := Zp H hb
 refine Za rfl rfl rfl (Ze Zdn rfl) ?_
 refine Za rfl rfl rfl (Zh Z0 rfl (Zgy _) hS X0 trivial Zfd) ?_
 refine Za rfl rfl rfl (Xa rfl rfl) ?_
 refine Zc 2 rfl ?_
 refine Zg ?_
 refine Zb hK45 ?_
 refine Zz rfl (fun hb => ?_) (fun hb => ?_)
 ·replace H := Zq H hb
  refine Vi ?_
  refine Xb ?_
  refine Vz ?_
  refine Zd (fun K hK48 => ?_)
  refine Zt ?_
  refine Zb hK48 ?_
  refine Zd (fun K hK49 => ?_)
  refine Zf ?_
  refine Zc 1 rfl ?_
  refine Zg ?_
  refine Zb hK49 ?_
  refine Zk ?_
  refine Z5 ?_
  refine Zl rfl (RV.tmp rfl RV.nil) rfl ?_
  obtain rfl := QJ H
  replace hS := hS.cut 0
  exact ⟨rfl, hS⟩
 replace H := Zp H hb
 refine Zt ?_
 refine Zb hK44 ?_
 refine Zd (fun K hK50 => ?_)
 refine Zd (fun K hK51 => ?_)
 refine Zf ?_
 refine Za rfl rfl rfl (Ze Zf0 rfl) ?_
 refine Za rfl rfl rfl (Zh sc_4 rfl (Zgy _) hS X0 trivial sg8_1) ?_
 refine Zc 1 rfl ?_
 refine Zu 72 rfl (fun hb => ?_) (fun hb => ?_)
 rotate_left
 ·replace H := Zp H hb
  refine Zc 9 rfl ?_
  refine Zg ?_
  refine Zb hK51 ?_
  refine Yo rfl rfl ?_
  refine Zt ?_
  refine Zb hK50 ?_
  refine Zd (fun K hK68 => ?_)
  refine Zd (fun K hK69 => ?_)
  refine Zf ?_
  refine Za rfl rfl rfl (Ze Vq rfl) ?_
  refine Za rfl rfl rfl (Zh Zbs rfl (Zgy _) hS X0 trivial Y7) ?_
  refine Za rfl rfl rfl (Xo rfl rfl) ?_
  refine Zg ?_
  refine Zb hK69 ?_
  refine Zz rfl (fun hb => ?_) (fun hb => ?_)
  rotate_left
  ·replace H := Zp H hb
   refine Zt ?_
   refine Zb hK68 ?_
   refine Zd (fun K hK73 => ?_)
   refine Zd (fun K hK74 => ?_)
   refine Zf ?_
   refine Za rfl rfl rfl (Ze Xi rfl) ?_
   refine Za rfl rfl rfl (Zi Y4 rfl (Zgy _) hS X0 trivial Zaf) ?_
   refine Za rfl rfl rfl (Xw (cells := [.int .i64 0, .int .i64 0, .int .i64 0, .int .i64 0, .bool false]) rfl (by kernel_rfl)) ?_
   refine Za rfl rfl rfl (Zai (by kernel_rfl) rfl rfl (Za6 _ _ _ _ _ _ _ _ _ _)) ?_
   refine Zc 1 rfl ?_
   refine Zg ?_
   refine Zb hK74 ?_
   refine Zk ?_
   refine Zj ?_
   refine Z5 ?_
   refine Zl rfl (RV.tmp rfl RV.nil) rfl ?_
   obtain rfl := QJ H
   replace hS := hS.cut 0
   exact ⟨rfl, hS⟩
  replace H := Zq H hb
  refine Zd (fun K hK70 => ?_)
  refine Zf ?_
  refine Za rfl rfl rfl (Ze Xi rfl) ?_
  refine Za rfl rfl rfl (Ze Yi rfl) ?_
  refine Za rfl rfl rfl (Zh Z0 rfl (Zgy _) hS X0 trivial Zbc) ?_
  refine Za rfl rfl rfl (Xa rfl rfl) ?_
  refine Zc 1 rfl ?_
  refine Zu 89 rfl (fun hb => ?_) (fun hb => ?_)
  rotate_left
  ·replace H := Zp H hb
   refine Zc 5 rfl ?_
   refine Zg ?_
   refine Zb hK70 ?_
   refine Zk ?_
   refine Zj ?_
   refine Z5 ?_
   refine Zl rfl (RV.tmp rfl RV.nil) rfl ?_
   obtain rfl := QJ H
   replace hS := hS.cut 0
   exact ⟨rfl, hS⟩
  replace H := Zq H hb
  refine Za rfl rfl rfl (Ze Xi rfl) ?_
  refine Za rfl rfl rfl (Zi Y4 rfl (Zgy _) hS X0 trivial Zaf) ?_
  obtain ⟨r71, hm72, H⟩ := bind_some H
  refine Zo rfl rfl rfl rfl (by kernel_rfl) rfl (Zco x0.snap _ hm72) ?_
  rintro e w ⟨rfl, hN⟩; refine ⟨_, rfl, ?_⟩; obtain ⟨hB, hS⟩ := hS.jn hN
  refine Zc 2 rfl ?_
  refine Zg ?_
  refine Zb hK70 ?_
  refine Zk ?_
  refine Zj ?_
  refine Z5 ?_
  refine Zl rfl (RV.tmp rfl RV.nil) rfl ?_
  obtain rfl := QJ H
  replace hS := hS.cut 0
  exact ⟨rfl, hS⟩
 replace H := Zq H hb
 refine Za rfl rfl rfl (Ze Vq rfl) ?_
 refine Za rfl rfl rfl (Zh Zbs rfl (Zgy _) hS X0 trivial Y7) ?_
 refine Za rfl rfl rfl (Y5 rfl rfl) ?_
 refine Zc 2 rfl ?_
 refine Zu 77 rfl (fun hb => ?_) (fun hb => ?_)
 rotate_left
 ·replace H := Zp H hb
  refine Zc 4 rfl ?_
  refine Zg ?_
  refine Zb hK51 ?_
  refine Yo rfl rfl ?_
  refine Zt ?_
  refine Zb hK50 ?_
  refine Zd (fun K hK61 => ?_)
  refine Zd (fun K hK62 => ?_)
  refine Zf ?_
  refine Za rfl rfl rfl (Ze Vq rfl) ?_
  refine Za rfl rfl rfl (Zh Zbs rfl (Zgy _) hS X0 trivial Y7) ?_
  refine Za rfl rfl rfl (Xo rfl rfl) ?_
  refine Zg ?_
  refine Zb hK62 ?_
  refine Zz rfl (fun hb => ?_) (fun hb => ?_)
  rotate_left
  ·replace H := Zp H hb
   refine Zt ?_
   refine Zb hK61 ?_
   refine Zd (fun K hK66 => ?_)
   refine Zd (fun K hK67 => ?_)
   refine Zf ?_
   refine Za rfl rfl rfl (Ze Xi rfl) ?_
   refine Za rfl rfl rfl (Zi Y4 rfl (Zgy _) hS X0 trivial Zaf) ?_
   refine Za rfl rfl rfl (Xw (cells := [.int .i64 0, .int .i64 0, .int .i64 0, .int .i64 0, .bool false]) rfl (by kernel_rfl)) ?_
   refine Za rfl rfl rfl (Zai (by kernel_rfl) rfl rfl (Za6 _ _ _ _ _ _ _ _ _ _)) ?_
   refine Zc 1 rfl ?_
   refine Zg ?_
   refine Zb hK67 ?_
   refine Zk ?_
   refine Zj ?_
   refine Z5 ?_
   refine Zl rfl (RV.tmp rfl RV.nil) rfl ?_
   obtain rfl := QJ H
   replace hS := hS.cut 0
   exact ⟨rfl, hS⟩
  replace H := Zq H hb
  refine Zd (fun K hK63 => ?_)
  refine Zf ?_
  refine Za rfl rfl rfl (Ze Xi rfl) ?_
  refine Za rfl rfl rfl (Ze Yi rfl) ?_
  refine Za rfl rfl rfl (Zh Z0 rfl (Zgy _) hS X0 trivial Zbc) ?_
  refine Za rfl rfl rfl (Xa rfl rfl) ?_
  refine Zc 1 rfl ?_
  refine Zu 89 rfl (fun hb => ?_) (fun hb => ?_)
  rotate_left
  ·replace H := Zp H hb
   refine Zc 5 rfl ?_
   refine Zg ?_
   refine Zb hK63 ?_
   refine Zk ?_
   refine Zj ?_
   refine Z5 ?_
   refine Zl rfl (RV.tmp rfl RV.nil) rfl ?_
   obtain rfl := QJ H
   replace hS := hS.cut 0
   exact ⟨rfl, hS⟩
  replace H := Zq H hb
  refine Za rfl rfl rfl (Ze Xi rfl) ?_
  refine Za rfl rfl rfl (Zi Y4 rfl (Zgy _) hS X0 trivial Zaf) ?_
  obtain ⟨r64, hm65, H⟩ := bind_some H
  refine Zo rfl rfl rfl rfl (by kernel_rfl) rfl (Zco x0.snap _ hm65) ?_
  rintro e w ⟨rfl, hN⟩; refine ⟨_, rfl, ?_⟩; obtain ⟨hB, hS⟩ := hS.jn hN
  refine Zc 2 rfl ?_
  refine Zg ?_
  refine Zb hK63 ?_
  refine Zk ?_
  refine Zj ?_
  refine Z5 ?_
  refine Zl rfl (RV.tmp rfl RV.nil) rfl ?_
  obtain rfl := QJ H
  replace hS := hS.cut 0
  exact ⟨rfl, hS⟩
 replace H := Zq H hb
 refine Za rfl rfl rfl (Ze Vq rfl) ?_
 refine Za rfl rfl rfl (Zh Zbs rfl (Zgy _) hS X0 trivial Y7) ?_
 refine Za rfl rfl rfl (Y5 rfl rfl) ?_
 refine Zc 1 rfl ?_
 refine Zg ?_
 refine Zb hK51 ?_
 refine Zz rfl (fun hb => ?_) (fun hb => ?_)
 ·replace H := Zq H hb
  refine Vi ?_
  refine Xb ?_
  refine Vz ?_
  refine Zd (fun K hK52 => ?_)
  refine Zt ?_
  refine Zb hK52 ?_
  refine Zd (fun K hK53 => ?_)
  refine Zf ?_
  refine Zc 1 rfl ?_
  refine Zg ?_
  refine Zb hK53 ?_
  refine Zk ?_
  refine Z5 ?_
  refine Zl rfl (RV.tmp rfl RV.nil) rfl ?_
  obtain rfl := QJ H
  replace hS := hS.cut 0
  exact ⟨rfl, hS⟩
 replace H := Zp H hb
 refine Zt ?_
 refine Zb hK50 ?_
 refine Zd (fun K hK54 => ?_)
 refine Zd (fun K hK55 => ?_)
 refine Zf ?_
 refine Za rfl rfl rfl (Ze Vq rfl) ?_
 refine Za rfl rfl rfl (Zh Zbs rfl (Zgy _) hS X0 trivial Y7) ?_
 refine Za rfl rfl rfl (Xo rfl rfl) ?_
 refine Zg ?_
 refine Zb hK55 ?_
 refine Zz rfl (fun hb => ?_) (fun hb => ?_)
 rotate_left
 ·replace H := Zp H hb
  refine Zt ?_
  refine Zb hK54 ?_
  refine Zd (fun K hK59 => ?_)
  refine Zd (fun K hK60 => ?_)
  refine Zf ?_
  refine Za rfl rfl rfl (Ze Xi rfl) ?_
  refine Za rfl rfl rfl (Zi Y4 rfl (Zgy _) hS X0 trivial Zaf) ?_
  refine Za rfl rfl rfl (Xw (cells := [.int .i64 0, .int .i64 0, .int .i64 0, .int .i64 0, .bool false]) rfl (by kernel_rfl)) ?_
  refine Za rfl rfl rfl (Zai (by kernel_rfl) rfl rfl (Za6 _ _ _ _ _ _ _ _ _ _)) ?_
  refine Zc 1 rfl ?_
  refine Zg ?_
  refine Zb hK60 ?_
  refine Zk ?_
  refine Zj ?_
  refine Z5 ?_
  refine Zl rfl (RV.tmp rfl RV.nil) rfl ?_
  obtain rfl := QJ H
  replace hS := hS.cut 0
  exact ⟨rfl, hS⟩
 replace H := Zq H hb
 refine Zd (fun K hK56 => ?_)
 refine Zf ?_
 refine Za rfl rfl rfl (Ze Xi rfl) ?_
 refine Za rfl rfl rfl (Ze Yi rfl) ?_
 refine Za rfl rfl rfl (Zh Z0 rfl (Zgy _) hS X0 trivial Zbc) ?_
 refine Za rfl rfl rfl (Xa rfl rfl) ?_
 refine Zc 1 rfl ?_
 refine Zu 89 rfl (fun hb => ?_) (fun hb => ?_)
 rotate_left
 ·replace H := Zp H hb
  refine Zc 5 rfl ?_
  refine Zg ?_
  refine Zb hK56 ?_
  refine Zk ?_
  refine Zj ?_
  refine Z5 ?_
  refine Zl rfl (RV.tmp rfl RV.nil) rfl ?_
  obtain rfl := QJ H
  replace hS := hS.cut 0
  exact ⟨rfl, hS⟩
 replace H := Zq H hb
 refine Za rfl rfl rfl (Ze Xi rfl) ?_
 refine Za rfl rfl rfl (Zi Y4 rfl (Zgy _) hS X0 trivial Zaf) ?_
 obtain ⟨r57, hm58, H⟩ := bind_some H
 refine Zo rfl rfl rfl rfl (by kernel_rfl) rfl (Zco x0.snap _ hm58) ?_
 rintro e w ⟨rfl, hN⟩; refine ⟨_, rfl, ?_⟩; obtain ⟨hB, hS⟩ := hS.jn hN
 refine Zc 2 rfl ?_
 refine Zg ?_
 refine Zb hK56 ?_
 refine Zk ?_
 refine Zj ?_
 refine Z5 ?_
 refine Zl rfl (RV.tmp rfl RV.nil) rfl ?_
 obtain rfl := QJ H
 replace hS := hS.cut 0
 exact ⟨rfl, hS⟩
theorem c_elect_fits (x0 : Co) (x1 : Ms) (A0_ : OA) (c0_ : Nat) (A1_ : OA) (c1_ : Nat) (A2_ : OA) (c2_ : Nat) (A3_ : OA) (c3_ : Nat) (A4_ : OA) (c4_ : Nat) (A5_ : OA) (c5_ : Nat) (w0 : World) (s0_ : SlI w0 Jv A0_ c0_ x0.tuple.log) (s1_ : SlI w0 enO A1_ c1_ x0.votes) (s2_ : SlI w0 V9 A2_ c2_ x0.next) (s3_ : SlI w0 V9 A3_ c3_ x0.mtch) (s4_ : SlI w0 V9 A4_ c4_ x0.caps) (s5_ : SlI w0 Jv A5_ c5_ x1.entries) {r : Bool} (H : Zdv x0 x1 = some r) : Calls Try.prog 48 #[.agg #[.int .i64 x0.id, .int .i64 x0.n, .int .u8 x0.role, .int .i64 x0.binary, .int .i64 x0.tuple.snap.index, .int .i64 x0.tuple.snap.term, .int .i64 x0.tuple.snap.sum, .int .i64 x0.tuple.snap.level, .bool x0.tuple.snap.final, .slice A0_ x0.tuple.log.length c0_, .int .i64 x0.tuple.term, .int .i64 x0.tuple.vote, .int .i64 x0.commit, .int .i64 x0.applied.index, .int .i64 x0.applied.term, .int .i64 x0.applied.sum, .int .i64 x0.applied.level, .bool x0.applied.final, .slice A1_ x0.votes.length c1_, .slice A2_ x0.next.length c2_, .slice A3_ x0.mtch.length c3_, .slice A4_ x0.caps.length c4_], .agg #[.int .u8 x1.kind, .int .i64 x1.frm, .int .i64 x1.dst, .int .i64 x1.term, .int .i64 x1.cap, .int .i64 x1.last, .int .i64 x1.lastTerm, .int .i64 x1.commit, .bool x1.okk, .slice A5_ x1.entries.length c5_, .int .i64 x1.snap.index, .int .i64 x1.snap.term, .int .i64 x1.snap.sum, .int .i64 x1.snap.level, .bool x1.snap.final]] w0 fun e w' => e = .returned (.bool r) ∧ St0 All w0 w' [] := by
 unfold Zdv at H
 refine Y0 Try.func48 rfl Try.ntmps48 rfl ?_
 have hS := St0.start All w0
 refine Zd (fun K hK1 => ?_)
 refine Zf ?_
 refine Yd rfl rfl rfl CellsOf.agg hS (fun b2 w hS hB => ?_)
 refine Yd rfl rfl rfl CellsOf.agg hS (fun b4 w hS hB => ?_)
 refine Zc 1 rfl ?_
 refine Zg ?_
 refine Zb hK1 ?_
 refine Zd (fun K hK6 => ?_)
 refine Zf ?_
 refine Za rfl rfl rfl (Ze Zga rfl) ?_
 refine Za rfl rfl rfl (Zh Z0 rfl (Zgy _) hS hs0 trivial Zbk) ?_
 refine Za rfl rfl rfl (Ze Zay rfl) ?_
 refine Za rfl rfl rfl (Zh Z0 rfl (Zgy _) hS Xr trivial Y7) ?_
 refine Za rfl rfl rfl (Xo rfl rfl) ?_
 refine Zc 1 rfl ?_
 refine Zu 10 rfl (fun hb => ?_) (fun hb => ?_)
 rotate_left
 ·replace H := Zp H hb
  refine Zc 10 rfl ?_
  refine Zg ?_
  refine Zb hK6 ?_
  refine Zk ?_
  refine Zl rfl (RV.tmp rfl RV.nil) rfl ?_
  obtain rfl := QJ H
  replace hS := hS.cut 0
  exact ⟨rfl, hS⟩
 replace H := Zq H hb
 refine Za rfl rfl rfl (Zi Vp rfl (Zgy _) hS hs0 trivial Xv) ?_
 refine Za rfl rfl rfl (Ze Jc rfl) ?_
 refine Za rfl rfl rfl (Zh Z0 rfl (Zgy _) hS Xr trivial Vo) ?_
 obtain ⟨r7, hm8, H⟩ := bind_some H
 refine Zo rfl rfl rfl rfl (by kernel_rfl) rfl (c_msg_Fine x1 x0.n A5_ c5_ _ (Zg1 s5_.k (hS.rd0 s5_.rd) (hS.blk0 s5_.blk)) hm8) ?_
 rintro e w ⟨rfl, hN⟩; refine ⟨_, rfl, ?_⟩; obtain ⟨hB, hS⟩ := hS.jn hN
 refine Zc 2 rfl ?_
 refine Zu 16 rfl (fun hb => ?_) (fun hb => ?_)
 rotate_left
 ·replace H := Zp H hb
  refine Zc 4 rfl ?_
  refine Zg ?_
  refine Zb hK6 ?_
  refine Zk ?_
  refine Zl rfl (RV.tmp rfl RV.nil) rfl ?_
  obtain rfl := QJ H
  replace hS := hS.cut 0
  exact ⟨rfl, hS⟩
 replace H := Zq H hb
 refine Za rfl rfl rfl (Zi Yh rfl (Zgy _) hS Xr trivial Z8) ?_
 obtain ⟨r9, hm10, H⟩ := bind_some H
 refine Zo rfl rfl rfl rfl (by kernel_rfl) rfl (Zf3 x0 A0_ c0_ A1_ c1_ A2_ c2_ A3_ c3_ A4_ c4_ _ (Zg1 s0_.k (hS.rd0 s0_.rd) (hS.blk0 s0_.blk)) (Zg1 s1_.k (hS.rd0 s1_.rd) (hS.blk0 s1_.blk)) (Zg1 s2_.k (hS.rd0 s2_.rd) (hS.blk0 s2_.blk)) (Zg1 s3_.k (hS.rd0 s3_.rd) (hS.blk0 s3_.blk)) (Zg1 s4_.k (hS.rd0 s4_.rd) (hS.blk0 s4_.blk)) hm10) ?_
 rintro e w ⟨rfl, hN⟩; refine ⟨_, rfl, ?_⟩; obtain ⟨hB, hS⟩ := hS.jn hN
 refine Zc 2 rfl ?_
 refine Zg ?_
 refine Zb hK6 ?_
 refine Zk ?_
 refine Zl rfl (RV.tmp rfl RV.nil) rfl ?_
 obtain rfl := QJ H
 replace hS := hS.cut 0
 exact ⟨rfl, hS⟩
theorem c_advert_To (x0 : Co) (x1 : Ms) (A0_ : OA) (c0_ : Nat) (A1_ : OA) (c1_ : Nat) (A2_ : OA) (c2_ : Nat) (A3_ : OA) (c3_ : Nat) (A4_ : OA) (c4_ : Nat) (A5_ : OA) (c5_ : Nat) (w0 : World) (s0_ : SlI w0 Jv A0_ c0_ x0.tuple.log) (s1_ : SlI w0 enO A1_ c1_ x0.votes) (s2_ : SlI w0 V9 A2_ c2_ x0.next) (s3_ : SlI w0 V9 A3_ c3_ x0.mtch) (s4_ : SlI w0 V9 A4_ c4_ x0.caps) (s5_ : SlI w0 Jv A5_ c5_ x1.entries) {r : Bool} (H : Zca x0 x1 = some r) : Calls Try.prog 60 #[.agg #[.int .i64 x0.id, .int .i64 x0.n, .int .u8 x0.role, .int .i64 x0.binary, .int .i64 x0.tuple.snap.index, .int .i64 x0.tuple.snap.term, .int .i64 x0.tuple.snap.sum, .int .i64 x0.tuple.snap.level, .bool x0.tuple.snap.final, .slice A0_ x0.tuple.log.length c0_, .int .i64 x0.tuple.term, .int .i64 x0.tuple.vote, .int .i64 x0.commit, .int .i64 x0.applied.index, .int .i64 x0.applied.term, .int .i64 x0.applied.sum, .int .i64 x0.applied.level, .bool x0.applied.final, .slice A1_ x0.votes.length c1_, .slice A2_ x0.next.length c2_, .slice A3_ x0.mtch.length c3_, .slice A4_ x0.caps.length c4_], .agg #[.int .u8 x1.kind, .int .i64 x1.frm, .int .i64 x1.dst, .int .i64 x1.term, .int .i64 x1.cap, .int .i64 x1.last, .int .i64 x1.lastTerm, .int .i64 x1.commit, .bool x1.okk, .slice A5_ x1.entries.length c5_, .int .i64 x1.snap.index, .int .i64 x1.snap.term, .int .i64 x1.snap.sum, .int .i64 x1.snap.level, .bool x1.snap.final]] w0 fun e w' => e = .returned (.bool r) ∧ St0 All w0 w' [] := by
 unfold Zca at H
 refine Y0 Try.func60 rfl Try.ntmps60 rfl ?_
 have hS := St0.start All w0
 refine Zd (fun K hK1 => ?_)
 refine Zf ?_
 refine Yd rfl rfl rfl CellsOf.agg hS (fun b2 w hS hB => ?_)
 refine Yd rfl rfl rfl CellsOf.agg hS (fun b4 w hS hB => ?_)
 refine Zc 1 rfl ?_
 refine Zg ?_
 refine Zb hK1 ?_
 refine wpC_scope1 0 rfl ?_
 refine Zd (fun K hK6 => ?_)
 refine Zd (fun K hK7 => ?_)
 refine Zf ?_
 refine Za rfl rfl rfl (Ze Zga rfl) ?_
 refine Za rfl rfl rfl (Zh Z0 rfl (Zgy _) hS hs0 trivial Zbk) ?_
 refine Za rfl rfl rfl (Ze Zay rfl) ?_
 refine Za rfl rfl rfl (Zh Z0 rfl (Zgy _) hS Xr trivial Y7) ?_
 refine Za rfl rfl rfl (Y5 rfl rfl) ?_
 refine Zc 1 rfl ?_
 refine Zu 10 rfl (fun hb => ?_) (fun hb => ?_)
 ·replace H := Zq H hb
  refine Zc 4 rfl ?_
  refine Zg ?_
  refine Zb hK7 ?_
  refine Zr rfl rfl ?_
  refine Vi ?_
  refine Xb ?_
  refine Vz ?_
  refine Zd (fun K hK8 => ?_)
  refine Zt ?_
  refine Zb hK8 ?_
  refine Zd (fun K hK9 => ?_)
  refine Zf ?_
  refine Zc 2 rfl ?_
  refine Zg ?_
  refine Zb hK9 ?_
  refine Zk ?_
  refine Z5 ?_
  refine Zl rfl (RV.tmp rfl RV.nil) rfl ?_
  obtain rfl := QJ H
  replace hS := hS.cut 0
  exact ⟨rfl, hS⟩
 replace H := Zp H hb
 refine Za rfl rfl rfl (Zi Yh rfl (Zgy _) hS Xr trivial Z8) ?_
 obtain ⟨r10, hm11, H⟩ := bind_some H
 refine Zo rfl rfl rfl rfl (by kernel_rfl) rfl (Zf3 x0 A0_ c0_ A1_ c1_ A2_ c2_ A3_ c3_ A4_ c4_ _ (Zg1 s0_.k (hS.rd0 s0_.rd) (hS.blk0 s0_.blk)) (Zg1 s1_.k (hS.rd0 s1_.rd) (hS.blk0 s1_.blk)) (Zg1 s2_.k (hS.rd0 s2_.rd) (hS.blk0 s2_.blk)) (Zg1 s3_.k (hS.rd0 s3_.rd) (hS.blk0 s3_.blk)) (Zg1 s4_.k (hS.rd0 s4_.rd) (hS.blk0 s4_.blk)) hm11) ?_
 rintro e w ⟨rfl, hN⟩; refine ⟨_, rfl, ?_⟩; obtain ⟨hB, hS⟩ := hS.jn hN
 refine Za rfl rfl rfl (Yt rfl) ?_
 refine Zc 1 rfl ?_
 refine Zg ?_
 refine Zb hK7 ?_
 refine Zz rfl (fun hb => ?_) (fun hb => ?_)
 ·replace H := Zq H hb
  refine Vi ?_
  refine Xb ?_
  refine Vz ?_
  refine Zd (fun K hK12 => ?_)
  refine Zt ?_
  refine Zb hK12 ?_
  refine Zd (fun K hK13 => ?_)
  refine Zf ?_
  refine Zc 2 rfl ?_
  refine Zg ?_
  refine Zb hK13 ?_
  refine Zk ?_
  refine Z5 ?_
  refine Zl rfl (RV.tmp rfl RV.nil) rfl ?_
  obtain rfl := QJ H
  replace hS := hS.cut 0
  exact ⟨rfl, hS⟩
 replace H := Zp H hb
 refine Zt ?_
 refine Zb hK6 ?_
 refine Zd (fun K hK14 => ?_)
 refine Zf ?_
 refine Za rfl rfl rfl (Zi Vp rfl (Zgy _) hS hs0 trivial Xv) ?_
 refine Za rfl rfl rfl (Ze Jc rfl) ?_
 refine Za rfl rfl rfl (Zh Z0 rfl (Zgy _) hS Xr trivial Vo) ?_
 obtain ⟨r15, hm16, H⟩ := bind_some H
 refine Zo rfl rfl rfl rfl (by kernel_rfl) rfl (c_msg_Fine x1 x0.n A5_ c5_ _ (Zg1 s5_.k (hS.rd0 s5_.rd) (hS.blk0 s5_.blk)) hm16) ?_
 rintro e w ⟨rfl, hN⟩; refine ⟨_, rfl, ?_⟩; obtain ⟨hB, hS⟩ := hS.jn hN
 refine Zc 1 rfl ?_
 refine Zg ?_
 refine Zb hK14 ?_
 refine Zd (fun K hK17 => ?_)
 refine Zdg ?_
 refine Zb hK17 ?_
 refine Zd (fun K hK18 => ?_)
 refine Zf ?_
 refine Zc 2 rfl ?_
 refine Zg ?_
 refine Zb hK18 ?_
 refine Zk ?_
 refine Z5 ?_
 refine Zl rfl (RV.tmp rfl RV.nil) rfl ?_
 obtain rfl := QJ H
 replace hS := hS.cut 0
 exact ⟨rfl, hS⟩
theorem c_advert_Hear (x0 : Co) (x1 : Ms) (A0_ : OA) (c0_ : Nat) (A1_ : OA) (c1_ : Nat) (A2_ : OA) (c2_ : Nat) (A3_ : OA) (c3_ : Nat) (A4_ : OA) (c4_ : Nat) (A5_ : OA) (c5_ : Nat) (w0 : World) (s0_ : SlI w0 Jv A0_ c0_ x0.tuple.log) (s1_ : SlI w0 enO A1_ c1_ x0.votes) (s2_ : SlI w0 V9 A2_ c2_ x0.next) (s3_ : SlI w0 V9 A3_ c3_ x0.mtch) (s4_ : SlI w0 V9 A4_ c4_ x0.caps) (s5_ : SlI w0 Jv A5_ c5_ x1.entries) {r : Co} (H : Zcx x0 x1 = some r) : Calls Try.prog 68 #[.agg #[.int .i64 x0.id, .int .i64 x0.n, .int .u8 x0.role, .int .i64 x0.binary, .int .i64 x0.tuple.snap.index, .int .i64 x0.tuple.snap.term, .int .i64 x0.tuple.snap.sum, .int .i64 x0.tuple.snap.level, .bool x0.tuple.snap.final, .slice A0_ x0.tuple.log.length c0_, .int .i64 x0.tuple.term, .int .i64 x0.tuple.vote, .int .i64 x0.commit, .int .i64 x0.applied.index, .int .i64 x0.applied.term, .int .i64 x0.applied.sum, .int .i64 x0.applied.level, .bool x0.applied.final, .slice A1_ x0.votes.length c1_, .slice A2_ x0.next.length c2_, .slice A3_ x0.mtch.length c3_, .slice A4_ x0.caps.length c4_], .agg #[.int .u8 x1.kind, .int .i64 x1.frm, .int .i64 x1.dst, .int .i64 x1.term, .int .i64 x1.cap, .int .i64 x1.last, .int .i64 x1.lastTerm, .int .i64 x1.commit, .bool x1.okk, .slice A5_ x1.entries.length c5_, .int .i64 x1.snap.index, .int .i64 x1.snap.term, .int .i64 x1.snap.sum, .int .i64 x1.snap.level, .bool x1.snap.final]] w0 fun e w' => ∃ (A0 : OA) (c0 : Nat) (A1 : OA) (c1 : Nat) (A2 : OA) (c2 : Nat) (A3 : OA) (c3 : Nat) (A4 : OA) (c4 : Nat), e = .returned (.agg #[.int .i64 r.id, .int .i64 r.n, .int .u8 r.role, .int .i64 r.binary, .int .i64 r.tuple.snap.index, .int .i64 r.tuple.snap.term, .int .i64 r.tuple.snap.sum, .int .i64 r.tuple.snap.level, .bool r.tuple.snap.final, .slice A0 r.tuple.log.length c0, .int .i64 r.tuple.term, .int .i64 r.tuple.vote, .int .i64 r.commit, .int .i64 r.applied.index, .int .i64 r.applied.term, .int .i64 r.applied.sum, .int .i64 r.applied.level, .bool r.applied.final, .slice A1 r.votes.length c1, .slice A2 r.next.length c2, .slice A3 r.mtch.length c3, .slice A4 r.caps.length c4]) ∧ (r.tuple.log.length ≤ c0 ∧ c0 ≤ maxLen) ∧ (r.votes.length ≤ c1 ∧ c1 ≤ maxLen) ∧ (r.next.length ≤ c2 ∧ c2 ≤ maxLen) ∧ (r.mtch.length ≤ c3 ∧ c3 ≤ maxLen) ∧ (r.caps.length ≤ c4 ∧ c4 ≤ maxLen) ∧ St0 All w0 w' [.row (.slice A0 r.tuple.log.length c0) 56 3 r.tuple.log.length (Yf Jv r.tuple.log), .row (.slice A1 r.votes.length c1) 4 1 r.votes.length (Yf enO r.votes), .row (.slice A2 r.next.length c2) 3 1 r.next.length (Yf V9 r.next), .row (.slice A3 r.mtch.length c3) 3 1 r.mtch.length (Yf V9 r.mtch), .row (.slice A4 r.caps.length c4) 3 1 r.caps.length (Yf V9 r.caps)] := by
 unfold Zcx at H
 refine Y0 Try.func68 rfl Try.ntmps68 rfl ?_
 have hS := St0.start All w0
 refine Zd (fun K hK1 => ?_)
 refine Zf ?_
 refine Yd rfl rfl rfl CellsOf.agg hS (fun b2 w hS hB => ?_)
 refine Yd rfl rfl rfl CellsOf.agg hS (fun b4 w hS hB => ?_)
 refine Yb rfl rfl Zex hS (fun b6 w hS hB => ?_)
 refine Zg ?_
 refine Zb hK1 ?_
 refine Zd (fun K hK8 => ?_)
 refine Yg 7 [6] (fun i b => (i = 6 → b ≠ b6)) ⟨by kernel_rfl, by kernel_rfl⟩ hS (fun w hS hB => ?_)
 refine Zn [true, true, true, false, true] (by decide +kernel) PFC.h ?_
 refine LtK.put rfl rfl rfl (Zi Yh rfl (Zgz _) hS X0 trivial Z8) ?_
 refine LtK.put rfl rfl rfl (Zi Yh rfl (Zgz _) hS X0 trivial Z8) ?_
 refine LtK.put rfl rfl rfl (Zi Vp rfl (Zgz _) hS Xr trivial Xv) ?_
 refine LtK.put rfl rfl rfl (X4 rfl rfl) ?_
 refine LtK.nil ?_
 refine Z4 [false, false, false, true] 3 ⟨by decide, by kernel_rfl, by kernel_rfl⟩ rfl rfl ?_
 try dsimp only [Zw]
 obtain ⟨r9, hm10, H⟩ := bind_some H
 refine Zo rfl rfl rfl rfl (by kernel_rfl) rfl (c_advert_To x0 x1 A0_ c0_ A1_ c1_ A2_ c2_ A3_ c3_ A4_ c4_ A5_ c5_ _ (Zg1 s0_.k (hS.rd0 s0_.rd) (hS.blk0 s0_.blk)) (Zg1 s1_.k (hS.rd0 s1_.rd) (hS.blk0 s1_.blk)) (Zg1 s2_.k (hS.rd0 s2_.rd) (hS.blk0 s2_.blk)) (Zg1 s3_.k (hS.rd0 s3_.rd) (hS.blk0 s3_.blk)) (Zg1 s4_.k (hS.rd0 s4_.rd) (hS.blk0 s4_.blk)) (Zg1 s5_.k (hS.rd0 s5_.rd) (hS.blk0 s5_.blk)) hm10) ?_
 rintro e w ⟨rfl, hN⟩; refine ⟨_, rfl, ?_⟩; obtain ⟨hB, hS⟩ := hS.jn hN
 refine Zg ?_
 refine Z7 hB ?_
 refine Z4 [false, false, false, false, false, true] 5 ⟨by decide, by kernel_rfl, by kernel_rfl⟩ rfl rfl ?_
 try dsimp only [Zw]
 have hO11 := hS
 rename World => wS12
 have hS := St0.start All wS12
 refine Za2 rfl rfl rfl rfl (by kernel_rfl) rfl ?_
 show Calls _ _ #[_, _, _] _ _
 refine Zao Try.func103 rfl Try.ntmps103 rfl ?_
 refine Zd (fun K hK13 => ?_)
 refine Zf ?_
 refine Yd rfl rfl rfl CellsOf.agg hS (fun b14 w hS hB => ?_)
 refine Yb rfl rfl Zex hS (fun b16 w hS hB => ?_)
 refine Zg ?_
 refine Zb hK13 ?_
 refine Zd (fun K hK18 => ?_)
 refine Zf ?_
 refine Za rfl rfl rfl (Zi Yh rfl (Zgy _) (hO11.join hS) Xr trivial Z8) ?_
 obtain ⟨r19, hm20, H⟩ := bind_some H
 refine Zo rfl rfl rfl rfl (by kernel_rfl) rfl (Zd2 x0 A0_ c0_ A1_ c1_ A2_ c2_ A3_ c3_ A4_ c4_ _ (Zg1 s0_.k ((hO11.join hS).rd0 s0_.rd) ((hO11.join hS).blk0 s0_.blk)) (Zg1 s1_.k ((hO11.join hS).rd0 s1_.rd) ((hO11.join hS).blk0 s1_.blk)) (Zg1 s2_.k ((hO11.join hS).rd0 s2_.rd) ((hO11.join hS).blk0 s2_.blk)) (Zg1 s3_.k ((hO11.join hS).rd0 s3_.rd) ((hO11.join hS).blk0 s3_.blk)) (Zg1 s4_.k ((hO11.join hS).rd0 s4_.rd) ((hO11.join hS).blk0 s4_.blk)) hm20) ?_
 rintro e w ⟨A21, c22, A25, c26, A29, c30, A33, c34, A37, c38, rfl, k23, k27, k31, k35, k39, hN⟩; refine ⟨_, rfl, ?_⟩; obtain ⟨hB, hS⟩ := hS.jn hN
 refine Zm rfl rfl rfl CellsOf.agg hS ps6 Yy (by kernel_rfl) rfl (fun w hS hB => ?_)
 refine Zg ?_
 refine Zb hK18 ?_
 refine Zd (fun K hK41 => ?_)
 refine Zd (fun K hK42 => ?_)
 refine Zf ?_
 refine Zc 2 rfl ?_
 refine Zu 10 rfl (fun hb => ?_) (fun hb => ?_)
 rotate_left
 ·replace H := Zp H hb
  refine Zc 3 rfl ?_
  refine Zg ?_
  refine Zb hK42 ?_
  refine Yo rfl rfl ?_
  refine Zt ?_
  refine Zb hK41 ?_
  refine Zd (fun K hK51 => ?_)
  refine Zf ?_
  refine Za rfl rfl rfl (Zi Yh rfl (Zgy _) (hO11.join hS) hs6 trivial Z8) ?_
  refine Zm rfl rfl rfl CellsOf.agg hS ps5 Yy (by kernel_rfl) rfl (fun w hS hB => ?_)
  refine Zg ?_
  refine Zb hK51 ?_
  refine Zk ?_
  refine Zl rfl (RV.cell rfl (Zx Yh (hO11.join hS) hs5 Z8) RV.nil) rfl ?_
  refine ⟨_, rfl, ?_⟩
  have hB := hS.pure
  have hS := hO11.join hS
  dsimp only [List.cons_append, List.nil_append] at hS
  refine Zg ?_
  refine Z7 hB ?_
  refine Yp [false, false, false, false, false, false, true] 6 ⟨by decide, by kernel_rfl, by kernel_rfl⟩ rfl rfl ?_
  try dsimp only [Zw]
  refine Zm rfl rfl rfl CellsOf.agg hS ps7 Yy (by kernel_rfl) rfl (fun w hS hB => ?_)
  refine Zg ?_
  refine Ye (hB.sub (fun _ _ h => by simpa using h)) ?_
  refine Z6 (by kernel_rfl) ?_
  refine Zb hK8 ?_
  refine Zk ?_
  refine Zl rfl (RV.cell rfl (Zx Yh hS hs7 Z8) RV.nil) rfl ?_
  obtain rfl := QJ H
  have hS := hS.front 4 rfl
  have hS := hS.front 4 rfl
  have hS := hS.front 4 rfl
  have hS := hS.front 4 rfl
  have hS := hS.front 4 rfl
  replace hS := hS.cut 5
  exact ⟨A21, c22, A25, c26, A29, c30, A33, c34, A37, c38, rfl, k23, k27, k31, k35, k39, hS⟩
 replace H := Zq H hb
 refine Za rfl rfl rfl (Zi Yh rfl (Zgy _) (hO11.join hS) hs6 trivial Z8) ?_
 obtain ⟨r43, hm44, H⟩ := bind_some H
 refine Zo rfl rfl rfl rfl (by kernel_rfl) rfl (Zf3 r19 A21 c22 A25 c26 A29 c30 A33 c34 A37 c38 _ (Zg1 k23 ((hO11.join hS).row_rd hs0) ((hO11.join hS).row_blk hs0)) (Zg1 k27 ((hO11.join hS).row_rd Xr) ((hO11.join hS).row_blk Xr)) (Zg1 k31 ((hO11.join hS).row_rd X0) ((hO11.join hS).row_blk X0)) (Zg1 k35 ((hO11.join hS).row_rd hs3) ((hO11.join hS).row_blk hs3)) (Zg1 k39 ((hO11.join hS).row_rd hs4) ((hO11.join hS).row_blk hs4)) hm44) ?_
 rintro e w ⟨rfl, hN⟩; refine ⟨_, rfl, ?_⟩; obtain ⟨hB, hS⟩ := hS.jn hN
 refine Zc 1 rfl ?_
 refine Zg ?_
 refine Zb hK42 ?_
 refine Zz rfl (fun hb => ?_) (fun hb => ?_)
 rotate_left
 ·replace H := Zp H hb
  refine Zt ?_
  refine Zb hK41 ?_
  refine Zd (fun K hK50 => ?_)
  refine Zf ?_
  refine Za rfl rfl rfl (Zi Yh rfl (Zgy _) (hO11.join hS) hs6 trivial Z8) ?_
  refine Zm rfl rfl rfl CellsOf.agg hS ps5 Yy (by kernel_rfl) rfl (fun w hS hB => ?_)
  refine Zg ?_
  refine Zb hK50 ?_
  refine Zk ?_
  refine Zl rfl (RV.cell rfl (Zx Yh (hO11.join hS) hs5 Z8) RV.nil) rfl ?_
  refine ⟨_, rfl, ?_⟩
  have hB := hS.pure
  have hS := hO11.join hS
  dsimp only [List.cons_append, List.nil_append] at hS
  refine Zg ?_
  refine Z7 hB ?_
  refine Yp [false, false, false, false, false, false, true] 6 ⟨by decide, by kernel_rfl, by kernel_rfl⟩ rfl rfl ?_
  try dsimp only [Zw]
  refine Zm rfl rfl rfl CellsOf.agg hS ps7 Yy (by kernel_rfl) rfl (fun w hS hB => ?_)
  refine Zg ?_
  refine Ye (hB.sub (fun _ _ h => by simpa using h)) ?_
  refine Z6 (by kernel_rfl) ?_
  refine Zb hK8 ?_
  refine Zk ?_
  refine Zl rfl (RV.cell rfl (Zx Yh hS hs7 Z8) RV.nil) rfl ?_
  obtain rfl := QJ H
  have hS := hS.front 4 rfl
  have hS := hS.front 4 rfl
  have hS := hS.front 4 rfl
  have hS := hS.front 4 rfl
  have hS := hS.front 4 rfl
  replace hS := hS.cut 5
  exact ⟨A21, c22, A25, c26, A29, c30, A33, c34, A37, c38, rfl, k23, k27, k31, k35, k39, hS⟩
 replace H := Zq H hb
 refine Zf ?_
 refine Zc 1 rfl ?_
 refine Za2 rfl rfl rfl rfl (by kernel_rfl) rfl ?_
 show Calls _ _ #[_, _] _ _
 refine Y0 Try.func104 rfl Try.ntmps104 rfl ?_
 refine Yg 11 [10] (fun i b => (i = 10 → b = b16 ∨ b = b14)) ⟨by kernel_rfl, by kernel_rfl⟩ hS (fun w hS hB => ?_)
 refine Zn [true, true, true, true, true, true, true, true, true, true] (by decide +kernel) PFC.h ?_
 refine LtK.put rfl rfl rfl (Zs rfl) ?_
 refine LtK.put rfl rfl rfl (Xx rfl) ?_
 refine LtK.put rfl rfl rfl (Ze Zaa rfl) ?_
 refine LtK.put rfl rfl rfl (Zh Xt rfl (Zgz _) (hO11.join hS) hs6 trivial Zdr) ?_
 refine LtK.put rfl rfl rfl (Ze Zee rfl) ?_
 refine LtK.put rfl rfl rfl (Zh Z0 rfl (Zgz _) (hO11.join hS) hs8 trivial Vo) ?_
 refine LtK.put rfl rfl rfl (J0 rfl rfl) ?_
 refine LtK.put rfl rfl rfl (Ze fo_36_4 rfl) ?_
 refine LtK.put rfl rfl rfl (Zh Z0 rfl (Zgz _) (hO11.join hS) hs8 trivial Zfn) ?_
 obtain ⟨e45, hi47, H⟩ := bind_some H
 obtain ⟨j46, hi47a, hi47b, hi47c⟩ := Yw hi47
 refine LtK.put rfl rfl rfl (Y8 Xm rfl rfl hi47a hi47c (Rd.el ((hO11.join hS).row_rd hs4) Yl hi47b)) ?_
 refine LtK.nil ?_
 refine Yp [false, false, false, false, false, false, false, false, false, false, true] 10 ⟨by decide, by kernel_rfl, by kernel_rfl⟩ rfl rfl ?_
 try dsimp only [Zw]
 refine Zgc (a' := x1.cap) (zs := (Zen r19.caps (IntKind.wrap .i64 (x1.frm - 1)) x1.cap)) Yl rfl rfl rfl CellsOf.int hS ps4 (Rd.el ((hO11.join hS).row_rd hs4) Yl hi47b) hi47a hi47b rfl st0_1 (by kernel_rfl) rfl (fun w hS hB => ?_)
 have hi48b := setI_at (a := x1.cap) hi47a hi47b
 have hi48a := hi47a
 refine Zg ?_
 refine Ye (hB.sub (fun b _ h => by have h0 : b = b16 ∨ b = b14 := (by simpa using h); rcases h0 with h0 | h0; (rw [h0]; exact hS.neRow 5 4 rfl rfl); (rw [h0]; exact hS.neRow 6 4 rfl rfl))) ?_
 refine Z6 (by kernel_rfl) ?_
 refine Zcs rfl RV.nil rfl ?_
 refine ⟨_, rfl, ?_⟩
 refine Zg ?_
 refine Zb hK41 ?_
 refine Zd (fun K hK49 => ?_)
 refine Zf ?_
 refine Za rfl rfl rfl (Zi Yh rfl (Zgy _) (hO11.join hS) hs6 trivial Z8) ?_
 refine Zm rfl rfl rfl CellsOf.agg hS ps5 Yy (by kernel_rfl) rfl (fun w hS hB => ?_)
 refine Zg ?_
 refine Zb hK49 ?_
 refine Zk ?_
 refine Zl rfl (RV.cell rfl (Zx Yh (hO11.join hS) hs5 Z8) RV.nil) rfl ?_
 refine ⟨_, rfl, ?_⟩
 have hB := hS.pure
 have hS := hO11.join hS
 dsimp only [List.cons_append, List.nil_append] at hS
 refine Zg ?_
 refine Z7 hB ?_
 refine Yp [false, false, false, false, false, false, true] 6 ⟨by decide, by kernel_rfl, by kernel_rfl⟩ rfl rfl ?_
 try dsimp only [Zw]
 refine Zm rfl rfl rfl CellsOf.agg hS ps7 Yy (by kernel_rfl) rfl (fun w hS hB => ?_)
 refine Zg ?_
 refine Ye (hB.sub (fun _ _ h => by simpa using h)) ?_
 refine Z6 (by kernel_rfl) ?_
 refine Zb hK8 ?_
 refine Zk ?_
 refine Zl rfl (RV.cell rfl (Zx Yh hS hs7 Z8) RV.nil) rfl ?_
 obtain rfl := QJ H
 have hS := hS.front 4 rfl
 have hS := hS.front 4 rfl
 have hS := hS.front 4 rfl
 have hS := hS.front 4 rfl
 have hS := hS.front 4 rfl
 replace hS := hS.cut 5
 exact ⟨A21, c22, A25, c26, A29, c30, A33, c34, A37, c38, by (repeat rw [(Zcc rfl)]); rfl, k23, k27, k31, k35, (k_set k39), hS.eqv (by (repeat rw [(Zcc rfl)]); rfl)⟩
theorem c_elect_Meet (x0 : Co) (x1 : Ms) (A0_ : OA) (c0_ : Nat) (A1_ : OA) (c1_ : Nat) (A2_ : OA) (c2_ : Nat) (A3_ : OA) (c3_ : Nat) (A4_ : OA) (c4_ : Nat) (A5_ : OA) (c5_ : Nat) (w0 : World) (s0_ : SlI w0 Jv A0_ c0_ x0.tuple.log) (s1_ : SlI w0 enO A1_ c1_ x0.votes) (s2_ : SlI w0 V9 A2_ c2_ x0.next) (s3_ : SlI w0 V9 A3_ c3_ x0.mtch) (s4_ : SlI w0 V9 A4_ c4_ x0.caps) (s5_ : SlI w0 Jv A5_ c5_ x1.entries) {r : Co} (H : Zcn x0 x1 = some r) : Calls Try.prog 37 #[.agg #[.int .i64 x0.id, .int .i64 x0.n, .int .u8 x0.role, .int .i64 x0.binary, .int .i64 x0.tuple.snap.index, .int .i64 x0.tuple.snap.term, .int .i64 x0.tuple.snap.sum, .int .i64 x0.tuple.snap.level, .bool x0.tuple.snap.final, .slice A0_ x0.tuple.log.length c0_, .int .i64 x0.tuple.term, .int .i64 x0.tuple.vote, .int .i64 x0.commit, .int .i64 x0.applied.index, .int .i64 x0.applied.term, .int .i64 x0.applied.sum, .int .i64 x0.applied.level, .bool x0.applied.final, .slice A1_ x0.votes.length c1_, .slice A2_ x0.next.length c2_, .slice A3_ x0.mtch.length c3_, .slice A4_ x0.caps.length c4_], .agg #[.int .u8 x1.kind, .int .i64 x1.frm, .int .i64 x1.dst, .int .i64 x1.term, .int .i64 x1.cap, .int .i64 x1.last, .int .i64 x1.lastTerm, .int .i64 x1.commit, .bool x1.okk, .slice A5_ x1.entries.length c5_, .int .i64 x1.snap.index, .int .i64 x1.snap.term, .int .i64 x1.snap.sum, .int .i64 x1.snap.level, .bool x1.snap.final]] w0 fun e w' => ∃ (A0 : OA) (c0 : Nat) (A1 : OA) (c1 : Nat) (A2 : OA) (c2 : Nat) (A3 : OA) (c3 : Nat) (A4 : OA) (c4 : Nat), e = .returned (.agg #[.int .i64 r.id, .int .i64 r.n, .int .u8 r.role, .int .i64 r.binary, .int .i64 r.tuple.snap.index, .int .i64 r.tuple.snap.term, .int .i64 r.tuple.snap.sum, .int .i64 r.tuple.snap.level, .bool r.tuple.snap.final, .slice A0 r.tuple.log.length c0, .int .i64 r.tuple.term, .int .i64 r.tuple.vote, .int .i64 r.commit, .int .i64 r.applied.index, .int .i64 r.applied.term, .int .i64 r.applied.sum, .int .i64 r.applied.level, .bool r.applied.final, .slice A1 r.votes.length c1, .slice A2 r.next.length c2, .slice A3 r.mtch.length c3, .slice A4 r.caps.length c4]) ∧ (r.tuple.log.length ≤ c0 ∧ c0 ≤ maxLen) ∧ (r.votes.length ≤ c1 ∧ c1 ≤ maxLen) ∧ (r.next.length ≤ c2 ∧ c2 ≤ maxLen) ∧ (r.mtch.length ≤ c3 ∧ c3 ≤ maxLen) ∧ (r.caps.length ≤ c4 ∧ c4 ≤ maxLen) ∧ St0 All w0 w' [.rd A0 (Yf Jv r.tuple.log), .row (.slice A1 r.votes.length c1) 4 1 r.votes.length (Yf enO r.votes), .row (.slice A2 r.next.length c2) 3 1 r.next.length (Yf V9 r.next), .row (.slice A3 r.mtch.length c3) 3 1 r.mtch.length (Yf V9 r.mtch), .row (.slice A4 r.caps.length c4) 3 1 r.caps.length (Yf V9 r.caps)] := by
 unfold Zcn at H
 refine Y0 Try.func37 rfl Try.ntmps37 rfl ?_
 have hS := St0.start All w0
 refine Zd (fun K hK1 => ?_)
 refine Zf ?_
 refine Yd rfl rfl rfl CellsOf.agg hS (fun b2 w hS hB => ?_)
 refine Yd rfl rfl rfl CellsOf.agg hS (fun b4 w hS hB => ?_)
 refine Yb rfl rfl Zex hS (fun b6 w hS hB => ?_)
 refine Zg ?_
 refine Zb hK1 ?_
 refine wpC_scope1 0 rfl ?_
 refine Zd (fun K hK8 => ?_)
 refine Zf ?_
 refine Za rfl rfl rfl (Zi Yh rfl (Zgy _) hS X0 trivial Z8) ?_
 obtain ⟨r9, hm10, H⟩ := bind_some H
 refine Zo rfl rfl rfl rfl (by kernel_rfl) rfl (Zd2 x0 A0_ c0_ A1_ c1_ A2_ c2_ A3_ c3_ A4_ c4_ _ (Zg1 s0_.k (hS.rd0 s0_.rd) (hS.blk0 s0_.blk)) (Zg1 s1_.k (hS.rd0 s1_.rd) (hS.blk0 s1_.blk)) (Zg1 s2_.k (hS.rd0 s2_.rd) (hS.blk0 s2_.blk)) (Zg1 s3_.k (hS.rd0 s3_.rd) (hS.blk0 s3_.blk)) (Zg1 s4_.k (hS.rd0 s4_.rd) (hS.blk0 s4_.blk)) hm10) ?_
 rintro e w ⟨A11, c12, A15, c16, A19, c20, A23, c24, A27, c28, rfl, k13, k17, k21, k25, k29, hN⟩; refine ⟨_, rfl, ?_⟩; obtain ⟨hB, hS⟩ := hS.jn hN
 refine Zm rfl rfl rfl CellsOf.agg hS ps7 Yy (by kernel_rfl) rfl (fun w hS hB => ?_)
 refine Zg ?_
 refine Zb hK8 ?_
 refine Zd (fun K hK31 => ?_)
 refine Zd (fun K hK32 => ?_)
 refine Zf ?_
 refine Za rfl rfl rfl (Zi Yh rfl (Zgy _) hS hs7 trivial Z8) ?_
 refine Za rfl rfl rfl (Zi Vp rfl (Zgy _) hS hs6 trivial Xv) ?_
 obtain ⟨r33, hm34, H⟩ := bind_some H
 refine Zo rfl rfl rfl rfl (by kernel_rfl) rfl (c_elect_fits r9 x1 A11 c12 A15 c16 A19 c20 A23 c24 A27 c28 A5_ c5_ _ (Zg1 k13 (hS.row_rd hs0) (hS.row_blk hs0)) (Zg1 k17 (hS.row_rd Xr) (hS.row_blk Xr)) (Zg1 k21 (hS.row_rd X0) (hS.row_blk X0)) (Zg1 k25 (hS.row_rd hs3) (hS.row_blk hs3)) (Zg1 k29 (hS.row_rd hs4) (hS.row_blk hs4)) (Zg1 s5_.k (hS.rd0 s5_.rd) (hS.blk0 s5_.blk)) hm34) ?_
 rintro e w ⟨rfl, hN⟩; refine ⟨_, rfl, ?_⟩; obtain ⟨hB, hS⟩ := hS.jn hN
 refine Za rfl rfl rfl (Yt rfl) ?_
 refine Zg ?_
 refine Zb hK32 ?_
 refine Zz rfl (fun hb => ?_) (fun hb => ?_)
 ·replace H := Zq H hb
  refine Vi ?_
  refine Xb ?_
  refine Vz ?_
  refine Zd (fun K hK35 => ?_)
  refine Zt ?_
  refine Zb hK35 ?_
  refine Zd (fun K hK36 => ?_)
  refine Zf ?_
  refine Za rfl rfl rfl (Zi Yh rfl (Zgy _) hS hs7 trivial Z8) ?_
  refine Zm rfl rfl rfl CellsOf.agg hS ps5 Yy (by kernel_rfl) rfl (fun w hS hB => ?_)
  refine Zg ?_
  refine Zb hK36 ?_
  refine Zk ?_
  refine Z5 ?_
  refine Zl rfl (RV.cell rfl (Zx Yh hS hs5 Z8) RV.nil) rfl ?_
  obtain rfl := QJ H
  have hS := hS.front 4 rfl
  have hS := hS.front 4 rfl
  have hS := hS.front 4 rfl
  have hS := hS.front 4 rfl
  have hS := hS.front 4 rfl
  replace hS := hS.weak Weak.rowRd
  replace hS := hS.cut 5
  exact ⟨A11, c12, A15, c16, A19, c20, A23, c24, A27, c28, rfl, k13, k17, k21, k25, k29, hS⟩
 replace H := Zp H hb
 refine Zt ?_
 refine Zb hK31 ?_
 refine Zd (fun K hK37 => ?_)
 refine Zd (fun K hK38 => ?_)
 refine Zf ?_
 refine Za rfl rfl rfl (Zi Yh rfl (Zgy _) hS hs7 trivial Z8) ?_
 refine Za rfl rfl rfl (Zi Vp rfl (Zgy _) hS hs6 trivial Xv) ?_
 obtain ⟨r39, hm40, H⟩ := bind_some H
 refine Zo rfl rfl rfl rfl (by kernel_rfl) rfl (c_advert_Hear r9 x1 A11 c12 A15 c16 A19 c20 A23 c24 A27 c28 A5_ c5_ _ (Zg1 k13 (hS.row_rd hs0) (hS.row_blk hs0)) (Zg1 k17 (hS.row_rd Xr) (hS.row_blk Xr)) (Zg1 k21 (hS.row_rd X0) (hS.row_blk X0)) (Zg1 k25 (hS.row_rd hs3) (hS.row_blk hs3)) (Zg1 k29 (hS.row_rd hs4) (hS.row_blk hs4)) (Zg1 s5_.k (hS.rd0 s5_.rd) (hS.blk0 s5_.blk)) hm40) ?_
 rintro e w ⟨A41, c42, A45, c46, A49, c50, A53, c54, A57, c58, rfl, k43, k47, k51, k55, k59, hN⟩; refine ⟨_, rfl, ?_⟩; obtain ⟨hB, hS⟩ := hS.jn hN
 refine Zm rfl rfl rfl CellsOf.agg hS ps12 Yy (by kernel_rfl) rfl (fun w hS hB => ?_)
 refine Zg ?_
 refine Zb hK38 ?_
 refine Zd (fun K hK61 => ?_)
 refine Zf ?_
 refine Za rfl rfl rfl (Ze Ze3 rfl) ?_
 refine Za rfl rfl rfl (Zh Z0 rfl (Zgy _) hS hs11 trivial Zbd) ?_
 refine Za rfl rfl rfl (Ze Yz rfl) ?_
 refine Za rfl rfl rfl (Ze Jb rfl) ?_
 refine Za rfl rfl rfl (Zh Z0 rfl (Zgy _) hS hs12 trivial Zbc) ?_
 refine Za rfl rfl rfl (Xa rfl rfl) ?_
 refine Zg ?_
 refine Zb hK61 ?_
 refine Zz rfl (fun hb => ?_) (fun hb => ?_)
 rotate_left
 ·replace H := Zp H hb
  refine Zt ?_
  refine Zb hK37 ?_
  refine Zd (fun K hK88 => ?_)
  refine Zdg ?_
  refine Zb hK88 ?_
  refine Zd (fun K hK89 => ?_)
  refine Zf ?_
  refine Za rfl rfl rfl (Zi Yh rfl (Zgy _) hS hs12 trivial Z8) ?_
  refine Zm rfl rfl rfl CellsOf.agg hS ps10 Yy (by kernel_rfl) rfl (fun w hS hB => ?_)
  refine Zg ?_
  refine Zb hK89 ?_
  refine Zk ?_
  refine Z5 ?_
  refine Zl rfl (RV.cell rfl (Zx Yh hS Zei Z8) RV.nil) rfl ?_
  obtain rfl := QJ H
  have hS := hS.front 4 rfl
  have hS := hS.front 4 rfl
  have hS := hS.front 4 rfl
  have hS := hS.front 4 rfl
  have hS := hS.front 4 rfl
  replace hS := hS.weak Weak.rowRd
  replace hS := hS.cut 5
  exact ⟨A41, c42, A45, c46, A49, c50, A53, c54, A57, c58, rfl, k43, k47, k51, k55, k59, hS⟩
 replace H := Zq H hb
 refine Zf ?_
 refine Za rfl rfl rfl (Zi Yh rfl (Zgy _) hS hs12 trivial Z8) ?_
 refine Za rfl rfl rfl (Ze Ze3 rfl) ?_
 refine Za rfl rfl rfl (Zh Z0 rfl (Zgy _) hS hs11 trivial Zbd) ?_
 refine Za2 rfl rfl rfl rfl (by kernel_rfl) rfl ?_
 show Calls _ _ #[_, _, _, _, _] _ _
 refine gw_enter5 Try.func45 rfl Try.ntmps45 rfl ?_
 refine Zd (fun K hK62 => ?_)
 refine Zf ?_
 refine Yd rfl rfl rfl CellsOf.agg hS (fun b63 w hS hB => ?_)
 refine Yb rfl rfl Zex hS (fun b65 w hS hB => ?_)
 refine Zg ?_
 refine Zb hK62 ?_
 refine Zd (fun K hK67 => ?_)
 refine Zf ?_
 refine Za rfl rfl rfl (Ze Yz rfl) ?_
 refine Za rfl rfl rfl (Zi Yr rfl (Zgy _) hS Xr trivial Jw) ?_
 refine Zc 2 rfl ?_
 obtain ⟨r68, hm69, H⟩ := bind_some H
 refine Zo rfl rfl rfl rfl (by kernel_rfl) rfl (c_tuple_Hard r39.tuple x1.term 0 A41 c42 _ (Zg1 k43 (hS.row_rd X0) (hS.row_blk X0)) hm69) ?_
 rintro e w ⟨A70, c71, rfl, k72, hN⟩; refine ⟨_, rfl, ?_⟩; obtain ⟨hB, hS⟩ := hS.jn hN
 refine Zc 1 rfl ?_
 refine Za rfl rfl rfl (Z1 rfl rfl) ?_
 refine Za rfl rfl rfl (Z1 rfl rfl) ?_
 refine Za rfl rfl rfl (Ze Yz rfl) ?_
 refine Zm rfl rfl rfl CellsOf.agg hS ps2 st4_8 (by kernel_rfl) rfl (fun w hS hB => ?_)
 refine Zg ?_
 refine Zb hK67 ?_
 refine Zd (fun K hK74 => ?_)
 refine Yg 8 [5, 7] (fun i b => (i = 5 → b ≠ b63) ∧ (i = 7 → b ≠ b63)) ⟨by kernel_rfl, by kernel_rfl⟩ hS (fun w hS hB => ?_)
 refine Zn [true, true, true, false, true] (by decide +kernel) PFC.h ?_
 refine LtK.put rfl rfl rfl (Zs rfl) ?_
 refine LtK.put rfl rfl rfl (Ze Jc rfl) ?_
 refine LtK.put rfl rfl rfl (Zh Z0 rfl (Zgz _) hS X0 trivial Vo) ?_
 refine LtK.put rfl rfl rfl (Ze Zcj rfl) ?_
 refine LtK.nil ?_
 refine Zax [3, 5] ⟨by decide, by kernel_rfl⟩ rfl (.call [false, false, false, true] 3 rfl rfl rfl ?_ (.put [false, false, false, false, false, true] 5 rfl rfl rfl ?_ .nil))
 ·try dsimp only [Zw]
  obtain ⟨l75, hm76, H⟩ := bind_some H
  refine wpX_make he_enO em_27 rfl (by decide) rfl rfl rfl rfl hS hm76 (fun A77 c78 w k79 hS hB => ?_)
  refine Zg ?_
  refine Z7 hB ?_
  refine Yp [false, false, false, false, false, true] 5 ⟨by decide, by kernel_rfl, by kernel_rfl⟩ rfl rfl ?_
  try dsimp only [Zw]
  refine Zm rfl rfl rfl CellsOf.int hS ps3 st2_1 (by kernel_rfl) rfl (fun w hS hB => ?_)
  refine Zg ?_
  refine Ye (hB.sub (fun _ _ h => by simpa using h)) ?_
  refine Zn [false, false, false, false, false, false, true] (by decide +kernel) PFC.h ?_
  refine LtK.put rfl rfl rfl (Ze Zb2 rfl) ?_
  refine LtK.nil ?_
  refine Yp [false, false, false, false, false, false, false, true] 7 ⟨by decide, by kernel_rfl, by kernel_rfl⟩ rfl rfl ?_
  try dsimp only [Zw]
  refine Zm rfl rfl rfl CellsOf.slice hS ps3 st18_1 (by kernel_rfl) rfl (fun w hS hB => ?_)
  refine Zg ?_
  refine Ye (hB.sub (fun _ _ h => by simpa using h)) ?_
  refine Z6 (by kernel_rfl) ?_
  refine Zb hK74 ?_
  refine Zd (fun K hK81 => ?_)
  refine Zd (fun K hK82 => ?_)
  refine Zf ?_
  refine Zc 1 rfl ?_
  refine Za rfl rfl rfl (Yu Xm rfl) ?_
  refine Zc 1 rfl ?_
  refine Zg ?_
  refine Zb hK82 ?_
  refine Yc ?_
  refine wpC_rounds 60 ?_
  refine Zd (fun K hK83 => ?_)
  refine Zf ?_
  refine Za rfl rfl rfl (Xh rfl rfl) ?_
  refine Zg ?_
  refine Zb hK83 ?_
  refine Zd (fun K hK84 => ?_)
  refine Yo rfl rfl ?_
  refine Vj ?_
  refine Ya ?_
  refine Ya ?_
  refine Y3 ?_
  refine Zb hK81 ?_
  refine Zd (fun K hK85 => ?_)
  refine Zf ?_
  refine Za rfl rfl rfl (Zi Yh rfl (Zgy _) hS hs3 trivial Z8) ?_
  refine Zm rfl rfl rfl CellsOf.agg hS ps2 Yy (by kernel_rfl) rfl (fun w hS hB => ?_)
  refine Zg ?_
  refine Zb hK85 ?_
  refine Zk ?_
  refine Zl rfl (RV.cell rfl (Zx Yh hS X0 Z8) RV.nil) rfl ?_
  refine ⟨_, rfl, ?_⟩
  refine Zm rfl rfl rfl CellsOf.agg hS ps16 Yy (by kernel_rfl) rfl (fun w hS hB => ?_)
  refine Zg ?_
  refine Zb hK37 ?_
  refine Zd (fun K hK86 => ?_)
  refine Zdg ?_
  refine Zb hK86 ?_
  refine Zd (fun K hK87 => ?_)
  refine Zf ?_
  refine Za rfl rfl rfl (Zi Yh rfl (Zgy _) hS hs16 trivial Z8) ?_
  refine Zm rfl rfl rfl CellsOf.agg hS ps14 Yy (by kernel_rfl) rfl (fun w hS hB => ?_)
  refine Zg ?_
  refine Zb hK87 ?_
  refine Zk ?_
  refine Z5 ?_
  refine Zl rfl (RV.cell rfl (Zx Yh hS Zej Z8) RV.nil) rfl ?_
  obtain rfl := QJ H
  have hS := hS.front 8 rfl
  have hS := hS.front 8 rfl
  have hS := hS.front 8 rfl
  have hS := hS.front 3 rfl
  have hS := hS.front 4 rfl
  replace hS := hS.cut 5
  exact ⟨A70, c71, A77, c78, A49, c50, A53, c54, A57, c58, rfl, k72, k79, k51, k55, k59, hS⟩
 ·try dsimp only [Zw]
  refine Zm rfl rfl rfl CellsOf.int hS ps2 st2_1 (by kernel_rfl) rfl (fun w hS hB => ?_)
  refine Zg ?_
  refine Ye (hB.sub (fun _ _ h => by simpa using h)) ?_
  refine Z4 [false, false, false, true] 3 ⟨by decide, by kernel_rfl, by kernel_rfl⟩ rfl rfl ?_
  try dsimp only [Zw]
  obtain ⟨l75, hm76, H⟩ := bind_some H
  refine wpX_make he_enO em_27 rfl (by decide) rfl rfl rfl rfl hS hm76 (fun A77 c78 w k79 hS hB => ?_)
  refine Zg ?_
  refine Z7 hB ?_
  refine Zn [false, false, false, false, false, false, true] (by decide +kernel) PFC.h ?_
  refine LtK.put rfl rfl rfl (Ze Zb2 rfl) ?_
  refine LtK.nil ?_
  refine Yp [false, false, false, false, false, false, false, true] 7 ⟨by decide, by kernel_rfl, by kernel_rfl⟩ rfl rfl ?_
  try dsimp only [Zw]
  refine Zm rfl rfl rfl CellsOf.slice hS ps3 st18_1 (by kernel_rfl) rfl (fun w hS hB => ?_)
  refine Zg ?_
  refine Ye (hB.sub (fun _ _ h => by simpa using h)) ?_
  refine Z6 (by kernel_rfl) ?_
  refine Zb hK74 ?_
  refine Zd (fun K hK81 => ?_)
  refine Zd (fun K hK82 => ?_)
  refine Zf ?_
  refine Zc 1 rfl ?_
  refine Za rfl rfl rfl (Yu Xm rfl) ?_
  refine Zc 1 rfl ?_
  refine Zg ?_
  refine Zb hK82 ?_
  refine Yc ?_
  refine wpC_rounds 60 ?_
  refine Zd (fun K hK83 => ?_)
  refine Zf ?_
  refine Za rfl rfl rfl (Xh rfl rfl) ?_
  refine Zg ?_
  refine Zb hK83 ?_
  refine Zd (fun K hK84 => ?_)
  refine Yo rfl rfl ?_
  refine Vj ?_
  refine Ya ?_
  refine Ya ?_
  refine Y3 ?_
  refine Zb hK81 ?_
  refine Zd (fun K hK85 => ?_)
  refine Zf ?_
  refine Za rfl rfl rfl (Zi Yh rfl (Zgy _) hS hs3 trivial Z8) ?_
  refine Zm rfl rfl rfl CellsOf.agg hS ps2 Yy (by kernel_rfl) rfl (fun w hS hB => ?_)
  refine Zg ?_
  refine Zb hK85 ?_
  refine Zk ?_
  refine Zl rfl (RV.cell rfl (Zx Yh hS X0 Z8) RV.nil) rfl ?_
  refine ⟨_, rfl, ?_⟩
  refine Zm rfl rfl rfl CellsOf.agg hS ps16 Yy (by kernel_rfl) rfl (fun w hS hB => ?_)
  refine Zg ?_
  refine Zb hK37 ?_
  refine Zd (fun K hK86 => ?_)
  refine Zdg ?_
  refine Zb hK86 ?_
  refine Zd (fun K hK87 => ?_)
  refine Zf ?_
  refine Za rfl rfl rfl (Zi Yh rfl (Zgy _) hS hs16 trivial Z8) ?_
  refine Zm rfl rfl rfl CellsOf.agg hS ps14 Yy (by kernel_rfl) rfl (fun w hS hB => ?_)
  refine Zg ?_
  refine Zb hK87 ?_
  refine Zk ?_
  refine Z5 ?_
  refine Zl rfl (RV.cell rfl (Zx Yh hS Zej Z8) RV.nil) rfl ?_
  obtain rfl := QJ H
  have hS := hS.front 8 rfl
  have hS := hS.front 8 rfl
  have hS := hS.front 8 rfl
  have hS := hS.front 3 rfl
  have hS := hS.front 4 rfl
  replace hS := hS.cut 5
  exact ⟨A70, c71, A77, c78, A49, c50, A53, c54, A57, c58, rfl, k72, k79, k51, k55, k59, hS⟩
theorem Jq (x0 : Co) (x1 : Ms) (x2 : Int) (x3 : Bool) (x4 : Int) (A0_ : OA) (c0_ : Nat) (A1_ : OA) (c1_ : Nat) (A2_ : OA) (c2_ : Nat) (A3_ : OA) (c3_ : Nat) (A4_ : OA) (c4_ : Nat) (A5_ : OA) (c5_ : Nat) (w0 : World) (s0_ : SlI w0 Jv A0_ c0_ x0.tuple.log) (s1_ : SlI w0 enO A1_ c1_ x0.votes) (s2_ : SlI w0 V9 A2_ c2_ x0.next) (s3_ : SlI w0 V9 A3_ c3_ x0.mtch) (s4_ : SlI w0 V9 A4_ c4_ x0.caps) (s5_ : SlI w0 Jv A5_ c5_ x1.entries) {r : Ms} (H : X8 x0 x1 x2 x3 x4 = some r) : Calls Try.prog 50 #[.agg #[.int .i64 x0.id, .int .i64 x0.n, .int .u8 x0.role, .int .i64 x0.binary, .int .i64 x0.tuple.snap.index, .int .i64 x0.tuple.snap.term, .int .i64 x0.tuple.snap.sum, .int .i64 x0.tuple.snap.level, .bool x0.tuple.snap.final, .slice A0_ x0.tuple.log.length c0_, .int .i64 x0.tuple.term, .int .i64 x0.tuple.vote, .int .i64 x0.commit, .int .i64 x0.applied.index, .int .i64 x0.applied.term, .int .i64 x0.applied.sum, .int .i64 x0.applied.level, .bool x0.applied.final, .slice A1_ x0.votes.length c1_, .slice A2_ x0.next.length c2_, .slice A3_ x0.mtch.length c3_, .slice A4_ x0.caps.length c4_], .agg #[.int .u8 x1.kind, .int .i64 x1.frm, .int .i64 x1.dst, .int .i64 x1.term, .int .i64 x1.cap, .int .i64 x1.last, .int .i64 x1.lastTerm, .int .i64 x1.commit, .bool x1.okk, .slice A5_ x1.entries.length c5_, .int .i64 x1.snap.index, .int .i64 x1.snap.term, .int .i64 x1.snap.sum, .int .i64 x1.snap.level, .bool x1.snap.final], .int .u8 x2, .bool x3, .int .i64 x4] w0 fun e w' => ∃ (A0 : OA) (c0 : Nat), e = .returned (.agg #[.int .u8 r.kind, .int .i64 r.frm, .int .i64 r.dst, .int .i64 r.term, .int .i64 r.cap, .int .i64 r.last, .int .i64 r.lastTerm, .int .i64 r.commit, .bool r.okk, .slice A0 r.entries.length c0, .int .i64 r.snap.index, .int .i64 r.snap.term, .int .i64 r.snap.sum, .int .i64 r.snap.level, .bool r.snap.final]) ∧ (r.entries.length ≤ c0 ∧ c0 ≤ maxLen) ∧ St0 All w0 w' [.rd A0 (Yf Jv r.entries)] := by
 unfold X8 at H
 refine gw_enter5 Try.func50 rfl Try.ntmps50 rfl ?_
 have hS := St0.start All w0
 refine Zd (fun K hK1 => ?_)
 refine Zf ?_
 refine Yd rfl rfl rfl CellsOf.agg hS (fun b2 w hS hB => ?_)
 refine Yd rfl rfl rfl CellsOf.agg hS (fun b4 w hS hB => ?_)
 refine Yb rfl rfl J9 hS (fun b6 w hS hB => ?_)
 refine Zg ?_
 refine Zb hK1 ?_
 refine Zd (fun K hK8 => ?_)
 refine Zf ?_
 refine Zc 1 rfl ?_
 refine Za rfl rfl rfl (Ze Zay rfl) ?_
 refine Za rfl rfl rfl (Zh Z0 rfl (Zgy _) hS X0 trivial Y7) ?_
 refine Za rfl rfl rfl (Ze Zee rfl) ?_
 refine Za rfl rfl rfl (Zh Z0 rfl (Zgy _) hS Xr trivial Vo) ?_
 refine Za rfl rfl rfl (Ze Yz rfl) ?_
 refine Za rfl rfl rfl (Ze Jb rfl) ?_
 refine Za rfl rfl rfl (Zh Z0 rfl (Zgy _) hS X0 trivial Zbc) ?_
 refine Za rfl rfl rfl (Ze Zed rfl) ?_
 refine Za rfl rfl rfl (Zh Z0 rfl (Zgy _) hS X0 trivial Zbd) ?_
 refine Zc 2 rfl ?_
 refine Za rfl rfl rfl (Xw (cells := [.int .u8 x2, .int .i64 x0.id, .int .i64 x1.frm, .int .i64 x0.tuple.term, .int .i64 x0.binary, .int .i64 x4, .int .i64 0, .int .i64 0, .bool x3, .slice none 0 0, .int .i64 0, .int .i64 0, .int .i64 0, .int .i64 0, .bool false]) rfl (by kernel_rfl)) ?_
 refine Zm rfl rfl rfl CellsOf.agg hS ps0 Zd7 (by kernel_rfl) rfl (fun w hS hB => ?_)
 refine Zg ?_
 refine Zb hK8 ?_
 refine Zk ?_
 refine Zl rfl (RV.cell rfl (Zx Vp hS hs0 Xv) RV.nil) rfl ?_
 obtain rfl := QJ H
 have hS := hS.nilRd
 replace hS := hS.cut 1
 exact ⟨none, 0, rfl, ⟨Nat.le_refl _, Nat.zero_le _⟩, hS⟩
theorem c_ref06_Same (x0 : List En) (x1 : List En) (A0_ : OA) (c0_ : Nat) (A1_ : OA) (c1_ : Nat) (w0 : World) (s0_ : SlI w0 Jv A0_ c0_ x0) (s1_ : SlI w0 Jv A1_ c1_ x1) {r : Bool} (H : Zdj x0 x1 = some r) : Calls Try.prog 13 #[.slice A0_ x0.length c0_, .slice A1_ x1.length c1_] w0 fun e w' => e = .returned (.bool r) ∧ St0 All w0 w' [] := by
 unfold Zdj at H
 refine Y0 Try.func13 rfl Try.ntmps13 rfl ?_
 have hS := St0.start All w0
 refine Zd (fun K hK1 => ?_)
 refine Zf ?_
 refine Zc 1 rfl ?_
 refine Zg ?_
 refine Zb hK1 ?_
 refine Zd (fun K hK2 => ?_)
 refine Zd (fun K hK3 => ?_)
 refine Zf ?_
 refine Zc 1 rfl ?_
 refine Za rfl rfl rfl (Yu Y6 rfl) ?_
 refine Zc 1 rfl ?_
 refine Za rfl rfl rfl (Yu Y6 rfl) ?_
 refine Za rfl rfl rfl (Y5 rfl rfl) ?_
 refine Zg ?_
 refine Zb hK3 ?_
 refine Zz rfl (fun hb => ?_) (fun hb => ?_)
 ·replace H := Zq H hb
  refine Zd (fun K hK4 => ?_)
  refine Zf ?_
  refine Zc 1 rfl ?_
  refine Zg ?_
  refine Zb hK4 ?_
  refine Zk ?_
  refine Zj ?_
  refine Zl rfl (RV.tmp rfl RV.nil) rfl ?_
  obtain rfl := QJ H
  replace hS := hS.cut 0
  exact ⟨rfl, hS⟩
 replace H := Zp H hb
 refine Zt ?_
 refine Zb hK2 ?_
 refine Zd (fun K hK5 => ?_)
 refine Zd (fun K hK6 => ?_)
 refine Zf ?_
 refine Zc 1 rfl ?_
 refine Zg ?_
 refine Zb hK6 ?_
 refine Yc ?_
 refine V0 (X := Nat × Bool × Int) (fun x => (0, .slice A0_ x0.length c0_) :: (1, .slice A1_ x1.length c1_) :: (4, .bool x.2.1) :: (5, .int .i64 x.2.2) :: []) (fun x w => St0 All w0 w ([]) ∧ J6 x0 x1 x.1 x.2.1 x.2.2 = some r) (fun x => x.1) (Xn, false, 0) (by repeat (first | exact Sub.nil | refine Sub.cons rfl ?_)) ⟨hS, H⟩ ?_
 rintro ⟨n, v7, v8⟩ w ⟨hS, H⟩
 dsimp only at hS H ⊢
 obtain _ | n := n
 ·have H0 : none = some r := H
  cases H0
 rw [J6] at H
 refine Zd (fun K hK9 => ?_)
 refine Zd (fun K hK10 => ?_)
 refine Zf ?_
 refine Zc 2 rfl ?_
 refine Za rfl rfl rfl (Yu Y6 rfl) ?_
 refine Za rfl rfl rfl (Xh rfl rfl) ?_
 refine Zg ?_
 refine Zb hK10 ?_
 refine Zz rfl (fun hb => ?_) (fun hb => ?_)
 rotate_left
 ·replace H := Zp H hb
  refine Vj ?_
  refine Ya ?_
  refine Ya ?_
  refine Y3 ?_
  refine Zb hK5 ?_
  refine Zd (fun K hK20 => ?_)
  refine Zf ?_
  refine Zc 1 rfl ?_
  refine Zg ?_
  refine Zb hK20 ?_
  refine Zk ?_
  refine Zl rfl (RV.tmp rfl RV.nil) rfl ?_
  obtain rfl := QJ H
  replace hS := hS.cut 0
  exact ⟨rfl, hS⟩
 replace H := Zq H hb
 refine Zt ?_
 refine Zb hK9 ?_
 refine Zd (fun K hK11 => ?_)
 refine Yc ?_
 refine Zd (fun K hK12 => ?_)
 refine Yg 9 [] (fun _ _ => True) ⟨by kernel_rfl, by kernel_rfl⟩ hS (fun w hS hB => ?_)
 refine Zn [true, true, true, true, true, true, true, true, true] (by decide +kernel) PFC.h ?_
 refine LtK.put rfl rfl rfl (Zs rfl) ?_
 refine LtK.put rfl rfl rfl (Zs rfl) ?_
 obtain ⟨e13, hi15, H⟩ := bind_some H
 obtain ⟨j14, hi15a, hi15b, hi15c⟩ := Yw hi15
 refine LtK.put rfl rfl rfl (Y8 Y6 rfl rfl hi15a hi15c (Rd.el (hS.rd0 s0_.rd) X5 hi15b)) ?_
 refine LtK.put rfl rfl rfl (Ze6 V7 rfl (Zgz _) (Rd.el (hS.rd0 s0_.rd) X5 hi15b) Zbv) ?_
 refine LtK.put rfl rfl rfl (Zs rfl) ?_
 refine LtK.put rfl rfl rfl (Zs rfl) ?_
 obtain ⟨e16, hi18, H⟩ := bind_some H
 obtain ⟨j17, hi18a, hi18b, hi18c⟩ := Yw hi18
 refine LtK.put rfl rfl rfl (Y8 Y6 rfl rfl hi18a hi18c (Rd.el (hS.rd0 s1_.rd) X5 hi18b)) ?_
 refine LtK.put rfl rfl rfl (Ze6 V7 rfl (Zgz _) (Rd.el (hS.rd0 s1_.rd) X5 hi18b) Zbv) ?_
 refine LtK.put rfl rfl rfl (yv_neqS (by kernel_rfl) rfl rfl (eqT_56 _ _ _ _ _ _)) ?_
 refine LtK.nil ?_
 refine Z6 (by kernel_rfl) ?_
 refine Zb hK12 ?_
 refine Zz rfl (fun hb => ?_) (fun hb => ?_)
 rotate_left
 ·replace H := Zp H hb
  refine Zt ?_
  refine Z2 ?_
  refine Zb hK11 ?_
  refine Zf ?_
  refine Zc 1 rfl ?_
  refine Za rfl rfl rfl (Xf rfl rfl) ?_
  refine Zc 1 rfl ?_
  refine Zg ?_
  exact Va (n, v7, (IntKind.wrap .i64 (v8 + 1))) (by repeat (first | exact Sub.nil | refine Sub.cons rfl ?_)) ⟨hS, H⟩ (Nat.lt_succ_self _)
 replace H := Zq H hb
 refine Zd (fun K hK19 => ?_)
 refine Zf ?_
 refine Zc 1 rfl ?_
 refine Zg ?_
 refine Zb hK19 ?_
 refine Zk ?_
 refine Zv ?_
 refine Zj ?_
 refine Zj ?_
 refine Zv ?_
 refine Zj ?_
 refine Zl rfl (RV.tmp rfl RV.nil) rfl ?_
 obtain rfl := QJ H
 replace hS := hS.cut 0
 exact ⟨rfl, hS⟩
theorem Zfc (x0 : Int) (w0 : World) {r : Bool} (H : Zaq x0 = some r) : Calls Try.prog 38 #[.int .i64 x0] w0 fun e w' => e = .returned (.bool r) ∧ St0 All w0 w' [] := by
 unfold Zaq at H
 refine Yn Try.func38 rfl Try.ntmps38 rfl ?_
 have hS := St0.start All w0
 refine Zd (fun K hK1 => ?_)
 refine Zf ?_
 refine Zc 1 rfl ?_
 refine Zg ?_
 refine Zb hK1 ?_
 refine Zd (fun K hK2 => ?_)
 refine Zf ?_
 refine Zc 1 rfl ?_
 refine Za rfl rfl rfl (Zc7 rfl rfl) ?_
 refine Zc 1 rfl ?_
 refine Zu 5 rfl (fun hb => ?_) (fun hb => ?_)
 rotate_left
 ·replace H := Zp H hb
  refine Zc 4 rfl ?_
  refine Zg ?_
  refine Zb hK2 ?_
  refine Zk ?_
  refine Zl rfl (RV.tmp rfl RV.nil) rfl ?_
  obtain rfl := QJ H
  replace hS := hS.cut 0
  exact ⟨rfl, hS⟩
 replace H := Zq H hb
 refine Zc 1 rfl ?_
 refine Za rfl rfl rfl (Zah rfl rfl) ?_
 refine Zc 2 rfl ?_
 refine Zg ?_
 refine Zb hK2 ?_
 refine Zk ?_
 refine Zl rfl (RV.tmp rfl RV.nil) rfl ?_
 obtain rfl := QJ H
 replace hS := hS.cut 0
 exact ⟨rfl, hS⟩
theorem c_ref20_entries (x0 : Ms) (A0_ : OA) (c0_ : Nat) (w0 : World) (s0_ : SlI w0 Jv A0_ c0_ x0.entries) {r : Bool} (H : Zbt x0 = some r) : Calls Try.prog 39 #[.agg #[.int .u8 x0.kind, .int .i64 x0.frm, .int .i64 x0.dst, .int .i64 x0.term, .int .i64 x0.cap, .int .i64 x0.last, .int .i64 x0.lastTerm, .int .i64 x0.commit, .bool x0.okk, .slice A0_ x0.entries.length c0_, .int .i64 x0.snap.index, .int .i64 x0.snap.term, .int .i64 x0.snap.sum, .int .i64 x0.snap.level, .bool x0.snap.final]] w0 fun e w' => e = .returned (.bool r) ∧ St0 All w0 w' [] := by
 unfold Zbt at H
 refine Yn Try.func39 rfl Try.ntmps39 rfl ?_
 have hS := St0.start All w0
 refine Zd (fun K hK1 => ?_)
 refine Zf ?_
 refine Yd rfl rfl rfl CellsOf.agg hS (fun b2 w hS hB => ?_)
 refine Zc 1 rfl ?_
 refine Zg ?_
 refine Zb hK1 ?_
 refine Zd (fun K hK4 => ?_)
 refine Zf ?_
 refine Za rfl rfl rfl (Ze fo_36_6 rfl) ?_
 refine Za rfl rfl rfl (Zh Z0 rfl (Zgy _) hS hs0 trivial sg6_1) ?_
 refine Zc 1 rfl ?_
 refine Zg ?_
 refine Zb hK4 ?_
 refine Zd (fun K hK5 => ?_)
 refine Zd (fun K hK6 => ?_)
 refine Zf ?_
 refine Zc 1 rfl ?_
 refine Zg ?_
 refine Zb hK6 ?_
 refine Yc ?_
 refine V0 (X := Nat × Bool × Int × Int) (fun x => (1, .pointer (some ⟨b2, 0, none⟩)) :: (2, .bool x.2.1) :: (3, .int .i64 x.2.2.1) :: (4, .int .i64 x.2.2.2) :: []) (fun x w => St0 All w0 w (.box b2 [.int .u8 x0.kind, .int .i64 x0.frm, .int .i64 x0.dst, .int .i64 x0.term, .int .i64 x0.cap, .int .i64 x0.last, .int .i64 x0.lastTerm, .int .i64 x0.commit, .bool x0.okk, .slice A0_ x0.entries.length c0_, .int .i64 x0.snap.index, .int .i64 x0.snap.term, .int .i64 x0.snap.sum, .int .i64 x0.snap.level, .bool x0.snap.final] 36 :: []) ∧ Jf x0 x.1 x.2.1 x.2.2.1 x.2.2.2 = some r) (fun x => x.1) (Xn, false, x0.lastTerm, 0) (by repeat (first | exact Sub.nil | refine Sub.cons rfl ?_)) ⟨hS, H⟩ ?_
 rintro ⟨n, v7, v8, v9⟩ w ⟨hS, H⟩
 dsimp only at hS H ⊢
 obtain _ | n := n
 ·have H0 : none = some r := H
  cases H0
 rw [Jf] at H
 refine Zd (fun K hK10 => ?_)
 refine Zd (fun K hK11 => ?_)
 refine Zf ?_
 refine Zc 1 rfl ?_
 refine Za rfl rfl rfl (Ze Vc rfl) ?_
 refine Za rfl rfl rfl (Zh Xp rfl (Zgy _) hS hs0 trivial Zak) ?_
 refine Za rfl rfl rfl (Yu Y6 rfl) ?_
 refine Za rfl rfl rfl (Xh rfl rfl) ?_
 refine Zg ?_
 refine Zb hK11 ?_
 refine Zz rfl (fun hb => ?_) (fun hb => ?_)
 rotate_left
 ·replace H := Zp H hb
  refine Vj ?_
  refine Ya ?_
  refine Ya ?_
  refine Y3 ?_
  refine Zb hK5 ?_
  refine Zd (fun K hK32 => ?_)
  refine Zf ?_
  refine Za rfl rfl rfl (Ze Vc rfl) ?_
  refine Za rfl rfl rfl (Zh Xp rfl (Zgy _) hS hs0 trivial Zak) ?_
  refine Za rfl rfl rfl (Yu Y6 rfl) ?_
  refine Za rfl rfl rfl (Zah rfl rfl) ?_
  refine Zc 1 rfl ?_
  refine Zg ?_
  refine Zb hK32 ?_
  refine Zk ?_
  refine Zl rfl (RV.tmp rfl RV.nil) rfl ?_
  obtain rfl := QJ H
  replace hS := hS.cut 0
  exact ⟨rfl, hS⟩
 replace H := Zq H hb
 refine Zt ?_
 refine Zb hK10 ?_
 refine Zd (fun K hK12 => ?_)
 refine Yc ?_
 refine Zd (fun K hK13 => ?_)
 refine Zd (fun K hK14 => ?_)
 refine Yg 28 [] (fun _ _ => True) ⟨by kernel_rfl, by kernel_rfl⟩ hS (fun w hS hB => ?_)
 refine Zn [true, true, true, true, true] (by decide +kernel) PFC.h ?_
 refine LtK.put rfl rfl rfl (Ze Vc rfl) ?_
 refine LtK.put rfl rfl rfl (Zh Xp rfl (Zgz _) hS hs0 trivial Zak) ?_
 refine LtK.put rfl rfl rfl (Zs rfl) ?_
 obtain ⟨e15, hi17, H⟩ := bind_some H
 obtain ⟨j16, hi17a, hi17b, hi17c⟩ := Yw hi17
 refine LtK.put rfl rfl rfl (Y8 Y6 rfl rfl hi17a hi17c (Rd.el (hS.rd0 s0_.rd) X5 hi17b)) ?_
 refine LtK.put rfl rfl rfl (Ze6 V7 rfl (Zgz _) (Rd.el (hS.rd0 s0_.rd) X5 hi17b) Zbv) ?_
 refine LtK.nil ?_
 refine Z4 [false, false, false, false, false, true] 5 ⟨by decide, by kernel_rfl, by kernel_rfl⟩ rfl rfl ?_
 try dsimp only [Zw]
 obtain ⟨r18, hm19, H⟩ := bind_some H
 refine Zo rfl rfl rfl rfl (by kernel_rfl) rfl (Zge e15 _ hm19) ?_
 rintro e w ⟨rfl, hN⟩; refine ⟨_, rfl, ?_⟩; obtain ⟨hB, hS⟩ := hS.jn hN
 refine Zg ?_
 refine Z7 hB ?_
 refine Zn [false, false, false, false, false, false, true, true] (by decide +kernel) PFC.h ?_
 refine LtK.put rfl rfl rfl (Yt rfl) ?_
 refine LtK.put rfl rfl rfl (Zs rfl) ?_
 refine LtK.nil ?_
 refine Xl 21 rfl (fun hb => ?_) (fun hb => ?_)
 ·replace H := Zq H hb
  refine Zn [false, false, false, false, false, false, false, false, true, true, true, true, true, true, true, true, true, true, true, true, true, true, true, true, true, true, true, true] (by decide +kernel) PFC.h ?_
  refine LtK.skip rfl rfl rfl ?_
  refine LtK.skip rfl rfl rfl ?_
  refine LtK.skip rfl rfl rfl ?_
  refine LtK.skip rfl rfl rfl ?_
  refine LtK.skip rfl rfl rfl ?_
  refine LtK.skip rfl rfl rfl ?_
  refine LtK.skip rfl rfl rfl ?_
  refine LtK.skip rfl rfl rfl ?_
  refine LtK.put rfl rfl rfl (Z3 rfl rfl rfl) ?_
  refine LtK.put rfl rfl rfl (Zs rfl) ?_
  refine LtK.skip rfl rfl rfl ?_
  refine LtK.skip rfl rfl rfl ?_
  refine LtK.skip rfl rfl rfl ?_
  refine LtK.skip rfl rfl rfl ?_
  refine LtK.skip rfl rfl rfl ?_
  refine LtK.skip rfl rfl rfl ?_
  refine LtK.skip rfl rfl rfl ?_
  refine LtK.skip rfl rfl rfl ?_
  refine LtK.skip rfl rfl rfl ?_
  refine LtK.put rfl rfl rfl (Z3 rfl rfl rfl) ?_
  refine LtK.nil ?_
  refine Z6 (by kernel_rfl) ?_
  refine Zb hK14 ?_
  refine Zr rfl rfl ?_
  refine Zd (fun K hK20 => ?_)
  refine Zf ?_
  refine Zc 1 rfl ?_
  refine Zg ?_
  refine Zb hK20 ?_
  refine Zk ?_
  refine Zj ?_
  refine Zv ?_
  refine Zj ?_
  refine Zj ?_
  refine Zv ?_
  refine Zj ?_
  refine Zl rfl (RV.tmp rfl RV.nil) rfl ?_
  obtain rfl := QJ H
  replace hS := hS.cut 0
  exact ⟨rfl, hS⟩
 replace H := Zp H hb
 refine Zn [false, false, false, false, false, false, false, false, true, true, true, true, true, true, true, true, true, true] (by decide +kernel) PFC.h ?_
 refine LtK.put rfl rfl rfl (Ze Vc rfl) ?_
 refine LtK.put rfl rfl rfl (Zh Xp rfl (Zgz _) hS hs0 trivial Zak) ?_
 refine LtK.put rfl rfl rfl (Zs rfl) ?_
 obtain ⟨e21, hi23, H⟩ := bind_some H
 obtain ⟨j22, hi23a, hi23b, hi23c⟩ := Yw hi23
 refine LtK.put rfl rfl rfl (Y8 Y6 rfl rfl hi23a hi23c (Rd.el (hS.rd0 s0_.rd) X5 hi23b)) ?_
 refine LtK.put rfl rfl rfl (Vd Zb3 rfl (Rd.el (hS.rd0 s0_.rd) X5 hi23b)) ?_
 refine LtK.put rfl rfl rfl (X1 Z0 rfl (Zgz _) (Rd.el (hS.rd0 s0_.rd) X5 hi23b) rfl) ?_
 refine LtK.put rfl rfl rfl (Zs rfl) ?_
 refine LtK.put rfl rfl rfl (Xh rfl rfl) ?_
 refine LtK.put rfl rfl rfl (Yj rfl rfl rfl) ?_
 refine LtK.put rfl rfl rfl (Zs rfl) ?_
 refine LtK.nil ?_
 refine Xl 31 rfl (fun hb => ?_) (fun hb => ?_)
 ·replace H := Zq H hb
  refine Zn [false, false, false, false, false, false, false, false, false, false, false, false, false, false, false, false, false, false, true, true, true, true, true, true, true, true, true, true] (by decide +kernel) PFC.h ?_
  refine LtK.skip rfl rfl rfl ?_
  refine LtK.skip rfl rfl rfl ?_
  refine LtK.skip rfl rfl rfl ?_
  refine LtK.skip rfl rfl rfl ?_
  refine LtK.skip rfl rfl rfl ?_
  refine LtK.skip rfl rfl rfl ?_
  refine LtK.skip rfl rfl rfl ?_
  refine LtK.skip rfl rfl rfl ?_
  refine LtK.skip rfl rfl rfl ?_
  refine LtK.put rfl rfl rfl (Z3 rfl rfl rfl) ?_
  refine LtK.nil ?_
  refine Z6 (by kernel_rfl) ?_
  refine Zb hK14 ?_
  refine Zr rfl rfl ?_
  refine Zd (fun K hK24 => ?_)
  refine Zf ?_
  refine Zc 1 rfl ?_
  refine Zg ?_
  refine Zb hK24 ?_
  refine Zk ?_
  refine Zj ?_
  refine Zv ?_
  refine Zj ?_
  refine Zj ?_
  refine Zv ?_
  refine Zj ?_
  refine Zl rfl (RV.tmp rfl RV.nil) rfl ?_
  obtain rfl := QJ H
  replace hS := hS.cut 0
  exact ⟨rfl, hS⟩
 replace H := Zp H hb
 refine Zn [false, false, false, false, false, false, false, false, false, false, false, false, false, false, false, false, false, false, true, true, true, true, true, true, true, true, true, true] (by decide +kernel) PFC.h ?_
 refine LtK.put rfl rfl rfl (Ze Vc rfl) ?_
 refine LtK.put rfl rfl rfl (Zh Xp rfl (Zgz _) hS hs0 trivial Zak) ?_
 refine LtK.put rfl rfl rfl (Zs rfl) ?_
 obtain ⟨e25, hi27, H⟩ := bind_some H
 obtain ⟨j26, hi27a, hi27b, hi27c⟩ := Yw hi27
 refine LtK.put rfl rfl rfl (Y8 Y6 rfl rfl hi27a hi27c (Rd.el (hS.rd0 s0_.rd) X5 hi27b)) ?_
 refine LtK.put rfl rfl rfl (Vd Zb3 rfl (Rd.el (hS.rd0 s0_.rd) X5 hi27b)) ?_
 refine LtK.put rfl rfl rfl (X1 Z0 rfl (Zgz _) (Rd.el (hS.rd0 s0_.rd) X5 hi27b) rfl) ?_
 refine LtK.put rfl rfl rfl (Ze Ze3 rfl) ?_
 refine LtK.put rfl rfl rfl (Zh Z0 rfl (Zgz _) hS hs0 trivial Zbd) ?_
 refine LtK.put rfl rfl rfl (Xa rfl rfl) ?_
 refine LtK.put rfl rfl rfl (Yj rfl rfl rfl) ?_
 refine LtK.nil ?_
 refine Z6 (by kernel_rfl) ?_
 refine Zb hK14 ?_
 refine Zz rfl (fun hb => ?_) (fun hb => ?_)
 ·replace H := Zq H hb
  refine Zd (fun K hK28 => ?_)
  refine Zf ?_
  refine Zc 1 rfl ?_
  refine Zg ?_
  refine Zb hK28 ?_
  refine Zk ?_
  refine Zj ?_
  refine Zv ?_
  refine Zj ?_
  refine Zj ?_
  refine Zv ?_
  refine Zj ?_
  refine Zl rfl (RV.tmp rfl RV.nil) rfl ?_
  obtain rfl := QJ H
  replace hS := hS.cut 0
  exact ⟨rfl, hS⟩
 replace H := Zp H hb
 refine Zt ?_
 refine Zb hK13 ?_
 refine Zf ?_
 refine Za rfl rfl rfl (Ze Vc rfl) ?_
 refine Za rfl rfl rfl (Zh Xp rfl (Zgy _) hS hs0 trivial Zak) ?_
 refine Zc 1 rfl ?_
 obtain ⟨e29, hi31, H⟩ := bind_some H
 obtain ⟨j30, hi31a, hi31b, hi31c⟩ := Yw hi31
 refine Za rfl rfl rfl (Y8 Y6 rfl rfl hi31a hi31c (Rd.el (hS.rd0 s0_.rd) X5 hi31b)) ?_
 refine Za rfl rfl rfl (Vd Zb3 rfl (Rd.el (hS.rd0 s0_.rd) X5 hi31b)) ?_
 refine Za rfl rfl rfl (X1 Z0 rfl (Zgy _) (Rd.el (hS.rd0 s0_.rd) X5 hi31b) rfl) ?_
 refine Zc 1 rfl ?_
 refine Zg ?_
 refine Z2 ?_
 refine Zb hK12 ?_
 refine Zf ?_
 refine Zc 1 rfl ?_
 refine Za rfl rfl rfl (Xf rfl rfl) ?_
 refine Zc 1 rfl ?_
 refine Zg ?_
 exact Va (n, v7, e29.term, (IntKind.wrap .i64 (v9 + 1))) (by repeat (first | exact Sub.nil | refine Sub.cons rfl ?_)) ⟨hS, H⟩ (Nat.lt_succ_self _)
theorem c_ref20_Fine (x0 : Ms) (x1 : Int) (A0_ : OA) (c0_ : Nat) (w0 : World) (s0_ : SlI w0 Jv A0_ c0_ x0.entries) {r : Bool} (H : Zdk x0 x1 = some r) : Calls Try.prog 14 #[.agg #[.int .u8 x0.kind, .int .i64 x0.frm, .int .i64 x0.dst, .int .i64 x0.term, .int .i64 x0.cap, .int .i64 x0.last, .int .i64 x0.lastTerm, .int .i64 x0.commit, .bool x0.okk, .slice A0_ x0.entries.length c0_, .int .i64 x0.snap.index, .int .i64 x0.snap.term, .int .i64 x0.snap.sum, .int .i64 x0.snap.level, .bool x0.snap.final], .int .i64 x1] w0 fun e w' => e = .returned (.bool r) ∧ St0 All w0 w' [] := by
 unfold Zdk at H
 refine Y0 Try.func14 rfl Try.ntmps14 rfl ?_
 have hS := St0.start All w0
 refine Zd (fun K hK1 => ?_)
 refine Zf ?_
 refine Yd rfl rfl rfl CellsOf.agg hS (fun b2 w hS hB => ?_)
 refine Zc 1 rfl ?_
 refine Zg ?_
 refine Zb hK1 ?_
 refine Zd (fun K hK4 => ?_)
 refine Zd (fun K hK5 => ?_)
 refine Zf ?_
 refine Zc 1 rfl ?_
 refine Za rfl rfl rfl (Xh rfl rfl) ?_
 refine Zc 1 rfl ?_
 refine Zu 7 rfl (fun hb => ?_) (fun hb => ?_)
 ·replace H := Zq H hb
  refine Zc 62 rfl ?_
  refine Zg ?_
  refine Zb hK5 ?_
  refine Zr rfl rfl ?_
  refine Zd (fun K hK6 => ?_)
  refine Zf ?_
  refine Zc 1 rfl ?_
  refine Zg ?_
  refine Zb hK6 ?_
  refine Zk ?_
  refine Zj ?_
  refine Zl rfl (RV.tmp rfl RV.nil) rfl ?_
  obtain rfl := QJ H
  replace hS := hS.cut 0
  exact ⟨rfl, hS⟩
 replace H := Zp H hb
 refine Zc 1 rfl ?_
 refine Za rfl rfl rfl (Xa rfl rfl) ?_
 refine Zc 2 rfl ?_
 refine Zu 11 rfl (fun hb => ?_) (fun hb => ?_)
 ·replace H := Zq H hb
  refine Zc 58 rfl ?_
  refine Zg ?_
  refine Zb hK5 ?_
  refine Zr rfl rfl ?_
  refine Zd (fun K hK7 => ?_)
  refine Zf ?_
  refine Zc 1 rfl ?_
  refine Zg ?_
  refine Zb hK7 ?_
  refine Zk ?_
  refine Zj ?_
  refine Zl rfl (RV.tmp rfl RV.nil) rfl ?_
  obtain rfl := QJ H
  replace hS := hS.cut 0
  exact ⟨rfl, hS⟩
 replace H := Zp H hb
 refine Za rfl rfl rfl (Ze Zee rfl) ?_
 refine Za rfl rfl rfl (Zh Z0 rfl (Zgy _) hS hs0 trivial Vo) ?_
 refine Za rfl rfl rfl (Xh rfl rfl) ?_
 refine Zc 2 rfl ?_
 refine Zu 16 rfl (fun hb => ?_) (fun hb => ?_)
 ·replace H := Zq H hb
  refine Zc 53 rfl ?_
  refine Zg ?_
  refine Zb hK5 ?_
  refine Zr rfl rfl ?_
  refine Zd (fun K hK8 => ?_)
  refine Zf ?_
  refine Zc 1 rfl ?_
  refine Zg ?_
  refine Zb hK8 ?_
  refine Zk ?_
  refine Zj ?_
  refine Zl rfl (RV.tmp rfl RV.nil) rfl ?_
  obtain rfl := QJ H
  replace hS := hS.cut 0
  exact ⟨rfl, hS⟩
 replace H := Zp H hb
 refine Za rfl rfl rfl (Ze Zee rfl) ?_
 refine Za rfl rfl rfl (Zh Z0 rfl (Zgy _) hS hs0 trivial Vo) ?_
 refine Zc 1 rfl ?_
 refine Za rfl rfl rfl (Xa rfl rfl) ?_
 refine Zc 2 rfl ?_
 refine Zu 22 rfl (fun hb => ?_) (fun hb => ?_)
 ·replace H := Zq H hb
  refine Zc 47 rfl ?_
  refine Zg ?_
  refine Zb hK5 ?_
  refine Zr rfl rfl ?_
  refine Zd (fun K hK9 => ?_)
  refine Zf ?_
  refine Zc 1 rfl ?_
  refine Zg ?_
  refine Zb hK9 ?_
  refine Zk ?_
  refine Zj ?_
  refine Zl rfl (RV.tmp rfl RV.nil) rfl ?_
  obtain rfl := QJ H
  replace hS := hS.cut 0
  exact ⟨rfl, hS⟩
 replace H := Zp H hb
 refine Za rfl rfl rfl (Ze Zga rfl) ?_
 refine Za rfl rfl rfl (Zh Z0 rfl (Zgy _) hS hs0 trivial Zbk) ?_
 refine Za rfl rfl rfl (Xh rfl rfl) ?_
 refine Zc 2 rfl ?_
 refine Zu 27 rfl (fun hb => ?_) (fun hb => ?_)
 ·replace H := Zq H hb
  refine Zc 42 rfl ?_
  refine Zg ?_
  refine Zb hK5 ?_
  refine Zr rfl rfl ?_
  refine Zd (fun K hK10 => ?_)
  refine Zf ?_
  refine Zc 1 rfl ?_
  refine Zg ?_
  refine Zb hK10 ?_
  refine Zk ?_
  refine Zj ?_
  refine Zl rfl (RV.tmp rfl RV.nil) rfl ?_
  obtain rfl := QJ H
  replace hS := hS.cut 0
  exact ⟨rfl, hS⟩
 replace H := Zp H hb
 refine Za rfl rfl rfl (Ze Zga rfl) ?_
 refine Za rfl rfl rfl (Zh Z0 rfl (Zgy _) hS hs0 trivial Zbk) ?_
 refine Zc 1 rfl ?_
 refine Za rfl rfl rfl (Xa rfl rfl) ?_
 refine Zc 2 rfl ?_
 refine Zu 33 rfl (fun hb => ?_) (fun hb => ?_)
 ·replace H := Zq H hb
  refine Zc 36 rfl ?_
  refine Zg ?_
  refine Zb hK5 ?_
  refine Zr rfl rfl ?_
  refine Zd (fun K hK11 => ?_)
  refine Zf ?_
  refine Zc 1 rfl ?_
  refine Zg ?_
  refine Zb hK11 ?_
  refine Zk ?_
  refine Zj ?_
  refine Zl rfl (RV.tmp rfl RV.nil) rfl ?_
  obtain rfl := QJ H
  replace hS := hS.cut 0
  exact ⟨rfl, hS⟩
 replace H := Zp H hb
 refine Za rfl rfl rfl (Ze Zee rfl) ?_
 refine Za rfl rfl rfl (Zh Z0 rfl (Zgy _) hS hs0 trivial Vo) ?_
 refine Za rfl rfl rfl (Ze Zga rfl) ?_
 refine Za rfl rfl rfl (Zh Z0 rfl (Zgy _) hS hs0 trivial Zbk) ?_
 refine Za rfl rfl rfl (Xo rfl rfl) ?_
 refine Zc 2 rfl ?_
 refine Zu 40 rfl (fun hb => ?_) (fun hb => ?_)
 ·replace H := Zq H hb
  refine Zc 29 rfl ?_
  refine Zg ?_
  refine Zb hK5 ?_
  refine Zr rfl rfl ?_
  refine Zd (fun K hK12 => ?_)
  refine Zf ?_
  refine Zc 1 rfl ?_
  refine Zg ?_
  refine Zb hK12 ?_
  refine Zk ?_
  refine Zj ?_
  refine Zl rfl (RV.tmp rfl RV.nil) rfl ?_
  obtain rfl := QJ H
  replace hS := hS.cut 0
  exact ⟨rfl, hS⟩
 replace H := Zp H hb
 refine Za rfl rfl rfl (Ze Vq rfl) ?_
 refine Za rfl rfl rfl (Zh Zbs rfl (Zgy _) hS hs0 trivial Y7) ?_
 refine Za rfl rfl rfl (Xh rfl rfl) ?_
 refine Zc 2 rfl ?_
 refine Zu 45 rfl (fun hb => ?_) (fun hb => ?_)
 ·replace H := Zq H hb
  refine Zc 24 rfl ?_
  refine Zg ?_
  refine Zb hK5 ?_
  refine Zr rfl rfl ?_
  refine Zd (fun K hK13 => ?_)
  refine Zf ?_
  refine Zc 1 rfl ?_
  refine Zg ?_
  refine Zb hK13 ?_
  refine Zk ?_
  refine Zj ?_
  refine Zl rfl (RV.tmp rfl RV.nil) rfl ?_
  obtain rfl := QJ H
  replace hS := hS.cut 0
  exact ⟨rfl, hS⟩
 replace H := Zp H hb
 refine Za rfl rfl rfl (Ze Vq rfl) ?_
 refine Za rfl rfl rfl (Zh Zbs rfl (Zgy _) hS hs0 trivial Y7) ?_
 refine Za rfl rfl rfl (Zc7 rfl rfl) ?_
 refine Zc 2 rfl ?_
 refine Zu 50 rfl (fun hb => ?_) (fun hb => ?_)
 ·replace H := Zq H hb
  refine Zc 19 rfl ?_
  refine Zg ?_
  refine Zb hK5 ?_
  refine Zr rfl rfl ?_
  refine Zd (fun K hK14 => ?_)
  refine Zf ?_
  refine Zc 1 rfl ?_
  refine Zg ?_
  refine Zb hK14 ?_
  refine Zk ?_
  refine Zj ?_
  refine Zl rfl (RV.tmp rfl RV.nil) rfl ?_
  obtain rfl := QJ H
  replace hS := hS.cut 0
  exact ⟨rfl, hS⟩
 replace H := Zp H hb
 refine Za rfl rfl rfl (Ze Ze3 rfl) ?_
 refine Za rfl rfl rfl (Zh Z0 rfl (Zgy _) hS hs0 trivial Zbd) ?_
 refine Za rfl rfl rfl (Xh rfl rfl) ?_
 refine Zc 2 rfl ?_
 refine Zu 55 rfl (fun hb => ?_) (fun hb => ?_)
 ·replace H := Zq H hb
  refine Zc 14 rfl ?_
  refine Zg ?_
  refine Zb hK5 ?_
  refine Zr rfl rfl ?_
  refine Zd (fun K hK15 => ?_)
  refine Zf ?_
  refine Zc 1 rfl ?_
  refine Zg ?_
  refine Zb hK15 ?_
  refine Zk ?_
  refine Zj ?_
  refine Zl rfl (RV.tmp rfl RV.nil) rfl ?_
  obtain rfl := QJ H
  replace hS := hS.cut 0
  exact ⟨rfl, hS⟩
 replace H := Zp H hb
 refine Za rfl rfl rfl (Ze Ze3 rfl) ?_
 refine Za rfl rfl rfl (Zh Z0 rfl (Zgy _) hS hs0 trivial Zbd) ?_
 refine Za rfl rfl rfl (Xa rfl rfl) ?_
 refine Zc 2 rfl ?_
 refine Zu 60 rfl (fun hb => ?_) (fun hb => ?_)
 ·replace H := Zq H hb
  refine Zc 9 rfl ?_
  refine Zg ?_
  refine Zb hK5 ?_
  refine Zr rfl rfl ?_
  refine Zd (fun K hK16 => ?_)
  refine Zf ?_
  refine Zc 1 rfl ?_
  refine Zg ?_
  refine Zb hK16 ?_
  refine Zk ?_
  refine Zj ?_
  refine Zl rfl (RV.tmp rfl RV.nil) rfl ?_
  obtain rfl := QJ H
  replace hS := hS.cut 0
  exact ⟨rfl, hS⟩
 replace H := Zp H hb
 refine Za rfl rfl rfl (Ze fo_36_4 rfl) ?_
 refine Za rfl rfl rfl (Zh Z0 rfl (Zgy _) hS hs0 trivial Zfn) ?_
 refine Za rfl rfl rfl (Xh rfl rfl) ?_
 refine Zc 2 rfl ?_
 refine Zu 65 rfl (fun hb => ?_) (fun hb => ?_)
 ·replace H := Zq H hb
  refine Zc 4 rfl ?_
  refine Zg ?_
  refine Zb hK5 ?_
  refine Zr rfl rfl ?_
  refine Zd (fun K hK17 => ?_)
  refine Zf ?_
  refine Zc 1 rfl ?_
  refine Zg ?_
  refine Zb hK17 ?_
  refine Zk ?_
  refine Zj ?_
  refine Zl rfl (RV.tmp rfl RV.nil) rfl ?_
  obtain rfl := QJ H
  replace hS := hS.cut 0
  exact ⟨rfl, hS⟩
 replace H := Zp H hb
 refine Za rfl rfl rfl (Ze fo_36_4 rfl) ?_
 refine Za rfl rfl rfl (Zh Z0 rfl (Zgy _) hS hs0 trivial Zfn) ?_
 refine Za rfl rfl rfl (Xa rfl rfl) ?_
 refine Zc 1 rfl ?_
 refine Zg ?_
 refine Zb hK5 ?_
 refine Zz rfl (fun hb => ?_) (fun hb => ?_)
 ·replace H := Zq H hb
  refine Zd (fun K hK18 => ?_)
  refine Zf ?_
  refine Zc 1 rfl ?_
  refine Zg ?_
  refine Zb hK18 ?_
  refine Zk ?_
  refine Zj ?_
  refine Zl rfl (RV.tmp rfl RV.nil) rfl ?_
  obtain rfl := QJ H
  replace hS := hS.cut 0
  exact ⟨rfl, hS⟩
 replace H := Zp H hb
 refine Zt ?_
 refine Zb hK4 ?_
 refine Zd (fun K hK19 => ?_)
 refine Zd (fun K hK20 => ?_)
 refine Zf ?_
 refine Za rfl rfl rfl (Ze Vx rfl) ?_
 refine Za rfl rfl rfl (Zh Z0 rfl (Zgy _) hS hs0 trivial Js) ?_
 obtain ⟨r21, hm22, H⟩ := bind_some H
 refine Zo rfl rfl rfl rfl (by kernel_rfl) rfl (Zfc x0.last _ hm22) ?_
 rintro e w ⟨rfl, hN⟩; refine ⟨_, rfl, ?_⟩; obtain ⟨hB, hS⟩ := hS.jn hN
 refine Za rfl rfl rfl (Yt rfl) ?_
 refine Zc 1 rfl ?_
 refine Zu 74 rfl (fun hb => ?_) (fun hb => ?_)
 ·replace H := Zq H hb
  refine Zc 16 rfl ?_
  refine Zg ?_
  refine Zb hK20 ?_
  refine Zr rfl rfl ?_
  refine Zd (fun K hK23 => ?_)
  refine Zf ?_
  refine Zc 1 rfl ?_
  refine Zg ?_
  refine Zb hK23 ?_
  refine Zk ?_
  refine Zj ?_
  refine Zl rfl (RV.tmp rfl RV.nil) rfl ?_
  obtain rfl := QJ H
  replace hS := hS.cut 0
  exact ⟨rfl, hS⟩
 replace H := Zp H hb
 refine Za rfl rfl rfl (Ze fo_36_6 rfl) ?_
 refine Za rfl rfl rfl (Zh Z0 rfl (Zgy _) hS hs0 trivial sg6_1) ?_
 obtain ⟨r24, hm25, H⟩ := bind_some H
 refine Zo rfl rfl rfl rfl (by kernel_rfl) rfl (Zfc x0.lastTerm _ hm25) ?_
 rintro e w ⟨rfl, hN⟩; refine ⟨_, rfl, ?_⟩; obtain ⟨hB, hS⟩ := hS.jn hN
 refine Za rfl rfl rfl (Yt rfl) ?_
 refine Zc 2 rfl ?_
 refine Zu 80 rfl (fun hb => ?_) (fun hb => ?_)
 ·replace H := Zq H hb
  refine Zc 10 rfl ?_
  refine Zg ?_
  refine Zb hK20 ?_
  refine Zr rfl rfl ?_
  refine Zd (fun K hK26 => ?_)
  refine Zf ?_
  refine Zc 1 rfl ?_
  refine Zg ?_
  refine Zb hK26 ?_
  refine Zk ?_
  refine Zj ?_
  refine Zl rfl (RV.tmp rfl RV.nil) rfl ?_
  obtain rfl := QJ H
  replace hS := hS.cut 0
  exact ⟨rfl, hS⟩
 replace H := Zp H hb
 refine Za rfl rfl rfl (Ze Zdn rfl) ?_
 refine Za rfl rfl rfl (Zh Z0 rfl (Zgy _) hS hs0 trivial Zfd) ?_
 obtain ⟨r27, hm28, H⟩ := bind_some H
 refine Zo rfl rfl rfl rfl (by kernel_rfl) rfl (Zfc x0.commit _ hm28) ?_
 rintro e w ⟨rfl, hN⟩; refine ⟨_, rfl, ?_⟩; obtain ⟨hB, hS⟩ := hS.jn hN
 refine Za rfl rfl rfl (Yt rfl) ?_
 refine Zc 2 rfl ?_
 refine Zu 86 rfl (fun hb => ?_) (fun hb => ?_)
 ·replace H := Zq H hb
  refine Zc 4 rfl ?_
  refine Zg ?_
  refine Zb hK20 ?_
  refine Zr rfl rfl ?_
  refine Zd (fun K hK29 => ?_)
  refine Zf ?_
  refine Zc 1 rfl ?_
  refine Zg ?_
  refine Zb hK29 ?_
  refine Zk ?_
  refine Zj ?_
  refine Zl rfl (RV.tmp rfl RV.nil) rfl ?_
  obtain rfl := QJ H
  replace hS := hS.cut 0
  exact ⟨rfl, hS⟩
 replace H := Zp H hb
 refine Za rfl rfl rfl (Zi Vp rfl (Zgy _) hS hs0 trivial Xv) ?_
 obtain ⟨r30, hm31, H⟩ := bind_some H
 refine Zo rfl rfl rfl rfl (by kernel_rfl) rfl (c_ref20_entries x0 A0_ c0_ _ (Zg1 s0_.k (hS.rd0 s0_.rd) (hS.blk0 s0_.blk)) hm31) ?_
 rintro e w ⟨rfl, hN⟩; refine ⟨_, rfl, ?_⟩; obtain ⟨hB, hS⟩ := hS.jn hN
 refine Za rfl rfl rfl (Yt rfl) ?_
 refine Zc 1 rfl ?_
 refine Zg ?_
 refine Zb hK20 ?_
 refine Zz rfl (fun hb => ?_) (fun hb => ?_)
 ·replace H := Zq H hb
  refine Zd (fun K hK32 => ?_)
  refine Zf ?_
  refine Zc 1 rfl ?_
  refine Zg ?_
  refine Zb hK32 ?_
  refine Zk ?_
  refine Zj ?_
  refine Zl rfl (RV.tmp rfl RV.nil) rfl ?_
  obtain rfl := QJ H
  replace hS := hS.cut 0
  exact ⟨rfl, hS⟩
 replace H := Zp H hb
 refine Zt ?_
 refine Zb hK19 ?_
 refine Zd (fun K hK33 => ?_)
 refine Zd (fun K hK34 => ?_)
 refine Zf ?_
 refine Za rfl rfl rfl (Ze Vq rfl) ?_
 refine Za rfl rfl rfl (Zh Zbs rfl (Zgy _) hS hs0 trivial Y7) ?_
 refine Za rfl rfl rfl (Y5 rfl rfl) ?_
 refine Zc 1 rfl ?_
 refine Zu 94 rfl (fun hb => ?_) (fun hb => ?_)
 rotate_left
 ·replace H := Zp H hb
  refine Zc 11 rfl ?_
  refine Za rfl rfl rfl (Ze Zf0 rfl) ?_
  refine Za rfl rfl rfl (Zh sc_4 rfl (Zgy _) hS hs0 trivial sg8_1) ?_
  refine Zc 1 rfl ?_
  refine Zu 108 rfl (fun hb => ?_) (fun hb => ?_)
  rotate_left
  ·replace H := Zp H hb
   refine Zc 10 rfl ?_
   refine Zg ?_
   refine Zb hK34 ?_
   refine Yo rfl rfl ?_
   refine Zt ?_
   refine Zb hK33 ?_
   refine Zd (fun K hK69 => ?_)
   refine Zd (fun K hK70 => ?_)
   refine Zf ?_
   refine Za rfl rfl rfl (Ze Vq rfl) ?_
   refine Za rfl rfl rfl (Zh Zbs rfl (Zgy _) hS hs0 trivial Y7) ?_
   refine Za rfl rfl rfl (Xo rfl rfl) ?_
   refine Zg ?_
   refine Zb hK70 ?_
   refine Zz rfl (fun hb => ?_) (fun hb => ?_)
   rotate_left
   ·replace H := Zp H hb
    refine Zt ?_
    refine Zb hK69 ?_
    refine Zd (fun K hK74 => ?_)
    refine Zf ?_
    refine Za rfl rfl rfl (Ze Xi rfl) ?_
    refine Za rfl rfl rfl (Zi Y4 rfl (Zgy _) hS hs0 trivial Zaf) ?_
    refine Za rfl rfl rfl (Xw (cells := [.int .i64 0, .int .i64 0, .int .i64 0, .int .i64 0, .bool false]) rfl (by kernel_rfl)) ?_
    refine Za rfl rfl rfl (Zai (by kernel_rfl) rfl rfl (Za6 _ _ _ _ _ _ _ _ _ _)) ?_
    refine Zc 1 rfl ?_
    refine Zg ?_
    refine Zb hK74 ?_
    refine Zk ?_
    refine Zl rfl (RV.tmp rfl RV.nil) rfl ?_
    obtain rfl := QJ H
    replace hS := hS.cut 0
    exact ⟨rfl, hS⟩
   replace H := Zq H hb
   refine Zd (fun K hK71 => ?_)
   refine Zf ?_
   refine Za rfl rfl rfl (Ze Xi rfl) ?_
   refine Za rfl rfl rfl (Zi Y4 rfl (Zgy _) hS hs0 trivial Zaf) ?_
   obtain ⟨r72, hm73, H⟩ := bind_some H
   refine Zo rfl rfl rfl rfl (by kernel_rfl) rfl (Zaw x0.snap _ hm73) ?_
   rintro e w ⟨rfl, hN⟩; refine ⟨_, rfl, ?_⟩; obtain ⟨hB, hS⟩ := hS.jn hN
   refine Zc 1 rfl ?_
   refine Zu 125 rfl (fun hb => ?_) (fun hb => ?_)
   rotate_left
   ·replace H := Zp H hb
    refine Zc 6 rfl ?_
    refine Zg ?_
    refine Zb hK71 ?_
    refine Zk ?_
    refine Zj ?_
    refine Zl rfl (RV.tmp rfl RV.nil) rfl ?_
    obtain rfl := QJ H
    replace hS := hS.cut 0
    exact ⟨rfl, hS⟩
   replace H := Zq H hb
   refine Za rfl rfl rfl (Ze Xi rfl) ?_
   refine Za rfl rfl rfl (Ze Yi rfl) ?_
   refine Za rfl rfl rfl (Zh Z0 rfl (Zgy _) hS hs0 trivial Zbc) ?_
   refine Za rfl rfl rfl (Xa rfl rfl) ?_
   refine Zc 2 rfl ?_
   refine Zg ?_
   refine Zb hK71 ?_
   refine Zk ?_
   refine Zj ?_
   refine Zl rfl (RV.tmp rfl RV.nil) rfl ?_
   obtain rfl := QJ H
   replace hS := hS.cut 0
   exact ⟨rfl, hS⟩
  replace H := Zq H hb
  refine Za rfl rfl rfl (Ze Vq rfl) ?_
  refine Za rfl rfl rfl (Zh Zbs rfl (Zgy _) hS hs0 trivial Y7) ?_
  refine Za rfl rfl rfl (Y5 rfl rfl) ?_
  refine Zc 2 rfl ?_
  refine Zu 113 rfl (fun hb => ?_) (fun hb => ?_)
  rotate_left
  ·replace H := Zp H hb
   refine Zc 5 rfl ?_
   refine Zg ?_
   refine Zb hK34 ?_
   refine Yo rfl rfl ?_
   refine Zt ?_
   refine Zb hK33 ?_
   refine Zd (fun K hK63 => ?_)
   refine Zd (fun K hK64 => ?_)
   refine Zf ?_
   refine Za rfl rfl rfl (Ze Vq rfl) ?_
   refine Za rfl rfl rfl (Zh Zbs rfl (Zgy _) hS hs0 trivial Y7) ?_
   refine Za rfl rfl rfl (Xo rfl rfl) ?_
   refine Zg ?_
   refine Zb hK64 ?_
   refine Zz rfl (fun hb => ?_) (fun hb => ?_)
   rotate_left
   ·replace H := Zp H hb
    refine Zt ?_
    refine Zb hK63 ?_
    refine Zd (fun K hK68 => ?_)
    refine Zf ?_
    refine Za rfl rfl rfl (Ze Xi rfl) ?_
    refine Za rfl rfl rfl (Zi Y4 rfl (Zgy _) hS hs0 trivial Zaf) ?_
    refine Za rfl rfl rfl (Xw (cells := [.int .i64 0, .int .i64 0, .int .i64 0, .int .i64 0, .bool false]) rfl (by kernel_rfl)) ?_
    refine Za rfl rfl rfl (Zai (by kernel_rfl) rfl rfl (Za6 _ _ _ _ _ _ _ _ _ _)) ?_
    refine Zc 1 rfl ?_
    refine Zg ?_
    refine Zb hK68 ?_
    refine Zk ?_
    refine Zl rfl (RV.tmp rfl RV.nil) rfl ?_
    obtain rfl := QJ H
    replace hS := hS.cut 0
    exact ⟨rfl, hS⟩
   replace H := Zq H hb
   refine Zd (fun K hK65 => ?_)
   refine Zf ?_
   refine Za rfl rfl rfl (Ze Xi rfl) ?_
   refine Za rfl rfl rfl (Zi Y4 rfl (Zgy _) hS hs0 trivial Zaf) ?_
   obtain ⟨r66, hm67, H⟩ := bind_some H
   refine Zo rfl rfl rfl rfl (by kernel_rfl) rfl (Zaw x0.snap _ hm67) ?_
   rintro e w ⟨rfl, hN⟩; refine ⟨_, rfl, ?_⟩; obtain ⟨hB, hS⟩ := hS.jn hN
   refine Zc 1 rfl ?_
   refine Zu 125 rfl (fun hb => ?_) (fun hb => ?_)
   rotate_left
   ·replace H := Zp H hb
    refine Zc 6 rfl ?_
    refine Zg ?_
    refine Zb hK65 ?_
    refine Zk ?_
    refine Zj ?_
    refine Zl rfl (RV.tmp rfl RV.nil) rfl ?_
    obtain rfl := QJ H
    replace hS := hS.cut 0
    exact ⟨rfl, hS⟩
   replace H := Zq H hb
   refine Za rfl rfl rfl (Ze Xi rfl) ?_
   refine Za rfl rfl rfl (Ze Yi rfl) ?_
   refine Za rfl rfl rfl (Zh Z0 rfl (Zgy _) hS hs0 trivial Zbc) ?_
   refine Za rfl rfl rfl (Xa rfl rfl) ?_
   refine Zc 2 rfl ?_
   refine Zg ?_
   refine Zb hK65 ?_
   refine Zk ?_
   refine Zj ?_
   refine Zl rfl (RV.tmp rfl RV.nil) rfl ?_
   obtain rfl := QJ H
   replace hS := hS.cut 0
   exact ⟨rfl, hS⟩
  replace H := Zq H hb
  refine Za rfl rfl rfl (Ze Vq rfl) ?_
  refine Za rfl rfl rfl (Zh Zbs rfl (Zgy _) hS hs0 trivial Y7) ?_
  refine Za rfl rfl rfl (Y5 rfl rfl) ?_
  refine Zc 2 rfl ?_
  refine Zg ?_
  refine Zb hK34 ?_
  refine Zz rfl (fun hb => ?_) (fun hb => ?_)
  ·replace H := Zq H hb
   refine Zd (fun K hK56 => ?_)
   refine Zf ?_
   refine Zc 1 rfl ?_
   refine Zg ?_
   refine Zb hK56 ?_
   refine Zk ?_
   refine Zj ?_
   refine Zl rfl (RV.tmp rfl RV.nil) rfl ?_
   obtain rfl := QJ H
   replace hS := hS.cut 0
   exact ⟨rfl, hS⟩
  replace H := Zp H hb
  refine Zt ?_
  refine Zb hK33 ?_
  refine Zd (fun K hK57 => ?_)
  refine Zd (fun K hK58 => ?_)
  refine Zf ?_
  refine Za rfl rfl rfl (Ze Vq rfl) ?_
  refine Za rfl rfl rfl (Zh Zbs rfl (Zgy _) hS hs0 trivial Y7) ?_
  refine Za rfl rfl rfl (Xo rfl rfl) ?_
  refine Zg ?_
  refine Zb hK58 ?_
  refine Zz rfl (fun hb => ?_) (fun hb => ?_)
  rotate_left
  ·replace H := Zp H hb
   refine Zt ?_
   refine Zb hK57 ?_
   refine Zd (fun K hK62 => ?_)
   refine Zf ?_
   refine Za rfl rfl rfl (Ze Xi rfl) ?_
   refine Za rfl rfl rfl (Zi Y4 rfl (Zgy _) hS hs0 trivial Zaf) ?_
   refine Za rfl rfl rfl (Xw (cells := [.int .i64 0, .int .i64 0, .int .i64 0, .int .i64 0, .bool false]) rfl (by kernel_rfl)) ?_
   refine Za rfl rfl rfl (Zai (by kernel_rfl) rfl rfl (Za6 _ _ _ _ _ _ _ _ _ _)) ?_
   refine Zc 1 rfl ?_
   refine Zg ?_
   refine Zb hK62 ?_
   refine Zk ?_
   refine Zl rfl (RV.tmp rfl RV.nil) rfl ?_
   obtain rfl := QJ H
   replace hS := hS.cut 0
   exact ⟨rfl, hS⟩
  replace H := Zq H hb
  refine Zd (fun K hK59 => ?_)
  refine Zf ?_
  refine Za rfl rfl rfl (Ze Xi rfl) ?_
  refine Za rfl rfl rfl (Zi Y4 rfl (Zgy _) hS hs0 trivial Zaf) ?_
  obtain ⟨r60, hm61, H⟩ := bind_some H
  refine Zo rfl rfl rfl rfl (by kernel_rfl) rfl (Zaw x0.snap _ hm61) ?_
  rintro e w ⟨rfl, hN⟩; refine ⟨_, rfl, ?_⟩; obtain ⟨hB, hS⟩ := hS.jn hN
  refine Zc 1 rfl ?_
  refine Zu 125 rfl (fun hb => ?_) (fun hb => ?_)
  rotate_left
  ·replace H := Zp H hb
   refine Zc 6 rfl ?_
   refine Zg ?_
   refine Zb hK59 ?_
   refine Zk ?_
   refine Zj ?_
   refine Zl rfl (RV.tmp rfl RV.nil) rfl ?_
   obtain rfl := QJ H
   replace hS := hS.cut 0
   exact ⟨rfl, hS⟩
  replace H := Zq H hb
  refine Za rfl rfl rfl (Ze Xi rfl) ?_
  refine Za rfl rfl rfl (Ze Yi rfl) ?_
  refine Za rfl rfl rfl (Zh Z0 rfl (Zgy _) hS hs0 trivial Zbc) ?_
  refine Za rfl rfl rfl (Xa rfl rfl) ?_
  refine Zc 2 rfl ?_
  refine Zg ?_
  refine Zb hK59 ?_
  refine Zk ?_
  refine Zj ?_
  refine Zl rfl (RV.tmp rfl RV.nil) rfl ?_
  obtain rfl := QJ H
  replace hS := hS.cut 0
  exact ⟨rfl, hS⟩
 replace H := Zq H hb
 refine Za rfl rfl rfl (Ze Vc rfl) ?_
 refine Za rfl rfl rfl (Zh Xp rfl (Zgy _) hS hs0 trivial Zak) ?_
 refine Za rfl rfl rfl (Yu Y6 rfl) ?_
 refine Za rfl rfl rfl (Xa rfl rfl) ?_
 refine Zc 1 rfl ?_
 refine Zu 99 rfl (fun hb => ?_) (fun hb => ?_)
 ·replace H := Zq H hb
  refine Zc 19 rfl ?_
  refine Zg ?_
  refine Zb hK34 ?_
  refine Zr rfl rfl ?_
  refine Zd (fun K hK35 => ?_)
  refine Zf ?_
  refine Zc 1 rfl ?_
  refine Zg ?_
  refine Zb hK35 ?_
  refine Zk ?_
  refine Zj ?_
  refine Zl rfl (RV.tmp rfl RV.nil) rfl ?_
  obtain rfl := QJ H
  replace hS := hS.cut 0
  exact ⟨rfl, hS⟩
 replace H := Zp H hb
 refine Za rfl rfl rfl (Ze Zdn rfl) ?_
 refine Za rfl rfl rfl (Zh Z0 rfl (Zgy _) hS hs0 trivial Zfd) ?_
 refine Za rfl rfl rfl (Xa rfl rfl) ?_
 refine Zc 3 rfl ?_
 refine Zu 105 rfl (fun hb => ?_) (fun hb => ?_)
 ·replace H := Zq H hb
  refine Zc 13 rfl ?_
  refine Zg ?_
  refine Zb hK34 ?_
  refine Zr rfl rfl ?_
  refine Zd (fun K hK36 => ?_)
  refine Zf ?_
  refine Zc 1 rfl ?_
  refine Zg ?_
  refine Zb hK36 ?_
  refine Zk ?_
  refine Zj ?_
  refine Zl rfl (RV.tmp rfl RV.nil) rfl ?_
  obtain rfl := QJ H
  replace hS := hS.cut 0
  exact ⟨rfl, hS⟩
 replace H := Zp H hb
 refine Za rfl rfl rfl (Ze Zf0 rfl) ?_
 refine Za rfl rfl rfl (Zh sc_4 rfl (Zgy _) hS hs0 trivial sg8_1) ?_
 refine Zc 1 rfl ?_
 refine Zu 108 rfl (fun hb => ?_) (fun hb => ?_)
 rotate_left
 ·replace H := Zp H hb
  refine Zc 10 rfl ?_
  refine Zg ?_
  refine Zb hK34 ?_
  refine Yo rfl rfl ?_
  refine Zt ?_
  refine Zb hK33 ?_
  refine Zd (fun K hK50 => ?_)
  refine Zd (fun K hK51 => ?_)
  refine Zf ?_
  refine Za rfl rfl rfl (Ze Vq rfl) ?_
  refine Za rfl rfl rfl (Zh Zbs rfl (Zgy _) hS hs0 trivial Y7) ?_
  refine Za rfl rfl rfl (Xo rfl rfl) ?_
  refine Zg ?_
  refine Zb hK51 ?_
  refine Zz rfl (fun hb => ?_) (fun hb => ?_)
  rotate_left
  ·replace H := Zp H hb
   refine Zt ?_
   refine Zb hK50 ?_
   refine Zd (fun K hK55 => ?_)
   refine Zf ?_
   refine Za rfl rfl rfl (Ze Xi rfl) ?_
   refine Za rfl rfl rfl (Zi Y4 rfl (Zgy _) hS hs0 trivial Zaf) ?_
   refine Za rfl rfl rfl (Xw (cells := [.int .i64 0, .int .i64 0, .int .i64 0, .int .i64 0, .bool false]) rfl (by kernel_rfl)) ?_
   refine Za rfl rfl rfl (Zai (by kernel_rfl) rfl rfl (Za6 _ _ _ _ _ _ _ _ _ _)) ?_
   refine Zc 1 rfl ?_
   refine Zg ?_
   refine Zb hK55 ?_
   refine Zk ?_
   refine Zl rfl (RV.tmp rfl RV.nil) rfl ?_
   obtain rfl := QJ H
   replace hS := hS.cut 0
   exact ⟨rfl, hS⟩
  replace H := Zq H hb
  refine Zd (fun K hK52 => ?_)
  refine Zf ?_
  refine Za rfl rfl rfl (Ze Xi rfl) ?_
  refine Za rfl rfl rfl (Zi Y4 rfl (Zgy _) hS hs0 trivial Zaf) ?_
  obtain ⟨r53, hm54, H⟩ := bind_some H
  refine Zo rfl rfl rfl rfl (by kernel_rfl) rfl (Zaw x0.snap _ hm54) ?_
  rintro e w ⟨rfl, hN⟩; refine ⟨_, rfl, ?_⟩; obtain ⟨hB, hS⟩ := hS.jn hN
  refine Zc 1 rfl ?_
  refine Zu 125 rfl (fun hb => ?_) (fun hb => ?_)
  rotate_left
  ·replace H := Zp H hb
   refine Zc 6 rfl ?_
   refine Zg ?_
   refine Zb hK52 ?_
   refine Zk ?_
   refine Zj ?_
   refine Zl rfl (RV.tmp rfl RV.nil) rfl ?_
   obtain rfl := QJ H
   replace hS := hS.cut 0
   exact ⟨rfl, hS⟩
  replace H := Zq H hb
  refine Za rfl rfl rfl (Ze Xi rfl) ?_
  refine Za rfl rfl rfl (Ze Yi rfl) ?_
  refine Za rfl rfl rfl (Zh Z0 rfl (Zgy _) hS hs0 trivial Zbc) ?_
  refine Za rfl rfl rfl (Xa rfl rfl) ?_
  refine Zc 2 rfl ?_
  refine Zg ?_
  refine Zb hK52 ?_
  refine Zk ?_
  refine Zj ?_
  refine Zl rfl (RV.tmp rfl RV.nil) rfl ?_
  obtain rfl := QJ H
  replace hS := hS.cut 0
  exact ⟨rfl, hS⟩
 replace H := Zq H hb
 refine Za rfl rfl rfl (Ze Vq rfl) ?_
 refine Za rfl rfl rfl (Zh Zbs rfl (Zgy _) hS hs0 trivial Y7) ?_
 refine Za rfl rfl rfl (Y5 rfl rfl) ?_
 refine Zc 2 rfl ?_
 refine Zu 113 rfl (fun hb => ?_) (fun hb => ?_)
 rotate_left
 ·replace H := Zp H hb
  refine Zc 5 rfl ?_
  refine Zg ?_
  refine Zb hK34 ?_
  refine Yo rfl rfl ?_
  refine Zt ?_
  refine Zb hK33 ?_
  refine Zd (fun K hK44 => ?_)
  refine Zd (fun K hK45 => ?_)
  refine Zf ?_
  refine Za rfl rfl rfl (Ze Vq rfl) ?_
  refine Za rfl rfl rfl (Zh Zbs rfl (Zgy _) hS hs0 trivial Y7) ?_
  refine Za rfl rfl rfl (Xo rfl rfl) ?_
  refine Zg ?_
  refine Zb hK45 ?_
  refine Zz rfl (fun hb => ?_) (fun hb => ?_)
  rotate_left
  ·replace H := Zp H hb
   refine Zt ?_
   refine Zb hK44 ?_
   refine Zd (fun K hK49 => ?_)
   refine Zf ?_
   refine Za rfl rfl rfl (Ze Xi rfl) ?_
   refine Za rfl rfl rfl (Zi Y4 rfl (Zgy _) hS hs0 trivial Zaf) ?_
   refine Za rfl rfl rfl (Xw (cells := [.int .i64 0, .int .i64 0, .int .i64 0, .int .i64 0, .bool false]) rfl (by kernel_rfl)) ?_
   refine Za rfl rfl rfl (Zai (by kernel_rfl) rfl rfl (Za6 _ _ _ _ _ _ _ _ _ _)) ?_
   refine Zc 1 rfl ?_
   refine Zg ?_
   refine Zb hK49 ?_
   refine Zk ?_
   refine Zl rfl (RV.tmp rfl RV.nil) rfl ?_
   obtain rfl := QJ H
   replace hS := hS.cut 0
   exact ⟨rfl, hS⟩
  replace H := Zq H hb
  refine Zd (fun K hK46 => ?_)
  refine Zf ?_
  refine Za rfl rfl rfl (Ze Xi rfl) ?_
  refine Za rfl rfl rfl (Zi Y4 rfl (Zgy _) hS hs0 trivial Zaf) ?_
  obtain ⟨r47, hm48, H⟩ := bind_some H
  refine Zo rfl rfl rfl rfl (by kernel_rfl) rfl (Zaw x0.snap _ hm48) ?_
  rintro e w ⟨rfl, hN⟩; refine ⟨_, rfl, ?_⟩; obtain ⟨hB, hS⟩ := hS.jn hN
  refine Zc 1 rfl ?_
  refine Zu 125 rfl (fun hb => ?_) (fun hb => ?_)
  rotate_left
  ·replace H := Zp H hb
   refine Zc 6 rfl ?_
   refine Zg ?_
   refine Zb hK46 ?_
   refine Zk ?_
   refine Zj ?_
   refine Zl rfl (RV.tmp rfl RV.nil) rfl ?_
   obtain rfl := QJ H
   replace hS := hS.cut 0
   exact ⟨rfl, hS⟩
  replace H := Zq H hb
  refine Za rfl rfl rfl (Ze Xi rfl) ?_
  refine Za rfl rfl rfl (Ze Yi rfl) ?_
  refine Za rfl rfl rfl (Zh Z0 rfl (Zgy _) hS hs0 trivial Zbc) ?_
  refine Za rfl rfl rfl (Xa rfl rfl) ?_
  refine Zc 2 rfl ?_
  refine Zg ?_
  refine Zb hK46 ?_
  refine Zk ?_
  refine Zj ?_
  refine Zl rfl (RV.tmp rfl RV.nil) rfl ?_
  obtain rfl := QJ H
  replace hS := hS.cut 0
  exact ⟨rfl, hS⟩
 replace H := Zq H hb
 refine Za rfl rfl rfl (Ze Vq rfl) ?_
 refine Za rfl rfl rfl (Zh Zbs rfl (Zgy _) hS hs0 trivial Y7) ?_
 refine Za rfl rfl rfl (Y5 rfl rfl) ?_
 refine Zc 2 rfl ?_
 refine Zg ?_
 refine Zb hK34 ?_
 refine Zz rfl (fun hb => ?_) (fun hb => ?_)
 ·replace H := Zq H hb
  refine Zd (fun K hK37 => ?_)
  refine Zf ?_
  refine Zc 1 rfl ?_
  refine Zg ?_
  refine Zb hK37 ?_
  refine Zk ?_
  refine Zj ?_
  refine Zl rfl (RV.tmp rfl RV.nil) rfl ?_
  obtain rfl := QJ H
  replace hS := hS.cut 0
  exact ⟨rfl, hS⟩
 replace H := Zp H hb
 refine Zt ?_
 refine Zb hK33 ?_
 refine Zd (fun K hK38 => ?_)
 refine Zd (fun K hK39 => ?_)
 refine Zf ?_
 refine Za rfl rfl rfl (Ze Vq rfl) ?_
 refine Za rfl rfl rfl (Zh Zbs rfl (Zgy _) hS hs0 trivial Y7) ?_
 refine Za rfl rfl rfl (Xo rfl rfl) ?_
 refine Zg ?_
 refine Zb hK39 ?_
 refine Zz rfl (fun hb => ?_) (fun hb => ?_)
 rotate_left
 ·replace H := Zp H hb
  refine Zt ?_
  refine Zb hK38 ?_
  refine Zd (fun K hK43 => ?_)
  refine Zf ?_
  refine Za rfl rfl rfl (Ze Xi rfl) ?_
  refine Za rfl rfl rfl (Zi Y4 rfl (Zgy _) hS hs0 trivial Zaf) ?_
  refine Za rfl rfl rfl (Xw (cells := [.int .i64 0, .int .i64 0, .int .i64 0, .int .i64 0, .bool false]) rfl (by kernel_rfl)) ?_
  refine Za rfl rfl rfl (Zai (by kernel_rfl) rfl rfl (Za6 _ _ _ _ _ _ _ _ _ _)) ?_
  refine Zc 1 rfl ?_
  refine Zg ?_
  refine Zb hK43 ?_
  refine Zk ?_
  refine Zl rfl (RV.tmp rfl RV.nil) rfl ?_
  obtain rfl := QJ H
  replace hS := hS.cut 0
  exact ⟨rfl, hS⟩
 replace H := Zq H hb
 refine Zd (fun K hK40 => ?_)
 refine Zf ?_
 refine Za rfl rfl rfl (Ze Xi rfl) ?_
 refine Za rfl rfl rfl (Zi Y4 rfl (Zgy _) hS hs0 trivial Zaf) ?_
 obtain ⟨r41, hm42, H⟩ := bind_some H
 refine Zo rfl rfl rfl rfl (by kernel_rfl) rfl (Zaw x0.snap _ hm42) ?_
 rintro e w ⟨rfl, hN⟩; refine ⟨_, rfl, ?_⟩; obtain ⟨hB, hS⟩ := hS.jn hN
 refine Zc 1 rfl ?_
 refine Zu 125 rfl (fun hb => ?_) (fun hb => ?_)
 rotate_left
 ·replace H := Zp H hb
  refine Zc 6 rfl ?_
  refine Zg ?_
  refine Zb hK40 ?_
  refine Zk ?_
  refine Zj ?_
  refine Zl rfl (RV.tmp rfl RV.nil) rfl ?_
  obtain rfl := QJ H
  replace hS := hS.cut 0
  exact ⟨rfl, hS⟩
 replace H := Zq H hb
 refine Za rfl rfl rfl (Ze Xi rfl) ?_
 refine Za rfl rfl rfl (Ze Yi rfl) ?_
 refine Za rfl rfl rfl (Zh Z0 rfl (Zgy _) hS hs0 trivial Zbc) ?_
 refine Za rfl rfl rfl (Xa rfl rfl) ?_
 refine Zc 2 rfl ?_
 refine Zg ?_
 refine Zb hK40 ?_
 refine Zk ?_
 refine Zj ?_
 refine Zl rfl (RV.tmp rfl RV.nil) rfl ?_
 obtain rfl := QJ H
 replace hS := hS.cut 0
 exact ⟨rfl, hS⟩
theorem c_ref12_Same (x0 : Tu) (x1 : Tu) (A0_ : OA) (c0_ : Nat) (A1_ : OA) (c1_ : Nat) (w0 : World) (s0_ : SlI w0 Jv A0_ c0_ x0.log) (s1_ : SlI w0 Jv A1_ c1_ x1.log) {r : Bool} (H : Zdl x0 x1 = some r) : Calls Try.prog 23 #[.agg #[.int .i64 x0.snap.index, .int .i64 x0.snap.term, .int .i64 x0.snap.sum, .int .i64 x0.snap.level, .bool x0.snap.final, .slice A0_ x0.log.length c0_, .int .i64 x0.term, .int .i64 x0.vote], .agg #[.int .i64 x1.snap.index, .int .i64 x1.snap.term, .int .i64 x1.snap.sum, .int .i64 x1.snap.level, .bool x1.snap.final, .slice A1_ x1.log.length c1_, .int .i64 x1.term, .int .i64 x1.vote]] w0 fun e w' => e = .returned (.bool r) ∧ St0 All w0 w' [] := by
 unfold Zdl at H
 refine Y0 Try.func23 rfl Try.ntmps23 rfl ?_
 have hS := St0.start All w0
 refine Zd (fun K hK1 => ?_)
 refine Zf ?_
 refine Yd rfl rfl rfl CellsOf.agg hS (fun b2 w hS hB => ?_)
 refine Yd rfl rfl rfl CellsOf.agg hS (fun b4 w hS hB => ?_)
 refine Zc 1 rfl ?_
 refine Zg ?_
 refine Zb hK1 ?_
 refine Zd (fun K hK6 => ?_)
 refine Zf ?_
 refine Za rfl rfl rfl (Ze Xg rfl) ?_
 refine Za rfl rfl rfl (Zi Y4 rfl (Zgy _) hS Xr trivial Jl) ?_
 refine Za rfl rfl rfl (Ze Xg rfl) ?_
 refine Za rfl rfl rfl (Zi Y4 rfl (Zgy _) hS hs0 trivial Jl) ?_
 refine Za rfl rfl rfl (Zai (by kernel_rfl) rfl rfl (Za6 _ _ _ _ _ _ _ _ _ _)) ?_
 refine Zc 1 rfl ?_
 refine Zu 10 rfl (fun hb => ?_) (fun hb => ?_)
 rotate_left
 ·replace H := Zp H hb
  refine Zc 21 rfl ?_
  refine Zg ?_
  refine Zb hK6 ?_
  refine Zk ?_
  refine Zl rfl (RV.tmp rfl RV.nil) rfl ?_
  obtain rfl := QJ H
  replace hS := hS.cut 0
  exact ⟨rfl, hS⟩
 replace H := Zq H hb
 refine Za rfl rfl rfl (Ze Jb rfl) ?_
 refine Za rfl rfl rfl (Zh Z0 rfl (Zgy _) hS Xr trivial sg6_1) ?_
 refine Za rfl rfl rfl (Ze Jb rfl) ?_
 refine Za rfl rfl rfl (Zh Z0 rfl (Zgy _) hS hs0 trivial sg6_1) ?_
 refine Za rfl rfl rfl (Xo rfl rfl) ?_
 refine Zc 2 rfl ?_
 refine Zu 17 rfl (fun hb => ?_) (fun hb => ?_)
 rotate_left
 ·replace H := Zp H hb
  refine Zc 14 rfl ?_
  refine Zg ?_
  refine Zb hK6 ?_
  refine Zk ?_
  refine Zl rfl (RV.tmp rfl RV.nil) rfl ?_
  obtain rfl := QJ H
  replace hS := hS.cut 0
  exact ⟨rfl, hS⟩
 replace H := Zq H hb
 refine Za rfl rfl rfl (Ze J4 rfl) ?_
 refine Za rfl rfl rfl (Zh Z0 rfl (Zgy _) hS Xr trivial Zfd) ?_
 refine Za rfl rfl rfl (Ze J4 rfl) ?_
 refine Za rfl rfl rfl (Zh Z0 rfl (Zgy _) hS hs0 trivial Zfd) ?_
 refine Za rfl rfl rfl (Xo rfl rfl) ?_
 refine Zc 2 rfl ?_
 refine Zu 24 rfl (fun hb => ?_) (fun hb => ?_)
 rotate_left
 ·replace H := Zp H hb
  refine Zc 7 rfl ?_
  refine Zg ?_
  refine Zb hK6 ?_
  refine Zk ?_
  refine Zl rfl (RV.tmp rfl RV.nil) rfl ?_
  obtain rfl := QJ H
  replace hS := hS.cut 0
  exact ⟨rfl, hS⟩
 replace H := Zq H hb
 refine Za rfl rfl rfl (Ze Xz rfl) ?_
 refine Za rfl rfl rfl (Zh Xp rfl (Zgy _) hS Xr trivial Js) ?_
 refine Za rfl rfl rfl (Ze Xz rfl) ?_
 refine Za rfl rfl rfl (Zh Xp rfl (Zgy _) hS hs0 trivial Js) ?_
 obtain ⟨r7, hm8, H⟩ := bind_some H
 refine Zo rfl rfl rfl rfl (by kernel_rfl) rfl (c_ref06_Same x0.log x1.log A0_ c0_ A1_ c1_ _ (Zg1 s0_.k (hS.rd0 s0_.rd) (hS.blk0 s0_.blk)) (Zg1 s1_.k (hS.rd0 s1_.rd) (hS.blk0 s1_.blk)) hm8) ?_
 rintro e w ⟨rfl, hN⟩; refine ⟨_, rfl, ?_⟩; obtain ⟨hB, hS⟩ := hS.jn hN
 refine Zc 2 rfl ?_
 refine Zg ?_
 refine Zb hK6 ?_
 refine Zk ?_
 refine Zl rfl (RV.tmp rfl RV.nil) rfl ?_
 obtain rfl := QJ H
 replace hS := hS.cut 0
 exact ⟨rfl, hS⟩
theorem c_ref20_ints (x0 : List Int) (x1 : List Int) (A0_ : OA) (c0_ : Nat) (A1_ : OA) (c1_ : Nat) (w0 : World) (s0_ : SlI w0 V9 A0_ c0_ x0) (s1_ : SlI w0 V9 A1_ c1_ x1) {r : Bool} (H : Zbm x0 x1 = some r) : Calls Try.prog 51 #[.slice A0_ x0.length c0_, .slice A1_ x1.length c1_] w0 fun e w' => e = .returned (.bool r) ∧ St0 All w0 w' [] := by
 unfold Zbm at H
 refine Y0 Try.func51 rfl Try.ntmps51 rfl ?_
 have hS := St0.start All w0
 refine Zd (fun K hK1 => ?_)
 refine Zf ?_
 refine Zc 1 rfl ?_
 refine Zg ?_
 refine Zb hK1 ?_
 refine Zd (fun K hK2 => ?_)
 refine Zd (fun K hK3 => ?_)
 refine Zf ?_
 refine Zc 1 rfl ?_
 refine Za rfl rfl rfl (Yu Xm rfl) ?_
 refine Zc 1 rfl ?_
 refine Za rfl rfl rfl (Yu Xm rfl) ?_
 refine Za rfl rfl rfl (Y5 rfl rfl) ?_
 refine Zg ?_
 refine Zb hK3 ?_
 refine Zz rfl (fun hb => ?_) (fun hb => ?_)
 ·replace H := Zq H hb
  refine Zd (fun K hK4 => ?_)
  refine Zf ?_
  refine Zc 1 rfl ?_
  refine Zg ?_
  refine Zb hK4 ?_
  refine Zk ?_
  refine Zj ?_
  refine Zl rfl (RV.tmp rfl RV.nil) rfl ?_
  obtain rfl := QJ H
  replace hS := hS.cut 0
  exact ⟨rfl, hS⟩
 replace H := Zp H hb
 refine Zt ?_
 refine Zb hK2 ?_
 refine Zd (fun K hK5 => ?_)
 refine Zd (fun K hK6 => ?_)
 refine Zf ?_
 refine Zc 1 rfl ?_
 refine Zg ?_
 refine Zb hK6 ?_
 refine Yc ?_
 refine V0 (X := Nat × Bool × Int) (fun x => (0, .slice A0_ x0.length c0_) :: (1, .slice A1_ x1.length c1_) :: (4, .bool x.2.1) :: (5, .int .i64 x.2.2) :: []) (fun x w => St0 All w0 w ([]) ∧ J7 x0 x1 x.1 x.2.1 x.2.2 = some r) (fun x => x.1) (Xn, false, 0) (by repeat (first | exact Sub.nil | refine Sub.cons rfl ?_)) ⟨hS, H⟩ ?_
 rintro ⟨n, v7, v8⟩ w ⟨hS, H⟩
 dsimp only at hS H ⊢
 obtain _ | n := n
 ·have H0 : none = some r := H
  cases H0
 rw [J7] at H
 refine Zd (fun K hK9 => ?_)
 refine Zd (fun K hK10 => ?_)
 refine Zf ?_
 refine Zc 2 rfl ?_
 refine Za rfl rfl rfl (Yu Xm rfl) ?_
 refine Za rfl rfl rfl (Xh rfl rfl) ?_
 refine Zg ?_
 refine Zb hK10 ?_
 refine Zz rfl (fun hb => ?_) (fun hb => ?_)
 rotate_left
 ·replace H := Zp H hb
  refine Vj ?_
  refine Ya ?_
  refine Ya ?_
  refine Y3 ?_
  refine Zb hK5 ?_
  refine Zd (fun K hK20 => ?_)
  refine Zf ?_
  refine Zc 1 rfl ?_
  refine Zg ?_
  refine Zb hK20 ?_
  refine Zk ?_
  refine Zl rfl (RV.tmp rfl RV.nil) rfl ?_
  obtain rfl := QJ H
  replace hS := hS.cut 0
  exact ⟨rfl, hS⟩
 replace H := Zq H hb
 refine Zt ?_
 refine Zb hK9 ?_
 refine Zd (fun K hK11 => ?_)
 refine Yc ?_
 refine Zd (fun K hK12 => ?_)
 refine Yg 9 [] (fun _ _ => True) ⟨by kernel_rfl, by kernel_rfl⟩ hS (fun w hS hB => ?_)
 refine Zn [true, true, true, true, true, true, true, true, true] (by decide +kernel) PFC.h ?_
 refine LtK.put rfl rfl rfl (Zs rfl) ?_
 refine LtK.put rfl rfl rfl (Zs rfl) ?_
 obtain ⟨e13, hi15, H⟩ := bind_some H
 obtain ⟨j14, hi15a, hi15b, hi15c⟩ := Yw hi15
 refine LtK.put rfl rfl rfl (Y8 Xm rfl rfl hi15a hi15c (Rd.el (hS.rd0 s0_.rd) Yl hi15b)) ?_
 refine LtK.put rfl rfl rfl (X1 Z0 rfl (Zgz _) (Rd.el (hS.rd0 s0_.rd) Yl hi15b) rfl) ?_
 refine LtK.put rfl rfl rfl (Zs rfl) ?_
 refine LtK.put rfl rfl rfl (Zs rfl) ?_
 obtain ⟨e16, hi18, H⟩ := bind_some H
 obtain ⟨j17, hi18a, hi18b, hi18c⟩ := Yw hi18
 refine LtK.put rfl rfl rfl (Y8 Xm rfl rfl hi18a hi18c (Rd.el (hS.rd0 s1_.rd) Yl hi18b)) ?_
 refine LtK.put rfl rfl rfl (X1 Z0 rfl (Zgz _) (Rd.el (hS.rd0 s1_.rd) Yl hi18b) rfl) ?_
 refine LtK.put rfl rfl rfl (Y5 rfl rfl) ?_
 refine LtK.nil ?_
 refine Z6 (by kernel_rfl) ?_
 refine Zb hK12 ?_
 refine Zz rfl (fun hb => ?_) (fun hb => ?_)
 rotate_left
 ·replace H := Zp H hb
  refine Zt ?_
  refine Z2 ?_
  refine Zb hK11 ?_
  refine Zf ?_
  refine Zc 1 rfl ?_
  refine Za rfl rfl rfl (Xf rfl rfl) ?_
  refine Zc 1 rfl ?_
  refine Zg ?_
  exact Va (n, v7, (IntKind.wrap .i64 (v8 + 1))) (by repeat (first | exact Sub.nil | refine Sub.cons rfl ?_)) ⟨hS, H⟩ (Nat.lt_succ_self _)
 replace H := Zq H hb
 refine Zd (fun K hK19 => ?_)
 refine Zf ?_
 refine Zc 1 rfl ?_
 refine Zg ?_
 refine Zb hK19 ?_
 refine Zk ?_
 refine Zv ?_
 refine Zj ?_
 refine Zj ?_
 refine Zv ?_
 refine Zj ?_
 refine Zl rfl (RV.tmp rfl RV.nil) rfl ?_
 obtain rfl := QJ H
 replace hS := hS.cut 0
 exact ⟨rfl, hS⟩
theorem c_ref20_Same (x0 : Co) (x1 : Co) (A0_ : OA) (c0_ : Nat) (A1_ : OA) (c1_ : Nat) (A2_ : OA) (c2_ : Nat) (A3_ : OA) (c3_ : Nat) (A4_ : OA) (c4_ : Nat) (A5_ : OA) (c5_ : Nat) (A6_ : OA) (c6_ : Nat) (A7_ : OA) (c7_ : Nat) (A8_ : OA) (c8_ : Nat) (A9_ : OA) (c9_ : Nat) (w0 : World) (s0_ : SlI w0 Jv A0_ c0_ x0.tuple.log) (s1_ : SlI w0 enO A1_ c1_ x0.votes) (s2_ : SlI w0 V9 A2_ c2_ x0.next) (s3_ : SlI w0 V9 A3_ c3_ x0.mtch) (s4_ : SlI w0 V9 A4_ c4_ x0.caps) (s5_ : SlI w0 Jv A5_ c5_ x1.tuple.log) (s6_ : SlI w0 enO A6_ c6_ x1.votes) (s7_ : SlI w0 V9 A7_ c7_ x1.next) (s8_ : SlI w0 V9 A8_ c8_ x1.mtch) (s9_ : SlI w0 V9 A9_ c9_ x1.caps) {r : Bool} (H : Zbn x0 x1 = some r) : Calls Try.prog 20 #[.agg #[.int .i64 x0.id, .int .i64 x0.n, .int .u8 x0.role, .int .i64 x0.binary, .int .i64 x0.tuple.snap.index, .int .i64 x0.tuple.snap.term, .int .i64 x0.tuple.snap.sum, .int .i64 x0.tuple.snap.level, .bool x0.tuple.snap.final, .slice A0_ x0.tuple.log.length c0_, .int .i64 x0.tuple.term, .int .i64 x0.tuple.vote, .int .i64 x0.commit, .int .i64 x0.applied.index, .int .i64 x0.applied.term, .int .i64 x0.applied.sum, .int .i64 x0.applied.level, .bool x0.applied.final, .slice A1_ x0.votes.length c1_, .slice A2_ x0.next.length c2_, .slice A3_ x0.mtch.length c3_, .slice A4_ x0.caps.length c4_], .agg #[.int .i64 x1.id, .int .i64 x1.n, .int .u8 x1.role, .int .i64 x1.binary, .int .i64 x1.tuple.snap.index, .int .i64 x1.tuple.snap.term, .int .i64 x1.tuple.snap.sum, .int .i64 x1.tuple.snap.level, .bool x1.tuple.snap.final, .slice A5_ x1.tuple.log.length c5_, .int .i64 x1.tuple.term, .int .i64 x1.tuple.vote, .int .i64 x1.commit, .int .i64 x1.applied.index, .int .i64 x1.applied.term, .int .i64 x1.applied.sum, .int .i64 x1.applied.level, .bool x1.applied.final, .slice A6_ x1.votes.length c6_, .slice A7_ x1.next.length c7_, .slice A8_ x1.mtch.length c8_, .slice A9_ x1.caps.length c9_]] w0 fun e w' => e = .returned (.bool r) ∧ St0 All w0 w' [] := by
 unfold Zbn at H
 refine Y0 Try.func20 rfl Try.ntmps20 rfl ?_
 have hS := St0.start All w0
 refine Zd (fun K hK1 => ?_)
 refine Zf ?_
 refine Yd rfl rfl rfl CellsOf.agg hS (fun b2 w hS hB => ?_)
 refine Yd rfl rfl rfl CellsOf.agg hS (fun b4 w hS hB => ?_)
 refine Zc 1 rfl ?_
 refine Zg ?_
 refine Zb hK1 ?_
 refine Zd (fun K hK6 => ?_)
 refine Zd (fun K hK7 => ?_)
 refine Zf ?_
 refine Za rfl rfl rfl (Ze Zay rfl) ?_
 refine Za rfl rfl rfl (Zh Z0 rfl (Zgy _) hS Xr trivial Y7) ?_
 refine Za rfl rfl rfl (Ze Zay rfl) ?_
 refine Za rfl rfl rfl (Zh Z0 rfl (Zgy _) hS hs0 trivial Y7) ?_
 refine Za rfl rfl rfl (Y5 rfl rfl) ?_
 refine Zc 1 rfl ?_
 refine Zu 11 rfl (fun hb => ?_) (fun hb => ?_)
 ·replace H := Zq H hb
  refine Zc 51 rfl ?_
  refine Zg ?_
  refine Zb hK7 ?_
  refine Zr rfl rfl ?_
  refine Zd (fun K hK8 => ?_)
  refine Zf ?_
  refine Zc 1 rfl ?_
  refine Zg ?_
  refine Zb hK8 ?_
  refine Zk ?_
  refine Zj ?_
  refine Zl rfl (RV.tmp rfl RV.nil) rfl ?_
  obtain rfl := QJ H
  replace hS := hS.cut 0
  exact ⟨rfl, hS⟩
 replace H := Zp H hb
 refine Za rfl rfl rfl (Ze Jc rfl) ?_
 refine Za rfl rfl rfl (Zh Z0 rfl (Zgy _) hS Xr trivial Vo) ?_
 refine Za rfl rfl rfl (Ze Jc rfl) ?_
 refine Za rfl rfl rfl (Zh Z0 rfl (Zgy _) hS hs0 trivial Vo) ?_
 refine Za rfl rfl rfl (Y5 rfl rfl) ?_
 refine Zc 2 rfl ?_
 refine Zu 18 rfl (fun hb => ?_) (fun hb => ?_)
 ·replace H := Zq H hb
  refine Zc 44 rfl ?_
  refine Zg ?_
  refine Zb hK7 ?_
  refine Zr rfl rfl ?_
  refine Zd (fun K hK9 => ?_)
  refine Zf ?_
  refine Zc 1 rfl ?_
  refine Zg ?_
  refine Zb hK9 ?_
  refine Zk ?_
  refine Zj ?_
  refine Zl rfl (RV.tmp rfl RV.nil) rfl ?_
  obtain rfl := QJ H
  replace hS := hS.cut 0
  exact ⟨rfl, hS⟩
 replace H := Zp H hb
 refine Za rfl rfl rfl (Ze Zcj rfl) ?_
 refine Za rfl rfl rfl (Zh Zbs rfl (Zgy _) hS Xr trivial Zbk) ?_
 refine Za rfl rfl rfl (Ze Zcj rfl) ?_
 refine Za rfl rfl rfl (Zh Zbs rfl (Zgy _) hS hs0 trivial Zbk) ?_
 refine Za rfl rfl rfl (Y5 rfl rfl) ?_
 refine Zc 2 rfl ?_
 refine Zu 25 rfl (fun hb => ?_) (fun hb => ?_)
 ·replace H := Zq H hb
  refine Zc 37 rfl ?_
  refine Zg ?_
  refine Zb hK7 ?_
  refine Zr rfl rfl ?_
  refine Zd (fun K hK10 => ?_)
  refine Zf ?_
  refine Zc 1 rfl ?_
  refine Zg ?_
  refine Zb hK10 ?_
  refine Zk ?_
  refine Zj ?_
  refine Zl rfl (RV.tmp rfl RV.nil) rfl ?_
  obtain rfl := QJ H
  replace hS := hS.cut 0
  exact ⟨rfl, hS⟩
 replace H := Zp H hb
 refine Za rfl rfl rfl (Ze Zed rfl) ?_
 refine Za rfl rfl rfl (Zh Z0 rfl (Zgy _) hS Xr trivial Zbd) ?_
 refine Za rfl rfl rfl (Ze Zed rfl) ?_
 refine Za rfl rfl rfl (Zh Z0 rfl (Zgy _) hS hs0 trivial Zbd) ?_
 refine Za rfl rfl rfl (Y5 rfl rfl) ?_
 refine Zc 2 rfl ?_
 refine Zu 32 rfl (fun hb => ?_) (fun hb => ?_)
 ·replace H := Zq H hb
  refine Zc 30 rfl ?_
  refine Zg ?_
  refine Zb hK7 ?_
  refine Zr rfl rfl ?_
  refine Zd (fun K hK11 => ?_)
  refine Zf ?_
  refine Zc 1 rfl ?_
  refine Zg ?_
  refine Zb hK11 ?_
  refine Zk ?_
  refine Zj ?_
  refine Zl rfl (RV.tmp rfl RV.nil) rfl ?_
  obtain rfl := QJ H
  replace hS := hS.cut 0
  exact ⟨rfl, hS⟩
 replace H := Zp H hb
 refine Za rfl rfl rfl (Ze Yz rfl) ?_
 refine Za rfl rfl rfl (Zi Yr rfl (Zgy _) hS Xr trivial Jw) ?_
 refine Za rfl rfl rfl (Ze Yz rfl) ?_
 refine Za rfl rfl rfl (Zi Yr rfl (Zgy _) hS hs0 trivial Jw) ?_
 obtain ⟨r12, hm13, H⟩ := bind_some H
 refine Zo rfl rfl rfl rfl (by kernel_rfl) rfl (c_ref12_Same x0.tuple x1.tuple A0_ c0_ A5_ c5_ _ (Zg1 s0_.k (hS.rd0 s0_.rd) (hS.blk0 s0_.blk)) (Zg1 s5_.k (hS.rd0 s5_.rd) (hS.blk0 s5_.blk)) hm13) ?_
 rintro e w ⟨rfl, hN⟩; refine ⟨_, rfl, ?_⟩; obtain ⟨hB, hS⟩ := hS.jn hN
 refine Za rfl rfl rfl (Yt rfl) ?_
 refine Zc 2 rfl ?_
 refine Zu 40 rfl (fun hb => ?_) (fun hb => ?_)
 ·replace H := Zq H hb
  refine Zc 22 rfl ?_
  refine Zg ?_
  refine Zb hK7 ?_
  refine Zr rfl rfl ?_
  refine Zd (fun K hK14 => ?_)
  refine Zf ?_
  refine Zc 1 rfl ?_
  refine Zg ?_
  refine Zb hK14 ?_
  refine Zk ?_
  refine Zj ?_
  refine Zl rfl (RV.tmp rfl RV.nil) rfl ?_
  obtain rfl := QJ H
  replace hS := hS.cut 0
  exact ⟨rfl, hS⟩
 replace H := Zp H hb
 refine Za rfl rfl rfl (Ze V5 rfl) ?_
 refine Za rfl rfl rfl (Zh Z0 rfl (Zgy _) hS Xr trivial Zbe) ?_
 refine Za rfl rfl rfl (Ze V5 rfl) ?_
 refine Za rfl rfl rfl (Zh Z0 rfl (Zgy _) hS hs0 trivial Zbe) ?_
 refine Za rfl rfl rfl (Y5 rfl rfl) ?_
 refine Zc 2 rfl ?_
 refine Zu 47 rfl (fun hb => ?_) (fun hb => ?_)
 ·replace H := Zq H hb
  refine Zc 15 rfl ?_
  refine Zg ?_
  refine Zb hK7 ?_
  refine Zr rfl rfl ?_
  refine Zd (fun K hK15 => ?_)
  refine Zf ?_
  refine Zc 1 rfl ?_
  refine Zg ?_
  refine Zb hK15 ?_
  refine Zk ?_
  refine Zj ?_
  refine Zl rfl (RV.tmp rfl RV.nil) rfl ?_
  obtain rfl := QJ H
  replace hS := hS.cut 0
  exact ⟨rfl, hS⟩
 replace H := Zp H hb
 refine Za rfl rfl rfl (Ze Zef rfl) ?_
 refine Za rfl rfl rfl (Zi Y4 rfl (Zgy _) hS Xr trivial sg13_5) ?_
 refine Za rfl rfl rfl (Ze Zef rfl) ?_
 refine Za rfl rfl rfl (Zi Y4 rfl (Zgy _) hS hs0 trivial sg13_5) ?_
 refine Za rfl rfl rfl (yv_neqS (by kernel_rfl) rfl rfl (Za6 _ _ _ _ _ _ _ _ _ _)) ?_
 refine Zc 2 rfl ?_
 refine Zu 54 rfl (fun hb => ?_) (fun hb => ?_)
 ·replace H := Zq H hb
  refine Zc 8 rfl ?_
  refine Zg ?_
  refine Zb hK7 ?_
  refine Zr rfl rfl ?_
  refine Zd (fun K hK16 => ?_)
  refine Zf ?_
  refine Zc 1 rfl ?_
  refine Zg ?_
  refine Zb hK16 ?_
  refine Zk ?_
  refine Zj ?_
  refine Zl rfl (RV.tmp rfl RV.nil) rfl ?_
  obtain rfl := QJ H
  replace hS := hS.cut 0
  exact ⟨rfl, hS⟩
 replace H := Zp H hb
 refine Za rfl rfl rfl (Ze Zb2 rfl) ?_
 refine Za rfl rfl rfl (Zh sc_27 rfl (Zgy _) hS Xr trivial Zgj) ?_
 refine Za rfl rfl rfl (Yu el_27 rfl) ?_
 refine Za rfl rfl rfl (Ze Zb2 rfl) ?_
 refine Za rfl rfl rfl (Zh sc_27 rfl (Zgy _) hS hs0 trivial Zgj) ?_
 refine Za rfl rfl rfl (Yu el_27 rfl) ?_
 refine Za rfl rfl rfl (Y5 rfl rfl) ?_
 refine Zc 1 rfl ?_
 refine Zg ?_
 refine Zb hK7 ?_
 refine Zz rfl (fun hb => ?_) (fun hb => ?_)
 ·replace H := Zq H hb
  refine Zd (fun K hK17 => ?_)
  refine Zf ?_
  refine Zc 1 rfl ?_
  refine Zg ?_
  refine Zb hK17 ?_
  refine Zk ?_
  refine Zj ?_
  refine Zl rfl (RV.tmp rfl RV.nil) rfl ?_
  obtain rfl := QJ H
  replace hS := hS.cut 0
  exact ⟨rfl, hS⟩
 replace H := Zp H hb
 refine Zt ?_
 refine Zb hK6 ?_
 refine Zd (fun K hK18 => ?_)
 refine Zd (fun K hK19 => ?_)
 refine Zf ?_
 refine Zc 1 rfl ?_
 refine Zg ?_
 refine Zb hK19 ?_
 refine Yc ?_
 refine V0 (X := Nat × Bool × Int) (fun x => (2, .pointer (some ⟨b2, 0, none⟩)) :: (3, .pointer (some ⟨b4, 0, none⟩)) :: (4, .bool x.2.1) :: (5, .int .i64 x.2.2) :: []) (fun x w => St0 All w0 w (.box b4 [.int .i64 x1.id, .int .i64 x1.n, .int .u8 x1.role, .int .i64 x1.binary, .int .i64 x1.tuple.snap.index, .int .i64 x1.tuple.snap.term, .int .i64 x1.tuple.snap.sum, .int .i64 x1.tuple.snap.level, .bool x1.tuple.snap.final, .slice A5_ x1.tuple.log.length c5_, .int .i64 x1.tuple.term, .int .i64 x1.tuple.vote, .int .i64 x1.commit, .int .i64 x1.applied.index, .int .i64 x1.applied.term, .int .i64 x1.applied.sum, .int .i64 x1.applied.level, .bool x1.applied.final, .slice A6_ x1.votes.length c6_, .slice A7_ x1.next.length c7_, .slice A8_ x1.mtch.length c8_, .slice A9_ x1.caps.length c9_] 30 :: .box b2 [.int .i64 x0.id, .int .i64 x0.n, .int .u8 x0.role, .int .i64 x0.binary, .int .i64 x0.tuple.snap.index, .int .i64 x0.tuple.snap.term, .int .i64 x0.tuple.snap.sum, .int .i64 x0.tuple.snap.level, .bool x0.tuple.snap.final, .slice A0_ x0.tuple.log.length c0_, .int .i64 x0.tuple.term, .int .i64 x0.tuple.vote, .int .i64 x0.commit, .int .i64 x0.applied.index, .int .i64 x0.applied.term, .int .i64 x0.applied.sum, .int .i64 x0.applied.level, .bool x0.applied.final, .slice A1_ x0.votes.length c1_, .slice A2_ x0.next.length c2_, .slice A3_ x0.mtch.length c3_, .slice A4_ x0.caps.length c4_] 30 :: []) ∧ J5 x0 x1 x.1 x.2.1 x.2.2 = some r) (fun x => x.1) (Xn, false, 0) (by repeat (first | exact Sub.nil | refine Sub.cons rfl ?_)) ⟨hS, H⟩ ?_
 rintro ⟨n, v20, v21⟩ w ⟨hS, H⟩
 dsimp only at hS H ⊢
 obtain _ | n := n
 ·have H0 : none = some r := H
  cases H0
 rw [J5] at H
 refine Zd (fun K hK22 => ?_)
 refine Zd (fun K hK23 => ?_)
 refine Zf ?_
 refine Zc 1 rfl ?_
 refine Za rfl rfl rfl (Ze Zb2 rfl) ?_
 refine Za rfl rfl rfl (Zh sc_27 rfl (Zgy _) hS Xr trivial Zgj) ?_
 refine Za rfl rfl rfl (Yu el_27 rfl) ?_
 refine Za rfl rfl rfl (Xh rfl rfl) ?_
 refine Zg ?_
 refine Zb hK23 ?_
 refine Zz rfl (fun hb => ?_) (fun hb => ?_)
 ·replace H := Zq H hb
  refine Zt ?_
  refine Zb hK22 ?_
  refine Zd (fun K hK24 => ?_)
  refine Yc ?_
  refine Zd (fun K hK25 => ?_)
  refine Yg 11 [] (fun _ _ => True) ⟨by kernel_rfl, by kernel_rfl⟩ hS (fun w hS hB => ?_)
  refine Zn [true, true, true, true, true, true, true, true, true, true, true] (by decide +kernel) PFC.h ?_
  refine LtK.put rfl rfl rfl (Ze Zb2 rfl) ?_
  refine LtK.put rfl rfl rfl (Zh sc_27 rfl (Zgz _) hS Xr trivial Zgj) ?_
  refine LtK.put rfl rfl rfl (Zs rfl) ?_
  obtain ⟨e26, hi28, H⟩ := bind_some H
  obtain ⟨j27, hi28a, hi28b, hi28c⟩ := Yw hi28
  refine LtK.put rfl rfl rfl (Y8 el_27 rfl rfl hi28a hi28c (Rd.el (hS.rd0 s1_.rd) he_enO hi28b)) ?_
  refine LtK.put rfl rfl rfl (X1 sc_4 rfl (Zgz _) (Rd.el (hS.rd0 s1_.rd) he_enO hi28b) rfl) ?_
  refine LtK.put rfl rfl rfl (Ze Zb2 rfl) ?_
  refine LtK.put rfl rfl rfl (Zh sc_27 rfl (Zgz _) hS hs0 trivial Zgj) ?_
  refine LtK.put rfl rfl rfl (Zs rfl) ?_
  obtain ⟨e29, hi31, H⟩ := bind_some H
  obtain ⟨j30, hi31a, hi31b, hi31c⟩ := Yw hi31
  refine LtK.put rfl rfl rfl (Y8 el_27 rfl rfl hi31a hi31c (Rd.el (hS.rd0 s6_.rd) he_enO hi31b)) ?_
  refine LtK.put rfl rfl rfl (X1 sc_4 rfl (Zgz _) (Rd.el (hS.rd0 s6_.rd) he_enO hi31b) rfl) ?_
  refine LtK.put rfl rfl rfl (yv_neqB (by kernel_rfl) rfl rfl) ?_
  refine LtK.nil ?_
  refine Z6 (by kernel_rfl) ?_
  refine Zb hK25 ?_
  refine Zz rfl (fun hb => ?_) (fun hb => ?_)
  rotate_left
  ·replace H := Zp H hb
   refine Zt ?_
   refine Z2 ?_
   refine Zb hK24 ?_
   refine Zf ?_
   refine Zc 1 rfl ?_
   refine Za rfl rfl rfl (Xf rfl rfl) ?_
   refine Zc 1 rfl ?_
   refine Zg ?_
   exact Va (n, v20, (IntKind.wrap .i64 (v21 + 1))) (by repeat (first | exact Sub.nil | refine Sub.cons rfl ?_)) ⟨hS, H⟩ (Nat.lt_succ_self _)
  replace H := Zq H hb
  refine Zd (fun K hK32 => ?_)
  refine Zf ?_
  refine Zc 1 rfl ?_
  refine Zg ?_
  refine Zb hK32 ?_
  refine Zk ?_
  refine Zv ?_
  refine Zj ?_
  refine Zj ?_
  refine Zv ?_
  refine Zj ?_
  refine Zl rfl (RV.tmp rfl RV.nil) rfl ?_
  obtain rfl := QJ H
  replace hS := hS.cut 0
  exact ⟨rfl, hS⟩
 replace H := Zp H hb
 refine Vj ?_
 refine Ya ?_
 refine Ya ?_
 refine Y3 ?_
 refine Zb hK18 ?_
 refine Zd (fun K hK33 => ?_)
 refine Zf ?_
 refine Za rfl rfl rfl (Ze Vm rfl) ?_
 refine Za rfl rfl rfl (Zh Xt rfl (Zgy _) hS Xr trivial Jz) ?_
 refine Za rfl rfl rfl (Ze Vm rfl) ?_
 refine Za rfl rfl rfl (Zh Xt rfl (Zgy _) hS hs0 trivial Jz) ?_
 obtain ⟨r34, hm35, H⟩ := bind_some H
 refine Zo rfl rfl rfl rfl (by kernel_rfl) rfl (c_ref20_ints x0.next x1.next A2_ c2_ A7_ c7_ _ (Zg1 s2_.k (hS.rd0 s2_.rd) (hS.blk0 s2_.blk)) (Zg1 s7_.k (hS.rd0 s7_.rd) (hS.blk0 s7_.blk)) hm35) ?_
 rintro e w ⟨rfl, hN⟩; refine ⟨_, rfl, ?_⟩; obtain ⟨hB, hS⟩ := hS.jn hN
 refine Zc 1 rfl ?_
 refine Zu 86 rfl (fun hb => ?_) (fun hb => ?_)
 rotate_left
 ·replace H := Zp H hb
  refine Zc 14 rfl ?_
  refine Zg ?_
  refine Zb hK33 ?_
  refine Zk ?_
  refine Zl rfl (RV.tmp rfl RV.nil) rfl ?_
  obtain rfl := QJ H
  replace hS := hS.cut 0
  exact ⟨rfl, hS⟩
 replace H := Zq H hb
 refine Za rfl rfl rfl (Ze V3 rfl) ?_
 refine Za rfl rfl rfl (Zh Xt rfl (Zgy _) hS Xr trivial Zat) ?_
 refine Za rfl rfl rfl (Ze V3 rfl) ?_
 refine Za rfl rfl rfl (Zh Xt rfl (Zgy _) hS hs0 trivial Zat) ?_
 obtain ⟨r36, hm37, H⟩ := bind_some H
 refine Zo rfl rfl rfl rfl (by kernel_rfl) rfl (c_ref20_ints x0.mtch x1.mtch A3_ c3_ A8_ c8_ _ (Zg1 s3_.k (hS.rd0 s3_.rd) (hS.blk0 s3_.blk)) (Zg1 s8_.k (hS.rd0 s8_.rd) (hS.blk0 s8_.blk)) hm37) ?_
 rintro e w ⟨rfl, hN⟩; refine ⟨_, rfl, ?_⟩; obtain ⟨hB, hS⟩ := hS.jn hN
 refine Zc 2 rfl ?_
 refine Zu 93 rfl (fun hb => ?_) (fun hb => ?_)
 rotate_left
 ·replace H := Zp H hb
  refine Zc 7 rfl ?_
  refine Zg ?_
  refine Zb hK33 ?_
  refine Zk ?_
  refine Zl rfl (RV.tmp rfl RV.nil) rfl ?_
  obtain rfl := QJ H
  replace hS := hS.cut 0
  exact ⟨rfl, hS⟩
 replace H := Zq H hb
 refine Za rfl rfl rfl (Ze Zaa rfl) ?_
 refine Za rfl rfl rfl (Zh Xt rfl (Zgy _) hS Xr trivial Zdr) ?_
 refine Za rfl rfl rfl (Ze Zaa rfl) ?_
 refine Za rfl rfl rfl (Zh Xt rfl (Zgy _) hS hs0 trivial Zdr) ?_
 obtain ⟨r38, hm39, H⟩ := bind_some H
 refine Zo rfl rfl rfl rfl (by kernel_rfl) rfl (c_ref20_ints x0.caps x1.caps A4_ c4_ A9_ c9_ _ (Zg1 s4_.k (hS.rd0 s4_.rd) (hS.blk0 s4_.blk)) (Zg1 s9_.k (hS.rd0 s9_.rd) (hS.blk0 s9_.blk)) hm39) ?_
 rintro e w ⟨rfl, hN⟩; refine ⟨_, rfl, ?_⟩; obtain ⟨hB, hS⟩ := hS.jn hN
 refine Zc 2 rfl ?_
 refine Zg ?_
 refine Zb hK33 ?_
 refine Zk ?_
 refine Zl rfl (RV.tmp rfl RV.nil) rfl ?_
 obtain rfl := QJ H
 replace hS := hS.cut 0
 exact ⟨rfl, hS⟩
theorem c_ref12_At (x0 : Tu) (x1 : Int) (A0_ : OA) (c0_ : Nat) (w0 : World) (s0_ : SlI w0 Jv A0_ c0_ x0.log) {r : En × Bool} (H : Zb9 x0 x1 = some r) : Calls Try.prog 25 #[.agg #[.int .i64 x0.snap.index, .int .i64 x0.snap.term, .int .i64 x0.snap.sum, .int .i64 x0.snap.level, .bool x0.snap.final, .slice A0_ x0.log.length c0_, .int .i64 x0.term, .int .i64 x0.vote], .int .i64 x1] w0 fun e w' => e = .returned (.tuple #[.agg #[.int .i64 r.1.term, .int .i64 r.1.kind, .int .i64 r.1.value], .bool r.2]) ∧ St0 All w0 w' [] := by
 unfold Zb9 at H
 refine Y0 Try.func25 rfl Try.ntmps25 rfl ?_
 have hS := St0.start All w0
 refine Zd (fun K hK1 => ?_)
 refine Zf ?_
 refine Yd rfl rfl rfl CellsOf.agg hS (fun b2 w hS hB => ?_)
 refine Yb rfl rfl Zb6 hS (fun b4 w hS hB => ?_)
 refine Zc 1 rfl ?_
 refine Zg ?_
 refine Zb hK1 ?_
 refine Zd (fun K hK6 => ?_)
 refine Zd (fun K hK7 => ?_)
 refine Zf ?_
 refine Zc 1 rfl ?_
 refine Za rfl rfl rfl (Ze Xg rfl) ?_
 refine Za rfl rfl rfl (Ze Yi rfl) ?_
 refine Za rfl rfl rfl (Zh Z0 rfl (Zgy _) hS Xr trivial Y7) ?_
 refine Za rfl rfl rfl (Zah rfl rfl) ?_
 refine Zc 1 rfl ?_
 refine Zu 11 rfl (fun hb => ?_) (fun hb => ?_)
 ·replace H := Zq H hb
  refine Zc 5 rfl ?_
  refine Zg ?_
  refine Zb hK7 ?_
  refine Zr rfl rfl ?_
  refine Zd (fun K hK8 => ?_)
  refine Zf ?_
  refine Za rfl rfl rfl (Xw (cells := [.int .i64 0, .int .i64 0, .int .i64 0]) rfl (by kernel_rfl)) ?_
  refine Zm rfl rfl rfl CellsOf.agg hS ps0 Zft (by kernel_rfl) rfl (fun w hS hB => ?_)
  refine Zc 1 rfl ?_
  refine Zg ?_
  refine Zb hK8 ?_
  refine Zk ?_
  refine Zj ?_
  refine Zl rfl (RV.cell rfl (Zx V7 hS hs0 Zbv) (RV.tmp rfl RV.nil)) rfl ?_
  obtain rfl := QJ H
  replace hS := hS.cut 0
  exact ⟨rfl, hS⟩
 replace H := Zp H hb
 refine Zc 1 rfl ?_
 refine Za rfl rfl rfl (Zi Yr rfl (Zgy _) hS Xr trivial Vl) ?_
 obtain ⟨r9, hm10, H⟩ := bind_some H
 refine Zo rfl rfl rfl rfl (by kernel_rfl) rfl (Zag x0 A0_ c0_ _ (Zg1 s0_.k (hS.rd0 s0_.rd) (hS.blk0 s0_.blk)) hm10) ?_
 rintro e w ⟨rfl, hN⟩; refine ⟨_, rfl, ?_⟩; obtain ⟨hB, hS⟩ := hS.jn hN
 refine Za rfl rfl rfl (Xa rfl rfl) ?_
 refine Zc 1 rfl ?_
 refine Zg ?_
 refine Zb hK7 ?_
 refine Zz rfl (fun hb => ?_) (fun hb => ?_)
 ·replace H := Zq H hb
  refine Zd (fun K hK11 => ?_)
  refine Zf ?_
  refine Za rfl rfl rfl (Xw (cells := [.int .i64 0, .int .i64 0, .int .i64 0]) rfl (by kernel_rfl)) ?_
  refine Zm rfl rfl rfl CellsOf.agg hS ps0 Zft (by kernel_rfl) rfl (fun w hS hB => ?_)
  refine Zc 1 rfl ?_
  refine Zg ?_
  refine Zb hK11 ?_
  refine Zk ?_
  refine Zj ?_
  refine Zl rfl (RV.cell rfl (Zx V7 hS hs0 Zbv) (RV.tmp rfl RV.nil)) rfl ?_
  obtain rfl := QJ H
  replace hS := hS.cut 0
  exact ⟨rfl, hS⟩
 replace H := Zp H hb
 refine Zt ?_
 refine Zb hK6 ?_
 refine Zd (fun K hK12 => ?_)
 refine Zf ?_
 refine Za rfl rfl rfl (Ze Xz rfl) ?_
 refine Za rfl rfl rfl (Zh Xp rfl (Zgy _) hS Xr trivial Js) ?_
 refine Zc 1 rfl ?_
 refine Za rfl rfl rfl (Ze Xg rfl) ?_
 refine Za rfl rfl rfl (Ze Yi rfl) ?_
 refine Za rfl rfl rfl (Zh Z0 rfl (Zgy _) hS Xr trivial Y7) ?_
 refine Za rfl rfl rfl (J0 rfl rfl) ?_
 refine Za rfl rfl rfl (J0 rfl rfl) ?_
 obtain ⟨e13, hi15, H⟩ := bind_some H
 obtain ⟨j14, hi15a, hi15b, hi15c⟩ := Yw hi15
 refine Za rfl rfl rfl (Y8 Y6 rfl rfl hi15a hi15c (Rd.el (hS.rd0 s0_.rd) X5 hi15b)) ?_
 refine Za rfl rfl rfl (Ze6 V7 rfl (Zgy _) (Rd.el (hS.rd0 s0_.rd) X5 hi15b) Zbv) ?_
 refine Zm rfl rfl rfl CellsOf.agg hS ps0 Zft (by kernel_rfl) rfl (fun w hS hB => ?_)
 refine Zc 1 rfl ?_
 refine Zg ?_
 refine Zb hK12 ?_
 refine Zk ?_
 refine Zl rfl (RV.cell rfl (Zx V7 hS hs0 Zbv) (RV.tmp rfl RV.nil)) rfl ?_
 obtain rfl := QJ H
 replace hS := hS.cut 0
 exact ⟨rfl, hS⟩
theorem c_repl_from (x0 : Tu) (x1 : Int) (x2 : Int) (A0_ : OA) (c0_ : Nat) (w0 : World) (s0_ : SlI w0 Jv A0_ c0_ x0.log) : Calls Try.prog 58 #[.agg #[.int .i64 x0.snap.index, .int .i64 x0.snap.term, .int .i64 x0.snap.sum, .int .i64 x0.snap.level, .bool x0.snap.final, .slice A0_ x0.log.length c0_, .int .i64 x0.term, .int .i64 x0.vote], .int .i64 x1, .int .i64 x2] w0 fun e w' => ∃ (b0_ : Nat) (b1_ : Nat) (b2_ : Nat), e = .returned (.func (.func 94) #[] #[.pointer (some ⟨b0_, 0, none⟩), .pointer (some ⟨b1_, 0, none⟩), .pointer (some ⟨b2_, 0, none⟩)]) ∧ St0 All w0 w' [.box b0_ [.int .i64 x0.snap.index, .int .i64 x0.snap.term, .int .i64 x0.snap.sum, .int .i64 x0.snap.level, .bool x0.snap.final, .slice A0_ x0.log.length c0_, .int .i64 x0.term, .int .i64 x0.vote] 26, .box b1_ [.int .i64 x1] 3, .box b2_ [.int .i64 x2] 3] := by
 refine Zao Try.func58 rfl Try.ntmps58 rfl ?_
 have hS := St0.start All w0
 refine Zd (fun K hK1 => ?_)
 refine Zf ?_
 refine Yd rfl rfl rfl CellsOf.agg hS (fun b2 w hS hB => ?_)
 refine Yd rfl rfl rfl CellsOf.int hS (fun b4 w hS hB => ?_)
 refine Yd rfl rfl rfl CellsOf.int hS (fun b6 w hS hB => ?_)
 refine Zc 1 rfl ?_
 refine Zg ?_
 refine Zb hK1 ?_
 refine Zd (fun K hK8 => ?_)
 refine Zf ?_
 refine Za rfl rfl rfl (X4 rfl rfl) ?_
 refine Zc 1 rfl ?_
 refine Zg ?_
 refine Zb hK8 ?_
 refine Zk ?_
 refine Zl rfl (RV.tmp rfl RV.nil) rfl ?_
 have hS := hS.front 0 rfl
 have hS := hS.front 1 rfl
 have hS := hS.front 2 rfl
 exact ⟨b2, b4, b6, rfl, hS.sub (List.Sublist.cons_cons _ (List.Sublist.cons_cons _ (List.Sublist.cons_cons _ List.Sublist.slnil)))⟩
theorem Zdp (x0 : Co) (x1 : Int) (A0_ : OA) (c0_ : Nat) (A1_ : OA) (c1_ : Nat) (A2_ : OA) (c2_ : Nat) (A3_ : OA) (c3_ : Nat) (A4_ : OA) (c4_ : Nat) (w0 : World) (s0_ : SlI w0 Jv A0_ c0_ x0.tuple.log) (s1_ : SlI w0 enO A1_ c1_ x0.votes) (s2_ : SlI w0 V9 A2_ c2_ x0.next) (s3_ : SlI w0 V9 A3_ c3_ x0.mtch) (s4_ : SlI w0 V9 A4_ c4_ x0.caps) {r : Ms × Bool} (H : X6 x0 x1 = some r) : Calls Try.prog 27 #[.agg #[.int .i64 x0.id, .int .i64 x0.n, .int .u8 x0.role, .int .i64 x0.binary, .int .i64 x0.tuple.snap.index, .int .i64 x0.tuple.snap.term, .int .i64 x0.tuple.snap.sum, .int .i64 x0.tuple.snap.level, .bool x0.tuple.snap.final, .slice A0_ x0.tuple.log.length c0_, .int .i64 x0.tuple.term, .int .i64 x0.tuple.vote, .int .i64 x0.commit, .int .i64 x0.applied.index, .int .i64 x0.applied.term, .int .i64 x0.applied.sum, .int .i64 x0.applied.level, .bool x0.applied.final, .slice A1_ x0.votes.length c1_, .slice A2_ x0.next.length c2_, .slice A3_ x0.mtch.length c3_, .slice A4_ x0.caps.length c4_], .int .i64 x1] w0 fun e w' => ∃ (A0 : OA) (c0 : Nat), e = .returned (.tuple #[.agg #[.int .u8 r.1.kind, .int .i64 r.1.frm, .int .i64 r.1.dst, .int .i64 r.1.term, .int .i64 r.1.cap, .int .i64 r.1.last, .int .i64 r.1.lastTerm, .int .i64 r.1.commit, .bool r.1.okk, .slice A0 r.1.entries.length c0, .int .i64 r.1.snap.index, .int .i64 r.1.snap.term, .int .i64 r.1.snap.sum, .int .i64 r.1.snap.level, .bool r.1.snap.final], .bool r.2]) ∧ (r.1.entries.length ≤ c0 ∧ c0 ≤ maxLen) ∧ St0 All w0 w' [.row (.slice A0 r.1.entries.length c0) 56 3 r.1.entries.length (Yf Jv r.1.entries)] := by
 unfold X6 at H
 refine Y0 Try.func27 rfl Try.ntmps27 rfl ?_
 have hS := St0.start All w0
 refine Zd (fun K hK1 => ?_)
 refine Zf ?_
 refine Yd rfl rfl rfl CellsOf.agg hS (fun b2 w hS hB => ?_)
 refine Yb rfl rfl J9 hS (fun b4 w hS hB => ?_)
 refine Zc 1 rfl ?_
 refine Zg ?_
 refine Zb hK1 ?_
 refine Zd (fun K hK6 => ?_)
 refine Zd (fun K hK7 => ?_)
 refine Yg 37 [] (fun _ _ => True) ⟨by kernel_rfl, by kernel_rfl⟩ hS (fun w hS hB => ?_)
 refine Zn [true] (by decide +kernel) PFC.h ?_
 refine LtK.put rfl rfl rfl (Zi Yh rfl (Zgz _) hS Xr trivial Z8) ?_
 refine LtK.nil ?_
 refine Z4 [false, true] 1 ⟨by decide, by kernel_rfl, by kernel_rfl⟩ rfl rfl ?_
 try dsimp only [Zw]
 obtain ⟨r8, hm9, H⟩ := bind_some H
 refine Zo rfl rfl rfl rfl (by kernel_rfl) rfl (Zf3 x0 A0_ c0_ A1_ c1_ A2_ c2_ A3_ c3_ A4_ c4_ _ (Zg1 s0_.k (hS.rd0 s0_.rd) (hS.blk0 s0_.blk)) (Zg1 s1_.k (hS.rd0 s1_.rd) (hS.blk0 s1_.blk)) (Zg1 s2_.k (hS.rd0 s2_.rd) (hS.blk0 s2_.blk)) (Zg1 s3_.k (hS.rd0 s3_.rd) (hS.blk0 s3_.blk)) (Zg1 s4_.k (hS.rd0 s4_.rd) (hS.blk0 s4_.blk)) hm9) ?_
 rintro e w ⟨rfl, hN⟩; refine ⟨_, rfl, ?_⟩; obtain ⟨hB, hS⟩ := hS.jn hN
 refine Zg ?_
 refine Z7 hB ?_
 refine Zn [false, false, true, true] (by decide +kernel) PFC.h ?_
 refine LtK.put rfl rfl rfl (Yt rfl) ?_
 refine LtK.put rfl rfl rfl (Zs rfl) ?_
 refine LtK.nil ?_
 refine Xl 11 rfl (fun hb => ?_) (fun hb => ?_)
 ·replace H := Zq H hb
  refine Zn [false, false, false, false, true, true, true, true, true, true, true, true, true, true, true, true, true, true, true, true, true, true, true, true, true, true, true, true, true, true, true, true, true, true, true, true, true] (by decide +kernel) PFC.h ?_
  refine LtK.skip rfl rfl rfl ?_
  refine LtK.skip rfl rfl rfl ?_
  refine LtK.skip rfl rfl rfl ?_
  refine LtK.put rfl rfl rfl (Z3 rfl rfl rfl) ?_
  refine LtK.put rfl rfl rfl (Zs rfl) ?_
  refine LtK.skip rfl rfl rfl ?_
  refine LtK.skip rfl rfl rfl ?_
  refine LtK.put rfl rfl rfl (Z3 rfl rfl rfl) ?_
  refine LtK.put rfl rfl rfl (Zs rfl) ?_
  refine LtK.skip rfl rfl rfl ?_
  refine LtK.skip rfl rfl rfl ?_
  refine LtK.skip rfl rfl rfl ?_
  refine LtK.skip rfl rfl rfl ?_
  refine LtK.put rfl rfl rfl (Z3 rfl rfl rfl) ?_
  refine LtK.put rfl rfl rfl (Zs rfl) ?_
  refine LtK.skip rfl rfl rfl ?_
  refine LtK.skip rfl rfl rfl ?_
  refine LtK.skip rfl rfl rfl ?_
  refine LtK.skip rfl rfl rfl ?_
  refine LtK.put rfl rfl rfl (Z3 rfl rfl rfl) ?_
  refine LtK.put rfl rfl rfl (Zs rfl) ?_
  refine LtK.skip rfl rfl rfl ?_
  refine LtK.skip rfl rfl rfl ?_
  refine LtK.skip rfl rfl rfl ?_
  refine LtK.skip rfl rfl rfl ?_
  refine LtK.skip rfl rfl rfl ?_
  refine LtK.skip rfl rfl rfl ?_
  refine LtK.skip rfl rfl rfl ?_
  refine LtK.skip rfl rfl rfl ?_
  refine LtK.skip rfl rfl rfl ?_
  refine LtK.skip rfl rfl rfl ?_
  refine LtK.skip rfl rfl rfl ?_
  refine LtK.put rfl rfl rfl (Z3 rfl rfl rfl) ?_
  refine LtK.nil ?_
  refine Z6 (by kernel_rfl) ?_
  refine Zb hK7 ?_
  refine Zr rfl rfl ?_
  refine Zd (fun K hK10 => ?_)
  refine Zf ?_
  refine Za rfl rfl rfl (Zi Vp rfl (Zgy _) hS hs0 trivial Xv) ?_
  refine Zm rfl rfl rfl CellsOf.agg hS ps0 Zd7 (by kernel_rfl) rfl (fun w hS hB => ?_)
  refine Zc 1 rfl ?_
  refine Zg ?_
  refine Zb hK10 ?_
  refine Zk ?_
  refine Zj ?_
  refine Zl rfl (RV.cell rfl (Zx Vp hS hs0 Xv) (RV.tmp rfl RV.nil)) rfl ?_
  obtain rfl := QJ H
  have hS := hS.nilRow 56 3
  replace hS := hS.cut 1
  exact ⟨none, 0, rfl, ⟨Nat.le_refl _, Nat.zero_le _⟩, hS⟩
 replace H := Zp H hb
 refine Zn [false, false, false, false, true, true, true, true, true] (by decide +kernel) PFC.h ?_
 refine LtK.put rfl rfl rfl (Ze Zcj rfl) ?_
 refine LtK.put rfl rfl rfl (Zh Zbs rfl (Zgz _) hS Xr trivial Zbk) ?_
 refine LtK.put rfl rfl rfl (Y5 rfl rfl) ?_
 refine LtK.put rfl rfl rfl (Yj rfl rfl rfl) ?_
 refine LtK.put rfl rfl rfl (Zs rfl) ?_
 refine LtK.nil ?_
 refine Xl 16 rfl (fun hb => ?_) (fun hb => ?_)
 ·replace H := Zq H hb
  refine Zn [false, false, false, false, false, false, false, false, false, true, true, true, true, true, true, true, true, true, true, true, true, true, true, true, true, true, true, true, true, true, true, true, true, true, true, true, true] (by decide +kernel) PFC.h ?_
  refine LtK.skip rfl rfl rfl ?_
  refine LtK.skip rfl rfl rfl ?_
  refine LtK.put rfl rfl rfl (Z3 rfl rfl rfl) ?_
  refine LtK.put rfl rfl rfl (Zs rfl) ?_
  refine LtK.skip rfl rfl rfl ?_
  refine LtK.skip rfl rfl rfl ?_
  refine LtK.skip rfl rfl rfl ?_
  refine LtK.skip rfl rfl rfl ?_
  refine LtK.put rfl rfl rfl (Z3 rfl rfl rfl) ?_
  refine LtK.put rfl rfl rfl (Zs rfl) ?_
  refine LtK.skip rfl rfl rfl ?_
  refine LtK.skip rfl rfl rfl ?_
  refine LtK.skip rfl rfl rfl ?_
  refine LtK.skip rfl rfl rfl ?_
  refine LtK.put rfl rfl rfl (Z3 rfl rfl rfl) ?_
  refine LtK.put rfl rfl rfl (Zs rfl) ?_
  refine LtK.skip rfl rfl rfl ?_
  refine LtK.skip rfl rfl rfl ?_
  refine LtK.skip rfl rfl rfl ?_
  refine LtK.skip rfl rfl rfl ?_
  refine LtK.skip rfl rfl rfl ?_
  refine LtK.skip rfl rfl rfl ?_
  refine LtK.skip rfl rfl rfl ?_
  refine LtK.skip rfl rfl rfl ?_
  refine LtK.skip rfl rfl rfl ?_
  refine LtK.skip rfl rfl rfl ?_
  refine LtK.skip rfl rfl rfl ?_
  refine LtK.put rfl rfl rfl (Z3 rfl rfl rfl) ?_
  refine LtK.nil ?_
  refine Z6 (by kernel_rfl) ?_
  refine Zb hK7 ?_
  refine Zr rfl rfl ?_
  refine Zd (fun K hK11 => ?_)
  refine Zf ?_
  refine Za rfl rfl rfl (Zi Vp rfl (Zgy _) hS hs0 trivial Xv) ?_
  refine Zm rfl rfl rfl CellsOf.agg hS ps0 Zd7 (by kernel_rfl) rfl (fun w hS hB => ?_)
  refine Zc 1 rfl ?_
  refine Zg ?_
  refine Zb hK11 ?_
  refine Zk ?_
  refine Zj ?_
  refine Zl rfl (RV.cell rfl (Zx Vp hS hs0 Xv) (RV.tmp rfl RV.nil)) rfl ?_
  obtain rfl := QJ H
  have hS := hS.nilRow 56 3
  replace hS := hS.cut 1
  exact ⟨none, 0, rfl, ⟨Nat.le_refl _, Nat.zero_le _⟩, hS⟩
 replace H := Zp H hb
 refine Zn [false, false, false, false, false, false, false, false, false, true, true, true, true] (by decide +kernel) PFC.h ?_
 refine LtK.put rfl rfl rfl (Zs rfl) ?_
 refine LtK.put rfl rfl rfl (Xh rfl rfl) ?_
 refine LtK.put rfl rfl rfl (Yj rfl rfl rfl) ?_
 refine LtK.put rfl rfl rfl (Zs rfl) ?_
 refine LtK.nil ?_
 refine Xl 20 rfl (fun hb => ?_) (fun hb => ?_)
 ·replace H := Zq H hb
  refine Zn [false, false, false, false, false, false, false, false, false, false, false, false, false, true, true, true, true, true, true, true, true, true, true, true, true, true, true, true, true, true, true, true, true, true, true, true, true] (by decide +kernel) PFC.h ?_
  refine LtK.skip rfl rfl rfl ?_
  refine LtK.skip rfl rfl rfl ?_
  refine LtK.skip rfl rfl rfl ?_
  refine LtK.skip rfl rfl rfl ?_
  refine LtK.put rfl rfl rfl (Z3 rfl rfl rfl) ?_
  refine LtK.put rfl rfl rfl (Zs rfl) ?_
  refine LtK.skip rfl rfl rfl ?_
  refine LtK.skip rfl rfl rfl ?_
  refine LtK.skip rfl rfl rfl ?_
  refine LtK.skip rfl rfl rfl ?_
  refine LtK.put rfl rfl rfl (Z3 rfl rfl rfl) ?_
  refine LtK.put rfl rfl rfl (Zs rfl) ?_
  refine LtK.skip rfl rfl rfl ?_
  refine LtK.skip rfl rfl rfl ?_
  refine LtK.skip rfl rfl rfl ?_
  refine LtK.skip rfl rfl rfl ?_
  refine LtK.skip rfl rfl rfl ?_
  refine LtK.skip rfl rfl rfl ?_
  refine LtK.skip rfl rfl rfl ?_
  refine LtK.skip rfl rfl rfl ?_
  refine LtK.skip rfl rfl rfl ?_
  refine LtK.skip rfl rfl rfl ?_
  refine LtK.skip rfl rfl rfl ?_
  refine LtK.put rfl rfl rfl (Z3 rfl rfl rfl) ?_
  refine LtK.nil ?_
  refine Z6 (by kernel_rfl) ?_
  refine Zb hK7 ?_
  refine Zr rfl rfl ?_
  refine Zd (fun K hK12 => ?_)
  refine Zf ?_
  refine Za rfl rfl rfl (Zi Vp rfl (Zgy _) hS hs0 trivial Xv) ?_
  refine Zm rfl rfl rfl CellsOf.agg hS ps0 Zd7 (by kernel_rfl) rfl (fun w hS hB => ?_)
  refine Zc 1 rfl ?_
  refine Zg ?_
  refine Zb hK12 ?_
  refine Zk ?_
  refine Zj ?_
  refine Zl rfl (RV.cell rfl (Zx Vp hS hs0 Xv) (RV.tmp rfl RV.nil)) rfl ?_
  obtain rfl := QJ H
  have hS := hS.nilRow 56 3
  replace hS := hS.cut 1
  exact ⟨none, 0, rfl, ⟨Nat.le_refl _, Nat.zero_le _⟩, hS⟩
 replace H := Zp H hb
 refine Zn [false, false, false, false, false, false, false, false, false, false, false, false, false, true, true, true, true, true, true] (by decide +kernel) PFC.h ?_
 refine LtK.put rfl rfl rfl (Zs rfl) ?_
 refine LtK.put rfl rfl rfl (Ze Jc rfl) ?_
 refine LtK.put rfl rfl rfl (Zh Z0 rfl (Zgz _) hS Xr trivial Vo) ?_
 refine LtK.put rfl rfl rfl (Xa rfl rfl) ?_
 refine LtK.put rfl rfl rfl (Yj rfl rfl rfl) ?_
 refine LtK.put rfl rfl rfl (Zs rfl) ?_
 refine LtK.nil ?_
 refine Xl 26 rfl (fun hb => ?_) (fun hb => ?_)
 ·replace H := Zq H hb
  refine Zn [false, false, false, false, false, false, false, false, false, false, false, false, false, false, false, false, false, false, false, true, true, true, true, true, true, true, true, true, true, true, true, true, true, true, true, true, true] (by decide +kernel) PFC.h ?_
  refine LtK.skip rfl rfl rfl ?_
  refine LtK.skip rfl rfl rfl ?_
  refine LtK.skip rfl rfl rfl ?_
  refine LtK.skip rfl rfl rfl ?_
  refine LtK.put rfl rfl rfl (Z3 rfl rfl rfl) ?_
  refine LtK.put rfl rfl rfl (Zs rfl) ?_
  refine LtK.skip rfl rfl rfl ?_
  refine LtK.skip rfl rfl rfl ?_
  refine LtK.skip rfl rfl rfl ?_
  refine LtK.skip rfl rfl rfl ?_
  refine LtK.skip rfl rfl rfl ?_
  refine LtK.skip rfl rfl rfl ?_
  refine LtK.skip rfl rfl rfl ?_
  refine LtK.skip rfl rfl rfl ?_
  refine LtK.skip rfl rfl rfl ?_
  refine LtK.skip rfl rfl rfl ?_
  refine LtK.skip rfl rfl rfl ?_
  refine LtK.put rfl rfl rfl (Z3 rfl rfl rfl) ?_
  refine LtK.nil ?_
  refine Z6 (by kernel_rfl) ?_
  refine Zb hK7 ?_
  refine Zr rfl rfl ?_
  refine Zd (fun K hK13 => ?_)
  refine Zf ?_
  refine Za rfl rfl rfl (Zi Vp rfl (Zgy _) hS hs0 trivial Xv) ?_
  refine Zm rfl rfl rfl CellsOf.agg hS ps0 Zd7 (by kernel_rfl) rfl (fun w hS hB => ?_)
  refine Zc 1 rfl ?_
  refine Zg ?_
  refine Zb hK13 ?_
  refine Zk ?_
  refine Zj ?_
  refine Zl rfl (RV.cell rfl (Zx Vp hS hs0 Xv) (RV.tmp rfl RV.nil)) rfl ?_
  obtain rfl := QJ H
  have hS := hS.nilRow 56 3
  replace hS := hS.cut 1
  exact ⟨none, 0, rfl, ⟨Nat.le_refl _, Nat.zero_le _⟩, hS⟩
 replace H := Zp H hb
 refine Zn [false, false, false, false, false, false, false, false, false, false, false, false, false, false, false, false, false, false, false, true, true, true, true, true, true] (by decide +kernel) PFC.h ?_
 refine LtK.put rfl rfl rfl (Zs rfl) ?_
 refine LtK.put rfl rfl rfl (Ze Zay rfl) ?_
 refine LtK.put rfl rfl rfl (Zh Z0 rfl (Zgz _) hS Xr trivial Y7) ?_
 refine LtK.put rfl rfl rfl (Xo rfl rfl) ?_
 refine LtK.put rfl rfl rfl (Yj rfl rfl rfl) ?_
 refine LtK.put rfl rfl rfl (Zs rfl) ?_
 refine LtK.nil ?_
 refine Xl 32 rfl (fun hb => ?_) (fun hb => ?_)
 ·replace H := Zq H hb
  refine Zn [false, false, false, false, false, false, false, false, false, false, false, false, false, false, false, false, false, false, false, false, false, false, false, false, false, true, true, true, true, true, true, true, true, true, true, true, true] (by decide +kernel) PFC.h ?_
  refine LtK.skip rfl rfl rfl ?_
  refine LtK.skip rfl rfl rfl ?_
  refine LtK.skip rfl rfl rfl ?_
  refine LtK.skip rfl rfl rfl ?_
  refine LtK.skip rfl rfl rfl ?_
  refine LtK.skip rfl rfl rfl ?_
  refine LtK.skip rfl rfl rfl ?_
  refine LtK.skip rfl rfl rfl ?_
  refine LtK.skip rfl rfl rfl ?_
  refine LtK.skip rfl rfl rfl ?_
  refine LtK.skip rfl rfl rfl ?_
  refine LtK.put rfl rfl rfl (Z3 rfl rfl rfl) ?_
  refine LtK.nil ?_
  refine Z6 (by kernel_rfl) ?_
  refine Zb hK7 ?_
  refine Zr rfl rfl ?_
  refine Zd (fun K hK14 => ?_)
  refine Zf ?_
  refine Za rfl rfl rfl (Zi Vp rfl (Zgy _) hS hs0 trivial Xv) ?_
  refine Zm rfl rfl rfl CellsOf.agg hS ps0 Zd7 (by kernel_rfl) rfl (fun w hS hB => ?_)
  refine Zc 1 rfl ?_
  refine Zg ?_
  refine Zb hK14 ?_
  refine Zk ?_
  refine Zj ?_
  refine Zl rfl (RV.cell rfl (Zx Vp hS hs0 Xv) (RV.tmp rfl RV.nil)) rfl ?_
  obtain rfl := QJ H
  have hS := hS.nilRow 56 3
  replace hS := hS.cut 1
  exact ⟨none, 0, rfl, ⟨Nat.le_refl _, Nat.zero_le _⟩, hS⟩
 replace H := Zp H hb
 refine Zn [false, false, false, false, false, false, false, false, false, false, false, false, false, false, false, false, false, false, false, false, false, false, false, false, false, true, true, true, true, true, true, true, true, true, true, true, true] (by decide +kernel) PFC.h ?_
 refine LtK.put rfl rfl rfl (Ze Vm rfl) ?_
 refine LtK.put rfl rfl rfl (Zh Xt rfl (Zgz _) hS Xr trivial Jz) ?_
 refine LtK.put rfl rfl rfl (Zs rfl) ?_
 refine LtK.put rfl rfl rfl (J0 rfl rfl) ?_
 obtain ⟨e15, hi17, H⟩ := bind_some H
 obtain ⟨j16, hi17a, hi17b, hi17c⟩ := Yw hi17
 refine LtK.put rfl rfl rfl (Y8 Xm rfl rfl hi17a hi17c (Rd.el (hS.rd0 s2_.rd) Yl hi17b)) ?_
 refine LtK.put rfl rfl rfl (X1 Z0 rfl (Zgz _) (Rd.el (hS.rd0 s2_.rd) Yl hi17b) rfl) ?_
 refine LtK.put rfl rfl rfl (Ze Yz rfl) ?_
 refine LtK.put rfl rfl rfl (Ze Xg rfl) ?_
 refine LtK.put rfl rfl rfl (Ze Yi rfl) ?_
 refine LtK.put rfl rfl rfl (Zh Z0 rfl (Zgz _) hS Xr trivial Zfn) ?_
 refine LtK.put rfl rfl rfl (Zah rfl rfl) ?_
 refine LtK.put rfl rfl rfl (Yj rfl rfl rfl) ?_
 refine LtK.nil ?_
 refine Z6 (by kernel_rfl) ?_
 refine Zb hK7 ?_
 refine Zz rfl (fun hb => ?_) (fun hb => ?_)
 ·replace H := Zq H hb
  refine Zd (fun K hK18 => ?_)
  refine Zf ?_
  refine Za rfl rfl rfl (Zi Vp rfl (Zgy _) hS hs0 trivial Xv) ?_
  refine Zm rfl rfl rfl CellsOf.agg hS ps0 Zd7 (by kernel_rfl) rfl (fun w hS hB => ?_)
  refine Zc 1 rfl ?_
  refine Zg ?_
  refine Zb hK18 ?_
  refine Zk ?_
  refine Zj ?_
  refine Zl rfl (RV.cell rfl (Zx Vp hS hs0 Xv) (RV.tmp rfl RV.nil)) rfl ?_
  obtain rfl := QJ H
  have hS := hS.nilRow 56 3
  replace hS := hS.cut 1
  exact ⟨none, 0, rfl, ⟨Nat.le_refl _, Nat.zero_le _⟩, hS⟩
 replace H := Zp H hb
 refine Zt ?_
 refine Zb hK6 ?_
 refine Zd (fun K hK19 => ?_)
 refine Zf ?_
 refine Za rfl rfl rfl (Ze Vm rfl) ?_
 refine Za rfl rfl rfl (Zh Xt rfl (Zgy _) hS Xr trivial Jz) ?_
 refine Zc 1 rfl ?_
 refine Za rfl rfl rfl (J0 rfl rfl) ?_
 obtain ⟨e20, hi22, H⟩ := bind_some H
 obtain ⟨j21, hi22a, hi22b, hi22c⟩ := Yw hi22
 refine Za rfl rfl rfl (Y8 Xm rfl rfl hi22a hi22c (Rd.el (hS.rd0 s2_.rd) Yl hi22b)) ?_
 refine Za rfl rfl rfl (X1 Z0 rfl (Zgy _) (Rd.el (hS.rd0 s2_.rd) Yl hi22b) rfl) ?_
 refine Zc 1 rfl ?_
 refine Zg ?_
 refine Zb hK19 ?_
 refine Zd (fun K hK23 => ?_)
 refine Zf ?_
 refine Za rfl rfl rfl (Ze Zay rfl) ?_
 refine Za rfl rfl rfl (Zh Z0 rfl (Zgy _) hS Xr trivial Y7) ?_
 refine Zc 1 rfl ?_
 refine Za rfl rfl rfl (Ze Yz rfl) ?_
 refine Za rfl rfl rfl (Ze Jb rfl) ?_
 refine Za rfl rfl rfl (Zh Z0 rfl (Zgy _) hS Xr trivial Zbc) ?_
 refine Za rfl rfl rfl (Ze Zed rfl) ?_
 refine Za rfl rfl rfl (Zh Z0 rfl (Zgy _) hS Xr trivial Zbd) ?_
 refine Zc 1 rfl ?_
 refine Za rfl rfl rfl (J0 rfl rfl) ?_
 refine Za rfl rfl rfl (Ze V5 rfl) ?_
 refine Za rfl rfl rfl (Zh Z0 rfl (Zgy _) hS Xr trivial Zbe) ?_
 refine Za rfl rfl rfl (Xw (cells := [.int .u8 3, .int .i64 x0.id, .int .i64 x1, .int .i64 x0.tuple.term, .int .i64 x0.binary, .int .i64 (IntKind.wrap .i64 (e20 - 1)), .int .i64 0, .int .i64 x0.commit, .bool false, .slice none 0 0, .int .i64 0, .int .i64 0, .int .i64 0, .int .i64 0, .bool false]) rfl (by kernel_rfl)) ?_
 refine Zm rfl rfl rfl CellsOf.agg hS ps0 Zd7 (by kernel_rfl) rfl (fun w hS hB => ?_)
 refine Zg ?_
 refine Zb hK23 ?_
 refine Zd (fun K hK24 => ?_)
 refine Zf ?_
 refine Za rfl rfl rfl (Ze Yz rfl) ?_
 refine Za rfl rfl rfl (Zi Yr rfl (Zgy _) hS Xr trivial Jw) ?_
 refine Za rfl rfl rfl (Ze Vx rfl) ?_
 refine Za rfl rfl rfl (Zh Z0 rfl (Zgy _) hS hs0 trivial Js) ?_
 obtain ⟨r25, hm26, H⟩ := bind_some H
 refine Zo rfl rfl rfl rfl (by kernel_rfl) rfl (Zfo x0.tuple (IntKind.wrap .i64 (e20 - 1)) A0_ c0_ _ (Zg1 s0_.k (hS.rd0 s0_.rd) (hS.blk0 s0_.blk)) hm26) ?_
 rintro e w ⟨rfl, hN⟩; refine ⟨_, rfl, ?_⟩; obtain ⟨hB, hS⟩ := hS.jn hN
 refine Zc 1 rfl ?_
 refine Za rfl rfl rfl (Z1 rfl rfl) ?_
 refine Za rfl rfl rfl (Z1 rfl rfl) ?_
 refine Za rfl rfl rfl (Ze fo_36_6 rfl) ?_
 refine Zm rfl rfl rfl CellsOf.int hS ps0 st6_1 (by kernel_rfl) rfl (fun w hS hB => ?_)
 refine Zg ?_
 refine Zb hK24 ?_
 refine Zd (fun K hK27 => ?_)
 refine Zd (fun K hK28 => ?_)
 refine Zf ?_
 refine Za rfl rfl rfl (Ze Yz rfl) ?_
 refine Za rfl rfl rfl (Zi Yr rfl (Zgy _) hS Xr trivial Jw) ?_
 refine Zc 1 rfl ?_
 have hM29 := hS
 refine Zo rfl rfl rfl rfl (by kernel_rfl) rfl (c_repl_from x0.tuple e20 4 A0_ c0_ _ (Zg1 s0_.k (hS.rd0 s0_.rd) (hS.blk0 s0_.blk))) ?_
 rintro e w ⟨b31, b32, b33, rfl, hN30⟩; refine ⟨_, rfl, ?_⟩; have hB := hN30.pure; have hS := hS.join hN30
 refine Zg ?_
 refine Zb hK28 ?_
 refine Yc ?_
 replace hS := hS.nilRow 56 3
 replace hM29 := hM29.nilRow 56 3
 obtain ⟨xs43, hx44, H⟩ := bind_some H
 refine wpC_range (w0 := w0) (X := List En × OA × Nat) rfl (by kernel_rfl) (it_from x0.tuple e20 4 _ _ _ s0_ hM29.pure b31 b32 b33 hN30 hx44) ⟨hM29.size, hN30.size⟩ (fun _ => rfl) (by kernel_rfl) (fun k x => .row (.slice x.2.1 x.1.length x.2.2) 56 3 x.1.length (Yf Jv x.1) :: .box b4 [.int .u8 3, .int .i64 x0.id, .int .i64 x1, .int .i64 x0.tuple.term, .int .i64 x0.binary, .int .i64 (IntKind.wrap .i64 (e20 - 1)), .int .i64 r25.1, .int .i64 x0.commit, .bool false, .slice x.2.1 x.1.length x.2.2, .int .i64 0, .int .i64 0, .int .i64 0, .int .i64 0, .bool false] 36 :: .box b2 [.int .i64 x0.id, .int .i64 x0.n, .int .u8 x0.role, .int .i64 x0.binary, .int .i64 x0.tuple.snap.index, .int .i64 x0.tuple.snap.term, .int .i64 x0.tuple.snap.sum, .int .i64 x0.tuple.snap.level, .bool x0.tuple.snap.final, .slice A0_ x0.tuple.log.length c0_, .int .i64 x0.tuple.term, .int .i64 x0.tuple.vote, .int .i64 x0.commit, .int .i64 x0.applied.index, .int .i64 x0.applied.term, .int .i64 x0.applied.sum, .int .i64 x0.applied.level, .bool x0.applied.final, .slice A1_ x0.votes.length c1_, .slice A2_ x0.next.length c2_, .slice A3_ x0.mtch.length c3_, .slice A4_ x0.caps.length c4_] 30 :: []) (fun k x => (x.1.length ≤ x.2.2 ∧ x.2.2 ≤ maxLen) ∧ V4 x0 x1 e20 r25 (xs43.drop k) x.1 = some r) (fun _ _ => []) (fun _ _ => False) (fun _ => False) ([], none, 0) ⟨hS.sub (List.Sublist.cons_cons _ (List.Sublist.cons _ (List.Sublist.cons _ (List.Sublist.cons _ (List.Sublist.cons_cons _ (List.Sublist.cons_cons _ List.Sublist.slnil)))))), fun e he k hk => .inl (hM29.rng e he k hk).1⟩ ⟨⟨Nat.le_refl _, Nat.zero_le _⟩, H⟩ ?_ ?_ (fun _ _ _ h _ => h.elim) (fun _ _ h _ => h.elim)
 ·rintro lo k e37 ⟨v38, A39, c40⟩ A hke ⟨k41, H⟩ hzB hRB hS
  dsimp only at hRB k41 H ⊢
  rw [drop_of_get hke, V4] at H
  dsimp only [List.zip, List.zipWith, List.foldl]
  refine Zbj (by repeat (first | exact NL.round | exact NL.false | exact NL.body (by intro _ h; simp at h) | apply NL.then | apply NL.inBlock | apply NL.jump)) (by kernel_rfl) ?_
  refine Yb rfl rfl Zb6 hS (fun b45 w hS hB => ?_)
  refine Zm rfl rfl rfl CellsOf.agg hS ps0 Zft (by kernel_rfl) rfl (fun w hS hB => ?_)
  refine Zg ?_
  refine QH_asg hS ?_
  rintro A2 hS hBase hE
  dsimp only [List.cons_append, List.nil_append] at hS
  refine Yc ?_
  refine Zbj (by repeat (first | exact NL.round | exact NL.false | exact NL.body (by intro _ h; simp at h) | apply NL.then | apply NL.inBlock | apply NL.jump)) (by kernel_rfl) ?_
  refine Za rfl rfl rfl (Ze Vc rfl) ?_
  refine Za rfl rfl rfl (Zh Xp rfl (Zgy _) hS X0 trivial Zak) ?_
  refine Za rfl rfl rfl (Zi V7 rfl (Zgy _) hS hs0 trivial Zbv) ?_
  refine Yx (ps := [(0, .tmp 81)]) [.int .i64 e37.term, .int .i64 e37.kind, .int .i64 e37.value] Y6 Zb6 rfl rfl rfl rfl rfl (by kernel_rfl) hS (fun b47 w hS hB => ?_)
  obtain ⟨l49, hf50, H⟩ := bind_some H
  refine Zbq (ys := ([e37] : List En)) X5 oc_enE em_24 (by decide) rfl rfl rfl rfl hS (fun _ => ps2) (hS.box_rd hs0) hf50 (fun A51 c52 w k53 hS => ?_)
  refine Za rfl rfl rfl (Ze Vc rfl) ?_
  refine Zm rfl rfl rfl CellsOf.slice hS ps3 st9_1 (by kernel_rfl) rfl (fun w hS hB => ?_)
  refine Zg ?_
  refine Z2 ?_
  exact QH_round hBase hE hS (l49, A51, c52) (List.Sublist.cons _ (List.Sublist.cons _ (List.Sublist.cons_cons _ (List.Sublist.cons_cons _ (List.Sublist.cons_cons _ List.Sublist.slnil))))) ⟨k53, H⟩
 ·rintro ⟨v38, A39, c40⟩ A ⟨k41, H⟩ hS
  dsimp only at hS k41 H ⊢
  rw [List.drop_length, V4] at H
  refine Z2 ?_
  refine Zb hK27 ?_
  refine Zd (fun K hK55 => ?_)
  refine Zf ?_
  refine Za rfl rfl rfl (Zi Vp rfl (Zgy _) hS X0 trivial Xv) ?_
  refine Zm rfl rfl rfl CellsOf.agg hS ps2 Zd7 (by kernel_rfl) rfl (fun w hS hB => ?_)
  refine Zc 1 rfl ?_
  refine Zg ?_
  refine Zb hK55 ?_
  refine Zk ?_
  refine QH_shut (.inl rfl) hS ps0 (fun w hS => ?_)
  replace hS := hS.sub (List.Sublist.cons _ (List.Sublist.cons_cons _ (List.Sublist.cons_cons _ (List.Sublist.cons_cons _ List.Sublist.slnil))))
  refine Zl rfl (RV.cell rfl (Zx Vp hS Xr Xv) (RV.tmp rfl RV.nil)) rfl ?_
  obtain rfl := QJ H
  have hS := hS.front 0 rfl
  replace hS := hS.cut 1
  exact ⟨A39, c40, rfl, k41, hS⟩
theorem c_repl_indexes (x0 : Ms) (A0_ : OA) (c0_ : Nat) (w0 : World) (s0_ : SlI w0 Jv A0_ c0_ x0.entries) : Calls Try.prog 97 #[.agg #[.int .u8 x0.kind, .int .i64 x0.frm, .int .i64 x0.dst, .int .i64 x0.term, .int .i64 x0.cap, .int .i64 x0.last, .int .i64 x0.lastTerm, .int .i64 x0.commit, .bool x0.okk, .slice A0_ x0.entries.length c0_, .int .i64 x0.snap.index, .int .i64 x0.snap.term, .int .i64 x0.snap.sum, .int .i64 x0.snap.level, .bool x0.snap.final]] w0 fun e w' => ∃ (b0_ : Nat), e = .returned (.func (.func 116) #[] #[.pointer (some ⟨b0_, 0, none⟩)]) ∧ St0 All w0 w' [.box b0_ [.int .u8 x0.kind, .int .i64 x0.frm, .int .i64 x0.dst, .int .i64 x0.term, .int .i64 x0.cap, .int .i64 x0.last, .int .i64 x0.lastTerm, .int .i64 x0.commit, .bool x0.okk, .slice A0_ x0.entries.length c0_, .int .i64 x0.snap.index, .int .i64 x0.snap.term, .int .i64 x0.snap.sum, .int .i64 x0.snap.level, .bool x0.snap.final] 36] := by
 refine Yn Try.func97 rfl Try.ntmps97 rfl ?_
 have hS := St0.start All w0
 refine Zd (fun K hK1 => ?_)
 refine Zf ?_
 refine Yd rfl rfl rfl CellsOf.agg hS (fun b2 w hS hB => ?_)
 refine Zc 1 rfl ?_
 refine Zg ?_
 refine Zb hK1 ?_
 refine Zd (fun K hK4 => ?_)
 refine Zf ?_
 refine Za rfl rfl rfl (X4 rfl rfl) ?_
 refine Zc 1 rfl ?_
 refine Zg ?_
 refine Zb hK4 ?_
 refine Zk ?_
 refine Zl rfl (RV.tmp rfl RV.nil) rfl ?_
 exact ⟨b2, rfl, hS.sub (List.Sublist.cons_cons _ List.Sublist.slnil)⟩
theorem c_repl_other (x0 : Co) (x1 : Ms) (A0_ : OA) (c0_ : Nat) (A1_ : OA) (c1_ : Nat) (A2_ : OA) (c2_ : Nat) (A3_ : OA) (c3_ : Nat) (A4_ : OA) (c4_ : Nat) (A5_ : OA) (c5_ : Nat) (w0 : World) (s0_ : SlI w0 Jv A0_ c0_ x0.tuple.log) (s1_ : SlI w0 enO A1_ c1_ x0.votes) (s2_ : SlI w0 V9 A2_ c2_ x0.next) (s3_ : SlI w0 V9 A3_ c3_ x0.mtch) (s4_ : SlI w0 V9 A4_ c4_ x0.caps) (s5_ : SlI w0 Jv A5_ c5_ x1.entries) {r : Int} (H : Zbp x0 x1 = some r) : Calls Try.prog 61 #[.agg #[.int .i64 x0.id, .int .i64 x0.n, .int .u8 x0.role, .int .i64 x0.binary, .int .i64 x0.tuple.snap.index, .int .i64 x0.tuple.snap.term, .int .i64 x0.tuple.snap.sum, .int .i64 x0.tuple.snap.level, .bool x0.tuple.snap.final, .slice A0_ x0.tuple.log.length c0_, .int .i64 x0.tuple.term, .int .i64 x0.tuple.vote, .int .i64 x0.commit, .int .i64 x0.applied.index, .int .i64 x0.applied.term, .int .i64 x0.applied.sum, .int .i64 x0.applied.level, .bool x0.applied.final, .slice A1_ x0.votes.length c1_, .slice A2_ x0.next.length c2_, .slice A3_ x0.mtch.length c3_, .slice A4_ x0.caps.length c4_], .agg #[.int .u8 x1.kind, .int .i64 x1.frm, .int .i64 x1.dst, .int .i64 x1.term, .int .i64 x1.cap, .int .i64 x1.last, .int .i64 x1.lastTerm, .int .i64 x1.commit, .bool x1.okk, .slice A5_ x1.entries.length c5_, .int .i64 x1.snap.index, .int .i64 x1.snap.term, .int .i64 x1.snap.sum, .int .i64 x1.snap.level, .bool x1.snap.final]] w0 fun e w' => e = .returned (.int .i64 r) ∧ St0 All w0 w' [] := by
 unfold Zbp at H
 refine Y0 Try.func61 rfl Try.ntmps61 rfl ?_
 have hS := St0.start All w0
 refine Zd (fun K hK1 => ?_)
 refine Zf ?_
 refine Yd rfl rfl rfl CellsOf.agg hS (fun b2 w hS hB => ?_)
 refine Yd rfl rfl rfl CellsOf.agg hS (fun b4 w hS hB => ?_)
 refine Zc 1 rfl ?_
 refine Zg ?_
 refine Zb hK1 ?_
 refine Zd (fun K hK6 => ?_)
 refine Zf ?_
 refine Za rfl rfl rfl (Zi Vp rfl (Zgy _) hS hs0 trivial Xv) ?_
 have hM7 := hS
 refine Zo rfl rfl rfl rfl (by kernel_rfl) rfl (c_repl_indexes x1 A5_ c5_ _ (Zg1 s5_.k (hS.rd0 s5_.rd) (hS.blk0 s5_.blk))) ?_
 rintro e w ⟨b9, rfl, hN8⟩; refine ⟨_, rfl, ?_⟩; have hB := hN8.pure; have hS := hS.join hN8
 obtain ⟨xs11, hx12, H⟩ := bind_some H
 obtain ⟨l13, hf14, H⟩ := bind_some H
 refine Zo rfl rfl rfl rfl (by kernel_rfl) rfl (c_slices_Collect _ _ xs11 _ (by kernel_rfl) (fun w' hB' => it_indexes x1 _ _ w' b9 ((hS.below hB').ok _ hs0.mem) (hS.rng _ hs0.mem b9 rfl).1 hx12) (Zd5 hf14).2) ?_
 rintro e w ⟨A15, c16, rfl, k17, hN⟩; refine ⟨_, rfl, ?_⟩; obtain ⟨hB, hS⟩ := hS.jn hN
 refine Za rfl rfl rfl (X4 rfl rfl) ?_
 refine Za2 rfl rfl rfl rfl (by kernel_rfl) rfl ?_
 show Calls _ _ #[_, _] _ _
 refine Y0 Try.func95 rfl Try.ntmps95 rfl ?_
 refine Zd (fun K hK19 => ?_)
 refine Zf ?_
 refine Zc 1 rfl ?_
 refine Zg ?_
 refine Zb hK19 ?_
 refine Zd (fun K hK20 => ?_)
 refine Zd (fun K hK21 => ?_)
 refine Zf ?_
 refine Zc 1 rfl ?_
 refine Za rfl rfl rfl (Yu Xm rfl) ?_
 refine Zc 1 rfl ?_
 refine Zg ?_
 refine Zb hK21 ?_
 refine Yc ?_
 refine V0 (X := Nat × Int × Int) (fun x => (0, .slice A15 xs11.length c16) :: (1, .func (.func 98) #[] #[.pointer (some ⟨b2, 0, none⟩), .pointer (some ⟨b4, 0, none⟩)]) :: (4, .int .i64 x.2.1) :: (7, .int .i64 (xs11.length : Int)) :: (8, .int .i64 x.2.2) :: []) (fun x w => St0 All w0 w (.row (.slice A15 xs11.length c16) 3 1 xs11.length (Yf V9 xs11) :: .box b9 [.int .u8 x1.kind, .int .i64 x1.frm, .int .i64 x1.dst, .int .i64 x1.term, .int .i64 x1.cap, .int .i64 x1.last, .int .i64 x1.lastTerm, .int .i64 x1.commit, .bool x1.okk, .slice A5_ x1.entries.length c5_, .int .i64 x1.snap.index, .int .i64 x1.snap.term, .int .i64 x1.snap.sum, .int .i64 x1.snap.level, .bool x1.snap.final] 36 :: .box b4 [.int .u8 x1.kind, .int .i64 x1.frm, .int .i64 x1.dst, .int .i64 x1.term, .int .i64 x1.cap, .int .i64 x1.last, .int .i64 x1.lastTerm, .int .i64 x1.commit, .bool x1.okk, .slice A5_ x1.entries.length c5_, .int .i64 x1.snap.index, .int .i64 x1.snap.term, .int .i64 x1.snap.sum, .int .i64 x1.snap.level, .bool x1.snap.final] 36 :: .box b2 [.int .i64 x0.id, .int .i64 x0.n, .int .u8 x0.role, .int .i64 x0.binary, .int .i64 x0.tuple.snap.index, .int .i64 x0.tuple.snap.term, .int .i64 x0.tuple.snap.sum, .int .i64 x0.tuple.snap.level, .bool x0.tuple.snap.final, .slice A0_ x0.tuple.log.length c0_, .int .i64 x0.tuple.term, .int .i64 x0.tuple.vote, .int .i64 x0.commit, .int .i64 x0.applied.index, .int .i64 x0.applied.term, .int .i64 x0.applied.sum, .int .i64 x0.applied.level, .bool x0.applied.final, .slice A1_ x0.votes.length c1_, .slice A2_ x0.next.length c2_, .slice A3_ x0.mtch.length c3_, .slice A4_ x0.caps.length c4_] 30 :: []) ∧ Jd x0 x1 xs11 x.1 x.2.1 x.2.2 = some r) (fun x => x.1) (Xn, 0, 0) (by repeat (first | exact Sub.nil | refine Sub.cons rfl ?_)) ⟨hS, H⟩ ?_
 rintro ⟨n, v22, v23⟩ w ⟨hS, H⟩
 dsimp only at hS H ⊢
 obtain _ | n := n
 ·have H0 : none = some r := H
  cases H0
 rw [Jd] at H
 refine Zd (fun K hK24 => ?_)
 refine Zf ?_
 refine Za rfl rfl rfl (Xh rfl rfl) ?_
 refine Zg ?_
 refine Zb hK24 ?_
 refine Zd (fun K hK25 => ?_)
 refine Zz rfl (fun hb => ?_) (fun hb => ?_)
 rotate_left
 ·replace H := Zp H hb
  refine Vj ?_
  refine Ya ?_
  refine Ya ?_
  refine Y3 ?_
  refine Zb hK20 ?_
  refine Zd (fun K hK50 => ?_)
  refine Zf ?_
  refine Zc 1 rfl ?_
  refine Zg ?_
  refine Zb hK50 ?_
  refine Zk ?_
  refine Zl rfl (RV.tmp rfl RV.nil) rfl ?_
  refine ⟨_, rfl, ?_⟩
  refine Zc 1 rfl ?_
  refine Zg ?_
  refine Zb hK6 ?_
  refine Zd (fun K hK51 => ?_)
  refine Zd (fun K hK52 => ?_)
  refine Zf ?_
  refine Zc 1 rfl ?_
  refine Za rfl rfl rfl (Xh rfl rfl) ?_
  refine Zg ?_
  refine Zb hK52 ?_
  refine Zr rfl rfl ?_
  refine Zd (fun K hK53 => ?_)
  refine Zf ?_
  refine Za rfl rfl rfl (Ze Vc rfl) ?_
  refine Za rfl rfl rfl (Zh Xp rfl (Zgy _) hS X0 trivial Zak) ?_
  refine Za rfl rfl rfl (Yu Y6 rfl) ?_
  refine Zc 1 rfl ?_
  refine Zg ?_
  refine Zb hK53 ?_
  refine Zk ?_
  refine Zj ?_
  refine Zl rfl (RV.tmp rfl RV.nil) rfl ?_
  obtain rfl := QJ H
  replace hS := hS.cut 0
  exact ⟨rfl, hS⟩
 replace H := Zq H hb
 refine Zt ?_
 refine Zb hK25 ?_
 refine Zd (fun K hK26 => ?_)
 refine Yc ?_
 refine Zd (fun K hK27 => ?_)
 refine Zf ?_
 refine Zc 2 rfl ?_
 refine Zg ?_
 refine Zb hK27 ?_
 refine Zd (fun K hK28 => ?_)
 refine Zf ?_
 refine Zc 3 rfl ?_
 obtain ⟨e29, hi31, H⟩ := bind_some H
 obtain ⟨j30, hi31a, hi31b, hi31c⟩ := Yw hi31
 refine Za rfl rfl rfl (Y8 Xm rfl rfl hi31a hi31c (Rd.el (hS.row_rd hs0) Yl hi31b)) ?_
 refine Za rfl rfl rfl (X1 Z0 rfl (Zgy _) (Rd.el (hS.row_rd hs0) Yl hi31b) rfl) ?_
 refine Za2 rfl rfl rfl rfl (by kernel_rfl) rfl ?_
 show Calls _ _ #[_, _, _] _ _
 refine Zao Try.func98 rfl Try.ntmps98 rfl ?_
 refine Zd (fun K hK32 => ?_)
 refine Zf ?_
 refine Zc 1 rfl ?_
 refine Zg ?_
 refine Zb hK32 ?_
 refine Zd (fun K hK33 => ?_)
 refine Zf ?_
 refine Za rfl rfl rfl (Ze Yz rfl) ?_
 refine Za rfl rfl rfl (Zi Yr rfl (Zgy _) hS hs3 trivial Jw) ?_
 refine Zc 1 rfl ?_
 obtain ⟨r34, hm35, H⟩ := bind_some H
 refine Zo rfl rfl rfl rfl (by kernel_rfl) rfl (Zfo x0.tuple e29 A0_ c0_ _ (Zg1 s0_.k (hS.rd0 s0_.rd) (hS.blk0 s0_.blk)) hm35) ?_
 rintro e w ⟨rfl, hN⟩; refine ⟨_, rfl, ?_⟩; obtain ⟨hB, hS⟩ := hS.jn hN
 refine Zc 1 rfl ?_
 refine Za rfl rfl rfl (Z1 rfl rfl) ?_
 refine Za rfl rfl rfl (Z1 rfl rfl) ?_
 refine Zc 2 rfl ?_
 refine Zg ?_
 refine Zb hK33 ?_
 refine Zd (fun K hK36 => ?_)
 refine Zf ?_
 refine Zc 1 rfl ?_
 refine Za rfl rfl rfl (Ze Yz rfl) ?_
 refine Za rfl rfl rfl (Ze Xg rfl) ?_
 refine Za rfl rfl rfl (Ze Yi rfl) ?_
 refine Za rfl rfl rfl (Zh Z0 rfl (Zgy _) hS hs3 trivial Zfn) ?_
 refine Za rfl rfl rfl (Xa rfl rfl) ?_
 refine Zc 1 rfl ?_
 refine Zu 20 rfl (fun hb => ?_) (fun hb => ?_)
 rotate_left
 ·replace H := Zp H hb
  refine Zc 18 rfl ?_
  refine Zg ?_
  refine Zb hK36 ?_
  refine Zk ?_
  refine Zl rfl (RV.tmp rfl RV.nil) rfl ?_
  refine ⟨_, rfl, ?_⟩
  refine Zg ?_
  refine Zb hK28 ?_
  refine Yo rfl rfl ?_
  refine Zt ?_
  refine Z2 ?_
  refine Zb hK26 ?_
  refine Zf ?_
  refine Za rfl rfl rfl (Xf rfl rfl) ?_
  refine Zc 1 rfl ?_
  refine Zg ?_
  exact Va (n, v22, (IntKind.wrap .i64 (v23 + 1))) (by repeat (first | exact Sub.nil | refine Sub.cons rfl ?_)) ⟨hS, H⟩ (Nat.lt_succ_self _)
 replace H := Zq H hb
 refine Zc 1 rfl ?_
 refine Za rfl rfl rfl (Yt rfl) ?_
 refine Zc 1 rfl ?_
 refine Zu 23 rfl (fun hb => ?_) (fun hb => ?_)
 ·replace H := Zq H hb
  refine Zc 15 rfl ?_
  refine Zg ?_
  refine Zb hK36 ?_
  refine Zk ?_
  refine Zl rfl (RV.tmp rfl RV.nil) rfl ?_
  refine ⟨_, rfl, ?_⟩
  refine Zg ?_
  refine Zb hK28 ?_
  refine Zr rfl rfl ?_
  refine Zd (fun K hK37 => ?_)
  refine Zf ?_
  refine Zc 2 rfl ?_
  refine Zg ?_
  refine Zb hK37 ?_
  refine Zk ?_
  refine Zv ?_
  refine Zj ?_
  refine Zj ?_
  refine Zv ?_
  refine Zj ?_
  refine Zl rfl (RV.tmp rfl RV.nil) rfl ?_
  refine ⟨_, rfl, ?_⟩
  refine Zc 1 rfl ?_
  refine Zg ?_
  refine Zb hK6 ?_
  refine Zd (fun K hK38 => ?_)
  refine Zd (fun K hK39 => ?_)
  refine Zf ?_
  refine Zc 1 rfl ?_
  refine Za rfl rfl rfl (Xh rfl rfl) ?_
  refine Zg ?_
  refine Zb hK39 ?_
  refine Zz rfl (fun hb => ?_) (fun hb => ?_)
  rotate_left
  ·replace H := Zp H hb
   refine Zt ?_
   refine Zb hK38 ?_
   refine Zd (fun K hK41 => ?_)
   refine Zf ?_
   refine Zc 2 rfl ?_
   refine Zg ?_
   refine Zb hK41 ?_
   refine Zk ?_
   refine Zl rfl (RV.tmp rfl RV.nil) rfl ?_
   obtain rfl := QJ H
   replace hS := hS.cut 0
   exact ⟨rfl, hS⟩
  replace H := Zq H hb
  refine Zd (fun K hK40 => ?_)
  refine Zf ?_
  refine Za rfl rfl rfl (Ze Vc rfl) ?_
  refine Za rfl rfl rfl (Zh Xp rfl (Zgy _) hS X0 trivial Zak) ?_
  refine Za rfl rfl rfl (Yu Y6 rfl) ?_
  refine Zc 1 rfl ?_
  refine Zg ?_
  refine Zb hK40 ?_
  refine Zk ?_
  refine Zj ?_
  refine Zl rfl (RV.tmp rfl RV.nil) rfl ?_
  obtain rfl := QJ H
  replace hS := hS.cut 0
  exact ⟨rfl, hS⟩
 replace H := Zp H hb
 refine Zc 1 rfl ?_
 refine Za rfl rfl rfl (Ze Vc rfl) ?_
 refine Za rfl rfl rfl (Zh Xp rfl (Zgy _) hS X0 trivial Zak) ?_
 refine Zc 1 rfl ?_
 refine Za rfl rfl rfl (Ze Vx rfl) ?_
 refine Za rfl rfl rfl (Zh Z0 rfl (Zgy _) hS X0 trivial Js) ?_
 refine Za rfl rfl rfl (J0 rfl rfl) ?_
 refine Za rfl rfl rfl (J0 rfl rfl) ?_
 obtain ⟨e42, hi44, H⟩ := bind_some H
 obtain ⟨j43, hi44a, hi44b, hi44c⟩ := Yw hi44
 refine Za rfl rfl rfl (Y8 Y6 rfl rfl hi44a hi44c (Rd.el (hS.rd0 s5_.rd) X5 hi44b)) ?_
 refine Za rfl rfl rfl (Vd Zb3 rfl (Rd.el (hS.rd0 s5_.rd) X5 hi44b)) ?_
 refine Za rfl rfl rfl (X1 Z0 rfl (Zgy _) (Rd.el (hS.rd0 s5_.rd) X5 hi44b) rfl) ?_
 refine Za rfl rfl rfl (Y5 rfl rfl) ?_
 refine Zc 3 rfl ?_
 refine Zg ?_
 refine Zb hK36 ?_
 refine Zk ?_
 refine Zl rfl (RV.tmp rfl RV.nil) rfl ?_
 refine ⟨_, rfl, ?_⟩
 refine Zg ?_
 refine Zb hK28 ?_
 refine Zz rfl (fun hb => ?_) (fun hb => ?_)
 rotate_left
 ·replace H := Zp H hb
  refine Zt ?_
  refine Z2 ?_
  refine Zb hK26 ?_
  refine Zf ?_
  refine Za rfl rfl rfl (Xf rfl rfl) ?_
  refine Zc 1 rfl ?_
  refine Zg ?_
  exact Va (n, v22, (IntKind.wrap .i64 (v23 + 1))) (by repeat (first | exact Sub.nil | refine Sub.cons rfl ?_)) ⟨hS, H⟩ (Nat.lt_succ_self _)
 replace H := Zq H hb
 refine Zd (fun K hK45 => ?_)
 refine Zf ?_
 refine Zc 2 rfl ?_
 refine Zg ?_
 refine Zb hK45 ?_
 refine Zk ?_
 refine Zv ?_
 refine Zj ?_
 refine Zj ?_
 refine Zv ?_
 refine Zj ?_
 refine Zl rfl (RV.tmp rfl RV.nil) rfl ?_
 refine ⟨_, rfl, ?_⟩
 refine Zc 1 rfl ?_
 refine Zg ?_
 refine Zb hK6 ?_
 refine Zd (fun K hK46 => ?_)
 refine Zd (fun K hK47 => ?_)
 refine Zf ?_
 refine Zc 1 rfl ?_
 refine Za rfl rfl rfl (Xh rfl rfl) ?_
 refine Zg ?_
 refine Zb hK47 ?_
 refine Zz rfl (fun hb => ?_) (fun hb => ?_)
 rotate_left
 ·replace H := Zp H hb
  refine Zt ?_
  refine Zb hK46 ?_
  refine Zd (fun K hK49 => ?_)
  refine Zf ?_
  refine Zc 2 rfl ?_
  refine Zg ?_
  refine Zb hK49 ?_
  refine Zk ?_
  refine Zl rfl (RV.tmp rfl RV.nil) rfl ?_
  obtain rfl := QJ H
  replace hS := hS.cut 0
  exact ⟨rfl, hS⟩
 replace H := Zq H hb
 refine Zd (fun K hK48 => ?_)
 refine Zf ?_
 refine Za rfl rfl rfl (Ze Vc rfl) ?_
 refine Za rfl rfl rfl (Zh Xp rfl (Zgy _) hS X0 trivial Zak) ?_
 refine Za rfl rfl rfl (Yu Y6 rfl) ?_
 refine Zc 1 rfl ?_
 refine Zg ?_
 refine Zb hK48 ?_
 refine Zk ?_
 refine Zj ?_
 refine Zl rfl (RV.tmp rfl RV.nil) rfl ?_
 obtain rfl := QJ H
 replace hS := hS.cut 0
 exact ⟨rfl, hS⟩
end Go.Proofs.Ytamjlcaoieliaaa
