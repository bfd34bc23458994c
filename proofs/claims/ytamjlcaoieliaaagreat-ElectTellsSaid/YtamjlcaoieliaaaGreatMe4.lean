/- Texts of one claim put together. -/
import Derived.Test.YtamjlcaoieliaaaGreatMe1
import Derived.Test.YtamjlcaoieliaaaGreatMe2
import Derived.Test.YtamjlcaoieliaaaGreatMe3
namespace Go.Proofs.YtamjlcaoieliaaaGreat
open Go Go.RowKit
set_option maxRecDepth 100000
set_option maxHeartbeats 4000000
theorem c_msg_Fine (x0 : Ms) (x1 : Int) (A0_ : OA) (c0_ : Nat) (w0 : World) (s0_ : SlI w0 V3 A0_ c0_ x0.entries) {r : Bool} (H : Zes x0 x1 = some r) : Calls Tryz.prog 104 #[.agg #[.int .u8 x0.kind, .int .i64 x0.frm, .int .i64 x0.dst, .int .i64 x0.term, .int .i64 x0.cap, .int .i64 x0.last, .int .i64 x0.lastTerm, .int .i64 x0.commit, .bool x0.okk, .slice A0_ x0.entries.length c0_, .int .i64 x0.snap.index, .int .i64 x0.snap.term, .int .i64 x0.snap.sum, .int .i64 x0.snap.level, .bool x0.snap.final], .int .i64 x1] w0 fun e w' => e = .returned (.bool r) ∧ St0 All w0 w' [] := by
 unfold Zes at H
 refine Ys Tryz.func104 rfl Tryz.ntmps104 rfl ?_
 have hS := St0.start All w0
 refine Zd (fun K hK1 => ?_)
 refine Zf ?_
 refine Z7 rfl rfl rfl CellsOf.agg hS (fun b2 w hS hB => ?_)
 refine Zb 1 rfl ?_
 refine Zg ?_
 refine Zc hK1 ?_
 refine wpC_scope1 0 rfl ?_
 refine Zd (fun K hK4 => ?_)
 refine Zd (fun K hK5 => ?_)
 refine Zf ?_
 refine Zb 1 rfl ?_
 obtain ⟨r6, hm7, H⟩ := bind_some H
 refine Zn rfl rfl rfl rfl (by kernel_rfl) rfl (Zau x1 1 5 _ hm7) ?_
 rintro e w ⟨rfl, hN⟩; refine ⟨_, rfl, ?_⟩; obtain ⟨hB, hS⟩ := hS.jn hN
 refine Za rfl rfl rfl (Yo rfl) ?_
 refine Zb 1 rfl ?_
 refine Zq 8 rfl (fun hb => ?_) (fun hb => ?_)
 ·replace H := Zo H hb
  refine Zb 16 rfl ?_
  refine Zg ?_
  refine Zc hK5 ?_
  refine Zu rfl rfl ?_
  refine V6 ?_
  refine Xj ?_
  refine Ju ?_
  refine Zd (fun K hK8 => ?_)
  refine Zs ?_
  refine Zc hK8 ?_
  refine Zd (fun K hK9 => ?_)
  refine Zf ?_
  refine Zb 1 rfl ?_
  refine Zg ?_
  refine Zc hK9 ?_
  refine Zk ?_
  refine Yj ?_
  refine Zm rfl (RV.tmp rfl RV.nil) rfl ?_
  obtain rfl := QJ H
  replace hS := hS.cut 0
  exact ⟨rfl, hS⟩
 replace H := Zp H hb
 refine Za rfl rfl rfl (Ze Zaf rfl) ?_
 refine Za rfl rfl rfl (Zh Z3 rfl (Zhe _) hS hs0 trivial Xu) ?_
 refine Za rfl rfl rfl (Ze Zdd rfl) ?_
 refine Za rfl rfl rfl (Zh Z3 rfl (Zhe _) hS hs0 trivial Jt) ?_
 refine Ym (ps := [(0, .tmp 10), (1, .tmp 12)]) [.int .i64 x0.frm, .int .i64 x0.dst] Vh zc_3 rfl rfl rfl rfl rfl (by kernel_rfl) hS (fun b10 w hS hB => ?_)
 refine Zb 1 rfl ?_
 obtain ⟨r12, hm13, H⟩ := bind_some H
 refine Zn rfl rfl rfl rfl (by kernel_rfl) rfl (Zga ([x0.frm, x0.dst] : List Int) 2 1 x1 (some ⟨b10, 0, none⟩) 2 _ (Zhh ⟨Nat.le_refl 2, by decide⟩ (hS.box_rd hs0) (hS.box_blk hs0)) hm13) ?_
 rintro e w ⟨rfl, hN⟩; refine ⟨_, rfl, ?_⟩; obtain ⟨hB, hS⟩ := hS.jn hN
 refine Za rfl rfl rfl (Yo rfl) ?_
 refine Zb 2 rfl ?_
 refine Zq 18 rfl (fun hb => ?_) (fun hb => ?_)
 ·replace H := Zo H hb
  refine Zb 6 rfl ?_
  refine Zg ?_
  refine Zc hK5 ?_
  refine Zu rfl rfl ?_
  refine V6 ?_
  refine Xj ?_
  refine Ju ?_
  refine Zd (fun K hK14 => ?_)
  refine Zs ?_
  refine Zc hK14 ?_
  refine Zd (fun K hK15 => ?_)
  refine Zf ?_
  refine Zb 1 rfl ?_
  refine Zg ?_
  refine Zc hK15 ?_
  refine Zk ?_
  refine Yj ?_
  refine Zm rfl (RV.tmp rfl RV.nil) rfl ?_
  obtain rfl := QJ H
  replace hS := hS.cut 0
  exact ⟨rfl, hS⟩
 replace H := Zp H hb
 refine Za rfl rfl rfl (Ze Zaf rfl) ?_
 refine Za rfl rfl rfl (Zh Z3 rfl (Zhe _) hS Y2 trivial Xu) ?_
 refine Za rfl rfl rfl (Ze Zdd rfl) ?_
 refine Za rfl rfl rfl (Zh Z3 rfl (Zhe _) hS Y2 trivial Jt) ?_
 refine Za rfl rfl rfl (Yr rfl rfl) ?_
 refine Zb 1 rfl ?_
 refine Zg ?_
 refine Zc hK5 ?_
 refine Z1 rfl (fun hb => ?_) (fun hb => ?_)
 ·replace H := Zo H hb
  refine V6 ?_
  refine Xj ?_
  refine Ju ?_
  refine Zd (fun K hK16 => ?_)
  refine Zs ?_
  refine Zc hK16 ?_
  refine Zd (fun K hK17 => ?_)
  refine Zf ?_
  refine Zb 1 rfl ?_
  refine Zg ?_
  refine Zc hK17 ?_
  refine Zk ?_
  refine Yj ?_
  refine Zm rfl (RV.tmp rfl RV.nil) rfl ?_
  obtain rfl := QJ H
  replace hS := hS.cut 0
  exact ⟨rfl, hS⟩
 replace H := Zp H hb
 refine Zs ?_
 refine Zc hK4 ?_
 refine Zd (fun K hK18 => ?_)
 refine Zd (fun K hK19 => ?_)
 refine Zf ?_
 refine Za rfl rfl rfl (Ze Vc rfl) ?_
 refine Za rfl rfl rfl (Zh Zas rfl (Zhe _) hS Y2 trivial Yx) ?_
 refine Za rfl rfl rfl (yx_conv (k' := .i64) (by kernel_rfl) (by kernel_rfl) rfl) ?_
 obtain ⟨r20, hm21, H⟩ := bind_some H
 refine Zn rfl rfl rfl rfl (by kernel_rfl) rfl (Zau (IntKind.wrap .i64 x0.kind) 1 5 _ hm21) ?_
 rintro e w ⟨rfl, hN⟩; refine ⟨_, rfl, ?_⟩; obtain ⟨hB, hS⟩ := hS.jn hN
 refine Za rfl rfl rfl (Yo rfl) ?_
 refine Zb 1 rfl ?_
 refine Zq 30 rfl (fun hb => ?_) (fun hb => ?_)
 ·replace H := Zo H hb
  refine Zb 11 rfl ?_
  refine Zg ?_
  refine Zc hK19 ?_
  refine Zu rfl rfl ?_
  refine V6 ?_
  refine Xj ?_
  refine Ju ?_
  refine Zd (fun K hK22 => ?_)
  refine Zs ?_
  refine Zc hK22 ?_
  refine Zd (fun K hK23 => ?_)
  refine Zf ?_
  refine Zb 1 rfl ?_
  refine Zg ?_
  refine Zc hK23 ?_
  refine Zk ?_
  refine Yj ?_
  refine Zm rfl (RV.tmp rfl RV.nil) rfl ?_
  obtain rfl := QJ H
  replace hS := hS.cut 0
  exact ⟨rfl, hS⟩
 replace H := Zp H hb
 refine Za rfl rfl rfl (Ze Js rfl) ?_
 refine Za rfl rfl rfl (Zh Z3 rfl (Zhe _) hS Y2 trivial Jb) ?_
 obtain ⟨r24, hm25, H⟩ := bind_some H
 refine Zn rfl rfl rfl rfl (by kernel_rfl) rfl (Zau x0.term 1 1073741824 _ hm25) ?_
 rintro e w ⟨rfl, hN⟩; refine ⟨_, rfl, ?_⟩; obtain ⟨hB, hS⟩ := hS.jn hN
 refine Za rfl rfl rfl (Yo rfl) ?_
 refine Zb 2 rfl ?_
 refine Zq 36 rfl (fun hb => ?_) (fun hb => ?_)
 ·replace H := Zo H hb
  refine Zb 5 rfl ?_
  refine Zg ?_
  refine Zc hK19 ?_
  refine Zu rfl rfl ?_
  refine V6 ?_
  refine Xj ?_
  refine Ju ?_
  refine Zd (fun K hK26 => ?_)
  refine Zs ?_
  refine Zc hK26 ?_
  refine Zd (fun K hK27 => ?_)
  refine Zf ?_
  refine Zb 1 rfl ?_
  refine Zg ?_
  refine Zc hK27 ?_
  refine Zk ?_
  refine Yj ?_
  refine Zm rfl (RV.tmp rfl RV.nil) rfl ?_
  obtain rfl := QJ H
  replace hS := hS.cut 0
  exact ⟨rfl, hS⟩
 replace H := Zp H hb
 refine Za rfl rfl rfl (Ze Zfw rfl) ?_
 refine Za rfl rfl rfl (Zh Z3 rfl (Zhe _) hS Y2 trivial Zg7) ?_
 obtain ⟨r28, hm29, H⟩ := bind_some H
 refine Zn rfl rfl rfl rfl (by kernel_rfl) rfl (Zau x0.cap 1 2 _ hm29) ?_
 rintro e w ⟨rfl, hN⟩; refine ⟨_, rfl, ?_⟩; obtain ⟨hB, hS⟩ := hS.jn hN
 refine Za rfl rfl rfl (Yo rfl) ?_
 refine Zb 1 rfl ?_
 refine Zg ?_
 refine Zc hK19 ?_
 refine Z1 rfl (fun hb => ?_) (fun hb => ?_)
 ·replace H := Zo H hb
  refine V6 ?_
  refine Xj ?_
  refine Ju ?_
  refine Zd (fun K hK30 => ?_)
  refine Zs ?_
  refine Zc hK30 ?_
  refine Zd (fun K hK31 => ?_)
  refine Zf ?_
  refine Zb 1 rfl ?_
  refine Zg ?_
  refine Zc hK31 ?_
  refine Zk ?_
  refine Yj ?_
  refine Zm rfl (RV.tmp rfl RV.nil) rfl ?_
  obtain rfl := QJ H
  replace hS := hS.cut 0
  exact ⟨rfl, hS⟩
 replace H := Zp H hb
 refine Zs ?_
 refine Zc hK18 ?_
 refine Zd (fun K hK32 => ?_)
 refine Zd (fun K hK33 => ?_)
 refine Zf ?_
 refine Za rfl rfl rfl (Ze Zgl rfl) ?_
 refine Za rfl rfl rfl (Zh Z3 rfl (Zhe _) hS Y2 trivial Zcq) ?_
 refine Za rfl rfl rfl (Ze Ze2 rfl) ?_
 refine Za rfl rfl rfl (Zh Z3 rfl (Zhe _) hS Y2 trivial Ze9) ?_
 refine Za rfl rfl rfl (Ze fo_32_7 rfl) ?_
 refine Za rfl rfl rfl (Zh Z3 rfl (Zhe _) hS Y2 trivial sg7_1) ?_
 refine Ym (ps := [(0, .tmp 43), (1, .tmp 45), (2, .tmp 47)]) [.int .i64 x0.last, .int .i64 x0.lastTerm, .int .i64 x0.commit] Vh zc_3 rfl rfl rfl rfl rfl (by kernel_rfl) hS (fun b34 w hS hB => ?_)
 obtain ⟨r36, hm37, H⟩ := bind_some H
 refine Zn rfl rfl rfl rfl (by kernel_rfl) rfl (Zga ([x0.last, x0.lastTerm, x0.commit] : List Int) 3 0 1073741824 (some ⟨b34, 0, none⟩) 3 _ (Zhh ⟨Nat.le_refl 3, by decide⟩ (hS.box_rd hs0) (hS.box_blk hs0)) hm37) ?_
 rintro e w ⟨rfl, hN⟩; refine ⟨_, rfl, ?_⟩; obtain ⟨hB, hS⟩ := hS.jn hN
 refine Za rfl rfl rfl (Yo rfl) ?_
 refine Zb 1 rfl ?_
 refine Zq 51 rfl (fun hb => ?_) (fun hb => ?_)
 ·replace H := Zo H hb
  refine Zb 4 rfl ?_
  refine Zg ?_
  refine Zc hK33 ?_
  refine Zu rfl rfl ?_
  refine V6 ?_
  refine Xj ?_
  refine Ju ?_
  refine Zd (fun K hK38 => ?_)
  refine Zs ?_
  refine Zc hK38 ?_
  refine Zd (fun K hK39 => ?_)
  refine Zf ?_
  refine Zb 1 rfl ?_
  refine Zg ?_
  refine Zc hK39 ?_
  refine Zk ?_
  refine Yj ?_
  refine Zm rfl (RV.tmp rfl RV.nil) rfl ?_
  obtain rfl := QJ H
  replace hS := hS.cut 0
  exact ⟨rfl, hS⟩
 replace H := Zp H hb
 refine Za rfl rfl rfl (Zi Va rfl (Zhe _) hS Xi trivial Xg) ?_
 obtain ⟨r40, hm41, H⟩ := bind_some H
 refine Zn rfl rfl rfl rfl (by kernel_rfl) rfl (c_msg_entries x0 A0_ c0_ _ (Zhh s0_.k (hS.rd0 s0_.rd) (hS.blk0 s0_.blk)) hm41) ?_
 rintro e w ⟨rfl, hN⟩; refine ⟨_, rfl, ?_⟩; obtain ⟨hB, hS⟩ := hS.jn hN
 refine Za rfl rfl rfl (Yo rfl) ?_
 refine Zb 1 rfl ?_
 refine Zg ?_
 refine Zc hK33 ?_
 refine Z1 rfl (fun hb => ?_) (fun hb => ?_)
 ·replace H := Zo H hb
  refine V6 ?_
  refine Xj ?_
  refine Ju ?_
  refine Zd (fun K hK42 => ?_)
  refine Zs ?_
  refine Zc hK42 ?_
  refine Zd (fun K hK43 => ?_)
  refine Zf ?_
  refine Zb 1 rfl ?_
  refine Zg ?_
  refine Zc hK43 ?_
  refine Zk ?_
  refine Yj ?_
  refine Zm rfl (RV.tmp rfl RV.nil) rfl ?_
  obtain rfl := QJ H
  replace hS := hS.cut 0
  exact ⟨rfl, hS⟩
 replace H := Zp H hb
 refine Zs ?_
 refine Zc hK32 ?_
 refine Zd (fun K hK44 => ?_)
 refine Zd (fun K hK45 => ?_)
 refine Zf ?_
 refine Za rfl rfl rfl (Ze Vc rfl) ?_
 refine Za rfl rfl rfl (Zh Zas rfl (Zhe _) hS Xi trivial Yx) ?_
 refine Za rfl rfl rfl (Xm rfl rfl) ?_
 refine Zb 1 rfl ?_
 refine Zq 59 rfl (fun hb => ?_) (fun hb => ?_)
 rotate_left
 ·replace H := Zp H hb
  refine Zb 10 rfl ?_
  refine Zg ?_
  refine Zc hK45 ?_
  refine Yg rfl rfl ?_
  refine Zs ?_
  refine Zc hK44 ?_
  refine Zd (fun K hK75 => ?_)
  refine Zd (fun K hK76 => ?_)
  refine Zf ?_
  refine Za rfl rfl rfl (Ze Ze5 rfl) ?_
  refine Za rfl rfl rfl (Zh sc_4 rfl (Zhe _) hS Xi trivial sg8_1) ?_
  refine Zb 1 rfl ?_
  refine Zq 72 rfl (fun hb => ?_) (fun hb => ?_)
  rotate_left
  ·replace H := Zp H hb
   refine Zb 9 rfl ?_
   refine Zg ?_
   refine Zc hK76 ?_
   refine Yg rfl rfl ?_
   refine Zs ?_
   refine Zc hK75 ?_
   refine Zd (fun K hK93 => ?_)
   refine Zd (fun K hK94 => ?_)
   refine Zf ?_
   refine Za rfl rfl rfl (Ze Vc rfl) ?_
   refine Za rfl rfl rfl (Zh Zas rfl (Zhe _) hS Xi trivial Yx) ?_
   refine Za rfl rfl rfl (Yr rfl rfl) ?_
   refine Zg ?_
   refine Zc hK94 ?_
   refine Z1 rfl (fun hb => ?_) (fun hb => ?_)
   rotate_left
   ·replace H := Zp H hb
    refine Zs ?_
    refine Zc hK93 ?_
    refine Zd (fun K hK98 => ?_)
    refine Zd (fun K hK99 => ?_)
    refine Zf ?_
    refine Za rfl rfl rfl (Ze Xa rfl) ?_
    refine Za rfl rfl rfl (Zi Y3 rfl (Zhe _) hS Xi trivial Zai) ?_
    refine Za rfl rfl rfl (Xn (cells := [.int .i64 0, .int .i64 0, .int .i64 0, .int .i64 0, .bool false]) rfl (by kernel_rfl)) ?_
    refine Za rfl rfl rfl (Zal (by kernel_rfl) rfl rfl (Za8 _ _ _ _ _ _ _ _ _ _)) ?_
    refine Zb 1 rfl ?_
    refine Zg ?_
    refine Zc hK99 ?_
    refine Zk ?_
    refine Zj ?_
    refine Yj ?_
    refine Zm rfl (RV.tmp rfl RV.nil) rfl ?_
    obtain rfl := QJ H
    replace hS := hS.cut 0
    exact ⟨rfl, hS⟩
   replace H := Zo H hb
   refine Zd (fun K hK95 => ?_)
   refine Zf ?_
   refine Za rfl rfl rfl (Ze Xa rfl) ?_
   refine Za rfl rfl rfl (Ze Yl rfl) ?_
   refine Za rfl rfl rfl (Zh Z3 rfl (Zhe _) hS Xi trivial Vz) ?_
   refine Za rfl rfl rfl (Y7 rfl rfl) ?_
   refine Zb 1 rfl ?_
   refine Zq 89 rfl (fun hb => ?_) (fun hb => ?_)
   rotate_left
   ·replace H := Zp H hb
    refine Zb 5 rfl ?_
    refine Zg ?_
    refine Zc hK95 ?_
    refine Zk ?_
    refine Zj ?_
    refine Yj ?_
    refine Zm rfl (RV.tmp rfl RV.nil) rfl ?_
    obtain rfl := QJ H
    replace hS := hS.cut 0
    exact ⟨rfl, hS⟩
   replace H := Zo H hb
   refine Za rfl rfl rfl (Ze Xa rfl) ?_
   refine Za rfl rfl rfl (Zi Y3 rfl (Zhe _) hS Xi trivial Zai) ?_
   obtain ⟨r96, hm97, H⟩ := bind_some H
   refine Zn rfl rfl rfl rfl (by kernel_rfl) rfl (Zdc x0.snap _ hm97) ?_
   rintro e w ⟨rfl, hN⟩; refine ⟨_, rfl, ?_⟩; obtain ⟨hB, hS⟩ := hS.jn hN
   refine Zb 2 rfl ?_
   refine Zg ?_
   refine Zc hK95 ?_
   refine Zk ?_
   refine Zj ?_
   refine Yj ?_
   refine Zm rfl (RV.tmp rfl RV.nil) rfl ?_
   obtain rfl := QJ H
   replace hS := hS.cut 0
   exact ⟨rfl, hS⟩
  replace H := Zo H hb
  refine Za rfl rfl rfl (Ze Vc rfl) ?_
  refine Za rfl rfl rfl (Zh Zas rfl (Zhe _) hS Xi trivial Yx) ?_
  refine Za rfl rfl rfl (Xm rfl rfl) ?_
  refine Zb 2 rfl ?_
  refine Zq 77 rfl (fun hb => ?_) (fun hb => ?_)
  rotate_left
  ·replace H := Zp H hb
   refine Zb 4 rfl ?_
   refine Zg ?_
   refine Zc hK76 ?_
   refine Yg rfl rfl ?_
   refine Zs ?_
   refine Zc hK75 ?_
   refine Zd (fun K hK86 => ?_)
   refine Zd (fun K hK87 => ?_)
   refine Zf ?_
   refine Za rfl rfl rfl (Ze Vc rfl) ?_
   refine Za rfl rfl rfl (Zh Zas rfl (Zhe _) hS Xi trivial Yx) ?_
   refine Za rfl rfl rfl (Yr rfl rfl) ?_
   refine Zg ?_
   refine Zc hK87 ?_
   refine Z1 rfl (fun hb => ?_) (fun hb => ?_)
   rotate_left
   ·replace H := Zp H hb
    refine Zs ?_
    refine Zc hK86 ?_
    refine Zd (fun K hK91 => ?_)
    refine Zd (fun K hK92 => ?_)
    refine Zf ?_
    refine Za rfl rfl rfl (Ze Xa rfl) ?_
    refine Za rfl rfl rfl (Zi Y3 rfl (Zhe _) hS Xi trivial Zai) ?_
    refine Za rfl rfl rfl (Xn (cells := [.int .i64 0, .int .i64 0, .int .i64 0, .int .i64 0, .bool false]) rfl (by kernel_rfl)) ?_
    refine Za rfl rfl rfl (Zal (by kernel_rfl) rfl rfl (Za8 _ _ _ _ _ _ _ _ _ _)) ?_
    refine Zb 1 rfl ?_
    refine Zg ?_
    refine Zc hK92 ?_
    refine Zk ?_
    refine Zj ?_
    refine Yj ?_
    refine Zm rfl (RV.tmp rfl RV.nil) rfl ?_
    obtain rfl := QJ H
    replace hS := hS.cut 0
    exact ⟨rfl, hS⟩
   replace H := Zo H hb
   refine Zd (fun K hK88 => ?_)
   refine Zf ?_
   refine Za rfl rfl rfl (Ze Xa rfl) ?_
   refine Za rfl rfl rfl (Ze Yl rfl) ?_
   refine Za rfl rfl rfl (Zh Z3 rfl (Zhe _) hS Xi trivial Vz) ?_
   refine Za rfl rfl rfl (Y7 rfl rfl) ?_
   refine Zb 1 rfl ?_
   refine Zq 89 rfl (fun hb => ?_) (fun hb => ?_)
   rotate_left
   ·replace H := Zp H hb
    refine Zb 5 rfl ?_
    refine Zg ?_
    refine Zc hK88 ?_
    refine Zk ?_
    refine Zj ?_
    refine Yj ?_
    refine Zm rfl (RV.tmp rfl RV.nil) rfl ?_
    obtain rfl := QJ H
    replace hS := hS.cut 0
    exact ⟨rfl, hS⟩
   replace H := Zo H hb
   refine Za rfl rfl rfl (Ze Xa rfl) ?_
   refine Za rfl rfl rfl (Zi Y3 rfl (Zhe _) hS Xi trivial Zai) ?_
   obtain ⟨r89, hm90, H⟩ := bind_some H
   refine Zn rfl rfl rfl rfl (by kernel_rfl) rfl (Zdc x0.snap _ hm90) ?_
   rintro e w ⟨rfl, hN⟩; refine ⟨_, rfl, ?_⟩; obtain ⟨hB, hS⟩ := hS.jn hN
   refine Zb 2 rfl ?_
   refine Zg ?_
   refine Zc hK88 ?_
   refine Zk ?_
   refine Zj ?_
   refine Yj ?_
   refine Zm rfl (RV.tmp rfl RV.nil) rfl ?_
   obtain rfl := QJ H
   replace hS := hS.cut 0
   exact ⟨rfl, hS⟩
  replace H := Zo H hb
  refine Za rfl rfl rfl (Ze Vc rfl) ?_
  refine Za rfl rfl rfl (Zh Zas rfl (Zhe _) hS Xi trivial Yx) ?_
  refine Za rfl rfl rfl (Xm rfl rfl) ?_
  refine Zb 1 rfl ?_
  refine Zg ?_
  refine Zc hK76 ?_
  refine Z1 rfl (fun hb => ?_) (fun hb => ?_)
  ·replace H := Zo H hb
   refine V6 ?_
   refine Xj ?_
   refine Ju ?_
   refine Zd (fun K hK77 => ?_)
   refine Zs ?_
   refine Zc hK77 ?_
   refine Zd (fun K hK78 => ?_)
   refine Zf ?_
   refine Zb 1 rfl ?_
   refine Zg ?_
   refine Zc hK78 ?_
   refine Zk ?_
   refine Yj ?_
   refine Zm rfl (RV.tmp rfl RV.nil) rfl ?_
   obtain rfl := QJ H
   replace hS := hS.cut 0
   exact ⟨rfl, hS⟩
  replace H := Zp H hb
  refine Zs ?_
  refine Zc hK75 ?_
  refine Zd (fun K hK79 => ?_)
  refine Zd (fun K hK80 => ?_)
  refine Zf ?_
  refine Za rfl rfl rfl (Ze Vc rfl) ?_
  refine Za rfl rfl rfl (Zh Zas rfl (Zhe _) hS Xi trivial Yx) ?_
  refine Za rfl rfl rfl (Yr rfl rfl) ?_
  refine Zg ?_
  refine Zc hK80 ?_
  refine Z1 rfl (fun hb => ?_) (fun hb => ?_)
  rotate_left
  ·replace H := Zp H hb
   refine Zs ?_
   refine Zc hK79 ?_
   refine Zd (fun K hK84 => ?_)
   refine Zd (fun K hK85 => ?_)
   refine Zf ?_
   refine Za rfl rfl rfl (Ze Xa rfl) ?_
   refine Za rfl rfl rfl (Zi Y3 rfl (Zhe _) hS Xi trivial Zai) ?_
   refine Za rfl rfl rfl (Xn (cells := [.int .i64 0, .int .i64 0, .int .i64 0, .int .i64 0, .bool false]) rfl (by kernel_rfl)) ?_
   refine Za rfl rfl rfl (Zal (by kernel_rfl) rfl rfl (Za8 _ _ _ _ _ _ _ _ _ _)) ?_
   refine Zb 1 rfl ?_
   refine Zg ?_
   refine Zc hK85 ?_
   refine Zk ?_
   refine Zj ?_
   refine Yj ?_
   refine Zm rfl (RV.tmp rfl RV.nil) rfl ?_
   obtain rfl := QJ H
   replace hS := hS.cut 0
   exact ⟨rfl, hS⟩
  replace H := Zo H hb
  refine Zd (fun K hK81 => ?_)
  refine Zf ?_
  refine Za rfl rfl rfl (Ze Xa rfl) ?_
  refine Za rfl rfl rfl (Ze Yl rfl) ?_
  refine Za rfl rfl rfl (Zh Z3 rfl (Zhe _) hS Xi trivial Vz) ?_
  refine Za rfl rfl rfl (Y7 rfl rfl) ?_
  refine Zb 1 rfl ?_
  refine Zq 89 rfl (fun hb => ?_) (fun hb => ?_)
  rotate_left
  ·replace H := Zp H hb
   refine Zb 5 rfl ?_
   refine Zg ?_
   refine Zc hK81 ?_
   refine Zk ?_
   refine Zj ?_
   refine Yj ?_
   refine Zm rfl (RV.tmp rfl RV.nil) rfl ?_
   obtain rfl := QJ H
   replace hS := hS.cut 0
   exact ⟨rfl, hS⟩
  replace H := Zo H hb
  refine Za rfl rfl rfl (Ze Xa rfl) ?_
  refine Za rfl rfl rfl (Zi Y3 rfl (Zhe _) hS Xi trivial Zai) ?_
  obtain ⟨r82, hm83, H⟩ := bind_some H
  refine Zn rfl rfl rfl rfl (by kernel_rfl) rfl (Zdc x0.snap _ hm83) ?_
  rintro e w ⟨rfl, hN⟩; refine ⟨_, rfl, ?_⟩; obtain ⟨hB, hS⟩ := hS.jn hN
  refine Zb 2 rfl ?_
  refine Zg ?_
  refine Zc hK81 ?_
  refine Zk ?_
  refine Zj ?_
  refine Yj ?_
  refine Zm rfl (RV.tmp rfl RV.nil) rfl ?_
  obtain rfl := QJ H
  replace hS := hS.cut 0
  exact ⟨rfl, hS⟩
 replace H := Zo H hb
 refine Za rfl rfl rfl (Ze Zbg rfl) ?_
 refine Za rfl rfl rfl (Zh Vm rfl (Zhe _) hS Xi trivial Zfr) ?_
 refine Za rfl rfl rfl (Yz Xq rfl) ?_
 refine Za rfl rfl rfl (Y7 rfl rfl) ?_
 refine Zb 1 rfl ?_
 refine Zq 64 rfl (fun hb => ?_) (fun hb => ?_)
 ·replace H := Zo H hb
  refine Zb 5 rfl ?_
  refine Zg ?_
  refine Zc hK45 ?_
  refine Zu rfl rfl ?_
  refine V6 ?_
  refine Xj ?_
  refine Ju ?_
  refine Zd (fun K hK46 => ?_)
  refine Zs ?_
  refine Zc hK46 ?_
  refine Zd (fun K hK47 => ?_)
  refine Zf ?_
  refine Zb 1 rfl ?_
  refine Zg ?_
  refine Zc hK47 ?_
  refine Zk ?_
  refine Yj ?_
  refine Zm rfl (RV.tmp rfl RV.nil) rfl ?_
  obtain rfl := QJ H
  replace hS := hS.cut 0
  exact ⟨rfl, hS⟩
 replace H := Zp H hb
 refine Za rfl rfl rfl (Ze fo_32_7 rfl) ?_
 refine Za rfl rfl rfl (Zh Z3 rfl (Zhe _) hS Xi trivial sg7_1) ?_
 refine Za rfl rfl rfl (Y7 rfl rfl) ?_
 refine Zb 2 rfl ?_
 refine Zg ?_
 refine Zc hK45 ?_
 refine Z1 rfl (fun hb => ?_) (fun hb => ?_)
 ·replace H := Zo H hb
  refine V6 ?_
  refine Xj ?_
  refine Ju ?_
  refine Zd (fun K hK48 => ?_)
  refine Zs ?_
  refine Zc hK48 ?_
  refine Zd (fun K hK49 => ?_)
  refine Zf ?_
  refine Zb 1 rfl ?_
  refine Zg ?_
  refine Zc hK49 ?_
  refine Zk ?_
  refine Yj ?_
  refine Zm rfl (RV.tmp rfl RV.nil) rfl ?_
  obtain rfl := QJ H
  replace hS := hS.cut 0
  exact ⟨rfl, hS⟩
 replace H := Zp H hb
 refine Zs ?_
 refine Zc hK44 ?_
 refine Zd (fun K hK50 => ?_)
 refine Zd (fun K hK51 => ?_)
 refine Zf ?_
 refine Za rfl rfl rfl (Ze Ze5 rfl) ?_
 refine Za rfl rfl rfl (Zh sc_4 rfl (Zhe _) hS Xi trivial sg8_1) ?_
 refine Zb 1 rfl ?_
 refine Zq 72 rfl (fun hb => ?_) (fun hb => ?_)
 rotate_left
 ·replace H := Zp H hb
  refine Zb 9 rfl ?_
  refine Zg ?_
  refine Zc hK51 ?_
  refine Yg rfl rfl ?_
  refine Zs ?_
  refine Zc hK50 ?_
  refine Zd (fun K hK68 => ?_)
  refine Zd (fun K hK69 => ?_)
  refine Zf ?_
  refine Za rfl rfl rfl (Ze Vc rfl) ?_
  refine Za rfl rfl rfl (Zh Zas rfl (Zhe _) hS Xi trivial Yx) ?_
  refine Za rfl rfl rfl (Yr rfl rfl) ?_
  refine Zg ?_
  refine Zc hK69 ?_
  refine Z1 rfl (fun hb => ?_) (fun hb => ?_)
  rotate_left
  ·replace H := Zp H hb
   refine Zs ?_
   refine Zc hK68 ?_
   refine Zd (fun K hK73 => ?_)
   refine Zd (fun K hK74 => ?_)
   refine Zf ?_
   refine Za rfl rfl rfl (Ze Xa rfl) ?_
   refine Za rfl rfl rfl (Zi Y3 rfl (Zhe _) hS Xi trivial Zai) ?_
   refine Za rfl rfl rfl (Xn (cells := [.int .i64 0, .int .i64 0, .int .i64 0, .int .i64 0, .bool false]) rfl (by kernel_rfl)) ?_
   refine Za rfl rfl rfl (Zal (by kernel_rfl) rfl rfl (Za8 _ _ _ _ _ _ _ _ _ _)) ?_
   refine Zb 1 rfl ?_
   refine Zg ?_
   refine Zc hK74 ?_
   refine Zk ?_
   refine Zj ?_
   refine Yj ?_
   refine Zm rfl (RV.tmp rfl RV.nil) rfl ?_
   obtain rfl := QJ H
   replace hS := hS.cut 0
   exact ⟨rfl, hS⟩
  replace H := Zo H hb
  refine Zd (fun K hK70 => ?_)
  refine Zf ?_
  refine Za rfl rfl rfl (Ze Xa rfl) ?_
  refine Za rfl rfl rfl (Ze Yl rfl) ?_
  refine Za rfl rfl rfl (Zh Z3 rfl (Zhe _) hS Xi trivial Vz) ?_
  refine Za rfl rfl rfl (Y7 rfl rfl) ?_
  refine Zb 1 rfl ?_
  refine Zq 89 rfl (fun hb => ?_) (fun hb => ?_)
  rotate_left
  ·replace H := Zp H hb
   refine Zb 5 rfl ?_
   refine Zg ?_
   refine Zc hK70 ?_
   refine Zk ?_
   refine Zj ?_
   refine Yj ?_
   refine Zm rfl (RV.tmp rfl RV.nil) rfl ?_
   obtain rfl := QJ H
   replace hS := hS.cut 0
   exact ⟨rfl, hS⟩
  replace H := Zo H hb
  refine Za rfl rfl rfl (Ze Xa rfl) ?_
  refine Za rfl rfl rfl (Zi Y3 rfl (Zhe _) hS Xi trivial Zai) ?_
  obtain ⟨r71, hm72, H⟩ := bind_some H
  refine Zn rfl rfl rfl rfl (by kernel_rfl) rfl (Zdc x0.snap _ hm72) ?_
  rintro e w ⟨rfl, hN⟩; refine ⟨_, rfl, ?_⟩; obtain ⟨hB, hS⟩ := hS.jn hN
  refine Zb 2 rfl ?_
  refine Zg ?_
  refine Zc hK70 ?_
  refine Zk ?_
  refine Zj ?_
  refine Yj ?_
  refine Zm rfl (RV.tmp rfl RV.nil) rfl ?_
  obtain rfl := QJ H
  replace hS := hS.cut 0
  exact ⟨rfl, hS⟩
 replace H := Zo H hb
 refine Za rfl rfl rfl (Ze Vc rfl) ?_
 refine Za rfl rfl rfl (Zh Zas rfl (Zhe _) hS Xi trivial Yx) ?_
 refine Za rfl rfl rfl (Xm rfl rfl) ?_
 refine Zb 2 rfl ?_
 refine Zq 77 rfl (fun hb => ?_) (fun hb => ?_)
 rotate_left
 ·replace H := Zp H hb
  refine Zb 4 rfl ?_
  refine Zg ?_
  refine Zc hK51 ?_
  refine Yg rfl rfl ?_
  refine Zs ?_
  refine Zc hK50 ?_
  refine Zd (fun K hK61 => ?_)
  refine Zd (fun K hK62 => ?_)
  refine Zf ?_
  refine Za rfl rfl rfl (Ze Vc rfl) ?_
  refine Za rfl rfl rfl (Zh Zas rfl (Zhe _) hS Xi trivial Yx) ?_
  refine Za rfl rfl rfl (Yr rfl rfl) ?_
  refine Zg ?_
  refine Zc hK62 ?_
  refine Z1 rfl (fun hb => ?_) (fun hb => ?_)
  rotate_left
  ·replace H := Zp H hb
   refine Zs ?_
   refine Zc hK61 ?_
   refine Zd (fun K hK66 => ?_)
   refine Zd (fun K hK67 => ?_)
   refine Zf ?_
   refine Za rfl rfl rfl (Ze Xa rfl) ?_
   refine Za rfl rfl rfl (Zi Y3 rfl (Zhe _) hS Xi trivial Zai) ?_
   refine Za rfl rfl rfl (Xn (cells := [.int .i64 0, .int .i64 0, .int .i64 0, .int .i64 0, .bool false]) rfl (by kernel_rfl)) ?_
   refine Za rfl rfl rfl (Zal (by kernel_rfl) rfl rfl (Za8 _ _ _ _ _ _ _ _ _ _)) ?_
   refine Zb 1 rfl ?_
   refine Zg ?_
   refine Zc hK67 ?_
   refine Zk ?_
   refine Zj ?_
   refine Yj ?_
   refine Zm rfl (RV.tmp rfl RV.nil) rfl ?_
   obtain rfl := QJ H
   replace hS := hS.cut 0
   exact ⟨rfl, hS⟩
  replace H := Zo H hb
  refine Zd (fun K hK63 => ?_)
  refine Zf ?_
  refine Za rfl rfl rfl (Ze Xa rfl) ?_
  refine Za rfl rfl rfl (Ze Yl rfl) ?_
  refine Za rfl rfl rfl (Zh Z3 rfl (Zhe _) hS Xi trivial Vz) ?_
  refine Za rfl rfl rfl (Y7 rfl rfl) ?_
  refine Zb 1 rfl ?_
  refine Zq 89 rfl (fun hb => ?_) (fun hb => ?_)
  rotate_left
  ·replace H := Zp H hb
   refine Zb 5 rfl ?_
   refine Zg ?_
   refine Zc hK63 ?_
   refine Zk ?_
   refine Zj ?_
   refine Yj ?_
   refine Zm rfl (RV.tmp rfl RV.nil) rfl ?_
   obtain rfl := QJ H
   replace hS := hS.cut 0
   exact ⟨rfl, hS⟩
  replace H := Zo H hb
  refine Za rfl rfl rfl (Ze Xa rfl) ?_
  refine Za rfl rfl rfl (Zi Y3 rfl (Zhe _) hS Xi trivial Zai) ?_
  obtain ⟨r64, hm65, H⟩ := bind_some H
  refine Zn rfl rfl rfl rfl (by kernel_rfl) rfl (Zdc x0.snap _ hm65) ?_
  rintro e w ⟨rfl, hN⟩; refine ⟨_, rfl, ?_⟩; obtain ⟨hB, hS⟩ := hS.jn hN
  refine Zb 2 rfl ?_
  refine Zg ?_
  refine Zc hK63 ?_
  refine Zk ?_
  refine Zj ?_
  refine Yj ?_
  refine Zm rfl (RV.tmp rfl RV.nil) rfl ?_
  obtain rfl := QJ H
  replace hS := hS.cut 0
  exact ⟨rfl, hS⟩
 replace H := Zo H hb
 refine Za rfl rfl rfl (Ze Vc rfl) ?_
 refine Za rfl rfl rfl (Zh Zas rfl (Zhe _) hS Xi trivial Yx) ?_
 refine Za rfl rfl rfl (Xm rfl rfl) ?_
 refine Zb 1 rfl ?_
 refine Zg ?_
 refine Zc hK51 ?_
 refine Z1 rfl (fun hb => ?_) (fun hb => ?_)
 ·replace H := Zo H hb
  refine V6 ?_
  refine Xj ?_
  refine Ju ?_
  refine Zd (fun K hK52 => ?_)
  refine Zs ?_
  refine Zc hK52 ?_
  refine Zd (fun K hK53 => ?_)
  refine Zf ?_
  refine Zb 1 rfl ?_
  refine Zg ?_
  refine Zc hK53 ?_
  refine Zk ?_
  refine Yj ?_
  refine Zm rfl (RV.tmp rfl RV.nil) rfl ?_
  obtain rfl := QJ H
  replace hS := hS.cut 0
  exact ⟨rfl, hS⟩
 replace H := Zp H hb
 refine Zs ?_
 refine Zc hK50 ?_
 refine Zd (fun K hK54 => ?_)
 refine Zd (fun K hK55 => ?_)
 refine Zf ?_
 refine Za rfl rfl rfl (Ze Vc rfl) ?_
 refine Za rfl rfl rfl (Zh Zas rfl (Zhe _) hS Xi trivial Yx) ?_
 refine Za rfl rfl rfl (Yr rfl rfl) ?_
 refine Zg ?_
 refine Zc hK55 ?_
 refine Z1 rfl (fun hb => ?_) (fun hb => ?_)
 rotate_left
 ·replace H := Zp H hb
  refine Zs ?_
  refine Zc hK54 ?_
  refine Zd (fun K hK59 => ?_)
  refine Zd (fun K hK60 => ?_)
  refine Zf ?_
  refine Za rfl rfl rfl (Ze Xa rfl) ?_
  refine Za rfl rfl rfl (Zi Y3 rfl (Zhe _) hS Xi trivial Zai) ?_
  refine Za rfl rfl rfl (Xn (cells := [.int .i64 0, .int .i64 0, .int .i64 0, .int .i64 0, .bool false]) rfl (by kernel_rfl)) ?_
  refine Za rfl rfl rfl (Zal (by kernel_rfl) rfl rfl (Za8 _ _ _ _ _ _ _ _ _ _)) ?_
  refine Zb 1 rfl ?_
  refine Zg ?_
  refine Zc hK60 ?_
  refine Zk ?_
  refine Zj ?_
  refine Yj ?_
  refine Zm rfl (RV.tmp rfl RV.nil) rfl ?_
  obtain rfl := QJ H
  replace hS := hS.cut 0
  exact ⟨rfl, hS⟩
 replace H := Zo H hb
 refine Zd (fun K hK56 => ?_)
 refine Zf ?_
 refine Za rfl rfl rfl (Ze Xa rfl) ?_
 refine Za rfl rfl rfl (Ze Yl rfl) ?_
 refine Za rfl rfl rfl (Zh Z3 rfl (Zhe _) hS Xi trivial Vz) ?_
 refine Za rfl rfl rfl (Y7 rfl rfl) ?_
 refine Zb 1 rfl ?_
 refine Zq 89 rfl (fun hb => ?_) (fun hb => ?_)
 rotate_left
 ·replace H := Zp H hb
  refine Zb 5 rfl ?_
  refine Zg ?_
  refine Zc hK56 ?_
  refine Zk ?_
  refine Zj ?_
  refine Yj ?_
  refine Zm rfl (RV.tmp rfl RV.nil) rfl ?_
  obtain rfl := QJ H
  replace hS := hS.cut 0
  exact ⟨rfl, hS⟩
 replace H := Zo H hb
 refine Za rfl rfl rfl (Ze Xa rfl) ?_
 refine Za rfl rfl rfl (Zi Y3 rfl (Zhe _) hS Xi trivial Zai) ?_
 obtain ⟨r57, hm58, H⟩ := bind_some H
 refine Zn rfl rfl rfl rfl (by kernel_rfl) rfl (Zdc x0.snap _ hm58) ?_
 rintro e w ⟨rfl, hN⟩; refine ⟨_, rfl, ?_⟩; obtain ⟨hB, hS⟩ := hS.jn hN
 refine Zb 2 rfl ?_
 refine Zg ?_
 refine Zc hK56 ?_
 refine Zk ?_
 refine Zj ?_
 refine Yj ?_
 refine Zm rfl (RV.tmp rfl RV.nil) rfl ?_
 obtain rfl := QJ H
 replace hS := hS.cut 0
 exact ⟨rfl, hS⟩
theorem c_elect_fits (x0 : Co) (x1 : Ms) (A0_ : OA) (c0_ : Nat) (A1_ : OA) (c1_ : Nat) (A2_ : OA) (c2_ : Nat) (A3_ : OA) (c3_ : Nat) (A4_ : OA) (c4_ : Nat) (A5_ : OA) (c5_ : Nat) (w0 : World) (s0_ : SlI w0 V3 A0_ c0_ x0.tuple.log) (s1_ : SlI w0 enO A1_ c1_ x0.votes) (s2_ : SlI w0 X2 A2_ c2_ x0.next) (s3_ : SlI w0 X2 A3_ c3_ x0.mtch) (s4_ : SlI w0 X2 A4_ c4_ x0.caps) (s5_ : SlI w0 V3 A5_ c5_ x1.entries) {r : Bool} (H : Zb2 x0 x1 = some r) : Calls Tryz.prog 59 #[.agg #[.int .i64 x0.id, .int .i64 x0.n, .int .u8 x0.role, .int .i64 x0.binary, .int .i64 x0.tuple.snap.index, .int .i64 x0.tuple.snap.term, .int .i64 x0.tuple.snap.sum, .int .i64 x0.tuple.snap.level, .bool x0.tuple.snap.final, .slice A0_ x0.tuple.log.length c0_, .int .i64 x0.tuple.term, .int .i64 x0.tuple.vote, .int .i64 x0.commit, .int .i64 x0.applied.index, .int .i64 x0.applied.term, .int .i64 x0.applied.sum, .int .i64 x0.applied.level, .bool x0.applied.final, .slice A1_ x0.votes.length c1_, .slice A2_ x0.next.length c2_, .slice A3_ x0.mtch.length c3_, .slice A4_ x0.caps.length c4_], .agg #[.int .u8 x1.kind, .int .i64 x1.frm, .int .i64 x1.dst, .int .i64 x1.term, .int .i64 x1.cap, .int .i64 x1.last, .int .i64 x1.lastTerm, .int .i64 x1.commit, .bool x1.okk, .slice A5_ x1.entries.length c5_, .int .i64 x1.snap.index, .int .i64 x1.snap.term, .int .i64 x1.snap.sum, .int .i64 x1.snap.level, .bool x1.snap.final]] w0 fun e w' => e = .returned (.bool r) ∧ St0 All w0 w' [] := by
 unfold Zb2 at H
 refine Ys Tryz.func59 rfl Tryz.ntmps59 rfl ?_
 have hS := St0.start All w0
 refine Zd (fun K hK1 => ?_)
 refine Zf ?_
 refine Z7 rfl rfl rfl CellsOf.agg hS (fun b2 w hS hB => ?_)
 refine Z7 rfl rfl rfl CellsOf.agg hS (fun b4 w hS hB => ?_)
 refine Zb 1 rfl ?_
 refine Zg ?_
 refine Zc hK1 ?_
 refine Zd (fun K hK6 => ?_)
 refine Zf ?_
 refine Za rfl rfl rfl (Ze Zdd rfl) ?_
 refine Za rfl rfl rfl (Zh Z3 rfl (Zhe _) hS hs0 trivial Jt) ?_
 refine Za rfl rfl rfl (Ze Vo rfl) ?_
 refine Za rfl rfl rfl (Zh Z3 rfl (Zhe _) hS Y2 trivial Yx) ?_
 refine Za rfl rfl rfl (Yr rfl rfl) ?_
 refine Zb 1 rfl ?_
 refine Zq 10 rfl (fun hb => ?_) (fun hb => ?_)
 rotate_left
 ·replace H := Zp H hb
  refine Zb 10 rfl ?_
  refine Zg ?_
  refine Zc hK6 ?_
  refine Zk ?_
  refine Zm rfl (RV.tmp rfl RV.nil) rfl ?_
  obtain rfl := QJ H
  replace hS := hS.cut 0
  exact ⟨rfl, hS⟩
 replace H := Zo H hb
 refine Za rfl rfl rfl (Zi Va rfl (Zhe _) hS hs0 trivial Xg) ?_
 refine Za rfl rfl rfl (Ze Vf rfl) ?_
 refine Za rfl rfl rfl (Zh Z3 rfl (Zhe _) hS Y2 trivial Xu) ?_
 obtain ⟨r7, hm8, H⟩ := bind_some H
 refine Zn rfl rfl rfl rfl (by kernel_rfl) rfl (c_msg_Fine x1 x0.n A5_ c5_ _ (Zhh s5_.k (hS.rd0 s5_.rd) (hS.blk0 s5_.blk)) hm8) ?_
 rintro e w ⟨rfl, hN⟩; refine ⟨_, rfl, ?_⟩; obtain ⟨hB, hS⟩ := hS.jn hN
 refine Zb 2 rfl ?_
 refine Zq 16 rfl (fun hb => ?_) (fun hb => ?_)
 rotate_left
 ·replace H := Zp H hb
  refine Zb 4 rfl ?_
  refine Zg ?_
  refine Zc hK6 ?_
  refine Zk ?_
  refine Zm rfl (RV.tmp rfl RV.nil) rfl ?_
  obtain rfl := QJ H
  replace hS := hS.cut 0
  exact ⟨rfl, hS⟩
 replace H := Zo H hb
 refine Za rfl rfl rfl (Zi Zx rfl (Zhe _) hS Y2 trivial Zv) ?_
 obtain ⟨r9, hm10, H⟩ := bind_some H
 refine Zn rfl rfl rfl rfl (by kernel_rfl) rfl (Zd9 x0 A0_ c0_ A1_ c1_ A2_ c2_ A3_ c3_ A4_ c4_ _ (Zhh s0_.k (hS.rd0 s0_.rd) (hS.blk0 s0_.blk)) (Zhh s1_.k (hS.rd0 s1_.rd) (hS.blk0 s1_.blk)) (Zhh s2_.k (hS.rd0 s2_.rd) (hS.blk0 s2_.blk)) (Zhh s3_.k (hS.rd0 s3_.rd) (hS.blk0 s3_.blk)) (Zhh s4_.k (hS.rd0 s4_.rd) (hS.blk0 s4_.blk)) hm10) ?_
 rintro e w ⟨rfl, hN⟩; refine ⟨_, rfl, ?_⟩; obtain ⟨hB, hS⟩ := hS.jn hN
 refine Zb 2 rfl ?_
 refine Zg ?_
 refine Zc hK6 ?_
 refine Zk ?_
 refine Zm rfl (RV.tmp rfl RV.nil) rfl ?_
 obtain rfl := QJ H
 replace hS := hS.cut 0
 exact ⟨rfl, hS⟩
theorem c_advert_To (x0 : Co) (x1 : Ms) (A0_ : OA) (c0_ : Nat) (A1_ : OA) (c1_ : Nat) (A2_ : OA) (c2_ : Nat) (A3_ : OA) (c3_ : Nat) (A4_ : OA) (c4_ : Nat) (A5_ : OA) (c5_ : Nat) (w0 : World) (s0_ : SlI w0 V3 A0_ c0_ x0.tuple.log) (s1_ : SlI w0 enO A1_ c1_ x0.votes) (s2_ : SlI w0 X2 A2_ c2_ x0.next) (s3_ : SlI w0 X2 A3_ c3_ x0.mtch) (s4_ : SlI w0 X2 A4_ c4_ x0.caps) (s5_ : SlI w0 V3 A5_ c5_ x1.entries) {r : Bool} (H : Zfc x0 x1 = some r) : Calls Tryz.prog 73 #[.agg #[.int .i64 x0.id, .int .i64 x0.n, .int .u8 x0.role, .int .i64 x0.binary, .int .i64 x0.tuple.snap.index, .int .i64 x0.tuple.snap.term, .int .i64 x0.tuple.snap.sum, .int .i64 x0.tuple.snap.level, .bool x0.tuple.snap.final, .slice A0_ x0.tuple.log.length c0_, .int .i64 x0.tuple.term, .int .i64 x0.tuple.vote, .int .i64 x0.commit, .int .i64 x0.applied.index, .int .i64 x0.applied.term, .int .i64 x0.applied.sum, .int .i64 x0.applied.level, .bool x0.applied.final, .slice A1_ x0.votes.length c1_, .slice A2_ x0.next.length c2_, .slice A3_ x0.mtch.length c3_, .slice A4_ x0.caps.length c4_], .agg #[.int .u8 x1.kind, .int .i64 x1.frm, .int .i64 x1.dst, .int .i64 x1.term, .int .i64 x1.cap, .int .i64 x1.last, .int .i64 x1.lastTerm, .int .i64 x1.commit, .bool x1.okk, .slice A5_ x1.entries.length c5_, .int .i64 x1.snap.index, .int .i64 x1.snap.term, .int .i64 x1.snap.sum, .int .i64 x1.snap.level, .bool x1.snap.final]] w0 fun e w' => e = .returned (.bool r) ∧ St0 All w0 w' [] := by
 unfold Zfc at H
 refine Ys Tryz.func73 rfl Tryz.ntmps73 rfl ?_
 have hS := St0.start All w0
 refine Zd (fun K hK1 => ?_)
 refine Zf ?_
 refine Z7 rfl rfl rfl CellsOf.agg hS (fun b2 w hS hB => ?_)
 refine Z7 rfl rfl rfl CellsOf.agg hS (fun b4 w hS hB => ?_)
 refine Zb 1 rfl ?_
 refine Zg ?_
 refine Zc hK1 ?_
 refine wpC_scope1 0 rfl ?_
 refine Zd (fun K hK6 => ?_)
 refine Zd (fun K hK7 => ?_)
 refine Zf ?_
 refine Za rfl rfl rfl (Ze Zdd rfl) ?_
 refine Za rfl rfl rfl (Zh Z3 rfl (Zhe _) hS hs0 trivial Jt) ?_
 refine Za rfl rfl rfl (Ze Vo rfl) ?_
 refine Za rfl rfl rfl (Zh Z3 rfl (Zhe _) hS Y2 trivial Yx) ?_
 refine Za rfl rfl rfl (Xm rfl rfl) ?_
 refine Zb 1 rfl ?_
 refine Zq 10 rfl (fun hb => ?_) (fun hb => ?_)
 ·replace H := Zo H hb
  refine Zb 4 rfl ?_
  refine Zg ?_
  refine Zc hK7 ?_
  refine Zu rfl rfl ?_
  refine V6 ?_
  refine Xj ?_
  refine Ju ?_
  refine Zd (fun K hK8 => ?_)
  refine Zs ?_
  refine Zc hK8 ?_
  refine Zd (fun K hK9 => ?_)
  refine Zf ?_
  refine Zb 2 rfl ?_
  refine Zg ?_
  refine Zc hK9 ?_
  refine Zk ?_
  refine Yj ?_
  refine Zm rfl (RV.tmp rfl RV.nil) rfl ?_
  obtain rfl := QJ H
  replace hS := hS.cut 0
  exact ⟨rfl, hS⟩
 replace H := Zp H hb
 refine Za rfl rfl rfl (Zi Zx rfl (Zhe _) hS Y2 trivial Zv) ?_
 obtain ⟨r10, hm11, H⟩ := bind_some H
 refine Zn rfl rfl rfl rfl (by kernel_rfl) rfl (Zd9 x0 A0_ c0_ A1_ c1_ A2_ c2_ A3_ c3_ A4_ c4_ _ (Zhh s0_.k (hS.rd0 s0_.rd) (hS.blk0 s0_.blk)) (Zhh s1_.k (hS.rd0 s1_.rd) (hS.blk0 s1_.blk)) (Zhh s2_.k (hS.rd0 s2_.rd) (hS.blk0 s2_.blk)) (Zhh s3_.k (hS.rd0 s3_.rd) (hS.blk0 s3_.blk)) (Zhh s4_.k (hS.rd0 s4_.rd) (hS.blk0 s4_.blk)) hm11) ?_
 rintro e w ⟨rfl, hN⟩; refine ⟨_, rfl, ?_⟩; obtain ⟨hB, hS⟩ := hS.jn hN
 refine Za rfl rfl rfl (Yo rfl) ?_
 refine Zb 1 rfl ?_
 refine Zg ?_
 refine Zc hK7 ?_
 refine Z1 rfl (fun hb => ?_) (fun hb => ?_)
 ·replace H := Zo H hb
  refine V6 ?_
  refine Xj ?_
  refine Ju ?_
  refine Zd (fun K hK12 => ?_)
  refine Zs ?_
  refine Zc hK12 ?_
  refine Zd (fun K hK13 => ?_)
  refine Zf ?_
  refine Zb 2 rfl ?_
  refine Zg ?_
  refine Zc hK13 ?_
  refine Zk ?_
  refine Yj ?_
  refine Zm rfl (RV.tmp rfl RV.nil) rfl ?_
  obtain rfl := QJ H
  replace hS := hS.cut 0
  exact ⟨rfl, hS⟩
 replace H := Zp H hb
 refine Zs ?_
 refine Zc hK6 ?_
 refine Zd (fun K hK14 => ?_)
 refine Zf ?_
 refine Za rfl rfl rfl (Zi Va rfl (Zhe _) hS hs0 trivial Xg) ?_
 refine Za rfl rfl rfl (Ze Vf rfl) ?_
 refine Za rfl rfl rfl (Zh Z3 rfl (Zhe _) hS Y2 trivial Xu) ?_
 obtain ⟨r15, hm16, H⟩ := bind_some H
 refine Zn rfl rfl rfl rfl (by kernel_rfl) rfl (c_msg_Fine x1 x0.n A5_ c5_ _ (Zhh s5_.k (hS.rd0 s5_.rd) (hS.blk0 s5_.blk)) hm16) ?_
 rintro e w ⟨rfl, hN⟩; refine ⟨_, rfl, ?_⟩; obtain ⟨hB, hS⟩ := hS.jn hN
 refine Zb 1 rfl ?_
 refine Zg ?_
 refine Zc hK14 ?_
 refine Zd (fun K hK17 => ?_)
 refine Zeu ?_
 refine Zc hK17 ?_
 refine Zd (fun K hK18 => ?_)
 refine Zf ?_
 refine Zb 2 rfl ?_
 refine Zg ?_
 refine Zc hK18 ?_
 refine Zk ?_
 refine Yj ?_
 refine Zm rfl (RV.tmp rfl RV.nil) rfl ?_
 obtain rfl := QJ H
 replace hS := hS.cut 0
 exact ⟨rfl, hS⟩
theorem c_advert_Hear (x0 : Co) (x1 : Ms) (A0_ : OA) (c0_ : Nat) (A1_ : OA) (c1_ : Nat) (A2_ : OA) (c2_ : Nat) (A3_ : OA) (c3_ : Nat) (A4_ : OA) (c4_ : Nat) (A5_ : OA) (c5_ : Nat) (w0 : World) (s0_ : SlI w0 V3 A0_ c0_ x0.tuple.log) (s1_ : SlI w0 enO A1_ c1_ x0.votes) (s2_ : SlI w0 X2 A2_ c2_ x0.next) (s3_ : SlI w0 X2 A3_ c3_ x0.mtch) (s4_ : SlI w0 X2 A4_ c4_ x0.caps) (s5_ : SlI w0 V3 A5_ c5_ x1.entries) {r : Co} (H : Zdw x0 x1 = some r) : Calls Tryz.prog 64 #[.agg #[.int .i64 x0.id, .int .i64 x0.n, .int .u8 x0.role, .int .i64 x0.binary, .int .i64 x0.tuple.snap.index, .int .i64 x0.tuple.snap.term, .int .i64 x0.tuple.snap.sum, .int .i64 x0.tuple.snap.level, .bool x0.tuple.snap.final, .slice A0_ x0.tuple.log.length c0_, .int .i64 x0.tuple.term, .int .i64 x0.tuple.vote, .int .i64 x0.commit, .int .i64 x0.applied.index, .int .i64 x0.applied.term, .int .i64 x0.applied.sum, .int .i64 x0.applied.level, .bool x0.applied.final, .slice A1_ x0.votes.length c1_, .slice A2_ x0.next.length c2_, .slice A3_ x0.mtch.length c3_, .slice A4_ x0.caps.length c4_], .agg #[.int .u8 x1.kind, .int .i64 x1.frm, .int .i64 x1.dst, .int .i64 x1.term, .int .i64 x1.cap, .int .i64 x1.last, .int .i64 x1.lastTerm, .int .i64 x1.commit, .bool x1.okk, .slice A5_ x1.entries.length c5_, .int .i64 x1.snap.index, .int .i64 x1.snap.term, .int .i64 x1.snap.sum, .int .i64 x1.snap.level, .bool x1.snap.final]] w0 fun e w' => ∃ (A0 : OA) (c0 : Nat) (A1 : OA) (c1 : Nat) (A2 : OA) (c2 : Nat) (A3 : OA) (c3 : Nat) (A4 : OA) (c4 : Nat), e = .returned (.agg #[.int .i64 r.id, .int .i64 r.n, .int .u8 r.role, .int .i64 r.binary, .int .i64 r.tuple.snap.index, .int .i64 r.tuple.snap.term, .int .i64 r.tuple.snap.sum, .int .i64 r.tuple.snap.level, .bool r.tuple.snap.final, .slice A0 r.tuple.log.length c0, .int .i64 r.tuple.term, .int .i64 r.tuple.vote, .int .i64 r.commit, .int .i64 r.applied.index, .int .i64 r.applied.term, .int .i64 r.applied.sum, .int .i64 r.applied.level, .bool r.applied.final, .slice A1 r.votes.length c1, .slice A2 r.next.length c2, .slice A3 r.mtch.length c3, .slice A4 r.caps.length c4]) ∧ (r.tuple.log.length ≤ c0 ∧ c0 ≤ maxLen) ∧ (r.votes.length ≤ c1 ∧ c1 ≤ maxLen) ∧ (r.next.length ≤ c2 ∧ c2 ≤ maxLen) ∧ (r.mtch.length ≤ c3 ∧ c3 ≤ maxLen) ∧ (r.caps.length ≤ c4 ∧ c4 ≤ maxLen) ∧ St0 All w0 w' [.row (.slice A0 r.tuple.log.length c0) 53 3 r.tuple.log.length (Yf V3 r.tuple.log), .row (.slice A1 r.votes.length c1) 4 1 r.votes.length (Yf enO r.votes), .row (.slice A2 r.next.length c2) 3 1 r.next.length (Yf X2 r.next), .row (.slice A3 r.mtch.length c3) 3 1 r.mtch.length (Yf X2 r.mtch), .row (.slice A4 r.caps.length c4) 3 1 r.caps.length (Yf X2 r.caps)] := by
 unfold Zdw at H
 refine Ys Tryz.func64 rfl Tryz.ntmps64 rfl ?_
 have hS := St0.start All w0
 refine Zd (fun K hK1 => ?_)
 refine Zf ?_
 refine Z7 rfl rfl rfl CellsOf.agg hS (fun b2 w hS hB => ?_)
 refine Z7 rfl rfl rfl CellsOf.agg hS (fun b4 w hS hB => ?_)
 refine Yd rfl rfl Zbx hS (fun b6 w hS hB => ?_)
 refine Zg ?_
 refine Zc hK1 ?_
 refine Zd (fun K hK8 => ?_)
 refine Yn 7 [6] (fun i b => (i = 6 → b ≠ b6)) ⟨by kernel_rfl, by kernel_rfl⟩ hS (fun w hS hB => ?_)
 refine Zr [true, true, true, false, true] (by decide +kernel) PFC.h ?_
 refine LtK.put rfl rfl rfl (Zi Zx rfl (Zhf _) hS Xi trivial Zv) ?_
 refine LtK.put rfl rfl rfl (Zi Zx rfl (Zhf _) hS Xi trivial Zv) ?_
 refine LtK.put rfl rfl rfl (Zi Va rfl (Zhf _) hS Y2 trivial Xg) ?_
 refine LtK.put rfl rfl rfl (Vn rfl rfl) ?_
 refine LtK.nil ?_
 refine Z5 [false, false, false, true] 3 ⟨by decide, by kernel_rfl, by kernel_rfl⟩ rfl rfl ?_
 try dsimp only [Zw]
 obtain ⟨r9, hm10, H⟩ := bind_some H
 refine Zn rfl rfl rfl rfl (by kernel_rfl) rfl (c_advert_To x0 x1 A0_ c0_ A1_ c1_ A2_ c2_ A3_ c3_ A4_ c4_ A5_ c5_ _ (Zhh s0_.k (hS.rd0 s0_.rd) (hS.blk0 s0_.blk)) (Zhh s1_.k (hS.rd0 s1_.rd) (hS.blk0 s1_.blk)) (Zhh s2_.k (hS.rd0 s2_.rd) (hS.blk0 s2_.blk)) (Zhh s3_.k (hS.rd0 s3_.rd) (hS.blk0 s3_.blk)) (Zhh s4_.k (hS.rd0 s4_.rd) (hS.blk0 s4_.blk)) (Zhh s5_.k (hS.rd0 s5_.rd) (hS.blk0 s5_.blk)) hm10) ?_
 rintro e w ⟨rfl, hN⟩; refine ⟨_, rfl, ?_⟩; obtain ⟨hB, hS⟩ := hS.jn hN
 refine Zg ?_
 refine Z6 hB ?_
 refine Z5 [false, false, false, false, false, true] 5 ⟨by decide, by kernel_rfl, by kernel_rfl⟩ rfl rfl ?_
 try dsimp only [Zw]
 have hO11 := hS
 rename World => wS12
 have hS := St0.start All wS12
 refine Zcm rfl rfl rfl rfl (by kernel_rfl) rfl ?_
 show Calls _ _ #[_, _, _] _ _
 refine Zaj Tryz.func108 rfl Tryz.ntmps108 rfl ?_
 refine Zd (fun K hK13 => ?_)
 refine Zf ?_
 refine Z7 rfl rfl rfl CellsOf.agg hS (fun b14 w hS hB => ?_)
 refine Yd rfl rfl Zbx hS (fun b16 w hS hB => ?_)
 refine Zg ?_
 refine Zc hK13 ?_
 refine Zd (fun K hK18 => ?_)
 refine Zf ?_
 refine Za rfl rfl rfl (Zi Zx rfl (Zhe _) (hO11.join hS) Y2 trivial Zv) ?_
 obtain ⟨r19, hm20, H⟩ := bind_some H
 refine Zn rfl rfl rfl rfl (by kernel_rfl) rfl (Zd8 x0 A0_ c0_ A1_ c1_ A2_ c2_ A3_ c3_ A4_ c4_ _ (Zhh s0_.k ((hO11.join hS).rd0 s0_.rd) ((hO11.join hS).blk0 s0_.blk)) (Zhh s1_.k ((hO11.join hS).rd0 s1_.rd) ((hO11.join hS).blk0 s1_.blk)) (Zhh s2_.k ((hO11.join hS).rd0 s2_.rd) ((hO11.join hS).blk0 s2_.blk)) (Zhh s3_.k ((hO11.join hS).rd0 s3_.rd) ((hO11.join hS).blk0 s3_.blk)) (Zhh s4_.k ((hO11.join hS).rd0 s4_.rd) ((hO11.join hS).blk0 s4_.blk)) hm20) ?_
 rintro e w ⟨A21, c22, A25, c26, A29, c30, A33, c34, A37, c38, rfl, k23, k27, k31, k35, k39, hN⟩; refine ⟨_, rfl, ?_⟩; obtain ⟨hB, hS⟩ := hS.jn hN
 refine Zl rfl rfl rfl CellsOf.agg hS ps6 Z8 (by kernel_rfl) rfl (fun w hS hB => ?_)
 refine Zg ?_
 refine Zc hK18 ?_
 refine Zd (fun K hK41 => ?_)
 refine Zd (fun K hK42 => ?_)
 refine Zf ?_
 refine Zb 2 rfl ?_
 refine Zq 10 rfl (fun hb => ?_) (fun hb => ?_)
 rotate_left
 ·replace H := Zp H hb
  refine Zb 3 rfl ?_
  refine Zg ?_
  refine Zc hK42 ?_
  refine Yg rfl rfl ?_
  refine Zs ?_
  refine Zc hK41 ?_
  refine Zd (fun K hK50 => ?_)
  refine Zf ?_
  refine Za rfl rfl rfl (Zi Zx rfl (Zhe _) (hO11.join hS) Jy trivial Zv) ?_
  refine Zl rfl rfl rfl CellsOf.agg hS ps5 Z8 (by kernel_rfl) rfl (fun w hS hB => ?_)
  refine Zg ?_
  refine Zc hK50 ?_
  refine Zk ?_
  refine Zm rfl (RV.cell rfl (Zt Zx (hO11.join hS) hs5 Zv) RV.nil) rfl ?_
  refine ⟨_, rfl, ?_⟩
  have hB := hS.pure
  have hS := hO11.join hS
  dsimp only [List.cons_append, List.nil_append] at hS
  refine Zg ?_
  refine Z6 hB ?_
  refine Yk [false, false, false, false, false, false, true] 6 ⟨by decide, by kernel_rfl, by kernel_rfl⟩ rfl rfl ?_
  try dsimp only [Zw]
  refine Zl rfl rfl rfl CellsOf.agg hS ps7 Z8 (by kernel_rfl) rfl (fun w hS hB => ?_)
  refine Zg ?_
  refine Yb (hB.sub (fun _ _ h => by simpa using h)) ?_
  refine Ye (by kernel_rfl) ?_
  refine Zc hK8 ?_
  refine Zk ?_
  refine Zm rfl (RV.cell rfl (Zt Zx hS hs7 Zv) RV.nil) rfl ?_
  obtain rfl := QJ H
  have hS := hS.front 4 rfl
  have hS := hS.front 4 rfl
  have hS := hS.front 4 rfl
  have hS := hS.front 4 rfl
  have hS := hS.front 4 rfl
  replace hS := hS.cut 5
  exact ⟨A21, c22, A25, c26, A29, c30, A33, c34, A37, c38, rfl, k23, k27, k31, k35, k39, hS⟩
 replace H := Zo H hb
 refine Za rfl rfl rfl (Zi Zx rfl (Zhe _) (hO11.join hS) Jy trivial Zv) ?_
 obtain ⟨r43, hm44, H⟩ := bind_some H
 refine Zn rfl rfl rfl rfl (by kernel_rfl) rfl (Zd9 r19 A21 c22 A25 c26 A29 c30 A33 c34 A37 c38 _ (Zhh k23 ((hO11.join hS).row_rd hs0) ((hO11.join hS).row_blk hs0)) (Zhh k27 ((hO11.join hS).row_rd Y2) ((hO11.join hS).row_blk Y2)) (Zhh k31 ((hO11.join hS).row_rd Xi) ((hO11.join hS).row_blk Xi)) (Zhh k35 ((hO11.join hS).row_rd hs3) ((hO11.join hS).row_blk hs3)) (Zhh k39 ((hO11.join hS).row_rd Jq) ((hO11.join hS).row_blk Jq)) hm44) ?_
 rintro e w ⟨rfl, hN⟩; refine ⟨_, rfl, ?_⟩; obtain ⟨hB, hS⟩ := hS.jn hN
 refine Zb 1 rfl ?_
 refine Zg ?_
 refine Zc hK42 ?_
 refine Z1 rfl (fun hb => ?_) (fun hb => ?_)
 rotate_left
 ·replace H := Zp H hb
  refine Zs ?_
  refine Zc hK41 ?_
  refine Zd (fun K hK49 => ?_)
  refine Zf ?_
  refine Za rfl rfl rfl (Zi Zx rfl (Zhe _) (hO11.join hS) Jy trivial Zv) ?_
  refine Zl rfl rfl rfl CellsOf.agg hS ps5 Z8 (by kernel_rfl) rfl (fun w hS hB => ?_)
  refine Zg ?_
  refine Zc hK49 ?_
  refine Zk ?_
  refine Zm rfl (RV.cell rfl (Zt Zx (hO11.join hS) hs5 Zv) RV.nil) rfl ?_
  refine ⟨_, rfl, ?_⟩
  have hB := hS.pure
  have hS := hO11.join hS
  dsimp only [List.cons_append, List.nil_append] at hS
  refine Zg ?_
  refine Z6 hB ?_
  refine Yk [false, false, false, false, false, false, true] 6 ⟨by decide, by kernel_rfl, by kernel_rfl⟩ rfl rfl ?_
  try dsimp only [Zw]
  refine Zl rfl rfl rfl CellsOf.agg hS ps7 Z8 (by kernel_rfl) rfl (fun w hS hB => ?_)
  refine Zg ?_
  refine Yb (hB.sub (fun _ _ h => by simpa using h)) ?_
  refine Ye (by kernel_rfl) ?_
  refine Zc hK8 ?_
  refine Zk ?_
  refine Zm rfl (RV.cell rfl (Zt Zx hS hs7 Zv) RV.nil) rfl ?_
  obtain rfl := QJ H
  have hS := hS.front 4 rfl
  have hS := hS.front 4 rfl
  have hS := hS.front 4 rfl
  have hS := hS.front 4 rfl
  have hS := hS.front 4 rfl
  replace hS := hS.cut 5
  exact ⟨A21, c22, A25, c26, A29, c30, A33, c34, A37, c38, rfl, k23, k27, k31, k35, k39, hS⟩
 replace H := Zo H hb
 refine Zf ?_
 refine Zb 1 rfl ?_
 refine Zcm rfl rfl rfl rfl (by kernel_rfl) rfl ?_
 show Calls _ _ #[_, _] _ _
 refine Ys Tryz.func109 rfl Tryz.ntmps109 rfl ?_
 refine Yn 11 [10] (fun i b => (i = 10 → b = b16 ∨ b = b14)) ⟨by kernel_rfl, by kernel_rfl⟩ hS (fun w hS hB => ?_)
 refine Zr [true, true, true, true, true, true, true, true, true, true] (by decide +kernel) PFC.h ?_
 refine LtK.put rfl rfl rfl (Zy rfl) ?_
 refine LtK.put rfl rfl rfl (Vu rfl) ?_
 refine LtK.put rfl rfl rfl (Ze V8 rfl) ?_
 refine LtK.put rfl rfl rfl (Zh Vy rfl (Zhf _) (hO11.join hS) Jy trivial Zc7) ?_
 refine LtK.put rfl rfl rfl (Ze Zaf rfl) ?_
 refine LtK.put rfl rfl rfl (Zh Z3 rfl (Zhf _) (hO11.join hS) hs8 trivial Xu) ?_
 refine LtK.put rfl rfl rfl (Zcn rfl rfl) ?_
 refine LtK.put rfl rfl rfl (Ze Zfw rfl) ?_
 refine LtK.put rfl rfl rfl (Zh Z3 rfl (Zhf _) (hO11.join hS) hs8 trivial Zg7) ?_
 obtain ⟨e45, hi47, H⟩ := bind_some H
 obtain ⟨j46, hi47a, hi47b, hi47c⟩ := Y0 hi47
 refine LtK.put rfl rfl rfl (Xh Vh rfl rfl hi47a hi47c (Rd.el ((hO11.join hS).row_rd Jq) Y6 hi47b)) ?_
 refine LtK.nil ?_
 refine Yk [false, false, false, false, false, false, false, false, false, false, true] 10 ⟨by decide, by kernel_rfl, by kernel_rfl⟩ rfl rfl ?_
 try dsimp only [Zw]
 refine Ze8 (a' := x1.cap) (zs := (Vw r19.caps (IntKind.wrap .i64 (x1.frm - 1)) x1.cap)) Y6 rfl rfl rfl CellsOf.int hS ps4 (Rd.el ((hO11.join hS).row_rd Jq) Y6 hi47b) hi47a hi47b rfl Zeb (by kernel_rfl) rfl (fun w hS hB => ?_)
 refine Zg ?_
 refine Yb (hB.sub (fun b _ h => by have h0 : b = b16 ∨ b = b14 := (by simpa using h); rcases h0 with h0 | h0; (rw [h0]; exact hS.neRow 5 4 rfl rfl); (rw [h0]; exact hS.neRow 6 4 rfl rfl))) ?_
 refine Ye (by kernel_rfl) ?_
 refine Zfp rfl RV.nil rfl ?_
 refine ⟨_, rfl, ?_⟩
 refine Zg ?_
 refine Zc hK41 ?_
 refine Zd (fun K hK48 => ?_)
 refine Zf ?_
 refine Za rfl rfl rfl (Zi Zx rfl (Zhe _) (hO11.join hS) Jy trivial Zv) ?_
 refine Zl rfl rfl rfl CellsOf.agg hS ps5 Z8 (by kernel_rfl) rfl (fun w hS hB => ?_)
 refine Zg ?_
 refine Zc hK48 ?_
 refine Zk ?_
 refine Zm rfl (RV.cell rfl (Zt Zx (hO11.join hS) hs5 Zv) RV.nil) rfl ?_
 refine ⟨_, rfl, ?_⟩
 have hB := hS.pure
 have hS := hO11.join hS
 dsimp only [List.cons_append, List.nil_append] at hS
 refine Zg ?_
 refine Z6 hB ?_
 refine Yk [false, false, false, false, false, false, true] 6 ⟨by decide, by kernel_rfl, by kernel_rfl⟩ rfl rfl ?_
 try dsimp only [Zw]
 refine Zl rfl rfl rfl CellsOf.agg hS ps7 Z8 (by kernel_rfl) rfl (fun w hS hB => ?_)
 refine Zg ?_
 refine Yb (hB.sub (fun _ _ h => by simpa using h)) ?_
 refine Ye (by kernel_rfl) ?_
 refine Zc hK8 ?_
 refine Zk ?_
 refine Zm rfl (RV.cell rfl (Zt Zx hS hs7 Zv) RV.nil) rfl ?_
 obtain rfl := QJ H
 have hS := hS.front 4 rfl
 have hS := hS.front 4 rfl
 have hS := hS.front 4 rfl
 have hS := hS.front 4 rfl
 have hS := hS.front 4 rfl
 replace hS := hS.cut 5
 exact ⟨A21, c22, A25, c26, A29, c30, A33, c34, A37, c38, by rw [(Y8 rfl)]; rfl, k23, k27, k31, k35, (Za7 k39), hS.eqv (by rw [(Y8 rfl)]; rfl)⟩
theorem c_elect_Meet (x0 : Co) (x1 : Ms) (A0_ : OA) (c0_ : Nat) (A1_ : OA) (c1_ : Nat) (A2_ : OA) (c2_ : Nat) (A3_ : OA) (c3_ : Nat) (A4_ : OA) (c4_ : Nat) (A5_ : OA) (c5_ : Nat) (w0 : World) (s0_ : SlI w0 V3 A0_ c0_ x0.tuple.log) (s1_ : SlI w0 enO A1_ c1_ x0.votes) (s2_ : SlI w0 X2 A2_ c2_ x0.next) (s3_ : SlI w0 X2 A3_ c3_ x0.mtch) (s4_ : SlI w0 X2 A4_ c4_ x0.caps) (s5_ : SlI w0 V3 A5_ c5_ x1.entries) {r : Co} (H : Zb6 x0 x1 = some r) : Calls Tryz.prog 17 #[.agg #[.int .i64 x0.id, .int .i64 x0.n, .int .u8 x0.role, .int .i64 x0.binary, .int .i64 x0.tuple.snap.index, .int .i64 x0.tuple.snap.term, .int .i64 x0.tuple.snap.sum, .int .i64 x0.tuple.snap.level, .bool x0.tuple.snap.final, .slice A0_ x0.tuple.log.length c0_, .int .i64 x0.tuple.term, .int .i64 x0.tuple.vote, .int .i64 x0.commit, .int .i64 x0.applied.index, .int .i64 x0.applied.term, .int .i64 x0.applied.sum, .int .i64 x0.applied.level, .bool x0.applied.final, .slice A1_ x0.votes.length c1_, .slice A2_ x0.next.length c2_, .slice A3_ x0.mtch.length c3_, .slice A4_ x0.caps.length c4_], .agg #[.int .u8 x1.kind, .int .i64 x1.frm, .int .i64 x1.dst, .int .i64 x1.term, .int .i64 x1.cap, .int .i64 x1.last, .int .i64 x1.lastTerm, .int .i64 x1.commit, .bool x1.okk, .slice A5_ x1.entries.length c5_, .int .i64 x1.snap.index, .int .i64 x1.snap.term, .int .i64 x1.snap.sum, .int .i64 x1.snap.level, .bool x1.snap.final]] w0 fun e w' => ∃ (A0 : OA) (c0 : Nat) (A1 : OA) (c1 : Nat) (A2 : OA) (c2 : Nat) (A3 : OA) (c3 : Nat) (A4 : OA) (c4 : Nat), e = .returned (.agg #[.int .i64 r.id, .int .i64 r.n, .int .u8 r.role, .int .i64 r.binary, .int .i64 r.tuple.snap.index, .int .i64 r.tuple.snap.term, .int .i64 r.tuple.snap.sum, .int .i64 r.tuple.snap.level, .bool r.tuple.snap.final, .slice A0 r.tuple.log.length c0, .int .i64 r.tuple.term, .int .i64 r.tuple.vote, .int .i64 r.commit, .int .i64 r.applied.index, .int .i64 r.applied.term, .int .i64 r.applied.sum, .int .i64 r.applied.level, .bool r.applied.final, .slice A1 r.votes.length c1, .slice A2 r.next.length c2, .slice A3 r.mtch.length c3, .slice A4 r.caps.length c4]) ∧ (r.tuple.log.length ≤ c0 ∧ c0 ≤ maxLen) ∧ (r.votes.length ≤ c1 ∧ c1 ≤ maxLen) ∧ (r.next.length ≤ c2 ∧ c2 ≤ maxLen) ∧ (r.mtch.length ≤ c3 ∧ c3 ≤ maxLen) ∧ (r.caps.length ≤ c4 ∧ c4 ≤ maxLen) ∧ St0 All w0 w' [.rd A0 (Yf V3 r.tuple.log), .row (.slice A1 r.votes.length c1) 4 1 r.votes.length (Yf enO r.votes), .row (.slice A2 r.next.length c2) 3 1 r.next.length (Yf X2 r.next), .row (.slice A3 r.mtch.length c3) 3 1 r.mtch.length (Yf X2 r.mtch), .row (.slice A4 r.caps.length c4) 3 1 r.caps.length (Yf X2 r.caps)] := by
 unfold Zb6 at H
 refine Ys Tryz.func17 rfl Tryz.ntmps17 rfl ?_
 have hS := St0.start All w0
 refine Zd (fun K hK1 => ?_)
 refine Zf ?_
 refine Z7 rfl rfl rfl CellsOf.agg hS (fun b2 w hS hB => ?_)
 refine Z7 rfl rfl rfl CellsOf.agg hS (fun b4 w hS hB => ?_)
 refine Yd rfl rfl Zbx hS (fun b6 w hS hB => ?_)
 refine Zg ?_
 refine Zc hK1 ?_
 refine wpC_scope1 0 rfl ?_
 refine Zd (fun K hK8 => ?_)
 refine Zf ?_
 refine Za rfl rfl rfl (Zi Zx rfl (Zhe _) hS Xi trivial Zv) ?_
 obtain ⟨r9, hm10, H⟩ := bind_some H
 refine Zn rfl rfl rfl rfl (by kernel_rfl) rfl (Zd8 x0 A0_ c0_ A1_ c1_ A2_ c2_ A3_ c3_ A4_ c4_ _ (Zhh s0_.k (hS.rd0 s0_.rd) (hS.blk0 s0_.blk)) (Zhh s1_.k (hS.rd0 s1_.rd) (hS.blk0 s1_.blk)) (Zhh s2_.k (hS.rd0 s2_.rd) (hS.blk0 s2_.blk)) (Zhh s3_.k (hS.rd0 s3_.rd) (hS.blk0 s3_.blk)) (Zhh s4_.k (hS.rd0 s4_.rd) (hS.blk0 s4_.blk)) hm10) ?_
 rintro e w ⟨A11, c12, A15, c16, A19, c20, A23, c24, A27, c28, rfl, k13, k17, k21, k25, k29, hN⟩; refine ⟨_, rfl, ?_⟩; obtain ⟨hB, hS⟩ := hS.jn hN
 refine Zl rfl rfl rfl CellsOf.agg hS ps7 Z8 (by kernel_rfl) rfl (fun w hS hB => ?_)
 refine Zg ?_
 refine Zc hK8 ?_
 refine Zd (fun K hK31 => ?_)
 refine Zd (fun K hK32 => ?_)
 refine Zf ?_
 refine Za rfl rfl rfl (Zi Zx rfl (Zhe _) hS hs7 trivial Zv) ?_
 refine Za rfl rfl rfl (Zi Va rfl (Zhe _) hS Jy trivial Xg) ?_
 obtain ⟨r33, hm34, H⟩ := bind_some H
 refine Zn rfl rfl rfl rfl (by kernel_rfl) rfl (c_elect_fits r9 x1 A11 c12 A15 c16 A19 c20 A23 c24 A27 c28 A5_ c5_ _ (Zhh k13 (hS.row_rd hs0) (hS.row_blk hs0)) (Zhh k17 (hS.row_rd Y2) (hS.row_blk Y2)) (Zhh k21 (hS.row_rd Xi) (hS.row_blk Xi)) (Zhh k25 (hS.row_rd hs3) (hS.row_blk hs3)) (Zhh k29 (hS.row_rd Jq) (hS.row_blk Jq)) (Zhh s5_.k (hS.rd0 s5_.rd) (hS.blk0 s5_.blk)) hm34) ?_
 rintro e w ⟨rfl, hN⟩; refine ⟨_, rfl, ?_⟩; obtain ⟨hB, hS⟩ := hS.jn hN
 refine Za rfl rfl rfl (Yo rfl) ?_
 refine Zg ?_
 refine Zc hK32 ?_
 refine Z1 rfl (fun hb => ?_) (fun hb => ?_)
 ·replace H := Zo H hb
  refine V6 ?_
  refine Xj ?_
  refine Ju ?_
  refine Zd (fun K hK35 => ?_)
  refine Zs ?_
  refine Zc hK35 ?_
  refine Zd (fun K hK36 => ?_)
  refine Zf ?_
  refine Za rfl rfl rfl (Zi Zx rfl (Zhe _) hS hs7 trivial Zv) ?_
  refine Zl rfl rfl rfl CellsOf.agg hS ps5 Z8 (by kernel_rfl) rfl (fun w hS hB => ?_)
  refine Zg ?_
  refine Zc hK36 ?_
  refine Zk ?_
  refine Yj ?_
  refine Zm rfl (RV.cell rfl (Zt Zx hS hs5 Zv) RV.nil) rfl ?_
  obtain rfl := QJ H
  have hS := hS.front 4 rfl
  have hS := hS.front 4 rfl
  have hS := hS.front 4 rfl
  have hS := hS.front 4 rfl
  have hS := hS.front 4 rfl
  replace hS := hS.weak Weak.rowRd
  replace hS := hS.cut 5
  exact ⟨A11, c12, A15, c16, A19, c20, A23, c24, A27, c28, rfl, k13, k17, k21, k25, k29, hS⟩
 replace H := Zp H hb
 refine Zs ?_
 refine Zc hK31 ?_
 refine Zd (fun K hK37 => ?_)
 refine Zd (fun K hK38 => ?_)
 refine Zf ?_
 refine Za rfl rfl rfl (Zi Zx rfl (Zhe _) hS hs7 trivial Zv) ?_
 refine Za rfl rfl rfl (Zi Va rfl (Zhe _) hS Jy trivial Xg) ?_
 obtain ⟨r39, hm40, H⟩ := bind_some H
 refine Zn rfl rfl rfl rfl (by kernel_rfl) rfl (c_advert_Hear r9 x1 A11 c12 A15 c16 A19 c20 A23 c24 A27 c28 A5_ c5_ _ (Zhh k13 (hS.row_rd hs0) (hS.row_blk hs0)) (Zhh k17 (hS.row_rd Y2) (hS.row_blk Y2)) (Zhh k21 (hS.row_rd Xi) (hS.row_blk Xi)) (Zhh k25 (hS.row_rd hs3) (hS.row_blk hs3)) (Zhh k29 (hS.row_rd Jq) (hS.row_blk Jq)) (Zhh s5_.k (hS.rd0 s5_.rd) (hS.blk0 s5_.blk)) hm40) ?_
 rintro e w ⟨A41, c42, A45, c46, A49, c50, A53, c54, A57, c58, rfl, k43, k47, k51, k55, k59, hN⟩; refine ⟨_, rfl, ?_⟩; obtain ⟨hB, hS⟩ := hS.jn hN
 refine Zl rfl rfl rfl CellsOf.agg hS ps12 Z8 (by kernel_rfl) rfl (fun w hS hB => ?_)
 refine Zg ?_
 refine Zc hK38 ?_
 refine Zd (fun K hK61 => ?_)
 refine Zf ?_
 refine Za rfl rfl rfl (Ze Js rfl) ?_
 refine Za rfl rfl rfl (Zh Z3 rfl (Zhe _) hS Zbo trivial Jb) ?_
 refine Za rfl rfl rfl (Ze Yq rfl) ?_
 refine Za rfl rfl rfl (Ze Xl rfl) ?_
 refine Za rfl rfl rfl (Zh Z3 rfl (Zhe _) hS Jc trivial Vz) ?_
 refine Za rfl rfl rfl (Y7 rfl rfl) ?_
 refine Zg ?_
 refine Zc hK61 ?_
 refine Z1 rfl (fun hb => ?_) (fun hb => ?_)
 rotate_left
 ·replace H := Zp H hb
  refine Zs ?_
  refine Zc hK37 ?_
  refine Zd (fun K hK88 => ?_)
  refine Zeu ?_
  refine Zc hK88 ?_
  refine Zd (fun K hK89 => ?_)
  refine Zf ?_
  refine Za rfl rfl rfl (Zi Zx rfl (Zhe _) hS Jc trivial Zv) ?_
  refine Zl rfl rfl rfl CellsOf.agg hS ps10 Z8 (by kernel_rfl) rfl (fun w hS hB => ?_)
  refine Zg ?_
  refine Zc hK89 ?_
  refine Zk ?_
  refine Yj ?_
  refine Zm rfl (RV.cell rfl (Zt Zx hS hs10 Zv) RV.nil) rfl ?_
  obtain rfl := QJ H
  have hS := hS.front 4 rfl
  have hS := hS.front 4 rfl
  have hS := hS.front 4 rfl
  have hS := hS.front 4 rfl
  have hS := hS.front 4 rfl
  replace hS := hS.weak Weak.rowRd
  replace hS := hS.cut 5
  exact ⟨A41, c42, A45, c46, A49, c50, A53, c54, A57, c58, rfl, k43, k47, k51, k55, k59, hS⟩
 replace H := Zo H hb
 refine Zf ?_
 refine Za rfl rfl rfl (Zi Zx rfl (Zhe _) hS Jc trivial Zv) ?_
 refine Za rfl rfl rfl (Ze Js rfl) ?_
 refine Za rfl rfl rfl (Zh Z3 rfl (Zhe _) hS Zbo trivial Jb) ?_
 refine Zcm rfl rfl rfl rfl (by kernel_rfl) rfl ?_
 show Calls _ _ #[_, _, _, _, _] _ _
 refine Zha Tryz.func51 rfl Tryz.ntmps51 rfl ?_
 refine Zd (fun K hK62 => ?_)
 refine Zf ?_
 refine Z7 rfl rfl rfl CellsOf.agg hS (fun b63 w hS hB => ?_)
 refine Yd rfl rfl Zbx hS (fun b65 w hS hB => ?_)
 refine Zg ?_
 refine Zc hK62 ?_
 refine Zd (fun K hK67 => ?_)
 refine Zf ?_
 refine Za rfl rfl rfl (Ze Yq rfl) ?_
 refine Za rfl rfl rfl (Zi Yp rfl (Zhe _) hS Y2 trivial Zbt) ?_
 refine Zb 2 rfl ?_
 obtain ⟨r68, hm69, H⟩ := bind_some H
 refine Zn rfl rfl rfl rfl (by kernel_rfl) rfl (Zfu r39.tuple x1.term 0 A41 c42 _ (Zhh k43 (hS.row_rd Xi) (hS.row_blk Xi)) hm69) ?_
 rintro e w ⟨A70, c71, rfl, k72, hN⟩; refine ⟨_, rfl, ?_⟩; obtain ⟨hB, hS⟩ := hS.jn hN
 refine Zb 1 rfl ?_
 refine Za rfl rfl rfl (Z0 rfl rfl) ?_
 refine Za rfl rfl rfl (Z0 rfl rfl) ?_
 refine Za rfl rfl rfl (Ze Yq rfl) ?_
 refine Zl rfl rfl rfl CellsOf.agg hS ps2 st4_8 (by kernel_rfl) rfl (fun w hS hB => ?_)
 refine Zg ?_
 refine Zc hK67 ?_
 refine Zd (fun K hK74 => ?_)
 refine Yn 8 [5, 7] (fun i b => (i = 5 → b ≠ b63) ∧ (i = 7 → b ≠ b63)) ⟨by kernel_rfl, by kernel_rfl⟩ hS (fun w hS hB => ?_)
 refine Zr [true, true, true, false, true] (by decide +kernel) PFC.h ?_
 refine LtK.put rfl rfl rfl (Zy rfl) ?_
 refine LtK.put rfl rfl rfl (Ze Vf rfl) ?_
 refine LtK.put rfl rfl rfl (Zh Z3 rfl (Zhf _) hS Xi trivial Xu) ?_
 refine LtK.put rfl rfl rfl (Ze Vv rfl) ?_
 refine LtK.nil ?_
 refine Jv [3, 5] ⟨by decide, by kernel_rfl⟩ rfl (.call [false, false, false, true] 3 rfl rfl rfl ?_ (.put [false, false, false, false, false, true] 5 rfl rfl rfl ?_ .nil))
 ·try dsimp only [Zw]
  obtain ⟨l75, hm76, H⟩ := bind_some H
  refine Zg0 V5 em_27 rfl (by decide) rfl rfl rfl rfl hS hm76 (fun A77 c78 w k79 hS hB => ?_)
  refine Zg ?_
  refine Z6 hB ?_
  refine Yk [false, false, false, false, false, true] 5 ⟨by decide, by kernel_rfl, by kernel_rfl⟩ rfl rfl ?_
  try dsimp only [Zw]
  refine Zl rfl rfl rfl CellsOf.int hS ps3 Zgz (by kernel_rfl) rfl (fun w hS hB => ?_)
  refine Zg ?_
  refine Yb (hB.sub (fun _ _ h => by simpa using h)) ?_
  refine Zr [false, false, false, false, false, false, true] (by decide +kernel) PFC.h ?_
  refine LtK.put rfl rfl rfl (Ze Vd rfl) ?_
  refine LtK.nil ?_
  refine Yk [false, false, false, false, false, false, false, true] 7 ⟨by decide, by kernel_rfl, by kernel_rfl⟩ rfl rfl ?_
  try dsimp only [Zw]
  refine Zl rfl rfl rfl CellsOf.slice hS ps3 st18_1 (by kernel_rfl) rfl (fun w hS hB => ?_)
  refine Zg ?_
  refine Yb (hB.sub (fun _ _ h => by simpa using h)) ?_
  refine Ye (by kernel_rfl) ?_
  refine Zc hK74 ?_
  refine Zd (fun K hK81 => ?_)
  refine Zd (fun K hK82 => ?_)
  refine Zf ?_
  refine Zb 1 rfl ?_
  refine Za rfl rfl rfl (Yz Vh rfl) ?_
  refine Zb 1 rfl ?_
  refine Zg ?_
  refine Zc hK82 ?_
  refine Yc ?_
  refine Zgc 60 ?_
  refine Zd (fun K hK83 => ?_)
  refine Zf ?_
  refine Za rfl rfl rfl (Xk rfl rfl) ?_
  refine Zg ?_
  refine Zc hK83 ?_
  refine Zd (fun K hK84 => ?_)
  refine Yg rfl rfl ?_
  refine X0 ?_
  refine Z9 ?_
  refine Z9 ?_
  refine Yy ?_
  refine Zc hK81 ?_
  refine Zd (fun K hK85 => ?_)
  refine Zf ?_
  refine Za rfl rfl rfl (Zi Zx rfl (Zhe _) hS hs3 trivial Zv) ?_
  refine Zl rfl rfl rfl CellsOf.agg hS ps2 Z8 (by kernel_rfl) rfl (fun w hS hB => ?_)
  refine Zg ?_
  refine Zc hK85 ?_
  refine Zk ?_
  refine Zm rfl (RV.cell rfl (Zt Zx hS Xi Zv) RV.nil) rfl ?_
  refine ⟨_, rfl, ?_⟩
  refine Zl rfl rfl rfl CellsOf.agg hS ps16 Z8 (by kernel_rfl) rfl (fun w hS hB => ?_)
  refine Zg ?_
  refine Zc hK37 ?_
  refine Zd (fun K hK86 => ?_)
  refine Zeu ?_
  refine Zc hK86 ?_
  refine Zd (fun K hK87 => ?_)
  refine Zf ?_
  refine Za rfl rfl rfl (Zi Zx rfl (Zhe _) hS hs16 trivial Zv) ?_
  refine Zl rfl rfl rfl CellsOf.agg hS ps14 Z8 (by kernel_rfl) rfl (fun w hS hB => ?_)
  refine Zg ?_
  refine Zc hK87 ?_
  refine Zk ?_
  refine Yj ?_
  refine Zm rfl (RV.cell rfl (Zt Zx hS hs14 Zv) RV.nil) rfl ?_
  obtain rfl := QJ H
  have hS := hS.front 8 rfl
  have hS := hS.front 8 rfl
  have hS := hS.front 8 rfl
  have hS := hS.front 3 rfl
  have hS := hS.front 4 rfl
  replace hS := hS.cut 5
  exact ⟨A70, c71, A77, c78, A49, c50, A53, c54, A57, c58, rfl, k72, k79, k51, k55, k59, hS⟩
 ·try dsimp only [Zw]
  refine Zl rfl rfl rfl CellsOf.int hS ps2 Zgz (by kernel_rfl) rfl (fun w hS hB => ?_)
  refine Zg ?_
  refine Yb (hB.sub (fun _ _ h => by simpa using h)) ?_
  refine Z5 [false, false, false, true] 3 ⟨by decide, by kernel_rfl, by kernel_rfl⟩ rfl rfl ?_
  try dsimp only [Zw]
  obtain ⟨l75, hm76, H⟩ := bind_some H
  refine Zg0 V5 em_27 rfl (by decide) rfl rfl rfl rfl hS hm76 (fun A77 c78 w k79 hS hB => ?_)
  refine Zg ?_
  refine Z6 hB ?_
  refine Zr [false, false, false, false, false, false, true] (by decide +kernel) PFC.h ?_
  refine LtK.put rfl rfl rfl (Ze Vd rfl) ?_
  refine LtK.nil ?_
  refine Yk [false, false, false, false, false, false, false, true] 7 ⟨by decide, by kernel_rfl, by kernel_rfl⟩ rfl rfl ?_
  try dsimp only [Zw]
  refine Zl rfl rfl rfl CellsOf.slice hS ps3 st18_1 (by kernel_rfl) rfl (fun w hS hB => ?_)
  refine Zg ?_
  refine Yb (hB.sub (fun _ _ h => by simpa using h)) ?_
  refine Ye (by kernel_rfl) ?_
  refine Zc hK74 ?_
  refine Zd (fun K hK81 => ?_)
  refine Zd (fun K hK82 => ?_)
  refine Zf ?_
  refine Zb 1 rfl ?_
  refine Za rfl rfl rfl (Yz Vh rfl) ?_
  refine Zb 1 rfl ?_
  refine Zg ?_
  refine Zc hK82 ?_
  refine Yc ?_
  refine Zgc 60 ?_
  refine Zd (fun K hK83 => ?_)
  refine Zf ?_
  refine Za rfl rfl rfl (Xk rfl rfl) ?_
  refine Zg ?_
  refine Zc hK83 ?_
  refine Zd (fun K hK84 => ?_)
  refine Yg rfl rfl ?_
  refine X0 ?_
  refine Z9 ?_
  refine Z9 ?_
  refine Yy ?_
  refine Zc hK81 ?_
  refine Zd (fun K hK85 => ?_)
  refine Zf ?_
  refine Za rfl rfl rfl (Zi Zx rfl (Zhe _) hS hs3 trivial Zv) ?_
  refine Zl rfl rfl rfl CellsOf.agg hS ps2 Z8 (by kernel_rfl) rfl (fun w hS hB => ?_)
  refine Zg ?_
  refine Zc hK85 ?_
  refine Zk ?_
  refine Zm rfl (RV.cell rfl (Zt Zx hS Xi Zv) RV.nil) rfl ?_
  refine ⟨_, rfl, ?_⟩
  refine Zl rfl rfl rfl CellsOf.agg hS ps16 Z8 (by kernel_rfl) rfl (fun w hS hB => ?_)
  refine Zg ?_
  refine Zc hK37 ?_
  refine Zd (fun K hK86 => ?_)
  refine Zeu ?_
  refine Zc hK86 ?_
  refine Zd (fun K hK87 => ?_)
  refine Zf ?_
  refine Za rfl rfl rfl (Zi Zx rfl (Zhe _) hS hs16 trivial Zv) ?_
  refine Zl rfl rfl rfl CellsOf.agg hS ps14 Z8 (by kernel_rfl) rfl (fun w hS hB => ?_)
  refine Zg ?_
  refine Zc hK87 ?_
  refine Zk ?_
  refine Yj ?_
  refine Zm rfl (RV.cell rfl (Zt Zx hS hs14 Zv) RV.nil) rfl ?_
  obtain rfl := QJ H
  have hS := hS.front 8 rfl
  have hS := hS.front 8 rfl
  have hS := hS.front 8 rfl
  have hS := hS.front 3 rfl
  have hS := hS.front 4 rfl
  replace hS := hS.cut 5
  exact ⟨A70, c71, A77, c78, A49, c50, A53, c54, A57, c58, rfl, k72, k79, k51, k55, k59, hS⟩
theorem Zdt (x0 : Co) (x1 : Int) (x2 : Int) (A0_ : OA) (c0_ : Nat) (A1_ : OA) (c1_ : Nat) (A2_ : OA) (c2_ : Nat) (A3_ : OA) (c3_ : Nat) (A4_ : OA) (c4_ : Nat) (w0 : World) (s0_ : SlI w0 V3 A0_ c0_ x0.tuple.log) (s1_ : SlI w0 enO A1_ c1_ x0.votes) (s2_ : SlI w0 X2 A2_ c2_ x0.next) (s3_ : SlI w0 X2 A3_ c3_ x0.mtch) (s4_ : SlI w0 X2 A4_ c4_ x0.caps) {r : Bool} (H : Vx x0 x1 x2 = some r) : Calls Tryz.prog 23 #[.agg #[.int .i64 x0.id, .int .i64 x0.n, .int .u8 x0.role, .int .i64 x0.binary, .int .i64 x0.tuple.snap.index, .int .i64 x0.tuple.snap.term, .int .i64 x0.tuple.snap.sum, .int .i64 x0.tuple.snap.level, .bool x0.tuple.snap.final, .slice A0_ x0.tuple.log.length c0_, .int .i64 x0.tuple.term, .int .i64 x0.tuple.vote, .int .i64 x0.commit, .int .i64 x0.applied.index, .int .i64 x0.applied.term, .int .i64 x0.applied.sum, .int .i64 x0.applied.level, .bool x0.applied.final, .slice A1_ x0.votes.length c1_, .slice A2_ x0.next.length c2_, .slice A3_ x0.mtch.length c3_, .slice A4_ x0.caps.length c4_], .int .i64 x1, .int .i64 x2] w0 fun e w' => e = .returned (.bool r) ∧ St0 All w0 w' [] := by
 unfold Vx at H
 refine Zaj Tryz.func23 rfl Tryz.ntmps23 rfl ?_
 have hS := St0.start All w0
 refine Zd (fun K hK1 => ?_)
 refine Zf ?_
 refine Z7 rfl rfl rfl CellsOf.agg hS (fun b2 w hS hB => ?_)
 refine Zb 1 rfl ?_
 refine Zg ?_
 refine Zc hK1 ?_
 refine Zd (fun K hK4 => ?_)
 refine Zd (fun K hK5 => ?_)
 refine Zf ?_
 refine Za rfl rfl rfl (Zi Zx rfl (Zhe _) hS hs0 trivial Zv) ?_
 obtain ⟨r6, hm7, H⟩ := bind_some H
 refine Zn rfl rfl rfl rfl (by kernel_rfl) rfl (Zd9 x0 A0_ c0_ A1_ c1_ A2_ c2_ A3_ c3_ A4_ c4_ _ (Zhh s0_.k (hS.rd0 s0_.rd) (hS.blk0 s0_.blk)) (Zhh s1_.k (hS.rd0 s1_.rd) (hS.blk0 s1_.blk)) (Zhh s2_.k (hS.rd0 s2_.rd) (hS.blk0 s2_.blk)) (Zhh s3_.k (hS.rd0 s3_.rd) (hS.blk0 s3_.blk)) (Zhh s4_.k (hS.rd0 s4_.rd) (hS.blk0 s4_.blk)) hm7) ?_
 rintro e w ⟨rfl, hN⟩; refine ⟨_, rfl, ?_⟩; obtain ⟨hB, hS⟩ := hS.jn hN
 refine Za rfl rfl rfl (Yo rfl) ?_
 refine Zg ?_
 refine Zc hK5 ?_
 refine Z1 rfl (fun hb => ?_) (fun hb => ?_)
 ·replace H := Zo H hb
  refine Zd (fun K hK8 => ?_)
  refine Zf ?_
  refine Zb 1 rfl ?_
  refine Zg ?_
  refine Zc hK8 ?_
  refine Zk ?_
  refine Zj ?_
  refine Zm rfl (RV.tmp rfl RV.nil) rfl ?_
  obtain rfl := QJ H
  replace hS := hS.cut 0
  exact ⟨rfl, hS⟩
 replace H := Zp H hb
 refine Zs ?_
 refine Zc hK4 ?_
 refine Zd (fun K hK9 => ?_)
 refine Zf ?_
 refine Za rfl rfl rfl (Zi Zx rfl (Zhe _) hS hs0 trivial Zv) ?_
 obtain ⟨r10, hm11, H⟩ := bind_some H
 refine Zn rfl rfl rfl rfl (by kernel_rfl) rfl (c_elect_end x0 A0_ c0_ A1_ c1_ A2_ c2_ A3_ c3_ A4_ c4_ _ (Zhh s0_.k (hS.rd0 s0_.rd) (hS.blk0 s0_.blk)) (Zhh s1_.k (hS.rd0 s1_.rd) (hS.blk0 s1_.blk)) (Zhh s2_.k (hS.rd0 s2_.rd) (hS.blk0 s2_.blk)) (Zhh s3_.k (hS.rd0 s3_.rd) (hS.blk0 s3_.blk)) (Zhh s4_.k (hS.rd0 s4_.rd) (hS.blk0 s4_.blk)) hm11) ?_
 rintro e w ⟨rfl, hN⟩; refine ⟨_, rfl, ?_⟩; obtain ⟨hB, hS⟩ := hS.jn hN
 refine Zb 1 rfl ?_
 refine Za rfl rfl rfl (Z0 rfl rfl) ?_
 refine Za rfl rfl rfl (Z0 rfl rfl) ?_
 refine Zb 2 rfl ?_
 refine Zg ?_
 refine Zc hK9 ?_
 refine Zd (fun K hK12 => ?_)
 refine Zd (fun K hK13 => ?_)
 refine Zf ?_
 refine Zb 2 rfl ?_
 refine Za rfl rfl rfl (Xm rfl rfl) ?_
 refine Zg ?_
 refine Zc hK13 ?_
 refine Z1 rfl (fun hb => ?_) (fun hb => ?_)
 ·replace H := Zo H hb
  refine Zd (fun K hK14 => ?_)
  refine Zf ?_
  refine Zb 2 rfl ?_
  refine Za rfl rfl rfl (Y7 rfl rfl) ?_
  refine Zb 1 rfl ?_
  refine Zg ?_
  refine Zc hK14 ?_
  refine Zk ?_
  refine Zj ?_
  refine Zm rfl (RV.tmp rfl RV.nil) rfl ?_
  obtain rfl := QJ H
  replace hS := hS.cut 0
  exact ⟨rfl, hS⟩
 replace H := Zp H hb
 refine Zs ?_
 refine Zc hK12 ?_
 refine Zd (fun K hK15 => ?_)
 refine Zf ?_
 refine Zb 2 rfl ?_
 refine Za rfl rfl rfl (Zcz rfl rfl) ?_
 refine Zb 1 rfl ?_
 refine Zg ?_
 refine Zc hK15 ?_
 refine Zk ?_
 refine Zm rfl (RV.tmp rfl RV.nil) rfl ?_
 obtain rfl := QJ H
 replace hS := hS.cut 0
 exact ⟨rfl, hS⟩
theorem Zca (x0 : Co) (x1 : Ms) (x2 : Int) (x3 : Bool) (x4 : Int) (A0_ : OA) (c0_ : Nat) (A1_ : OA) (c1_ : Nat) (A2_ : OA) (c2_ : Nat) (A3_ : OA) (c3_ : Nat) (A4_ : OA) (c4_ : Nat) (A5_ : OA) (c5_ : Nat) (w0 : World) (s0_ : SlI w0 V3 A0_ c0_ x0.tuple.log) (s1_ : SlI w0 enO A1_ c1_ x0.votes) (s2_ : SlI w0 X2 A2_ c2_ x0.next) (s3_ : SlI w0 X2 A3_ c3_ x0.mtch) (s4_ : SlI w0 X2 A4_ c4_ x0.caps) (s5_ : SlI w0 V3 A5_ c5_ x1.entries) {r : Ms} (H : J2 x0 x1 x2 x3 x4 = some r) : Calls Tryz.prog 61 #[.agg #[.int .i64 x0.id, .int .i64 x0.n, .int .u8 x0.role, .int .i64 x0.binary, .int .i64 x0.tuple.snap.index, .int .i64 x0.tuple.snap.term, .int .i64 x0.tuple.snap.sum, .int .i64 x0.tuple.snap.level, .bool x0.tuple.snap.final, .slice A0_ x0.tuple.log.length c0_, .int .i64 x0.tuple.term, .int .i64 x0.tuple.vote, .int .i64 x0.commit, .int .i64 x0.applied.index, .int .i64 x0.applied.term, .int .i64 x0.applied.sum, .int .i64 x0.applied.level, .bool x0.applied.final, .slice A1_ x0.votes.length c1_, .slice A2_ x0.next.length c2_, .slice A3_ x0.mtch.length c3_, .slice A4_ x0.caps.length c4_], .agg #[.int .u8 x1.kind, .int .i64 x1.frm, .int .i64 x1.dst, .int .i64 x1.term, .int .i64 x1.cap, .int .i64 x1.last, .int .i64 x1.lastTerm, .int .i64 x1.commit, .bool x1.okk, .slice A5_ x1.entries.length c5_, .int .i64 x1.snap.index, .int .i64 x1.snap.term, .int .i64 x1.snap.sum, .int .i64 x1.snap.level, .bool x1.snap.final], .int .u8 x2, .bool x3, .int .i64 x4] w0 fun e w' => ∃ (A0 : OA) (c0 : Nat), e = .returned (.agg #[.int .u8 r.kind, .int .i64 r.frm, .int .i64 r.dst, .int .i64 r.term, .int .i64 r.cap, .int .i64 r.last, .int .i64 r.lastTerm, .int .i64 r.commit, .bool r.okk, .slice A0 r.entries.length c0, .int .i64 r.snap.index, .int .i64 r.snap.term, .int .i64 r.snap.sum, .int .i64 r.snap.level, .bool r.snap.final]) ∧ (r.entries.length ≤ c0 ∧ c0 ≤ maxLen) ∧ St0 All w0 w' [.rd A0 (Yf V3 r.entries)] := by
 unfold J2 at H
 refine Zha Tryz.func61 rfl Tryz.ntmps61 rfl ?_
 have hS := St0.start All w0
 refine Zd (fun K hK1 => ?_)
 refine Zf ?_
 refine Z7 rfl rfl rfl CellsOf.agg hS (fun b2 w hS hB => ?_)
 refine Z7 rfl rfl rfl CellsOf.agg hS (fun b4 w hS hB => ?_)
 refine Yd rfl rfl Jf hS (fun b6 w hS hB => ?_)
 refine Zg ?_
 refine Zc hK1 ?_
 refine Zd (fun K hK8 => ?_)
 refine Zf ?_
 refine Zb 1 rfl ?_
 refine Za rfl rfl rfl (Ze Vo rfl) ?_
 refine Za rfl rfl rfl (Zh Z3 rfl (Zhe _) hS Xi trivial Yx) ?_
 refine Za rfl rfl rfl (Ze Zaf rfl) ?_
 refine Za rfl rfl rfl (Zh Z3 rfl (Zhe _) hS Y2 trivial Xu) ?_
 refine Za rfl rfl rfl (Ze Yq rfl) ?_
 refine Za rfl rfl rfl (Ze Xl rfl) ?_
 refine Za rfl rfl rfl (Zh Z3 rfl (Zhe _) hS Xi trivial Vz) ?_
 refine Za rfl rfl rfl (Ze Zdy rfl) ?_
 refine Za rfl rfl rfl (Zh Z3 rfl (Zhe _) hS Xi trivial Jb) ?_
 refine Zb 2 rfl ?_
 refine Za rfl rfl rfl (Xn (cells := [.int .u8 x2, .int .i64 x0.id, .int .i64 x1.frm, .int .i64 x0.tuple.term, .int .i64 x0.binary, .int .i64 x4, .int .i64 0, .int .i64 0, .bool x3, .slice none 0 0, .int .i64 0, .int .i64 0, .int .i64 0, .int .i64 0, .bool false]) rfl (by kernel_rfl)) ?_
 refine Zl rfl rfl rfl CellsOf.agg hS ps0 st0_15 (by kernel_rfl) rfl (fun w hS hB => ?_)
 refine Zg ?_
 refine Zc hK8 ?_
 refine Zk ?_
 refine Zm rfl (RV.cell rfl (Zt Va hS hs0 Xg) RV.nil) rfl ?_
 obtain rfl := QJ H
 have hS := hS.nilRd
 replace hS := hS.cut 1
 exact ⟨none, 0, rfl, ⟨Nat.le_refl _, Nat.zero_le _⟩, hS⟩
theorem c_elect_Vote (x0 : Co) (x1 : Ms) (A0_ : OA) (c0_ : Nat) (A1_ : OA) (c1_ : Nat) (A2_ : OA) (c2_ : Nat) (A3_ : OA) (c3_ : Nat) (A4_ : OA) (c4_ : Nat) (A5_ : OA) (c5_ : Nat) (w0 : World) (s0_ : SlI w0 V3 A0_ c0_ x0.tuple.log) (s1_ : SlI w0 enO A1_ c1_ x0.votes) (s2_ : SlI w0 X2 A2_ c2_ x0.next) (s3_ : SlI w0 X2 A3_ c3_ x0.mtch) (s4_ : SlI w0 X2 A4_ c4_ x0.caps) (s5_ : SlI w0 V3 A5_ c5_ x1.entries) {r : Co × List Ms} (H : V2 x0 x1 = some r) : Calls Tryz.prog 13 #[.agg #[.int .i64 x0.id, .int .i64 x0.n, .int .u8 x0.role, .int .i64 x0.binary, .int .i64 x0.tuple.snap.index, .int .i64 x0.tuple.snap.term, .int .i64 x0.tuple.snap.sum, .int .i64 x0.tuple.snap.level, .bool x0.tuple.snap.final, .slice A0_ x0.tuple.log.length c0_, .int .i64 x0.tuple.term, .int .i64 x0.tuple.vote, .int .i64 x0.commit, .int .i64 x0.applied.index, .int .i64 x0.applied.term, .int .i64 x0.applied.sum, .int .i64 x0.applied.level, .bool x0.applied.final, .slice A1_ x0.votes.length c1_, .slice A2_ x0.next.length c2_, .slice A3_ x0.mtch.length c3_, .slice A4_ x0.caps.length c4_], .agg #[.int .u8 x1.kind, .int .i64 x1.frm, .int .i64 x1.dst, .int .i64 x1.term, .int .i64 x1.cap, .int .i64 x1.last, .int .i64 x1.lastTerm, .int .i64 x1.commit, .bool x1.okk, .slice A5_ x1.entries.length c5_, .int .i64 x1.snap.index, .int .i64 x1.snap.term, .int .i64 x1.snap.sum, .int .i64 x1.snap.level, .bool x1.snap.final]] w0 fun e w' => ∃ (A0 : OA) (c0 : Nat) (A1 : OA) (c1 : Nat) (A2 : OA) (c2 : Nat) (A3 : OA) (c3 : Nat) (A4 : OA) (c4 : Nat) (A5 : OA) (c5 : Nat) (q5 : List Mq), e = .returned (.tuple #[.agg #[.int .i64 r.1.id, .int .i64 r.1.n, .int .u8 r.1.role, .int .i64 r.1.binary, .int .i64 r.1.tuple.snap.index, .int .i64 r.1.tuple.snap.term, .int .i64 r.1.tuple.snap.sum, .int .i64 r.1.tuple.snap.level, .bool r.1.tuple.snap.final, .slice A0 r.1.tuple.log.length c0, .int .i64 r.1.tuple.term, .int .i64 r.1.tuple.vote, .int .i64 r.1.commit, .int .i64 r.1.applied.index, .int .i64 r.1.applied.term, .int .i64 r.1.applied.sum, .int .i64 r.1.applied.level, .bool r.1.applied.final, .slice A1 r.1.votes.length c1, .slice A2 r.1.next.length c2, .slice A3 r.1.mtch.length c3, .slice A4 r.1.caps.length c4], .slice A5 r.2.length c5]) ∧ (r.1.tuple.log.length ≤ c0 ∧ c0 ≤ maxLen) ∧ (r.1.votes.length ≤ c1 ∧ c1 ≤ maxLen) ∧ (r.1.next.length ≤ c2 ∧ c2 ≤ maxLen) ∧ (r.1.mtch.length ≤ c3 ∧ c3 ≤ maxLen) ∧ (r.1.caps.length ≤ c4 ∧ c4 ≤ maxLen) ∧ (r.2.length ≤ c5 ∧ c5 ≤ maxLen) ∧ q5.map Mq.m = r.2 ∧ (∀ y ∈ q5, okQ y) ∧ St0 All w0 w' [.rd A0 (Yf V3 r.1.tuple.log), .row (.slice A1 r.1.votes.length c1) 4 1 r.1.votes.length (Yf enO r.1.votes), .row (.slice A2 r.1.next.length c2) 3 1 r.1.next.length (Yf X2 r.1.next), .row (.slice A3 r.1.mtch.length c3) 3 1 r.1.mtch.length (Yf X2 r.1.mtch), .row (.slice A4 r.1.caps.length c4) 3 1 r.1.caps.length (Yf X2 r.1.caps), .rd A5 (Yf enQ q5), .rds (q5.map subQ)] := by
 unfold V2 at H
 refine Ys Tryz.func13 rfl Tryz.ntmps13 rfl ?_
 have hS := St0.start All w0
 refine Zd (fun K hK1 => ?_)
 refine Zf ?_
 refine Z7 rfl rfl rfl CellsOf.agg hS (fun b2 w hS hB => ?_)
 refine Z7 rfl rfl rfl CellsOf.agg hS (fun b4 w hS hB => ?_)
 refine Yd rfl rfl Zbx hS (fun b6 w hS hB => ?_)
 refine Zb 1 rfl ?_
 refine Zg ?_
 refine Zc hK1 ?_
 refine Zd (fun K hK8 => ?_)
 refine Zd (fun K hK9 => ?_)
 refine Zf ?_
 refine Za rfl rfl rfl (Zi Zx rfl (Zhe _) hS Xi trivial Zv) ?_
 refine Za rfl rfl rfl (Zi Va rfl (Zhe _) hS Y2 trivial Xg) ?_
 obtain ⟨r10, hm11, H⟩ := bind_some H
 refine Zn rfl rfl rfl rfl (by kernel_rfl) rfl (c_elect_fits x0 x1 A0_ c0_ A1_ c1_ A2_ c2_ A3_ c3_ A4_ c4_ A5_ c5_ _ (Zhh s0_.k (hS.rd0 s0_.rd) (hS.blk0 s0_.blk)) (Zhh s1_.k (hS.rd0 s1_.rd) (hS.blk0 s1_.blk)) (Zhh s2_.k (hS.rd0 s2_.rd) (hS.blk0 s2_.blk)) (Zhh s3_.k (hS.rd0 s3_.rd) (hS.blk0 s3_.blk)) (Zhh s4_.k (hS.rd0 s4_.rd) (hS.blk0 s4_.blk)) (Zhh s5_.k (hS.rd0 s5_.rd) (hS.blk0 s5_.blk)) hm11) ?_
 rintro e w ⟨rfl, hN⟩; refine ⟨_, rfl, ?_⟩; obtain ⟨hB, hS⟩ := hS.jn hN
 refine Za rfl rfl rfl (Yo rfl) ?_
 refine Zb 1 rfl ?_
 refine Zq 12 rfl (fun hb => ?_) (fun hb => ?_)
 ·replace H := Zo H hb
  refine Zb 4 rfl ?_
  refine Zg ?_
  refine Zc hK9 ?_
  refine Zu rfl rfl ?_
  refine Zd (fun K hK12 => ?_)
  refine Zf ?_
  refine Za rfl rfl rfl (Zi Zx rfl (Zhe _) hS Xi trivial Zv) ?_
  obtain ⟨r13, hm14, H⟩ := bind_some H
  refine Zn rfl rfl rfl rfl (by kernel_rfl) rfl (Zd8 x0 A0_ c0_ A1_ c1_ A2_ c2_ A3_ c3_ A4_ c4_ _ (Zhh s0_.k (hS.rd0 s0_.rd) (hS.blk0 s0_.blk)) (Zhh s1_.k (hS.rd0 s1_.rd) (hS.blk0 s1_.blk)) (Zhh s2_.k (hS.rd0 s2_.rd) (hS.blk0 s2_.blk)) (Zhh s3_.k (hS.rd0 s3_.rd) (hS.blk0 s3_.blk)) (Zhh s4_.k (hS.rd0 s4_.rd) (hS.blk0 s4_.blk)) hm14) ?_
  rintro e w ⟨A15, c16, A19, c20, A23, c24, A27, c28, A31, c32, rfl, k17, k21, k25, k29, k33, hN⟩; refine ⟨_, rfl, ?_⟩; obtain ⟨hB, hS⟩ := hS.jn hN
  refine Zl rfl rfl rfl CellsOf.agg hS ps5 Z8 (by kernel_rfl) rfl (fun w hS hB => ?_)
  refine Zb 1 rfl ?_
  refine Zg ?_
  refine Zc hK12 ?_
  refine Zk ?_
  refine Zj ?_
  refine Zm rfl (RV.cell rfl (Zt Zx hS hs5 Zv) (RV.tmp rfl RV.nil)) rfl ?_
  obtain rfl := QJ H
  have hS := hS.nilRds
  replace hS := hS.nilRd
  have hS := hS.front 6 rfl
  have hS := hS.front 6 rfl
  have hS := hS.front 6 rfl
  have hS := hS.front 6 rfl
  have hS := hS.front 6 rfl
  replace hS := hS.weak Weak.rowRd
  replace hS := hS.cut 7
  exact ⟨A15, c16, A19, c20, A23, c24, A27, c28, A31, c32, none, 0, ([] : List Mq), rfl, k17, k21, k25, k29, k33, ⟨Nat.le_refl _, Nat.zero_le _⟩, rfl, Yu, hS⟩
 replace H := Zp H hb
 refine Za rfl rfl rfl (Ze Vc rfl) ?_
 refine Za rfl rfl rfl (Zh Zas rfl (Zhe _) hS Y2 trivial Yx) ?_
 refine Za rfl rfl rfl (Xm rfl rfl) ?_
 refine Zb 1 rfl ?_
 refine Zg ?_
 refine Zc hK9 ?_
 refine Z1 rfl (fun hb => ?_) (fun hb => ?_)
 ·replace H := Zo H hb
  refine Zd (fun K hK35 => ?_)
  refine Zf ?_
  refine Za rfl rfl rfl (Zi Zx rfl (Zhe _) hS Xi trivial Zv) ?_
  obtain ⟨r36, hm37, H⟩ := bind_some H
  refine Zn rfl rfl rfl rfl (by kernel_rfl) rfl (Zd8 x0 A0_ c0_ A1_ c1_ A2_ c2_ A3_ c3_ A4_ c4_ _ (Zhh s0_.k (hS.rd0 s0_.rd) (hS.blk0 s0_.blk)) (Zhh s1_.k (hS.rd0 s1_.rd) (hS.blk0 s1_.blk)) (Zhh s2_.k (hS.rd0 s2_.rd) (hS.blk0 s2_.blk)) (Zhh s3_.k (hS.rd0 s3_.rd) (hS.blk0 s3_.blk)) (Zhh s4_.k (hS.rd0 s4_.rd) (hS.blk0 s4_.blk)) hm37) ?_
  rintro e w ⟨A38, c39, A42, c43, A46, c47, A50, c51, A54, c55, rfl, k40, k44, k48, k52, k56, hN⟩; refine ⟨_, rfl, ?_⟩; obtain ⟨hB, hS⟩ := hS.jn hN
  refine Zl rfl rfl rfl CellsOf.agg hS ps5 Z8 (by kernel_rfl) rfl (fun w hS hB => ?_)
  refine Zb 1 rfl ?_
  refine Zg ?_
  refine Zc hK35 ?_
  refine Zk ?_
  refine Zj ?_
  refine Zm rfl (RV.cell rfl (Zt Zx hS hs5 Zv) (RV.tmp rfl RV.nil)) rfl ?_
  obtain rfl := QJ H
  have hS := hS.nilRds
  replace hS := hS.nilRd
  have hS := hS.front 6 rfl
  have hS := hS.front 6 rfl
  have hS := hS.front 6 rfl
  have hS := hS.front 6 rfl
  have hS := hS.front 6 rfl
  replace hS := hS.weak Weak.rowRd
  replace hS := hS.cut 7
  exact ⟨A38, c39, A42, c43, A46, c47, A50, c51, A54, c55, none, 0, ([] : List Mq), rfl, k40, k44, k48, k52, k56, ⟨Nat.le_refl _, Nat.zero_le _⟩, rfl, Yu, hS⟩
 replace H := Zp H hb
 refine Zs ?_
 refine Zc hK8 ?_
 refine Zd (fun K hK58 => ?_)
 refine Zf ?_
 refine Za rfl rfl rfl (Zi Zx rfl (Zhe _) hS Xi trivial Zv) ?_
 refine Za rfl rfl rfl (Zi Va rfl (Zhe _) hS Y2 trivial Xg) ?_
 obtain ⟨r59, hm60, H⟩ := bind_some H
 refine Zn rfl rfl rfl rfl (by kernel_rfl) rfl (c_elect_Meet x0 x1 A0_ c0_ A1_ c1_ A2_ c2_ A3_ c3_ A4_ c4_ A5_ c5_ _ (Zhh s0_.k (hS.rd0 s0_.rd) (hS.blk0 s0_.blk)) (Zhh s1_.k (hS.rd0 s1_.rd) (hS.blk0 s1_.blk)) (Zhh s2_.k (hS.rd0 s2_.rd) (hS.blk0 s2_.blk)) (Zhh s3_.k (hS.rd0 s3_.rd) (hS.blk0 s3_.blk)) (Zhh s4_.k (hS.rd0 s4_.rd) (hS.blk0 s4_.blk)) (Zhh s5_.k (hS.rd0 s5_.rd) (hS.blk0 s5_.blk)) hm60) ?_
 rintro e w ⟨A61, c62, A65, c66, A69, c70, A73, c74, A77, c78, rfl, k63, k67, k71, k75, k79, hN⟩; refine ⟨_, rfl, ?_⟩; obtain ⟨hB, hS⟩ := hS.jn hN
 refine Zl rfl rfl rfl CellsOf.agg hS ps7 Z8 (by kernel_rfl) rfl (fun w hS hB => ?_)
 refine Zg ?_
 refine Zc hK58 ?_
 refine Zd (fun K hK81 => ?_)
 refine Zf ?_
 refine Za rfl rfl rfl (Ze Yq rfl) ?_
 refine Za rfl rfl rfl (Ze Vp rfl) ?_
 refine Za rfl rfl rfl (Zh Z3 rfl (Zhe _) hS hs7 trivial sg11_1) ?_
 refine Za rfl rfl rfl (Yr rfl rfl) ?_
 refine Zb 1 rfl ?_
 refine Zq 26 rfl (fun hb => ?_) (fun hb => ?_)
 ·replace H := Zo H hb
  refine Zb 8 rfl ?_
  refine Zg ?_
  refine Zc hK81 ?_
  refine Zd (fun K hK82 => ?_)
  refine Zf ?_
  refine Zb 2 rfl ?_
  refine Za rfl rfl rfl (Ze Vv rfl) ?_
  refine Za rfl rfl rfl (Zh Zas rfl (Zhe _) hS hs7 trivial Jt) ?_
  refine Za rfl rfl rfl (Yr rfl rfl) ?_
  refine Zb 2 rfl ?_
  refine Zq 40 rfl (fun hb => ?_) (fun hb => ?_)
  rotate_left
  ·replace H := Zp H hb
   refine Zb 16 rfl ?_
   refine Zg ?_
   refine Zc hK82 ?_
   refine Zd (fun K hK122 => ?_)
   refine Zd (fun K hK123 => ?_)
   refine Zf ?_
   refine Zb 1 rfl ?_
   refine Zg ?_
   refine Zc hK123 ?_
   refine Yg rfl rfl ?_
   refine Zs ?_
   refine Zc hK122 ?_
   refine Zd (fun K hK124 => ?_)
   refine Yn 8 [6] (fun i b => (i = 6 → b ≠ b6)) ⟨by kernel_rfl, by kernel_rfl⟩ hS (fun w hS hB => ?_)
   refine Zr [true] (by decide +kernel) PFC.h ?_
   refine LtK.put rfl rfl rfl (Zi Zx rfl (Zhf _) hS hs7 trivial Zv) ?_
   refine LtK.nil ?_
   refine Y1 [false, true, true, true] [6] (fun b => b ≠ b6) (by decide +kernel) (by intro j hj b hb; simp only [List.mem_cons, List.not_mem_nil, or_false] at hj; (try rcases hj with rfl | rfl | rfl | rfl | rfl) <;> first | (simp [hb]; done) | simp_all) PFC.h ?_
   refine LtK.put rfl rfl rfl (Zi Zx rfl (Zhg _ _) hS hs7 (hS.ne 7 5 rfl rfl rfl) Zv) ?_
   refine LtK.put rfl rfl rfl (Zi Va rfl (Zhg _ _) hS Jy (hS.ne 6 5 rfl rfl rfl) Xg) ?_
   refine LtK.put rfl rfl rfl (Zy rfl) ?_
   refine LtK.nil ?_
   refine Z5 [false, false, false, false, true] 4 ⟨by decide, by kernel_rfl, by kernel_rfl⟩ rfl rfl ?_
   try dsimp only [Zw]
   obtain ⟨r125, hm126, H⟩ := bind_some H
   refine Zn rfl rfl rfl rfl (by kernel_rfl) rfl (Zca r59 x1 2 false 0 A61 c62 A65 c66 A69 c70 A73 c74 A77 c78 A5_ c5_ _ (Zhh k63 (hS.rd hs0) (hS.rd_blk hs0)) (Zhh k67 (hS.row_rd Y2) (hS.row_blk Y2)) (Zhh k71 (hS.row_rd Xi) (hS.row_blk Xi)) (Zhh k75 (hS.row_rd hs3) (hS.row_blk hs3)) (Zhh k79 (hS.row_rd Jq) (hS.row_blk Jq)) (Zhh s5_.k (hS.rd0 s5_.rd) (hS.blk0 s5_.blk)) hm126) ?_
   rintro e w ⟨A127, c128, rfl, k129, hN⟩; refine ⟨_, rfl, ?_⟩; obtain ⟨hB, hS⟩ := hS.jn hN
   refine Zg ?_
   refine Z6 hB ?_
   refine Jv [5, 6] ⟨by decide, by kernel_rfl⟩ rfl (.call [false, false, false, false, false, true] 5 rfl rfl rfl ?_ (.put [false, false, false, false, false, false, true] 6 rfl rfl rfl ?_ .nil))
   ·try dsimp only [Zw]
    refine Ym (ps := [(0, .tmp 72)]) [.int .u8 r125.kind, .int .i64 r125.frm, .int .i64 r125.dst, .int .i64 r125.term, .int .i64 r125.cap, .int .i64 r125.last, .int .i64 r125.lastTerm, .int .i64 r125.commit, .bool r125.okk, .slice A127 r125.entries.length c128, .int .i64 r125.snap.index, .int .i64 r125.snap.term, .int .i64 r125.snap.sum, .int .i64 r125.snap.level, .bool r125.snap.final] Vk Jf rfl rfl rfl rfl rfl (by kernel_rfl) hS (fun b131 w hS hB => ?_)
    refine Zg ?_
    refine Z6 hB ?_
    refine Yk [false, false, false, false, false, false, true] 6 ⟨by decide, by kernel_rfl, by kernel_rfl⟩ rfl rfl ?_
    try dsimp only [Zw]
    refine Zl rfl rfl rfl CellsOf.agg hS ps7 Z8 (by kernel_rfl) rfl (fun w hS hB => ?_)
    refine Zg ?_
    refine Yb (hB.sub (fun _ _ h => by simpa using h)) ?_
    refine Zr [false, false, false, false, false, false, false, true] (by decide +kernel) PFC.h ?_
    refine LtK.put rfl rfl rfl (Z2 rfl) ?_
    refine LtK.nil ?_
    refine Ye (by kernel_rfl) ?_
    refine Zc hK124 ?_
    refine Zk ?_
    refine Zm rfl (RV.cell rfl (Zt Zx hS hs7 Zv) (RV.tmp rfl RV.nil)) rfl ?_
    obtain rfl := QJ H
    have hS := hS.nilRds
    replace hS := hS.front 2 rfl
    replace hS := hS.absorbQ ⟨r125, A127, c128⟩
    replace hS := hS.front 1 rfl
    replace hS := hS.weak Weak.boxRd
    have hS := hS.front 6 rfl
    have hS := hS.front 6 rfl
    have hS := hS.front 6 rfl
    have hS := hS.front 6 rfl
    have hS := hS.front 6 rfl
    replace hS := hS.cut 7
    exact ⟨A61, c62, A65, c66, A69, c70, A73, c74, A77, c78, (some ⟨b131, 0, none⟩), 1, ([⟨r125, A127, c128⟩] : List Mq), rfl, k63, k67, k71, k75, k79, ⟨Nat.le_refl 1, by decide⟩, rfl, (Xp k129 Yu), hS⟩
   ·try dsimp only [Zw]
    refine Zl rfl rfl rfl CellsOf.agg hS ps6 Z8 (by kernel_rfl) rfl (fun w hS hB => ?_)
    refine Zg ?_
    refine Yb (hB.sub (fun _ _ h => by simpa using h)) ?_
    refine Z5 [false, false, false, false, false, true] 5 ⟨by decide, by kernel_rfl, by kernel_rfl⟩ rfl rfl ?_
    try dsimp only [Zw]
    refine Ym (ps := [(0, .tmp 72)]) [.int .u8 r125.kind, .int .i64 r125.frm, .int .i64 r125.dst, .int .i64 r125.term, .int .i64 r125.cap, .int .i64 r125.last, .int .i64 r125.lastTerm, .int .i64 r125.commit, .bool r125.okk, .slice A127 r125.entries.length c128, .int .i64 r125.snap.index, .int .i64 r125.snap.term, .int .i64 r125.snap.sum, .int .i64 r125.snap.level, .bool r125.snap.final] Vk Jf rfl rfl rfl rfl rfl (by kernel_rfl) hS (fun b131 w hS hB => ?_)
    refine Zg ?_
    refine Z6 hB ?_
    refine Zr [false, false, false, false, false, false, false, true] (by decide +kernel) PFC.h ?_
    refine LtK.put rfl rfl rfl (Z2 rfl) ?_
    refine LtK.nil ?_
    refine Ye (by kernel_rfl) ?_
    refine Zc hK124 ?_
    refine Zk ?_
    refine Zm rfl (RV.cell rfl (Zt Zx hS hs7 Zv) (RV.tmp rfl RV.nil)) rfl ?_
    obtain rfl := QJ H
    have hS := hS.nilRds
    replace hS := hS.front 2 rfl
    replace hS := hS.absorbQ ⟨r125, A127, c128⟩
    replace hS := hS.front 1 rfl
    replace hS := hS.weak Weak.boxRd
    have hS := hS.front 6 rfl
    have hS := hS.front 6 rfl
    have hS := hS.front 6 rfl
    have hS := hS.front 6 rfl
    have hS := hS.front 6 rfl
    replace hS := hS.cut 7
    exact ⟨A61, c62, A65, c66, A69, c70, A73, c74, A77, c78, (some ⟨b131, 0, none⟩), 1, ([⟨r125, A127, c128⟩] : List Mq), rfl, k63, k67, k71, k75, k79, ⟨Nat.le_refl 1, by decide⟩, rfl, (Xp k129 Yu), hS⟩
  replace H := Zo H hb
  refine Za rfl rfl rfl (Ze Js rfl) ?_
  refine Za rfl rfl rfl (Zh Z3 rfl (Zhe _) hS Jy trivial Jb) ?_
  refine Za rfl rfl rfl (Ze Yq rfl) ?_
  refine Za rfl rfl rfl (Ze Xl rfl) ?_
  refine Za rfl rfl rfl (Zh Z3 rfl (Zhe _) hS hs7 trivial Vz) ?_
  refine Za rfl rfl rfl (Yr rfl rfl) ?_
  refine Zb 2 rfl ?_
  refine Zq 48 rfl (fun hb => ?_) (fun hb => ?_)
  rotate_left
  ·replace H := Zp H hb
   refine Zb 8 rfl ?_
   refine Zg ?_
   refine Zc hK82 ?_
   refine Zd (fun K hK111 => ?_)
   refine Zd (fun K hK112 => ?_)
   refine Zf ?_
   refine Zb 1 rfl ?_
   refine Zg ?_
   refine Zc hK112 ?_
   refine Yg rfl rfl ?_
   refine Zs ?_
   refine Zc hK111 ?_
   refine Zd (fun K hK113 => ?_)
   refine Yn 8 [6] (fun i b => (i = 6 → b ≠ b6)) ⟨by kernel_rfl, by kernel_rfl⟩ hS (fun w hS hB => ?_)
   refine Zr [true] (by decide +kernel) PFC.h ?_
   refine LtK.put rfl rfl rfl (Zi Zx rfl (Zhf _) hS hs7 trivial Zv) ?_
   refine LtK.nil ?_
   refine Y1 [false, true, true, true] [6] (fun b => b ≠ b6) (by decide +kernel) (by intro j hj b hb; simp only [List.mem_cons, List.not_mem_nil, or_false] at hj; (try rcases hj with rfl | rfl | rfl | rfl | rfl) <;> first | (simp [hb]; done) | simp_all) PFC.h ?_
   refine LtK.put rfl rfl rfl (Zi Zx rfl (Zhg _ _) hS hs7 (hS.ne 7 5 rfl rfl rfl) Zv) ?_
   refine LtK.put rfl rfl rfl (Zi Va rfl (Zhg _ _) hS Jy (hS.ne 6 5 rfl rfl rfl) Xg) ?_
   refine LtK.put rfl rfl rfl (Zy rfl) ?_
   refine LtK.nil ?_
   refine Z5 [false, false, false, false, true] 4 ⟨by decide, by kernel_rfl, by kernel_rfl⟩ rfl rfl ?_
   try dsimp only [Zw]
   obtain ⟨r114, hm115, H⟩ := bind_some H
   refine Zn rfl rfl rfl rfl (by kernel_rfl) rfl (Zca r59 x1 2 false 0 A61 c62 A65 c66 A69 c70 A73 c74 A77 c78 A5_ c5_ _ (Zhh k63 (hS.rd hs0) (hS.rd_blk hs0)) (Zhh k67 (hS.row_rd Y2) (hS.row_blk Y2)) (Zhh k71 (hS.row_rd Xi) (hS.row_blk Xi)) (Zhh k75 (hS.row_rd hs3) (hS.row_blk hs3)) (Zhh k79 (hS.row_rd Jq) (hS.row_blk Jq)) (Zhh s5_.k (hS.rd0 s5_.rd) (hS.blk0 s5_.blk)) hm115) ?_
   rintro e w ⟨A116, c117, rfl, k118, hN⟩; refine ⟨_, rfl, ?_⟩; obtain ⟨hB, hS⟩ := hS.jn hN
   refine Zg ?_
   refine Z6 hB ?_
   refine Jv [5, 6] ⟨by decide, by kernel_rfl⟩ rfl (.call [false, false, false, false, false, true] 5 rfl rfl rfl ?_ (.put [false, false, false, false, false, false, true] 6 rfl rfl rfl ?_ .nil))
   ·try dsimp only [Zw]
    refine Ym (ps := [(0, .tmp 72)]) [.int .u8 r114.kind, .int .i64 r114.frm, .int .i64 r114.dst, .int .i64 r114.term, .int .i64 r114.cap, .int .i64 r114.last, .int .i64 r114.lastTerm, .int .i64 r114.commit, .bool r114.okk, .slice A116 r114.entries.length c117, .int .i64 r114.snap.index, .int .i64 r114.snap.term, .int .i64 r114.snap.sum, .int .i64 r114.snap.level, .bool r114.snap.final] Vk Jf rfl rfl rfl rfl rfl (by kernel_rfl) hS (fun b120 w hS hB => ?_)
    refine Zg ?_
    refine Z6 hB ?_
    refine Yk [false, false, false, false, false, false, true] 6 ⟨by decide, by kernel_rfl, by kernel_rfl⟩ rfl rfl ?_
    try dsimp only [Zw]
    refine Zl rfl rfl rfl CellsOf.agg hS ps7 Z8 (by kernel_rfl) rfl (fun w hS hB => ?_)
    refine Zg ?_
    refine Yb (hB.sub (fun _ _ h => by simpa using h)) ?_
    refine Zr [false, false, false, false, false, false, false, true] (by decide +kernel) PFC.h ?_
    refine LtK.put rfl rfl rfl (Z2 rfl) ?_
    refine LtK.nil ?_
    refine Ye (by kernel_rfl) ?_
    refine Zc hK113 ?_
    refine Zk ?_
    refine Zm rfl (RV.cell rfl (Zt Zx hS hs7 Zv) (RV.tmp rfl RV.nil)) rfl ?_
    obtain rfl := QJ H
    have hS := hS.nilRds
    replace hS := hS.front 2 rfl
    replace hS := hS.absorbQ ⟨r114, A116, c117⟩
    replace hS := hS.front 1 rfl
    replace hS := hS.weak Weak.boxRd
    have hS := hS.front 6 rfl
    have hS := hS.front 6 rfl
    have hS := hS.front 6 rfl
    have hS := hS.front 6 rfl
    have hS := hS.front 6 rfl
    replace hS := hS.cut 7
    exact ⟨A61, c62, A65, c66, A69, c70, A73, c74, A77, c78, (some ⟨b120, 0, none⟩), 1, ([⟨r114, A116, c117⟩] : List Mq), rfl, k63, k67, k71, k75, k79, ⟨Nat.le_refl 1, by decide⟩, rfl, (Xp k118 Yu), hS⟩
   ·try dsimp only [Zw]
    refine Zl rfl rfl rfl CellsOf.agg hS ps6 Z8 (by kernel_rfl) rfl (fun w hS hB => ?_)
    refine Zg ?_
    refine Yb (hB.sub (fun _ _ h => by simpa using h)) ?_
    refine Z5 [false, false, false, false, false, true] 5 ⟨by decide, by kernel_rfl, by kernel_rfl⟩ rfl rfl ?_
    try dsimp only [Zw]
    refine Ym (ps := [(0, .tmp 72)]) [.int .u8 r114.kind, .int .i64 r114.frm, .int .i64 r114.dst, .int .i64 r114.term, .int .i64 r114.cap, .int .i64 r114.last, .int .i64 r114.lastTerm, .int .i64 r114.commit, .bool r114.okk, .slice A116 r114.entries.length c117, .int .i64 r114.snap.index, .int .i64 r114.snap.term, .int .i64 r114.snap.sum, .int .i64 r114.snap.level, .bool r114.snap.final] Vk Jf rfl rfl rfl rfl rfl (by kernel_rfl) hS (fun b120 w hS hB => ?_)
    refine Zg ?_
    refine Z6 hB ?_
    refine Zr [false, false, false, false, false, false, false, true] (by decide +kernel) PFC.h ?_
    refine LtK.put rfl rfl rfl (Z2 rfl) ?_
    refine LtK.nil ?_
    refine Ye (by kernel_rfl) ?_
    refine Zc hK113 ?_
    refine Zk ?_
    refine Zm rfl (RV.cell rfl (Zt Zx hS hs7 Zv) (RV.tmp rfl RV.nil)) rfl ?_
    obtain rfl := QJ H
    have hS := hS.nilRds
    replace hS := hS.front 2 rfl
    replace hS := hS.absorbQ ⟨r114, A116, c117⟩
    replace hS := hS.front 1 rfl
    replace hS := hS.weak Weak.boxRd
    have hS := hS.front 6 rfl
    have hS := hS.front 6 rfl
    have hS := hS.front 6 rfl
    have hS := hS.front 6 rfl
    have hS := hS.front 6 rfl
    replace hS := hS.cut 7
    exact ⟨A61, c62, A65, c66, A69, c70, A73, c74, A77, c78, (some ⟨b120, 0, none⟩), 1, ([⟨r114, A116, c117⟩] : List Mq), rfl, k63, k67, k71, k75, k79, ⟨Nat.le_refl 1, by decide⟩, rfl, (Xp k118 Yu), hS⟩
  replace H := Zo H hb
  refine Za rfl rfl rfl (Zi Zx rfl (Zhe _) hS hs7 trivial Zv) ?_
  refine Za rfl rfl rfl (Ze Ze2 rfl) ?_
  refine Za rfl rfl rfl (Zh Z3 rfl (Zhe _) hS Jy trivial Ze9) ?_
  refine Za rfl rfl rfl (Ze Zgl rfl) ?_
  refine Za rfl rfl rfl (Zh Z3 rfl (Zhe _) hS Jy trivial Zcq) ?_
  obtain ⟨r83, hm84, H⟩ := bind_some H
  refine Zn rfl rfl rfl rfl (by kernel_rfl) rfl (Zdt r59 x1.lastTerm x1.last A61 c62 A65 c66 A69 c70 A73 c74 A77 c78 _ (Zhh k63 (hS.rd hs0) (hS.rd_blk hs0)) (Zhh k67 (hS.row_rd Y2) (hS.row_blk Y2)) (Zhh k71 (hS.row_rd Xi) (hS.row_blk Xi)) (Zhh k75 (hS.row_rd hs3) (hS.row_blk hs3)) (Zhh k79 (hS.row_rd Jq) (hS.row_blk Jq)) hm84) ?_
  rintro e w ⟨rfl, hN⟩; refine ⟨_, rfl, ?_⟩; obtain ⟨hB, hS⟩ := hS.jn hN
  refine Zb 2 rfl ?_
  refine Zg ?_
  refine Zc hK82 ?_
  refine Zd (fun K hK85 => ?_)
  refine Zd (fun K hK86 => ?_)
  refine Zf ?_
  refine Zb 1 rfl ?_
  refine Zg ?_
  refine Zc hK86 ?_
  refine Z1 rfl (fun hb => ?_) (fun hb => ?_)
  rotate_left
  ·replace H := Zp H hb
   refine Zs ?_
   refine Zc hK85 ?_
   refine Zd (fun K hK102 => ?_)
   refine Yn 8 [6] (fun i b => (i = 6 → b ≠ b6)) ⟨by kernel_rfl, by kernel_rfl⟩ hS (fun w hS hB => ?_)
   refine Zr [true] (by decide +kernel) PFC.h ?_
   refine LtK.put rfl rfl rfl (Zi Zx rfl (Zhf _) hS hs7 trivial Zv) ?_
   refine LtK.nil ?_
   refine Y1 [false, true, true, true] [6] (fun b => b ≠ b6) (by decide +kernel) (by intro j hj b hb; simp only [List.mem_cons, List.not_mem_nil, or_false] at hj; (try rcases hj with rfl | rfl | rfl | rfl | rfl) <;> first | (simp [hb]; done) | simp_all) PFC.h ?_
   refine LtK.put rfl rfl rfl (Zi Zx rfl (Zhg _ _) hS hs7 (hS.ne 7 5 rfl rfl rfl) Zv) ?_
   refine LtK.put rfl rfl rfl (Zi Va rfl (Zhg _ _) hS Jy (hS.ne 6 5 rfl rfl rfl) Xg) ?_
   refine LtK.put rfl rfl rfl (Zy rfl) ?_
   refine LtK.nil ?_
   refine Z5 [false, false, false, false, true] 4 ⟨by decide, by kernel_rfl, by kernel_rfl⟩ rfl rfl ?_
   try dsimp only [Zw]
   obtain ⟨r103, hm104, H⟩ := bind_some H
   refine Zn rfl rfl rfl rfl (by kernel_rfl) rfl (Zca r59 x1 2 r83 0 A61 c62 A65 c66 A69 c70 A73 c74 A77 c78 A5_ c5_ _ (Zhh k63 (hS.rd hs0) (hS.rd_blk hs0)) (Zhh k67 (hS.row_rd Y2) (hS.row_blk Y2)) (Zhh k71 (hS.row_rd Xi) (hS.row_blk Xi)) (Zhh k75 (hS.row_rd hs3) (hS.row_blk hs3)) (Zhh k79 (hS.row_rd Jq) (hS.row_blk Jq)) (Zhh s5_.k (hS.rd0 s5_.rd) (hS.blk0 s5_.blk)) hm104) ?_
   rintro e w ⟨A105, c106, rfl, k107, hN⟩; refine ⟨_, rfl, ?_⟩; obtain ⟨hB, hS⟩ := hS.jn hN
   refine Zg ?_
   refine Z6 hB ?_
   refine Jv [5, 6] ⟨by decide, by kernel_rfl⟩ rfl (.call [false, false, false, false, false, true] 5 rfl rfl rfl ?_ (.put [false, false, false, false, false, false, true] 6 rfl rfl rfl ?_ .nil))
   ·try dsimp only [Zw]
    refine Ym (ps := [(0, .tmp 72)]) [.int .u8 r103.kind, .int .i64 r103.frm, .int .i64 r103.dst, .int .i64 r103.term, .int .i64 r103.cap, .int .i64 r103.last, .int .i64 r103.lastTerm, .int .i64 r103.commit, .bool r103.okk, .slice A105 r103.entries.length c106, .int .i64 r103.snap.index, .int .i64 r103.snap.term, .int .i64 r103.snap.sum, .int .i64 r103.snap.level, .bool r103.snap.final] Vk Jf rfl rfl rfl rfl rfl (by kernel_rfl) hS (fun b109 w hS hB => ?_)
    refine Zg ?_
    refine Z6 hB ?_
    refine Yk [false, false, false, false, false, false, true] 6 ⟨by decide, by kernel_rfl, by kernel_rfl⟩ rfl rfl ?_
    try dsimp only [Zw]
    refine Zl rfl rfl rfl CellsOf.agg hS ps7 Z8 (by kernel_rfl) rfl (fun w hS hB => ?_)
    refine Zg ?_
    refine Yb (hB.sub (fun _ _ h => by simpa using h)) ?_
    refine Zr [false, false, false, false, false, false, false, true] (by decide +kernel) PFC.h ?_
    refine LtK.put rfl rfl rfl (Z2 rfl) ?_
    refine LtK.nil ?_
    refine Ye (by kernel_rfl) ?_
    refine Zc hK102 ?_
    refine Zk ?_
    refine Zm rfl (RV.cell rfl (Zt Zx hS hs7 Zv) (RV.tmp rfl RV.nil)) rfl ?_
    obtain rfl := QJ H
    have hS := hS.nilRds
    replace hS := hS.front 2 rfl
    replace hS := hS.absorbQ ⟨r103, A105, c106⟩
    replace hS := hS.front 1 rfl
    replace hS := hS.weak Weak.boxRd
    have hS := hS.front 6 rfl
    have hS := hS.front 6 rfl
    have hS := hS.front 6 rfl
    have hS := hS.front 6 rfl
    have hS := hS.front 6 rfl
    replace hS := hS.cut 7
    exact ⟨A61, c62, A65, c66, A69, c70, A73, c74, A77, c78, (some ⟨b109, 0, none⟩), 1, ([⟨r103, A105, c106⟩] : List Mq), rfl, k63, k67, k71, k75, k79, ⟨Nat.le_refl 1, by decide⟩, rfl, (Xp k107 Yu), hS⟩
   ·try dsimp only [Zw]
    refine Zl rfl rfl rfl CellsOf.agg hS ps6 Z8 (by kernel_rfl) rfl (fun w hS hB => ?_)
    refine Zg ?_
    refine Yb (hB.sub (fun _ _ h => by simpa using h)) ?_
    refine Z5 [false, false, false, false, false, true] 5 ⟨by decide, by kernel_rfl, by kernel_rfl⟩ rfl rfl ?_
    try dsimp only [Zw]
    refine Ym (ps := [(0, .tmp 72)]) [.int .u8 r103.kind, .int .i64 r103.frm, .int .i64 r103.dst, .int .i64 r103.term, .int .i64 r103.cap, .int .i64 r103.last, .int .i64 r103.lastTerm, .int .i64 r103.commit, .bool r103.okk, .slice A105 r103.entries.length c106, .int .i64 r103.snap.index, .int .i64 r103.snap.term, .int .i64 r103.snap.sum, .int .i64 r103.snap.level, .bool r103.snap.final] Vk Jf rfl rfl rfl rfl rfl (by kernel_rfl) hS (fun b109 w hS hB => ?_)
    refine Zg ?_
    refine Z6 hB ?_
    refine Zr [false, false, false, false, false, false, false, true] (by decide +kernel) PFC.h ?_
    refine LtK.put rfl rfl rfl (Z2 rfl) ?_
    refine LtK.nil ?_
    refine Ye (by kernel_rfl) ?_
    refine Zc hK102 ?_
    refine Zk ?_
    refine Zm rfl (RV.cell rfl (Zt Zx hS hs7 Zv) (RV.tmp rfl RV.nil)) rfl ?_
    obtain rfl := QJ H
    have hS := hS.nilRds
    replace hS := hS.front 2 rfl
    replace hS := hS.absorbQ ⟨r103, A105, c106⟩
    replace hS := hS.front 1 rfl
    replace hS := hS.weak Weak.boxRd
    have hS := hS.front 6 rfl
    have hS := hS.front 6 rfl
    have hS := hS.front 6 rfl
    have hS := hS.front 6 rfl
    have hS := hS.front 6 rfl
    replace hS := hS.cut 7
    exact ⟨A61, c62, A65, c66, A69, c70, A73, c74, A77, c78, (some ⟨b109, 0, none⟩), 1, ([⟨r103, A105, c106⟩] : List Mq), rfl, k63, k67, k71, k75, k79, ⟨Nat.le_refl 1, by decide⟩, rfl, (Xp k107 Yu), hS⟩
  replace H := Zo H hb
  refine Zf ?_
  refine Za rfl rfl rfl (Ze Yq rfl) ?_
  refine Za rfl rfl rfl (Zi Yp rfl (Zhe _) hS hs7 trivial Zbt) ?_
  refine Za rfl rfl rfl (Ze Js rfl) ?_
  refine Za rfl rfl rfl (Zh Z3 rfl (Zhe _) hS Jy trivial Jb) ?_
  refine Za rfl rfl rfl (Ze Zaf rfl) ?_
  refine Za rfl rfl rfl (Zh Z3 rfl (Zhe _) hS Jy trivial Xu) ?_
  obtain ⟨r87, hm88, H⟩ := bind_some H
  refine Zn rfl rfl rfl rfl (by kernel_rfl) rfl (Zfu r59.tuple x1.term x1.frm A61 c62 _ (Zhh k63 (hS.rd hs0) (hS.rd_blk hs0)) hm88) ?_
  rintro e w ⟨A89, c90, rfl, k91, hN⟩; refine ⟨_, rfl, ?_⟩; obtain ⟨hB, hS⟩ := hS.jn hN
  refine Zb 1 rfl ?_
  refine Za rfl rfl rfl (Z0 rfl rfl) ?_
  refine Za rfl rfl rfl (Z0 rfl rfl) ?_
  refine Za rfl rfl rfl (Ze Yq rfl) ?_
  refine Zl rfl rfl rfl CellsOf.agg hS ps8 st4_8 (by kernel_rfl) rfl (fun w hS hB => ?_)
  refine Zg ?_
  refine Zc hK85 ?_
  refine Zd (fun K hK93 => ?_)
  refine Yn 8 [6] (fun i b => (i = 6 → b ≠ b6)) ⟨by kernel_rfl, by kernel_rfl⟩ hS (fun w hS hB => ?_)
  refine Zr [true] (by decide +kernel) PFC.h ?_
  refine LtK.put rfl rfl rfl (Zi Zx rfl (Zhf _) hS hs8 trivial Zv) ?_
  refine LtK.nil ?_
  refine Y1 [false, true, true, true] [6] (fun b => b ≠ b6) (by decide +kernel) (by intro j hj b hb; simp only [List.mem_cons, List.not_mem_nil, or_false] at hj; (try rcases hj with rfl | rfl | rfl | rfl | rfl) <;> first | (simp [hb]; done) | simp_all) PFC.h ?_
  refine LtK.put rfl rfl rfl (Zi Zx rfl (Zhg _ _) hS hs8 (hS.ne 8 6 rfl rfl rfl) Zv) ?_
  refine LtK.put rfl rfl rfl (Zi Va rfl (Zhg _ _) hS hs7 (hS.ne 7 6 rfl rfl rfl) Xg) ?_
  refine LtK.put rfl rfl rfl (Zy rfl) ?_
  refine LtK.nil ?_
  refine Z5 [false, false, false, false, true] 4 ⟨by decide, by kernel_rfl, by kernel_rfl⟩ rfl rfl ?_
  try dsimp only [Zw]
  obtain ⟨r94, hm95, H⟩ := bind_some H
  refine Zn rfl rfl rfl rfl (by kernel_rfl) rfl (Zca (⟨r59.id, r59.n, r59.role, r59.binary, r87.1, r59.commit, r59.applied, r59.votes, r59.next, r59.mtch, r59.caps⟩ : Co) x1 2 r83 0 A89 c90 A65 c66 A69 c70 A73 c74 A77 c78 A5_ c5_ _ (Zhh k91 (hS.rd hs0) (hS.rd_blk hs0)) (Zhh k67 (hS.row_rd Xi) (hS.row_blk Xi)) (Zhh k71 (hS.row_rd hs3) (hS.row_blk hs3)) (Zhh k75 (hS.row_rd Jq) (hS.row_blk Jq)) (Zhh k79 (hS.row_rd hs5) (hS.row_blk hs5)) (Zhh s5_.k (hS.rd0 s5_.rd) (hS.blk0 s5_.blk)) hm95) ?_
  rintro e w ⟨A96, c97, rfl, k98, hN⟩; refine ⟨_, rfl, ?_⟩; obtain ⟨hB, hS⟩ := hS.jn hN
  refine Zg ?_
  refine Z6 hB ?_
  refine Jv [5, 6] ⟨by decide, by kernel_rfl⟩ rfl (.call [false, false, false, false, false, true] 5 rfl rfl rfl ?_ (.put [false, false, false, false, false, false, true] 6 rfl rfl rfl ?_ .nil))
  ·try dsimp only [Zw]
   refine Ym (ps := [(0, .tmp 72)]) [.int .u8 r94.kind, .int .i64 r94.frm, .int .i64 r94.dst, .int .i64 r94.term, .int .i64 r94.cap, .int .i64 r94.last, .int .i64 r94.lastTerm, .int .i64 r94.commit, .bool r94.okk, .slice A96 r94.entries.length c97, .int .i64 r94.snap.index, .int .i64 r94.snap.term, .int .i64 r94.snap.sum, .int .i64 r94.snap.level, .bool r94.snap.final] Vk Jf rfl rfl rfl rfl rfl (by kernel_rfl) hS (fun b100 w hS hB => ?_)
   refine Zg ?_
   refine Z6 hB ?_
   refine Yk [false, false, false, false, false, false, true] 6 ⟨by decide, by kernel_rfl, by kernel_rfl⟩ rfl rfl ?_
   try dsimp only [Zw]
   refine Zl rfl rfl rfl CellsOf.agg hS ps8 Z8 (by kernel_rfl) rfl (fun w hS hB => ?_)
   refine Zg ?_
   refine Yb (hB.sub (fun _ _ h => by simpa using h)) ?_
   refine Zr [false, false, false, false, false, false, false, true] (by decide +kernel) PFC.h ?_
   refine LtK.put rfl rfl rfl (Z2 rfl) ?_
   refine LtK.nil ?_
   refine Ye (by kernel_rfl) ?_
   refine Zc hK93 ?_
   refine Zk ?_
   refine Zm rfl (RV.cell rfl (Zt Zx hS hs8 Zv) (RV.tmp rfl RV.nil)) rfl ?_
   obtain rfl := QJ H
   have hS := hS.nilRds
   replace hS := hS.front 2 rfl
   replace hS := hS.absorbQ ⟨r94, A96, c97⟩
   replace hS := hS.front 1 rfl
   replace hS := hS.weak Weak.boxRd
   have hS := hS.front 7 rfl
   have hS := hS.front 7 rfl
   have hS := hS.front 7 rfl
   have hS := hS.front 7 rfl
   have hS := hS.front 6 rfl
   replace hS := hS.cut 7
   exact ⟨A89, c90, A65, c66, A69, c70, A73, c74, A77, c78, (some ⟨b100, 0, none⟩), 1, ([⟨r94, A96, c97⟩] : List Mq), rfl, k91, k67, k71, k75, k79, ⟨Nat.le_refl 1, by decide⟩, rfl, (Xp k98 Yu), hS⟩
  ·try dsimp only [Zw]
   refine Zl rfl rfl rfl CellsOf.agg hS ps7 Z8 (by kernel_rfl) rfl (fun w hS hB => ?_)
   refine Zg ?_
   refine Yb (hB.sub (fun _ _ h => by simpa using h)) ?_
   refine Z5 [false, false, false, false, false, true] 5 ⟨by decide, by kernel_rfl, by kernel_rfl⟩ rfl rfl ?_
   try dsimp only [Zw]
   refine Ym (ps := [(0, .tmp 72)]) [.int .u8 r94.kind, .int .i64 r94.frm, .int .i64 r94.dst, .int .i64 r94.term, .int .i64 r94.cap, .int .i64 r94.last, .int .i64 r94.lastTerm, .int .i64 r94.commit, .bool r94.okk, .slice A96 r94.entries.length c97, .int .i64 r94.snap.index, .int .i64 r94.snap.term, .int .i64 r94.snap.sum, .int .i64 r94.snap.level, .bool r94.snap.final] Vk Jf rfl rfl rfl rfl rfl (by kernel_rfl) hS (fun b100 w hS hB => ?_)
   refine Zg ?_
   refine Z6 hB ?_
   refine Zr [false, false, false, false, false, false, false, true] (by decide +kernel) PFC.h ?_
   refine LtK.put rfl rfl rfl (Z2 rfl) ?_
   refine LtK.nil ?_
   refine Ye (by kernel_rfl) ?_
   refine Zc hK93 ?_
   refine Zk ?_
   refine Zm rfl (RV.cell rfl (Zt Zx hS hs8 Zv) (RV.tmp rfl RV.nil)) rfl ?_
   obtain rfl := QJ H
   have hS := hS.nilRds
   replace hS := hS.front 2 rfl
   replace hS := hS.absorbQ ⟨r94, A96, c97⟩
   replace hS := hS.front 1 rfl
   replace hS := hS.weak Weak.boxRd
   have hS := hS.front 7 rfl
   have hS := hS.front 7 rfl
   have hS := hS.front 7 rfl
   have hS := hS.front 7 rfl
   have hS := hS.front 6 rfl
   replace hS := hS.cut 7
   exact ⟨A89, c90, A65, c66, A69, c70, A73, c74, A77, c78, (some ⟨b100, 0, none⟩), 1, ([⟨r94, A96, c97⟩] : List Mq), rfl, k91, k67, k71, k75, k79, ⟨Nat.le_refl 1, by decide⟩, rfl, (Xp k98 Yu), hS⟩
 replace H := Zp H hb
 refine Za rfl rfl rfl (Ze Yq rfl) ?_
 refine Za rfl rfl rfl (Ze Vp rfl) ?_
 refine Za rfl rfl rfl (Zh Z3 rfl (Zhe _) hS hs7 trivial sg11_1) ?_
 refine Za rfl rfl rfl (Ze Zaf rfl) ?_
 refine Za rfl rfl rfl (Zh Z3 rfl (Zhe _) hS Jy trivial Xu) ?_
 refine Za rfl rfl rfl (Yr rfl rfl) ?_
 refine Zb 2 rfl ?_
 refine Zg ?_
 refine Zc hK81 ?_
 refine Zd (fun K hK133 => ?_)
 refine Zf ?_
 refine Zb 2 rfl ?_
 refine Zq 35 rfl (fun hb => ?_) (fun hb => ?_)
 rotate_left
 ·replace H := Zp H hb
  refine Zb 21 rfl ?_
  refine Zg ?_
  refine Zc hK133 ?_
  refine Zd (fun K hK184 => ?_)
  refine Zd (fun K hK185 => ?_)
  refine Zf ?_
  refine Zb 1 rfl ?_
  refine Zg ?_
  refine Zc hK185 ?_
  refine Yg rfl rfl ?_
  refine Zs ?_
  refine Zc hK184 ?_
  refine Zd (fun K hK186 => ?_)
  refine Yn 8 [6] (fun i b => (i = 6 → b ≠ b6)) ⟨by kernel_rfl, by kernel_rfl⟩ hS (fun w hS hB => ?_)
  refine Zr [true] (by decide +kernel) PFC.h ?_
  refine LtK.put rfl rfl rfl (Zi Zx rfl (Zhf _) hS hs7 trivial Zv) ?_
  refine LtK.nil ?_
  refine Y1 [false, true, true, true] [6] (fun b => b ≠ b6) (by decide +kernel) (by intro j hj b hb; simp only [List.mem_cons, List.not_mem_nil, or_false] at hj; (try rcases hj with rfl | rfl | rfl | rfl | rfl) <;> first | (simp [hb]; done) | simp_all) PFC.h ?_
  refine LtK.put rfl rfl rfl (Zi Zx rfl (Zhg _ _) hS hs7 (hS.ne 7 5 rfl rfl rfl) Zv) ?_
  refine LtK.put rfl rfl rfl (Zi Va rfl (Zhg _ _) hS Jy (hS.ne 6 5 rfl rfl rfl) Xg) ?_
  refine LtK.put rfl rfl rfl (Zy rfl) ?_
  refine LtK.nil ?_
  refine Z5 [false, false, false, false, true] 4 ⟨by decide, by kernel_rfl, by kernel_rfl⟩ rfl rfl ?_
  try dsimp only [Zw]
  obtain ⟨r187, hm188, H⟩ := bind_some H
  refine Zn rfl rfl rfl rfl (by kernel_rfl) rfl (Zca r59 x1 2 false 0 A61 c62 A65 c66 A69 c70 A73 c74 A77 c78 A5_ c5_ _ (Zhh k63 (hS.rd hs0) (hS.rd_blk hs0)) (Zhh k67 (hS.row_rd Y2) (hS.row_blk Y2)) (Zhh k71 (hS.row_rd Xi) (hS.row_blk Xi)) (Zhh k75 (hS.row_rd hs3) (hS.row_blk hs3)) (Zhh k79 (hS.row_rd Jq) (hS.row_blk Jq)) (Zhh s5_.k (hS.rd0 s5_.rd) (hS.blk0 s5_.blk)) hm188) ?_
  rintro e w ⟨A189, c190, rfl, k191, hN⟩; refine ⟨_, rfl, ?_⟩; obtain ⟨hB, hS⟩ := hS.jn hN
  refine Zg ?_
  refine Z6 hB ?_
  refine Jv [5, 6] ⟨by decide, by kernel_rfl⟩ rfl (.call [false, false, false, false, false, true] 5 rfl rfl rfl ?_ (.put [false, false, false, false, false, false, true] 6 rfl rfl rfl ?_ .nil))
  ·try dsimp only [Zw]
   refine Ym (ps := [(0, .tmp 72)]) [.int .u8 r187.kind, .int .i64 r187.frm, .int .i64 r187.dst, .int .i64 r187.term, .int .i64 r187.cap, .int .i64 r187.last, .int .i64 r187.lastTerm, .int .i64 r187.commit, .bool r187.okk, .slice A189 r187.entries.length c190, .int .i64 r187.snap.index, .int .i64 r187.snap.term, .int .i64 r187.snap.sum, .int .i64 r187.snap.level, .bool r187.snap.final] Vk Jf rfl rfl rfl rfl rfl (by kernel_rfl) hS (fun b193 w hS hB => ?_)
   refine Zg ?_
   refine Z6 hB ?_
   refine Yk [false, false, false, false, false, false, true] 6 ⟨by decide, by kernel_rfl, by kernel_rfl⟩ rfl rfl ?_
   try dsimp only [Zw]
   refine Zl rfl rfl rfl CellsOf.agg hS ps7 Z8 (by kernel_rfl) rfl (fun w hS hB => ?_)
   refine Zg ?_
   refine Yb (hB.sub (fun _ _ h => by simpa using h)) ?_
   refine Zr [false, false, false, false, false, false, false, true] (by decide +kernel) PFC.h ?_
   refine LtK.put rfl rfl rfl (Z2 rfl) ?_
   refine LtK.nil ?_
   refine Ye (by kernel_rfl) ?_
   refine Zc hK186 ?_
   refine Zk ?_
   refine Zm rfl (RV.cell rfl (Zt Zx hS hs7 Zv) (RV.tmp rfl RV.nil)) rfl ?_
   obtain rfl := QJ H
   have hS := hS.nilRds
   replace hS := hS.front 2 rfl
   replace hS := hS.absorbQ ⟨r187, A189, c190⟩
   replace hS := hS.front 1 rfl
   replace hS := hS.weak Weak.boxRd
   have hS := hS.front 6 rfl
   have hS := hS.front 6 rfl
   have hS := hS.front 6 rfl
   have hS := hS.front 6 rfl
   have hS := hS.front 6 rfl
   replace hS := hS.cut 7
   exact ⟨A61, c62, A65, c66, A69, c70, A73, c74, A77, c78, (some ⟨b193, 0, none⟩), 1, ([⟨r187, A189, c190⟩] : List Mq), rfl, k63, k67, k71, k75, k79, ⟨Nat.le_refl 1, by decide⟩, rfl, (Xp k191 Yu), hS⟩
  ·try dsimp only [Zw]
   refine Zl rfl rfl rfl CellsOf.agg hS ps6 Z8 (by kernel_rfl) rfl (fun w hS hB => ?_)
   refine Zg ?_
   refine Yb (hB.sub (fun _ _ h => by simpa using h)) ?_
   refine Z5 [false, false, false, false, false, true] 5 ⟨by decide, by kernel_rfl, by kernel_rfl⟩ rfl rfl ?_
   try dsimp only [Zw]
   refine Ym (ps := [(0, .tmp 72)]) [.int .u8 r187.kind, .int .i64 r187.frm, .int .i64 r187.dst, .int .i64 r187.term, .int .i64 r187.cap, .int .i64 r187.last, .int .i64 r187.lastTerm, .int .i64 r187.commit, .bool r187.okk, .slice A189 r187.entries.length c190, .int .i64 r187.snap.index, .int .i64 r187.snap.term, .int .i64 r187.snap.sum, .int .i64 r187.snap.level, .bool r187.snap.final] Vk Jf rfl rfl rfl rfl rfl (by kernel_rfl) hS (fun b193 w hS hB => ?_)
   refine Zg ?_
   refine Z6 hB ?_
   refine Zr [false, false, false, false, false, false, false, true] (by decide +kernel) PFC.h ?_
   refine LtK.put rfl rfl rfl (Z2 rfl) ?_
   refine LtK.nil ?_
   refine Ye (by kernel_rfl) ?_
   refine Zc hK186 ?_
   refine Zk ?_
   refine Zm rfl (RV.cell rfl (Zt Zx hS hs7 Zv) (RV.tmp rfl RV.nil)) rfl ?_
   obtain rfl := QJ H
   have hS := hS.nilRds
   replace hS := hS.front 2 rfl
   replace hS := hS.absorbQ ⟨r187, A189, c190⟩
   replace hS := hS.front 1 rfl
   replace hS := hS.weak Weak.boxRd
   have hS := hS.front 6 rfl
   have hS := hS.front 6 rfl
   have hS := hS.front 6 rfl
   have hS := hS.front 6 rfl
   have hS := hS.front 6 rfl
   replace hS := hS.cut 7
   exact ⟨A61, c62, A65, c66, A69, c70, A73, c74, A77, c78, (some ⟨b193, 0, none⟩), 1, ([⟨r187, A189, c190⟩] : List Mq), rfl, k63, k67, k71, k75, k79, ⟨Nat.le_refl 1, by decide⟩, rfl, (Xp k191 Yu), hS⟩
 replace H := Zo H hb
 refine Za rfl rfl rfl (Ze Vv rfl) ?_
 refine Za rfl rfl rfl (Zh Zas rfl (Zhe _) hS hs7 trivial Jt) ?_
 refine Za rfl rfl rfl (Yr rfl rfl) ?_
 refine Zb 2 rfl ?_
 refine Zq 40 rfl (fun hb => ?_) (fun hb => ?_)
 rotate_left
 ·replace H := Zp H hb
  refine Zb 16 rfl ?_
  refine Zg ?_
  refine Zc hK133 ?_
  refine Zd (fun K hK173 => ?_)
  refine Zd (fun K hK174 => ?_)
  refine Zf ?_
  refine Zb 1 rfl ?_
  refine Zg ?_
  refine Zc hK174 ?_
  refine Yg rfl rfl ?_
  refine Zs ?_
  refine Zc hK173 ?_
  refine Zd (fun K hK175 => ?_)
  refine Yn 8 [6] (fun i b => (i = 6 → b ≠ b6)) ⟨by kernel_rfl, by kernel_rfl⟩ hS (fun w hS hB => ?_)
  refine Zr [true] (by decide +kernel) PFC.h ?_
  refine LtK.put rfl rfl rfl (Zi Zx rfl (Zhf _) hS hs7 trivial Zv) ?_
  refine LtK.nil ?_
  refine Y1 [false, true, true, true] [6] (fun b => b ≠ b6) (by decide +kernel) (by intro j hj b hb; simp only [List.mem_cons, List.not_mem_nil, or_false] at hj; (try rcases hj with rfl | rfl | rfl | rfl | rfl) <;> first | (simp [hb]; done) | simp_all) PFC.h ?_
  refine LtK.put rfl rfl rfl (Zi Zx rfl (Zhg _ _) hS hs7 (hS.ne 7 5 rfl rfl rfl) Zv) ?_
  refine LtK.put rfl rfl rfl (Zi Va rfl (Zhg _ _) hS Jy (hS.ne 6 5 rfl rfl rfl) Xg) ?_
  refine LtK.put rfl rfl rfl (Zy rfl) ?_
  refine LtK.nil ?_
  refine Z5 [false, false, false, false, true] 4 ⟨by decide, by kernel_rfl, by kernel_rfl⟩ rfl rfl ?_
  try dsimp only [Zw]
  obtain ⟨r176, hm177, H⟩ := bind_some H
  refine Zn rfl rfl rfl rfl (by kernel_rfl) rfl (Zca r59 x1 2 false 0 A61 c62 A65 c66 A69 c70 A73 c74 A77 c78 A5_ c5_ _ (Zhh k63 (hS.rd hs0) (hS.rd_blk hs0)) (Zhh k67 (hS.row_rd Y2) (hS.row_blk Y2)) (Zhh k71 (hS.row_rd Xi) (hS.row_blk Xi)) (Zhh k75 (hS.row_rd hs3) (hS.row_blk hs3)) (Zhh k79 (hS.row_rd Jq) (hS.row_blk Jq)) (Zhh s5_.k (hS.rd0 s5_.rd) (hS.blk0 s5_.blk)) hm177) ?_
  rintro e w ⟨A178, c179, rfl, k180, hN⟩; refine ⟨_, rfl, ?_⟩; obtain ⟨hB, hS⟩ := hS.jn hN
  refine Zg ?_
  refine Z6 hB ?_
  refine Jv [5, 6] ⟨by decide, by kernel_rfl⟩ rfl (.call [false, false, false, false, false, true] 5 rfl rfl rfl ?_ (.put [false, false, false, false, false, false, true] 6 rfl rfl rfl ?_ .nil))
  ·try dsimp only [Zw]
   refine Ym (ps := [(0, .tmp 72)]) [.int .u8 r176.kind, .int .i64 r176.frm, .int .i64 r176.dst, .int .i64 r176.term, .int .i64 r176.cap, .int .i64 r176.last, .int .i64 r176.lastTerm, .int .i64 r176.commit, .bool r176.okk, .slice A178 r176.entries.length c179, .int .i64 r176.snap.index, .int .i64 r176.snap.term, .int .i64 r176.snap.sum, .int .i64 r176.snap.level, .bool r176.snap.final] Vk Jf rfl rfl rfl rfl rfl (by kernel_rfl) hS (fun b182 w hS hB => ?_)
   refine Zg ?_
   refine Z6 hB ?_
   refine Yk [false, false, false, false, false, false, true] 6 ⟨by decide, by kernel_rfl, by kernel_rfl⟩ rfl rfl ?_
   try dsimp only [Zw]
   refine Zl rfl rfl rfl CellsOf.agg hS ps7 Z8 (by kernel_rfl) rfl (fun w hS hB => ?_)
   refine Zg ?_
   refine Yb (hB.sub (fun _ _ h => by simpa using h)) ?_
   refine Zr [false, false, false, false, false, false, false, true] (by decide +kernel) PFC.h ?_
   refine LtK.put rfl rfl rfl (Z2 rfl) ?_
   refine LtK.nil ?_
   refine Ye (by kernel_rfl) ?_
   refine Zc hK175 ?_
   refine Zk ?_
   refine Zm rfl (RV.cell rfl (Zt Zx hS hs7 Zv) (RV.tmp rfl RV.nil)) rfl ?_
   obtain rfl := QJ H
   have hS := hS.nilRds
   replace hS := hS.front 2 rfl
   replace hS := hS.absorbQ ⟨r176, A178, c179⟩
   replace hS := hS.front 1 rfl
   replace hS := hS.weak Weak.boxRd
   have hS := hS.front 6 rfl
   have hS := hS.front 6 rfl
   have hS := hS.front 6 rfl
   have hS := hS.front 6 rfl
   have hS := hS.front 6 rfl
   replace hS := hS.cut 7
   exact ⟨A61, c62, A65, c66, A69, c70, A73, c74, A77, c78, (some ⟨b182, 0, none⟩), 1, ([⟨r176, A178, c179⟩] : List Mq), rfl, k63, k67, k71, k75, k79, ⟨Nat.le_refl 1, by decide⟩, rfl, (Xp k180 Yu), hS⟩
  ·try dsimp only [Zw]
   refine Zl rfl rfl rfl CellsOf.agg hS ps6 Z8 (by kernel_rfl) rfl (fun w hS hB => ?_)
   refine Zg ?_
   refine Yb (hB.sub (fun _ _ h => by simpa using h)) ?_
   refine Z5 [false, false, false, false, false, true] 5 ⟨by decide, by kernel_rfl, by kernel_rfl⟩ rfl rfl ?_
   try dsimp only [Zw]
   refine Ym (ps := [(0, .tmp 72)]) [.int .u8 r176.kind, .int .i64 r176.frm, .int .i64 r176.dst, .int .i64 r176.term, .int .i64 r176.cap, .int .i64 r176.last, .int .i64 r176.lastTerm, .int .i64 r176.commit, .bool r176.okk, .slice A178 r176.entries.length c179, .int .i64 r176.snap.index, .int .i64 r176.snap.term, .int .i64 r176.snap.sum, .int .i64 r176.snap.level, .bool r176.snap.final] Vk Jf rfl rfl rfl rfl rfl (by kernel_rfl) hS (fun b182 w hS hB => ?_)
   refine Zg ?_
   refine Z6 hB ?_
   refine Zr [false, false, false, false, false, false, false, true] (by decide +kernel) PFC.h ?_
   refine LtK.put rfl rfl rfl (Z2 rfl) ?_
   refine LtK.nil ?_
   refine Ye (by kernel_rfl) ?_
   refine Zc hK175 ?_
   refine Zk ?_
   refine Zm rfl (RV.cell rfl (Zt Zx hS hs7 Zv) (RV.tmp rfl RV.nil)) rfl ?_
   obtain rfl := QJ H
   have hS := hS.nilRds
   replace hS := hS.front 2 rfl
   replace hS := hS.absorbQ ⟨r176, A178, c179⟩
   replace hS := hS.front 1 rfl
   replace hS := hS.weak Weak.boxRd
   have hS := hS.front 6 rfl
   have hS := hS.front 6 rfl
   have hS := hS.front 6 rfl
   have hS := hS.front 6 rfl
   have hS := hS.front 6 rfl
   replace hS := hS.cut 7
   exact ⟨A61, c62, A65, c66, A69, c70, A73, c74, A77, c78, (some ⟨b182, 0, none⟩), 1, ([⟨r176, A178, c179⟩] : List Mq), rfl, k63, k67, k71, k75, k79, ⟨Nat.le_refl 1, by decide⟩, rfl, (Xp k180 Yu), hS⟩
 replace H := Zo H hb
 refine Za rfl rfl rfl (Ze Js rfl) ?_
 refine Za rfl rfl rfl (Zh Z3 rfl (Zhe _) hS Jy trivial Jb) ?_
 refine Za rfl rfl rfl (Ze Yq rfl) ?_
 refine Za rfl rfl rfl (Ze Xl rfl) ?_
 refine Za rfl rfl rfl (Zh Z3 rfl (Zhe _) hS hs7 trivial Vz) ?_
 refine Za rfl rfl rfl (Yr rfl rfl) ?_
 refine Zb 2 rfl ?_
 refine Zq 48 rfl (fun hb => ?_) (fun hb => ?_)
 rotate_left
 ·replace H := Zp H hb
  refine Zb 8 rfl ?_
  refine Zg ?_
  refine Zc hK133 ?_
  refine Zd (fun K hK162 => ?_)
  refine Zd (fun K hK163 => ?_)
  refine Zf ?_
  refine Zb 1 rfl ?_
  refine Zg ?_
  refine Zc hK163 ?_
  refine Yg rfl rfl ?_
  refine Zs ?_
  refine Zc hK162 ?_
  refine Zd (fun K hK164 => ?_)
  refine Yn 8 [6] (fun i b => (i = 6 → b ≠ b6)) ⟨by kernel_rfl, by kernel_rfl⟩ hS (fun w hS hB => ?_)
  refine Zr [true] (by decide +kernel) PFC.h ?_
  refine LtK.put rfl rfl rfl (Zi Zx rfl (Zhf _) hS hs7 trivial Zv) ?_
  refine LtK.nil ?_
  refine Y1 [false, true, true, true] [6] (fun b => b ≠ b6) (by decide +kernel) (by intro j hj b hb; simp only [List.mem_cons, List.not_mem_nil, or_false] at hj; (try rcases hj with rfl | rfl | rfl | rfl | rfl) <;> first | (simp [hb]; done) | simp_all) PFC.h ?_
  refine LtK.put rfl rfl rfl (Zi Zx rfl (Zhg _ _) hS hs7 (hS.ne 7 5 rfl rfl rfl) Zv) ?_
  refine LtK.put rfl rfl rfl (Zi Va rfl (Zhg _ _) hS Jy (hS.ne 6 5 rfl rfl rfl) Xg) ?_
  refine LtK.put rfl rfl rfl (Zy rfl) ?_
  refine LtK.nil ?_
  refine Z5 [false, false, false, false, true] 4 ⟨by decide, by kernel_rfl, by kernel_rfl⟩ rfl rfl ?_
  try dsimp only [Zw]
  obtain ⟨r165, hm166, H⟩ := bind_some H
  refine Zn rfl rfl rfl rfl (by kernel_rfl) rfl (Zca r59 x1 2 false 0 A61 c62 A65 c66 A69 c70 A73 c74 A77 c78 A5_ c5_ _ (Zhh k63 (hS.rd hs0) (hS.rd_blk hs0)) (Zhh k67 (hS.row_rd Y2) (hS.row_blk Y2)) (Zhh k71 (hS.row_rd Xi) (hS.row_blk Xi)) (Zhh k75 (hS.row_rd hs3) (hS.row_blk hs3)) (Zhh k79 (hS.row_rd Jq) (hS.row_blk Jq)) (Zhh s5_.k (hS.rd0 s5_.rd) (hS.blk0 s5_.blk)) hm166) ?_
  rintro e w ⟨A167, c168, rfl, k169, hN⟩; refine ⟨_, rfl, ?_⟩; obtain ⟨hB, hS⟩ := hS.jn hN
  refine Zg ?_
  refine Z6 hB ?_
  refine Jv [5, 6] ⟨by decide, by kernel_rfl⟩ rfl (.call [false, false, false, false, false, true] 5 rfl rfl rfl ?_ (.put [false, false, false, false, false, false, true] 6 rfl rfl rfl ?_ .nil))
  ·try dsimp only [Zw]
   refine Ym (ps := [(0, .tmp 72)]) [.int .u8 r165.kind, .int .i64 r165.frm, .int .i64 r165.dst, .int .i64 r165.term, .int .i64 r165.cap, .int .i64 r165.last, .int .i64 r165.lastTerm, .int .i64 r165.commit, .bool r165.okk, .slice A167 r165.entries.length c168, .int .i64 r165.snap.index, .int .i64 r165.snap.term, .int .i64 r165.snap.sum, .int .i64 r165.snap.level, .bool r165.snap.final] Vk Jf rfl rfl rfl rfl rfl (by kernel_rfl) hS (fun b171 w hS hB => ?_)
   refine Zg ?_
   refine Z6 hB ?_
   refine Yk [false, false, false, false, false, false, true] 6 ⟨by decide, by kernel_rfl, by kernel_rfl⟩ rfl rfl ?_
   try dsimp only [Zw]
   refine Zl rfl rfl rfl CellsOf.agg hS ps7 Z8 (by kernel_rfl) rfl (fun w hS hB => ?_)
   refine Zg ?_
   refine Yb (hB.sub (fun _ _ h => by simpa using h)) ?_
   refine Zr [false, false, false, false, false, false, false, true] (by decide +kernel) PFC.h ?_
   refine LtK.put rfl rfl rfl (Z2 rfl) ?_
   refine LtK.nil ?_
   refine Ye (by kernel_rfl) ?_
   refine Zc hK164 ?_
   refine Zk ?_
   refine Zm rfl (RV.cell rfl (Zt Zx hS hs7 Zv) (RV.tmp rfl RV.nil)) rfl ?_
   obtain rfl := QJ H
   have hS := hS.nilRds
   replace hS := hS.front 2 rfl
   replace hS := hS.absorbQ ⟨r165, A167, c168⟩
   replace hS := hS.front 1 rfl
   replace hS := hS.weak Weak.boxRd
   have hS := hS.front 6 rfl
   have hS := hS.front 6 rfl
   have hS := hS.front 6 rfl
   have hS := hS.front 6 rfl
   have hS := hS.front 6 rfl
   replace hS := hS.cut 7
   exact ⟨A61, c62, A65, c66, A69, c70, A73, c74, A77, c78, (some ⟨b171, 0, none⟩), 1, ([⟨r165, A167, c168⟩] : List Mq), rfl, k63, k67, k71, k75, k79, ⟨Nat.le_refl 1, by decide⟩, rfl, (Xp k169 Yu), hS⟩
  ·try dsimp only [Zw]
   refine Zl rfl rfl rfl CellsOf.agg hS ps6 Z8 (by kernel_rfl) rfl (fun w hS hB => ?_)
   refine Zg ?_
   refine Yb (hB.sub (fun _ _ h => by simpa using h)) ?_
   refine Z5 [false, false, false, false, false, true] 5 ⟨by decide, by kernel_rfl, by kernel_rfl⟩ rfl rfl ?_
   try dsimp only [Zw]
   refine Ym (ps := [(0, .tmp 72)]) [.int .u8 r165.kind, .int .i64 r165.frm, .int .i64 r165.dst, .int .i64 r165.term, .int .i64 r165.cap, .int .i64 r165.last, .int .i64 r165.lastTerm, .int .i64 r165.commit, .bool r165.okk, .slice A167 r165.entries.length c168, .int .i64 r165.snap.index, .int .i64 r165.snap.term, .int .i64 r165.snap.sum, .int .i64 r165.snap.level, .bool r165.snap.final] Vk Jf rfl rfl rfl rfl rfl (by kernel_rfl) hS (fun b171 w hS hB => ?_)
   refine Zg ?_
   refine Z6 hB ?_
   refine Zr [false, false, false, false, false, false, false, true] (by decide +kernel) PFC.h ?_
   refine LtK.put rfl rfl rfl (Z2 rfl) ?_
   refine LtK.nil ?_
   refine Ye (by kernel_rfl) ?_
   refine Zc hK164 ?_
   refine Zk ?_
   refine Zm rfl (RV.cell rfl (Zt Zx hS hs7 Zv) (RV.tmp rfl RV.nil)) rfl ?_
   obtain rfl := QJ H
   have hS := hS.nilRds
   replace hS := hS.front 2 rfl
   replace hS := hS.absorbQ ⟨r165, A167, c168⟩
   replace hS := hS.front 1 rfl
   replace hS := hS.weak Weak.boxRd
   have hS := hS.front 6 rfl
   have hS := hS.front 6 rfl
   have hS := hS.front 6 rfl
   have hS := hS.front 6 rfl
   have hS := hS.front 6 rfl
   replace hS := hS.cut 7
   exact ⟨A61, c62, A65, c66, A69, c70, A73, c74, A77, c78, (some ⟨b171, 0, none⟩), 1, ([⟨r165, A167, c168⟩] : List Mq), rfl, k63, k67, k71, k75, k79, ⟨Nat.le_refl 1, by decide⟩, rfl, (Xp k169 Yu), hS⟩
 replace H := Zo H hb
 refine Za rfl rfl rfl (Zi Zx rfl (Zhe _) hS hs7 trivial Zv) ?_
 refine Za rfl rfl rfl (Ze Ze2 rfl) ?_
 refine Za rfl rfl rfl (Zh Z3 rfl (Zhe _) hS Jy trivial Ze9) ?_
 refine Za rfl rfl rfl (Ze Zgl rfl) ?_
 refine Za rfl rfl rfl (Zh Z3 rfl (Zhe _) hS Jy trivial Zcq) ?_
 obtain ⟨r134, hm135, H⟩ := bind_some H
 refine Zn rfl rfl rfl rfl (by kernel_rfl) rfl (Zdt r59 x1.lastTerm x1.last A61 c62 A65 c66 A69 c70 A73 c74 A77 c78 _ (Zhh k63 (hS.rd hs0) (hS.rd_blk hs0)) (Zhh k67 (hS.row_rd Y2) (hS.row_blk Y2)) (Zhh k71 (hS.row_rd Xi) (hS.row_blk Xi)) (Zhh k75 (hS.row_rd hs3) (hS.row_blk hs3)) (Zhh k79 (hS.row_rd Jq) (hS.row_blk Jq)) hm135) ?_
 rintro e w ⟨rfl, hN⟩; refine ⟨_, rfl, ?_⟩; obtain ⟨hB, hS⟩ := hS.jn hN
 refine Zb 2 rfl ?_
 refine Zg ?_
 refine Zc hK133 ?_
 refine Zd (fun K hK136 => ?_)
 refine Zd (fun K hK137 => ?_)
 refine Zf ?_
 refine Zb 1 rfl ?_
 refine Zg ?_
 refine Zc hK137 ?_
 refine Z1 rfl (fun hb => ?_) (fun hb => ?_)
 rotate_left
 ·replace H := Zp H hb
  refine Zs ?_
  refine Zc hK136 ?_
  refine Zd (fun K hK153 => ?_)
  refine Yn 8 [6] (fun i b => (i = 6 → b ≠ b6)) ⟨by kernel_rfl, by kernel_rfl⟩ hS (fun w hS hB => ?_)
  refine Zr [true] (by decide +kernel) PFC.h ?_
  refine LtK.put rfl rfl rfl (Zi Zx rfl (Zhf _) hS hs7 trivial Zv) ?_
  refine LtK.nil ?_
  refine Y1 [false, true, true, true] [6] (fun b => b ≠ b6) (by decide +kernel) (by intro j hj b hb; simp only [List.mem_cons, List.not_mem_nil, or_false] at hj; (try rcases hj with rfl | rfl | rfl | rfl | rfl) <;> first | (simp [hb]; done) | simp_all) PFC.h ?_
  refine LtK.put rfl rfl rfl (Zi Zx rfl (Zhg _ _) hS hs7 (hS.ne 7 5 rfl rfl rfl) Zv) ?_
  refine LtK.put rfl rfl rfl (Zi Va rfl (Zhg _ _) hS Jy (hS.ne 6 5 rfl rfl rfl) Xg) ?_
  refine LtK.put rfl rfl rfl (Zy rfl) ?_
  refine LtK.nil ?_
  refine Z5 [false, false, false, false, true] 4 ⟨by decide, by kernel_rfl, by kernel_rfl⟩ rfl rfl ?_
  try dsimp only [Zw]
  obtain ⟨r154, hm155, H⟩ := bind_some H
  refine Zn rfl rfl rfl rfl (by kernel_rfl) rfl (Zca r59 x1 2 r134 0 A61 c62 A65 c66 A69 c70 A73 c74 A77 c78 A5_ c5_ _ (Zhh k63 (hS.rd hs0) (hS.rd_blk hs0)) (Zhh k67 (hS.row_rd Y2) (hS.row_blk Y2)) (Zhh k71 (hS.row_rd Xi) (hS.row_blk Xi)) (Zhh k75 (hS.row_rd hs3) (hS.row_blk hs3)) (Zhh k79 (hS.row_rd Jq) (hS.row_blk Jq)) (Zhh s5_.k (hS.rd0 s5_.rd) (hS.blk0 s5_.blk)) hm155) ?_
  rintro e w ⟨A156, c157, rfl, k158, hN⟩; refine ⟨_, rfl, ?_⟩; obtain ⟨hB, hS⟩ := hS.jn hN
  refine Zg ?_
  refine Z6 hB ?_
  refine Jv [5, 6] ⟨by decide, by kernel_rfl⟩ rfl (.call [false, false, false, false, false, true] 5 rfl rfl rfl ?_ (.put [false, false, false, false, false, false, true] 6 rfl rfl rfl ?_ .nil))
  ·try dsimp only [Zw]
   refine Ym (ps := [(0, .tmp 72)]) [.int .u8 r154.kind, .int .i64 r154.frm, .int .i64 r154.dst, .int .i64 r154.term, .int .i64 r154.cap, .int .i64 r154.last, .int .i64 r154.lastTerm, .int .i64 r154.commit, .bool r154.okk, .slice A156 r154.entries.length c157, .int .i64 r154.snap.index, .int .i64 r154.snap.term, .int .i64 r154.snap.sum, .int .i64 r154.snap.level, .bool r154.snap.final] Vk Jf rfl rfl rfl rfl rfl (by kernel_rfl) hS (fun b160 w hS hB => ?_)
   refine Zg ?_
   refine Z6 hB ?_
   refine Yk [false, false, false, false, false, false, true] 6 ⟨by decide, by kernel_rfl, by kernel_rfl⟩ rfl rfl ?_
   try dsimp only [Zw]
   refine Zl rfl rfl rfl CellsOf.agg hS ps7 Z8 (by kernel_rfl) rfl (fun w hS hB => ?_)
   refine Zg ?_
   refine Yb (hB.sub (fun _ _ h => by simpa using h)) ?_
   refine Zr [false, false, false, false, false, false, false, true] (by decide +kernel) PFC.h ?_
   refine LtK.put rfl rfl rfl (Z2 rfl) ?_
   refine LtK.nil ?_
   refine Ye (by kernel_rfl) ?_
   refine Zc hK153 ?_
   refine Zk ?_
   refine Zm rfl (RV.cell rfl (Zt Zx hS hs7 Zv) (RV.tmp rfl RV.nil)) rfl ?_
   obtain rfl := QJ H
   have hS := hS.nilRds
   replace hS := hS.front 2 rfl
   replace hS := hS.absorbQ ⟨r154, A156, c157⟩
   replace hS := hS.front 1 rfl
   replace hS := hS.weak Weak.boxRd
   have hS := hS.front 6 rfl
   have hS := hS.front 6 rfl
   have hS := hS.front 6 rfl
   have hS := hS.front 6 rfl
   have hS := hS.front 6 rfl
   replace hS := hS.cut 7
   exact ⟨A61, c62, A65, c66, A69, c70, A73, c74, A77, c78, (some ⟨b160, 0, none⟩), 1, ([⟨r154, A156, c157⟩] : List Mq), rfl, k63, k67, k71, k75, k79, ⟨Nat.le_refl 1, by decide⟩, rfl, (Xp k158 Yu), hS⟩
  ·try dsimp only [Zw]
   refine Zl rfl rfl rfl CellsOf.agg hS ps6 Z8 (by kernel_rfl) rfl (fun w hS hB => ?_)
   refine Zg ?_
   refine Yb (hB.sub (fun _ _ h => by simpa using h)) ?_
   refine Z5 [false, false, false, false, false, true] 5 ⟨by decide, by kernel_rfl, by kernel_rfl⟩ rfl rfl ?_
   try dsimp only [Zw]
   refine Ym (ps := [(0, .tmp 72)]) [.int .u8 r154.kind, .int .i64 r154.frm, .int .i64 r154.dst, .int .i64 r154.term, .int .i64 r154.cap, .int .i64 r154.last, .int .i64 r154.lastTerm, .int .i64 r154.commit, .bool r154.okk, .slice A156 r154.entries.length c157, .int .i64 r154.snap.index, .int .i64 r154.snap.term, .int .i64 r154.snap.sum, .int .i64 r154.snap.level, .bool r154.snap.final] Vk Jf rfl rfl rfl rfl rfl (by kernel_rfl) hS (fun b160 w hS hB => ?_)
   refine Zg ?_
   refine Z6 hB ?_
   refine Zr [false, false, false, false, false, false, false, true] (by decide +kernel) PFC.h ?_
   refine LtK.put rfl rfl rfl (Z2 rfl) ?_
   refine LtK.nil ?_
   refine Ye (by kernel_rfl) ?_
   refine Zc hK153 ?_
   refine Zk ?_
   refine Zm rfl (RV.cell rfl (Zt Zx hS hs7 Zv) (RV.tmp rfl RV.nil)) rfl ?_
   obtain rfl := QJ H
   have hS := hS.nilRds
   replace hS := hS.front 2 rfl
   replace hS := hS.absorbQ ⟨r154, A156, c157⟩
   replace hS := hS.front 1 rfl
   replace hS := hS.weak Weak.boxRd
   have hS := hS.front 6 rfl
   have hS := hS.front 6 rfl
   have hS := hS.front 6 rfl
   have hS := hS.front 6 rfl
   have hS := hS.front 6 rfl
   replace hS := hS.cut 7
   exact ⟨A61, c62, A65, c66, A69, c70, A73, c74, A77, c78, (some ⟨b160, 0, none⟩), 1, ([⟨r154, A156, c157⟩] : List Mq), rfl, k63, k67, k71, k75, k79, ⟨Nat.le_refl 1, by decide⟩, rfl, (Xp k158 Yu), hS⟩
 replace H := Zo H hb
 refine Zf ?_
 refine Za rfl rfl rfl (Ze Yq rfl) ?_
 refine Za rfl rfl rfl (Zi Yp rfl (Zhe _) hS hs7 trivial Zbt) ?_
 refine Za rfl rfl rfl (Ze Js rfl) ?_
 refine Za rfl rfl rfl (Zh Z3 rfl (Zhe _) hS Jy trivial Jb) ?_
 refine Za rfl rfl rfl (Ze Zaf rfl) ?_
 refine Za rfl rfl rfl (Zh Z3 rfl (Zhe _) hS Jy trivial Xu) ?_
 obtain ⟨r138, hm139, H⟩ := bind_some H
 refine Zn rfl rfl rfl rfl (by kernel_rfl) rfl (Zfu r59.tuple x1.term x1.frm A61 c62 _ (Zhh k63 (hS.rd hs0) (hS.rd_blk hs0)) hm139) ?_
 rintro e w ⟨A140, c141, rfl, k142, hN⟩; refine ⟨_, rfl, ?_⟩; obtain ⟨hB, hS⟩ := hS.jn hN
 refine Zb 1 rfl ?_
 refine Za rfl rfl rfl (Z0 rfl rfl) ?_
 refine Za rfl rfl rfl (Z0 rfl rfl) ?_
 refine Za rfl rfl rfl (Ze Yq rfl) ?_
 refine Zl rfl rfl rfl CellsOf.agg hS ps8 st4_8 (by kernel_rfl) rfl (fun w hS hB => ?_)
 refine Zg ?_
 refine Zc hK136 ?_
 refine Zd (fun K hK144 => ?_)
 refine Yn 8 [6] (fun i b => (i = 6 → b ≠ b6)) ⟨by kernel_rfl, by kernel_rfl⟩ hS (fun w hS hB => ?_)
 refine Zr [true] (by decide +kernel) PFC.h ?_
 refine LtK.put rfl rfl rfl (Zi Zx rfl (Zhf _) hS hs8 trivial Zv) ?_
 refine LtK.nil ?_
 refine Y1 [false, true, true, true] [6] (fun b => b ≠ b6) (by decide +kernel) (by intro j hj b hb; simp only [List.mem_cons, List.not_mem_nil, or_false] at hj; (try rcases hj with rfl | rfl | rfl | rfl | rfl) <;> first | (simp [hb]; done) | simp_all) PFC.h ?_
 refine LtK.put rfl rfl rfl (Zi Zx rfl (Zhg _ _) hS hs8 (hS.ne 8 6 rfl rfl rfl) Zv) ?_
 refine LtK.put rfl rfl rfl (Zi Va rfl (Zhg _ _) hS hs7 (hS.ne 7 6 rfl rfl rfl) Xg) ?_
 refine LtK.put rfl rfl rfl (Zy rfl) ?_
 refine LtK.nil ?_
 refine Z5 [false, false, false, false, true] 4 ⟨by decide, by kernel_rfl, by kernel_rfl⟩ rfl rfl ?_
 try dsimp only [Zw]
 obtain ⟨r145, hm146, H⟩ := bind_some H
 refine Zn rfl rfl rfl rfl (by kernel_rfl) rfl (Zca (⟨r59.id, r59.n, r59.role, r59.binary, r138.1, r59.commit, r59.applied, r59.votes, r59.next, r59.mtch, r59.caps⟩ : Co) x1 2 r134 0 A140 c141 A65 c66 A69 c70 A73 c74 A77 c78 A5_ c5_ _ (Zhh k142 (hS.rd hs0) (hS.rd_blk hs0)) (Zhh k67 (hS.row_rd Xi) (hS.row_blk Xi)) (Zhh k71 (hS.row_rd hs3) (hS.row_blk hs3)) (Zhh k75 (hS.row_rd Jq) (hS.row_blk Jq)) (Zhh k79 (hS.row_rd hs5) (hS.row_blk hs5)) (Zhh s5_.k (hS.rd0 s5_.rd) (hS.blk0 s5_.blk)) hm146) ?_
 rintro e w ⟨A147, c148, rfl, k149, hN⟩; refine ⟨_, rfl, ?_⟩; obtain ⟨hB, hS⟩ := hS.jn hN
 refine Zg ?_
 refine Z6 hB ?_
 refine Jv [5, 6] ⟨by decide, by kernel_rfl⟩ rfl (.call [false, false, false, false, false, true] 5 rfl rfl rfl ?_ (.put [false, false, false, false, false, false, true] 6 rfl rfl rfl ?_ .nil))
 ·try dsimp only [Zw]
  refine Ym (ps := [(0, .tmp 72)]) [.int .u8 r145.kind, .int .i64 r145.frm, .int .i64 r145.dst, .int .i64 r145.term, .int .i64 r145.cap, .int .i64 r145.last, .int .i64 r145.lastTerm, .int .i64 r145.commit, .bool r145.okk, .slice A147 r145.entries.length c148, .int .i64 r145.snap.index, .int .i64 r145.snap.term, .int .i64 r145.snap.sum, .int .i64 r145.snap.level, .bool r145.snap.final] Vk Jf rfl rfl rfl rfl rfl (by kernel_rfl) hS (fun b151 w hS hB => ?_)
  refine Zg ?_
  refine Z6 hB ?_
  refine Yk [false, false, false, false, false, false, true] 6 ⟨by decide, by kernel_rfl, by kernel_rfl⟩ rfl rfl ?_
  try dsimp only [Zw]
  refine Zl rfl rfl rfl CellsOf.agg hS ps8 Z8 (by kernel_rfl) rfl (fun w hS hB => ?_)
  refine Zg ?_
  refine Yb (hB.sub (fun _ _ h => by simpa using h)) ?_
  refine Zr [false, false, false, false, false, false, false, true] (by decide +kernel) PFC.h ?_
  refine LtK.put rfl rfl rfl (Z2 rfl) ?_
  refine LtK.nil ?_
  refine Ye (by kernel_rfl) ?_
  refine Zc hK144 ?_
  refine Zk ?_
  refine Zm rfl (RV.cell rfl (Zt Zx hS hs8 Zv) (RV.tmp rfl RV.nil)) rfl ?_
  obtain rfl := QJ H
  have hS := hS.nilRds
  replace hS := hS.front 2 rfl
  replace hS := hS.absorbQ ⟨r145, A147, c148⟩
  replace hS := hS.front 1 rfl
  replace hS := hS.weak Weak.boxRd
  have hS := hS.front 7 rfl
  have hS := hS.front 7 rfl
  have hS := hS.front 7 rfl
  have hS := hS.front 7 rfl
  have hS := hS.front 6 rfl
  replace hS := hS.cut 7
  exact ⟨A140, c141, A65, c66, A69, c70, A73, c74, A77, c78, (some ⟨b151, 0, none⟩), 1, ([⟨r145, A147, c148⟩] : List Mq), rfl, k142, k67, k71, k75, k79, ⟨Nat.le_refl 1, by decide⟩, rfl, (Xp k149 Yu), hS⟩
 ·try dsimp only [Zw]
  refine Zl rfl rfl rfl CellsOf.agg hS ps7 Z8 (by kernel_rfl) rfl (fun w hS hB => ?_)
  refine Zg ?_
  refine Yb (hB.sub (fun _ _ h => by simpa using h)) ?_
  refine Z5 [false, false, false, false, false, true] 5 ⟨by decide, by kernel_rfl, by kernel_rfl⟩ rfl rfl ?_
  try dsimp only [Zw]
  refine Ym (ps := [(0, .tmp 72)]) [.int .u8 r145.kind, .int .i64 r145.frm, .int .i64 r145.dst, .int .i64 r145.term, .int .i64 r145.cap, .int .i64 r145.last, .int .i64 r145.lastTerm, .int .i64 r145.commit, .bool r145.okk, .slice A147 r145.entries.length c148, .int .i64 r145.snap.index, .int .i64 r145.snap.term, .int .i64 r145.snap.sum, .int .i64 r145.snap.level, .bool r145.snap.final] Vk Jf rfl rfl rfl rfl rfl (by kernel_rfl) hS (fun b151 w hS hB => ?_)
  refine Zg ?_
  refine Z6 hB ?_
  refine Zr [false, false, false, false, false, false, false, true] (by decide +kernel) PFC.h ?_
  refine LtK.put rfl rfl rfl (Z2 rfl) ?_
  refine LtK.nil ?_
  refine Ye (by kernel_rfl) ?_
  refine Zc hK144 ?_
  refine Zk ?_
  refine Zm rfl (RV.cell rfl (Zt Zx hS hs8 Zv) (RV.tmp rfl RV.nil)) rfl ?_
  obtain rfl := QJ H
  have hS := hS.nilRds
  replace hS := hS.front 2 rfl
  replace hS := hS.absorbQ ⟨r145, A147, c148⟩
  replace hS := hS.front 1 rfl
  replace hS := hS.weak Weak.boxRd
  have hS := hS.front 7 rfl
  have hS := hS.front 7 rfl
  have hS := hS.front 7 rfl
  have hS := hS.front 7 rfl
  have hS := hS.front 6 rfl
  replace hS := hS.cut 7
  exact ⟨A140, c141, A65, c66, A69, c70, A73, c74, A77, c78, (some ⟨b151, 0, none⟩), 1, ([⟨r145, A147, c148⟩] : List Mq), rfl, k142, k67, k71, k75, k79, ⟨Nat.le_refl 1, by decide⟩, rfl, (Xp k149 Yu), hS⟩
theorem c_elect_Voted (x0 : Co) (x1 : Ms) (A0_ : OA) (c0_ : Nat) (A1_ : OA) (c1_ : Nat) (A2_ : OA) (c2_ : Nat) (A3_ : OA) (c3_ : Nat) (A4_ : OA) (c4_ : Nat) (A5_ : OA) (c5_ : Nat) (w0 : World) (s0_ : SlI w0 V3 A0_ c0_ x0.tuple.log) (s1_ : SlI w0 enO A1_ c1_ x0.votes) (s2_ : SlI w0 X2 A2_ c2_ x0.next) (s3_ : SlI w0 X2 A3_ c3_ x0.mtch) (s4_ : SlI w0 X2 A4_ c4_ x0.caps) (s5_ : SlI w0 V3 A5_ c5_ x1.entries) {r : Co × List Ms} (H : J8 x0 x1 = some r) : Calls Tryz.prog 15 #[.agg #[.int .i64 x0.id, .int .i64 x0.n, .int .u8 x0.role, .int .i64 x0.binary, .int .i64 x0.tuple.snap.index, .int .i64 x0.tuple.snap.term, .int .i64 x0.tuple.snap.sum, .int .i64 x0.tuple.snap.level, .bool x0.tuple.snap.final, .slice A0_ x0.tuple.log.length c0_, .int .i64 x0.tuple.term, .int .i64 x0.tuple.vote, .int .i64 x0.commit, .int .i64 x0.applied.index, .int .i64 x0.applied.term, .int .i64 x0.applied.sum, .int .i64 x0.applied.level, .bool x0.applied.final, .slice A1_ x0.votes.length c1_, .slice A2_ x0.next.length c2_, .slice A3_ x0.mtch.length c3_, .slice A4_ x0.caps.length c4_], .agg #[.int .u8 x1.kind, .int .i64 x1.frm, .int .i64 x1.dst, .int .i64 x1.term, .int .i64 x1.cap, .int .i64 x1.last, .int .i64 x1.lastTerm, .int .i64 x1.commit, .bool x1.okk, .slice A5_ x1.entries.length c5_, .int .i64 x1.snap.index, .int .i64 x1.snap.term, .int .i64 x1.snap.sum, .int .i64 x1.snap.level, .bool x1.snap.final]] w0 fun e w' => ∃ (A0 : OA) (c0 : Nat) (A1 : OA) (c1 : Nat) (A2 : OA) (c2 : Nat) (A3 : OA) (c3 : Nat) (A4 : OA) (c4 : Nat) (A5 : OA) (c5 : Nat) (q5 : List Mq), e = .returned (.tuple #[.agg #[.int .i64 r.1.id, .int .i64 r.1.n, .int .u8 r.1.role, .int .i64 r.1.binary, .int .i64 r.1.tuple.snap.index, .int .i64 r.1.tuple.snap.term, .int .i64 r.1.tuple.snap.sum, .int .i64 r.1.tuple.snap.level, .bool r.1.tuple.snap.final, .slice A0 r.1.tuple.log.length c0, .int .i64 r.1.tuple.term, .int .i64 r.1.tuple.vote, .int .i64 r.1.commit, .int .i64 r.1.applied.index, .int .i64 r.1.applied.term, .int .i64 r.1.applied.sum, .int .i64 r.1.applied.level, .bool r.1.applied.final, .slice A1 r.1.votes.length c1, .slice A2 r.1.next.length c2, .slice A3 r.1.mtch.length c3, .slice A4 r.1.caps.length c4], .slice A5 r.2.length c5]) ∧ (r.1.tuple.log.length ≤ c0 ∧ c0 ≤ maxLen) ∧ (r.1.votes.length ≤ c1 ∧ c1 ≤ maxLen) ∧ (r.1.next.length ≤ c2 ∧ c2 ≤ maxLen) ∧ (r.1.mtch.length ≤ c3 ∧ c3 ≤ maxLen) ∧ (r.1.caps.length ≤ c4 ∧ c4 ≤ maxLen) ∧ (r.2.length ≤ c5 ∧ c5 ≤ maxLen) ∧ q5.map Mq.m = r.2 ∧ (∀ y ∈ q5, okQ y) ∧ St0 All w0 w' [.rd A0 (Yf V3 r.1.tuple.log), .row (.slice A1 r.1.votes.length c1) 4 1 r.1.votes.length (Yf enO r.1.votes), .row (.slice A2 r.1.next.length c2) 3 1 r.1.next.length (Yf X2 r.1.next), .row (.slice A3 r.1.mtch.length c3) 3 1 r.1.mtch.length (Yf X2 r.1.mtch), .row (.slice A4 r.1.caps.length c4) 3 1 r.1.caps.length (Yf X2 r.1.caps), .rd A5 (Yf enQ q5), .rds (q5.map subQ)] := by
 unfold J8 at H
 refine Ys Tryz.func15 rfl Tryz.ntmps15 rfl ?_
 have hS := St0.start All w0
 refine Zd (fun K hK1 => ?_)
 refine Zf ?_
 refine Z7 rfl rfl rfl CellsOf.agg hS (fun b2 w hS hB => ?_)
 refine Z7 rfl rfl rfl CellsOf.agg hS (fun b4 w hS hB => ?_)
 refine Yd rfl rfl Zbx hS (fun b6 w hS hB => ?_)
 refine Zb 1 rfl ?_
 refine Zg ?_
 refine Zc hK1 ?_
 refine wpC_scope1 0 rfl ?_
 refine Zd (fun K hK8 => ?_)
 refine Zd (fun K hK9 => ?_)
 refine Zf ?_
 refine Za rfl rfl rfl (Zi Zx rfl (Zhe _) hS Xi trivial Zv) ?_
 refine Za rfl rfl rfl (Zi Va rfl (Zhe _) hS Y2 trivial Xg) ?_
 obtain ⟨r10, hm11, H⟩ := bind_some H
 refine Zn rfl rfl rfl rfl (by kernel_rfl) rfl (c_elect_fits x0 x1 A0_ c0_ A1_ c1_ A2_ c2_ A3_ c3_ A4_ c4_ A5_ c5_ _ (Zhh s0_.k (hS.rd0 s0_.rd) (hS.blk0 s0_.blk)) (Zhh s1_.k (hS.rd0 s1_.rd) (hS.blk0 s1_.blk)) (Zhh s2_.k (hS.rd0 s2_.rd) (hS.blk0 s2_.blk)) (Zhh s3_.k (hS.rd0 s3_.rd) (hS.blk0 s3_.blk)) (Zhh s4_.k (hS.rd0 s4_.rd) (hS.blk0 s4_.blk)) (Zhh s5_.k (hS.rd0 s5_.rd) (hS.blk0 s5_.blk)) hm11) ?_
 rintro e w ⟨rfl, hN⟩; refine ⟨_, rfl, ?_⟩; obtain ⟨hB, hS⟩ := hS.jn hN
 refine Za rfl rfl rfl (Yo rfl) ?_
 refine Zb 1 rfl ?_
 refine Zq 10 rfl (fun hb => ?_) (fun hb => ?_)
 ·replace H := Zo H hb
  refine Zb 4 rfl ?_
  refine Zg ?_
  refine Zc hK9 ?_
  refine Zu rfl rfl ?_
  refine Zd (fun K hK12 => ?_)
  refine Zf ?_
  refine Za rfl rfl rfl (Zi Zx rfl (Zhe _) hS Xi trivial Zv) ?_
  obtain ⟨r13, hm14, H⟩ := bind_some H
  refine Zn rfl rfl rfl rfl (by kernel_rfl) rfl (Zd8 x0 A0_ c0_ A1_ c1_ A2_ c2_ A3_ c3_ A4_ c4_ _ (Zhh s0_.k (hS.rd0 s0_.rd) (hS.blk0 s0_.blk)) (Zhh s1_.k (hS.rd0 s1_.rd) (hS.blk0 s1_.blk)) (Zhh s2_.k (hS.rd0 s2_.rd) (hS.blk0 s2_.blk)) (Zhh s3_.k (hS.rd0 s3_.rd) (hS.blk0 s3_.blk)) (Zhh s4_.k (hS.rd0 s4_.rd) (hS.blk0 s4_.blk)) hm14) ?_
  rintro e w ⟨A15, c16, A19, c20, A23, c24, A27, c28, A31, c32, rfl, k17, k21, k25, k29, k33, hN⟩; refine ⟨_, rfl, ?_⟩; obtain ⟨hB, hS⟩ := hS.jn hN
  refine Zl rfl rfl rfl CellsOf.agg hS ps5 Z8 (by kernel_rfl) rfl (fun w hS hB => ?_)
  refine Zb 1 rfl ?_
  refine Zg ?_
  refine Zc hK12 ?_
  refine Zk ?_
  refine Zj ?_
  refine Yj ?_
  refine Zm rfl (RV.cell rfl (Zt Zx hS hs5 Zv) (RV.tmp rfl RV.nil)) rfl ?_
  obtain rfl := QJ H
  have hS := hS.nilRds
  replace hS := hS.nilRd
  have hS := hS.front 6 rfl
  have hS := hS.front 6 rfl
  have hS := hS.front 6 rfl
  have hS := hS.front 6 rfl
  have hS := hS.front 6 rfl
  replace hS := hS.weak Weak.rowRd
  replace hS := hS.cut 7
  exact ⟨A15, c16, A19, c20, A23, c24, A27, c28, A31, c32, none, 0, ([] : List Mq), rfl, k17, k21, k25, k29, k33, ⟨Nat.le_refl _, Nat.zero_le _⟩, rfl, Yu, hS⟩
 replace H := Zp H hb
 refine Za rfl rfl rfl (Ze Vc rfl) ?_
 refine Za rfl rfl rfl (Zh Zas rfl (Zhe _) hS Y2 trivial Yx) ?_
 refine Za rfl rfl rfl (Xm rfl rfl) ?_
 refine Zb 1 rfl ?_
 refine Zg ?_
 refine Zc hK9 ?_
 refine Z1 rfl (fun hb => ?_) (fun hb => ?_)
 ·replace H := Zo H hb
  refine Zd (fun K hK35 => ?_)
  refine Zf ?_
  refine Za rfl rfl rfl (Zi Zx rfl (Zhe _) hS Xi trivial Zv) ?_
  obtain ⟨r36, hm37, H⟩ := bind_some H
  refine Zn rfl rfl rfl rfl (by kernel_rfl) rfl (Zd8 x0 A0_ c0_ A1_ c1_ A2_ c2_ A3_ c3_ A4_ c4_ _ (Zhh s0_.k (hS.rd0 s0_.rd) (hS.blk0 s0_.blk)) (Zhh s1_.k (hS.rd0 s1_.rd) (hS.blk0 s1_.blk)) (Zhh s2_.k (hS.rd0 s2_.rd) (hS.blk0 s2_.blk)) (Zhh s3_.k (hS.rd0 s3_.rd) (hS.blk0 s3_.blk)) (Zhh s4_.k (hS.rd0 s4_.rd) (hS.blk0 s4_.blk)) hm37) ?_
  rintro e w ⟨A38, c39, A42, c43, A46, c47, A50, c51, A54, c55, rfl, k40, k44, k48, k52, k56, hN⟩; refine ⟨_, rfl, ?_⟩; obtain ⟨hB, hS⟩ := hS.jn hN
  refine Zl rfl rfl rfl CellsOf.agg hS ps5 Z8 (by kernel_rfl) rfl (fun w hS hB => ?_)
  refine Zb 1 rfl ?_
  refine Zg ?_
  refine Zc hK35 ?_
  refine Zk ?_
  refine Zj ?_
  refine Yj ?_
  refine Zm rfl (RV.cell rfl (Zt Zx hS hs5 Zv) (RV.tmp rfl RV.nil)) rfl ?_
  obtain rfl := QJ H
  have hS := hS.nilRds
  replace hS := hS.nilRd
  have hS := hS.front 6 rfl
  have hS := hS.front 6 rfl
  have hS := hS.front 6 rfl
  have hS := hS.front 6 rfl
  have hS := hS.front 6 rfl
  replace hS := hS.weak Weak.rowRd
  replace hS := hS.cut 7
  exact ⟨A38, c39, A42, c43, A46, c47, A50, c51, A54, c55, none, 0, ([] : List Mq), rfl, k40, k44, k48, k52, k56, ⟨Nat.le_refl _, Nat.zero_le _⟩, rfl, Yu, hS⟩
 replace H := Zp H hb
 refine Zs ?_
 refine Zc hK8 ?_
 refine Zd (fun K hK58 => ?_)
 refine Zf ?_
 refine Za rfl rfl rfl (Zi Zx rfl (Zhe _) hS Xi trivial Zv) ?_
 refine Za rfl rfl rfl (Zi Va rfl (Zhe _) hS Y2 trivial Xg) ?_
 obtain ⟨r59, hm60, H⟩ := bind_some H
 refine Zn rfl rfl rfl rfl (by kernel_rfl) rfl (c_elect_Meet x0 x1 A0_ c0_ A1_ c1_ A2_ c2_ A3_ c3_ A4_ c4_ A5_ c5_ _ (Zhh s0_.k (hS.rd0 s0_.rd) (hS.blk0 s0_.blk)) (Zhh s1_.k (hS.rd0 s1_.rd) (hS.blk0 s1_.blk)) (Zhh s2_.k (hS.rd0 s2_.rd) (hS.blk0 s2_.blk)) (Zhh s3_.k (hS.rd0 s3_.rd) (hS.blk0 s3_.blk)) (Zhh s4_.k (hS.rd0 s4_.rd) (hS.blk0 s4_.blk)) (Zhh s5_.k (hS.rd0 s5_.rd) (hS.blk0 s5_.blk)) hm60) ?_
 rintro e w ⟨A61, c62, A65, c66, A69, c70, A73, c74, A77, c78, rfl, k63, k67, k71, k75, k79, hN⟩; refine ⟨_, rfl, ?_⟩; obtain ⟨hB, hS⟩ := hS.jn hN
 refine Zl rfl rfl rfl CellsOf.agg hS ps7 Z8 (by kernel_rfl) rfl (fun w hS hB => ?_)
 refine Zg ?_
 refine Zc hK58 ?_
 refine Zd (fun K hK81 => ?_)
 refine Zd (fun K hK82 => ?_)
 refine Zf ?_
 refine Za rfl rfl rfl (Ze Ze5 rfl) ?_
 refine Za rfl rfl rfl (Zh sc_4 rfl (Zhe _) hS Jy trivial sg8_1) ?_
 refine Za rfl rfl rfl (Yo rfl) ?_
 refine Zb 1 rfl ?_
 refine Zq 23 rfl (fun hb => ?_) (fun hb => ?_)
 ·replace H := Zo H hb
  refine Zb 12 rfl ?_
  refine Zg ?_
  refine Zc hK82 ?_
  refine Zu rfl rfl ?_
  refine V6 ?_
  refine Xj ?_
  refine Ju ?_
  refine Zd (fun K hK83 => ?_)
  refine Zs ?_
  refine Zc hK83 ?_
  refine Zd (fun K hK84 => ?_)
  refine Zf ?_
  refine Za rfl rfl rfl (Zi Zx rfl (Zhe _) hS hs7 trivial Zv) ?_
  refine Zl rfl rfl rfl CellsOf.agg hS ps5 Z8 (by kernel_rfl) rfl (fun w hS hB => ?_)
  refine Zb 1 rfl ?_
  refine Zg ?_
  refine Zc hK84 ?_
  refine Zk ?_
  refine Yj ?_
  refine Zm rfl (RV.cell rfl (Zt Zx hS hs5 Zv) (RV.tmp rfl RV.nil)) rfl ?_
  obtain rfl := QJ H
  have hS := hS.nilRds
  replace hS := hS.nilRd
  have hS := hS.front 6 rfl
  have hS := hS.front 6 rfl
  have hS := hS.front 6 rfl
  have hS := hS.front 6 rfl
  have hS := hS.front 6 rfl
  replace hS := hS.cut 7
  exact ⟨A61, c62, A65, c66, A69, c70, A73, c74, A77, c78, none, 0, ([] : List Mq), rfl, k63, k67, k71, k75, k79, ⟨Nat.le_refl _, Nat.zero_le _⟩, rfl, Yu, hS⟩
 replace H := Zp H hb
 refine Za rfl rfl rfl (Ze Vv rfl) ?_
 refine Za rfl rfl rfl (Zh Zas rfl (Zhe _) hS hs7 trivial Jt) ?_
 refine Za rfl rfl rfl (Xm rfl rfl) ?_
 refine Zb 2 rfl ?_
 refine Zq 28 rfl (fun hb => ?_) (fun hb => ?_)
 ·replace H := Zo H hb
  refine Zb 7 rfl ?_
  refine Zg ?_
  refine Zc hK82 ?_
  refine Zu rfl rfl ?_
  refine V6 ?_
  refine Xj ?_
  refine Ju ?_
  refine Zd (fun K hK85 => ?_)
  refine Zs ?_
  refine Zc hK85 ?_
  refine Zd (fun K hK86 => ?_)
  refine Zf ?_
  refine Za rfl rfl rfl (Zi Zx rfl (Zhe _) hS hs7 trivial Zv) ?_
  refine Zl rfl rfl rfl CellsOf.agg hS ps5 Z8 (by kernel_rfl) rfl (fun w hS hB => ?_)
  refine Zb 1 rfl ?_
  refine Zg ?_
  refine Zc hK86 ?_
  refine Zk ?_
  refine Yj ?_
  refine Zm rfl (RV.cell rfl (Zt Zx hS hs5 Zv) (RV.tmp rfl RV.nil)) rfl ?_
  obtain rfl := QJ H
  have hS := hS.nilRds
  replace hS := hS.nilRd
  have hS := hS.front 6 rfl
  have hS := hS.front 6 rfl
  have hS := hS.front 6 rfl
  have hS := hS.front 6 rfl
  have hS := hS.front 6 rfl
  replace hS := hS.cut 7
  exact ⟨A61, c62, A65, c66, A69, c70, A73, c74, A77, c78, none, 0, ([] : List Mq), rfl, k63, k67, k71, k75, k79, ⟨Nat.le_refl _, Nat.zero_le _⟩, rfl, Yu, hS⟩
 replace H := Zp H hb
 refine Za rfl rfl rfl (Ze Js rfl) ?_
 refine Za rfl rfl rfl (Zh Z3 rfl (Zhe _) hS Jy trivial Jb) ?_
 refine Za rfl rfl rfl (Ze Yq rfl) ?_
 refine Za rfl rfl rfl (Ze Xl rfl) ?_
 refine Za rfl rfl rfl (Zh Z3 rfl (Zhe _) hS hs7 trivial Vz) ?_
 refine Za rfl rfl rfl (Xm rfl rfl) ?_
 refine Zb 1 rfl ?_
 refine Zg ?_
 refine Zc hK82 ?_
 refine Z1 rfl (fun hb => ?_) (fun hb => ?_)
 ·replace H := Zo H hb
  refine V6 ?_
  refine Xj ?_
  refine Ju ?_
  refine Zd (fun K hK87 => ?_)
  refine Zs ?_
  refine Zc hK87 ?_
  refine Zd (fun K hK88 => ?_)
  refine Zf ?_
  refine Za rfl rfl rfl (Zi Zx rfl (Zhe _) hS hs7 trivial Zv) ?_
  refine Zl rfl rfl rfl CellsOf.agg hS ps5 Z8 (by kernel_rfl) rfl (fun w hS hB => ?_)
  refine Zb 1 rfl ?_
  refine Zg ?_
  refine Zc hK88 ?_
  refine Zk ?_
  refine Yj ?_
  refine Zm rfl (RV.cell rfl (Zt Zx hS hs5 Zv) (RV.tmp rfl RV.nil)) rfl ?_
  obtain rfl := QJ H
  have hS := hS.nilRds
  replace hS := hS.nilRd
  have hS := hS.front 6 rfl
  have hS := hS.front 6 rfl
  have hS := hS.front 6 rfl
  have hS := hS.front 6 rfl
  have hS := hS.front 6 rfl
  replace hS := hS.cut 7
  exact ⟨A61, c62, A65, c66, A69, c70, A73, c74, A77, c78, none, 0, ([] : List Mq), rfl, k63, k67, k71, k75, k79, ⟨Nat.le_refl _, Nat.zero_le _⟩, rfl, Yu, hS⟩
 replace H := Zp H hb
 refine Zs ?_
 refine Zc hK81 ?_
 refine Zd (fun K hK89 => ?_)
 refine Zd (fun K hK90 => ?_)
 refine Zf ?_
 refine Za rfl rfl rfl (Ze Vd rfl) ?_
 refine Za rfl rfl rfl (Zh Zc1 rfl (Zhe _) hS hs7 trivial Zba) ?_
 refine Za rfl rfl rfl (Ze Zaf rfl) ?_
 refine Za rfl rfl rfl (Zh Z3 rfl (Zhe _) hS Jy trivial Xu) ?_
 refine Za rfl rfl rfl (Zcn rfl rfl) ?_
 obtain ⟨e91, hi93, H⟩ := bind_some H
 obtain ⟨j92, hi93a, hi93b, hi93c⟩ := Y0 hi93
 refine Za rfl rfl rfl (Xh Zbs rfl rfl hi93a hi93c (Rd.el (hS.row_rd Y2) V5 hi93b)) ?_
 refine Zcd (a' := true) (zs := (Vw r59.votes (IntKind.wrap .i64 (x1.frm - 1)) true)) V5 rfl rfl rfl CellsOf.bool hS ps1 (Rd.el (hS.row_rd Y2) V5 hi93b) hi93a hi93b rfl Zeb (by kernel_rfl) rfl (fun w hS => ?_)
 refine Zg ?_
 refine Zc hK90 ?_
 refine Zd (fun K hK94 => ?_)
 refine Zf ?_
 refine Za rfl rfl rfl (Ze Vd rfl) ?_
 refine Za rfl rfl rfl (Zh Zc1 rfl (Zhe _) hS hs7 trivial Zba) ?_
 obtain ⟨r95, hm96, H⟩ := bind_some H
 refine Zn rfl rfl rfl rfl (by kernel_rfl) (by rw [(Y8 rfl)]; rfl) (Zc9 (Vw r59.votes (IntKind.wrap .i64 (x1.frm - 1)) true) A65 c66 _ (Zhh (Za7 k67) (hS.row_rd Y2) (hS.row_blk Y2)) hm96) ?_
 rintro e w ⟨rfl, hN⟩; refine ⟨_, rfl, ?_⟩; obtain ⟨hB, hS⟩ := hS.jn hN
 refine Zg ?_
 refine Zc hK94 ?_
 refine Z1 rfl (fun hb => ?_) (fun hb => ?_)
 rotate_left
 ·replace H := Zp H hb
  refine Zs ?_
  refine Zc hK89 ?_
  refine Zd (fun K hK121 => ?_)
  refine Zeu ?_
  refine Zc hK121 ?_
  refine Zd (fun K hK122 => ?_)
  refine Zf ?_
  refine Za rfl rfl rfl (Zi Zx rfl (Zhe _) hS hs7 trivial Zv) ?_
  refine Zl rfl rfl rfl CellsOf.agg hS ps5 Z8 (by kernel_rfl) rfl (fun w hS hB => ?_)
  refine Zb 1 rfl ?_
  refine Zg ?_
  refine Zc hK122 ?_
  refine Zk ?_
  refine Yj ?_
  refine Zm rfl (RV.cell rfl (Zt Zx hS hs5 Zv) (RV.tmp rfl RV.nil)) rfl ?_
  obtain rfl := QJ H
  have hS := hS.nilRds
  replace hS := hS.nilRd
  have hS := hS.front 6 rfl
  have hS := hS.front 6 rfl
  have hS := hS.front 6 rfl
  have hS := hS.front 6 rfl
  have hS := hS.front 6 rfl
  replace hS := hS.cut 7
  exact ⟨A61, c62, A65, c66, A69, c70, A73, c74, A77, c78, none, 0, ([] : List Mq), by rw [(Y8 rfl)]; rfl, k63, (Za7 k67), k71, k75, k79, ⟨Nat.le_refl _, Nat.zero_le _⟩, rfl, Yu, hS.eqv (by rw [(Y8 rfl)]; rfl)⟩
 replace H := Zo H hb
 refine Zf ?_
 refine Za rfl rfl rfl (Zi Zx rfl (Zhe _) hS hs7 trivial Zv) ?_
 obtain ⟨r97, hm98, H⟩ := bind_some H
 refine Zn rfl rfl rfl rfl (by kernel_rfl) (by rw [(Y8 rfl)]; rfl) (Zf0 (⟨r59.id, r59.n, r59.role, r59.binary, r59.tuple, r59.commit, r59.applied, (Vw r59.votes (IntKind.wrap .i64 (x1.frm - 1)) true), r59.next, r59.mtch, r59.caps⟩ : Co) A61 c62 A65 c66 A69 c70 A73 c74 A77 c78 _ (Zhh k63 (hS.rd hs0) (hS.rd_blk hs0)) (Zhh (Za7 k67) (hS.row_rd Y2) (hS.row_blk Y2)) (Zhh k71 (hS.row_rd Xi) (hS.row_blk Xi)) (Zhh k75 (hS.row_rd hs3) (hS.row_blk hs3)) (Zhh k79 (hS.row_rd Jq) (hS.row_blk Jq)) hm98) ?_
 rintro e w ⟨A99, c100, A103, c104, A107, c108, A111, c112, A115, c116, rfl, k101, k105, k109, k113, k117, hN⟩; refine ⟨_, rfl, ?_⟩; obtain ⟨hB, hS⟩ := hS.jn hN
 refine Zl rfl rfl rfl CellsOf.agg hS ps12 Z8 (by kernel_rfl) rfl (fun w hS hB => ?_)
 refine Zg ?_
 refine Zc hK89 ?_
 refine Zd (fun K hK119 => ?_)
 refine Zeu ?_
 refine Zc hK119 ?_
 refine Zd (fun K hK120 => ?_)
 refine Zf ?_
 refine Za rfl rfl rfl (Zi Zx rfl (Zhe _) hS Jc trivial Zv) ?_
 refine Zl rfl rfl rfl CellsOf.agg hS ps10 Z8 (by kernel_rfl) rfl (fun w hS hB => ?_)
 refine Zb 1 rfl ?_
 refine Zg ?_
 refine Zc hK120 ?_
 refine Zk ?_
 refine Yj ?_
 refine Zm rfl (RV.cell rfl (Zt Zx hS hs10 Zv) (RV.tmp rfl RV.nil)) rfl ?_
 obtain rfl := QJ H
 have hS := hS.nilRds
 replace hS := hS.nilRd
 have hS := hS.front 6 rfl
 have hS := hS.front 6 rfl
 have hS := hS.front 6 rfl
 have hS := hS.front 6 rfl
 have hS := hS.front 6 rfl
 replace hS := hS.cut 7
 exact ⟨A99, c100, A103, c104, A107, c108, A111, c112, A115, c116, none, 0, ([] : List Mq), rfl, k101, k105, k109, k113, k117, ⟨Nat.le_refl _, Nat.zero_le _⟩, rfl, Yu, hS⟩
theorem Zcl (w0 : World) {r : Bool} (H : Zac = some r) : Calls Tryz.prog 8 #[] w0 fun e w' => e = .returned (.bool r) ∧ St0 All w0 w' [] := by
 unfold Zac at H
 refine gw_enter0 Tryz.func8 rfl Tryz.ntmps8 rfl ?_
 have hS := St0.start All w0
 refine Zd (fun K hK1 => ?_)
 refine Zf ?_
 refine Zb 1 rfl ?_
 refine Zg ?_
 refine Zc hK1 ?_
 refine Zd (fun K hK2 => ?_)
 refine Zf ?_
 obtain ⟨r3, hm4, H⟩ := bind_some H
 refine Zn rfl rfl rfl rfl (by kernel_rfl) rfl (Zgt _ hm4) ?_
 rintro e w ⟨A5, c6, rfl, k7, hN⟩; refine ⟨_, rfl, ?_⟩; obtain ⟨hB, hS⟩ := hS.jn hN
 obtain ⟨r9, hm10, H⟩ := bind_some H
 refine Zn rfl rfl rfl rfl (by kernel_rfl) rfl (c_ref20_New 1 1 1 r3 A5 c6 _ (Zhh k7 (hS.rd hs0) (hS.rd_blk hs0)) hm10) ?_
 rintro e w ⟨A11, c12, A15, c16, A19, c20, A23, c24, A27, c28, rfl, k13, k17, k21, k25, k29, hN⟩; refine ⟨_, rfl, ?_⟩; obtain ⟨hB, hS⟩ := hS.jn hN
 obtain ⟨r31, hm32, H⟩ := bind_some H
 refine Zn rfl rfl rfl rfl (by kernel_rfl) rfl (Zfk r9 A11 c12 A15 c16 A19 c20 A23 c24 A27 c28 _ (Zhh k13 (hS.row_rd hs0) (hS.row_blk hs0)) (Zhh k17 (hS.row_rd Y2) (hS.row_blk Y2)) (Zhh k21 (hS.row_rd Xi) (hS.row_blk Xi)) (Zhh k25 (hS.row_rd hs3) (hS.row_blk hs3)) (Zhh k29 (hS.row_rd Jq) (hS.row_blk Jq)) hm32) ?_
 rintro e w ⟨A33, c34, A37, c38, A41, c42, A45, c46, A49, c50, A53, c54, q57, rfl, k35, k39, k43, k47, k51, k55, hq58, okq59, hN⟩; refine ⟨_, rfl, ?_⟩; obtain ⟨hB, hS⟩ := hS.jn hN
 refine Zb 1 rfl ?_
 refine Za rfl rfl rfl (Z0 rfl rfl) ?_
 refine Za rfl rfl rfl (Z0 rfl rfl) ?_
 refine Yd rfl rfl Zbx hS (fun b61 w hS hB => ?_)
 refine Zl rfl rfl rfl CellsOf.agg hS ps0 Z8 (by kernel_rfl) rfl (fun w hS hB => ?_)
 refine Zb 1 rfl ?_
 refine Zg ?_
 refine Zc hK2 ?_
 refine Zd (fun K hK63 => ?_)
 refine Zf ?_
 obtain ⟨r64, hm65, H⟩ := bind_some H
 refine Zn rfl rfl rfl rfl (by kernel_rfl) rfl (Zgt _ hm65) ?_
 rintro e w ⟨A66, c67, rfl, k68, hN⟩; refine ⟨_, rfl, ?_⟩; obtain ⟨hB, hS⟩ := hS.jn hN
 obtain ⟨r70, hm71, H⟩ := bind_some H
 refine Zn rfl rfl rfl rfl (by kernel_rfl) rfl (c_ref20_New 1 3 1 r64 A66 c67 _ (Zhh k68 (hS.rd hs0) (hS.rd_blk hs0)) hm71) ?_
 rintro e w ⟨A72, c73, A76, c77, A80, c81, A84, c85, A88, c89, rfl, k74, k78, k82, k86, k90, hN⟩; refine ⟨_, rfl, ?_⟩; obtain ⟨hB, hS⟩ := hS.jn hN
 obtain ⟨r92, hm93, H⟩ := bind_some H
 refine Zn rfl rfl rfl rfl (by kernel_rfl) rfl (Zfk r70 A72 c73 A76 c77 A80 c81 A84 c85 A88 c89 _ (Zhh k74 (hS.row_rd hs0) (hS.row_blk hs0)) (Zhh k78 (hS.row_rd Y2) (hS.row_blk Y2)) (Zhh k82 (hS.row_rd Xi) (hS.row_blk Xi)) (Zhh k86 (hS.row_rd hs3) (hS.row_blk hs3)) (Zhh k90 (hS.row_rd Jq) (hS.row_blk Jq)) hm93) ?_
 rintro e w ⟨A94, c95, A98, c99, A102, c103, A106, c107, A110, c111, A114, c115, q118, rfl, k96, k100, k104, k108, k112, k116, hq119, okq120, hN⟩; refine ⟨_, rfl, ?_⟩; obtain ⟨hB, hS⟩ := hS.jn hN
 refine Zb 1 rfl ?_
 refine Za rfl rfl rfl (Z0 rfl rfl) ?_
 refine Za rfl rfl rfl (Z0 rfl rfl) ?_
 refine Yd rfl rfl Zbx hS (fun b122 w hS hB => ?_)
 refine Zl rfl rfl rfl CellsOf.agg hS ps0 Z8 (by kernel_rfl) rfl (fun w hS hB => ?_)
 refine Zb 1 rfl ?_
 refine Zg ?_
 refine Zc hK63 ?_
 refine Zd (fun K hK124 => ?_)
 refine Zd (fun K hK125 => ?_)
 refine Zf ?_
 refine Zb 1 rfl ?_
 refine Za rfl rfl rfl (Yz Vk rfl) ?_
 refine Za rfl rfl rfl (Xm rfl rfl) ?_
 refine Zb 1 rfl ?_
 refine Zq 26 rfl (fun hb => ?_) (fun hb => ?_)
 ·replace H := Zo H hb
  refine Zb 5 rfl ?_
  refine Zg ?_
  refine Zc hK125 ?_
  refine Zu rfl rfl ?_
  refine Zd (fun K hK126 => ?_)
  refine Zf ?_
  refine Zb 1 rfl ?_
  refine Zg ?_
  refine Zc hK126 ?_
  refine Zk ?_
  refine Zj ?_
  refine Zm rfl (RV.tmp rfl RV.nil) rfl ?_
  obtain rfl := QJ H
  replace hS := hS.cut 0
  exact ⟨rfl, hS⟩
 replace H := Zp H hb
 refine Za rfl rfl rfl (Ze Vd rfl) ?_
 refine Za rfl rfl rfl (Zh Zc1 rfl (Zhe _) hS hs0 trivial Zba) ?_
 refine Za rfl rfl rfl (Yz Zbs rfl) ?_
 refine Za rfl rfl rfl (Xm rfl rfl) ?_
 refine Zb 1 rfl ?_
 refine Zg ?_
 refine Zc hK125 ?_
 refine Z1 rfl (fun hb => ?_) (fun hb => ?_)
 ·replace H := Zo H hb
  refine Zd (fun K hK127 => ?_)
  refine Zf ?_
  refine Zb 1 rfl ?_
  refine Zg ?_
  refine Zc hK127 ?_
  refine Zk ?_
  refine Zj ?_
  refine Zm rfl (RV.tmp rfl RV.nil) rfl ?_
  obtain rfl := QJ H
  replace hS := hS.cut 0
  exact ⟨rfl, hS⟩
 replace H := Zp H hb
 refine Zs ?_
 refine Zc hK124 ?_
 refine Zd (fun K hK128 => ?_)
 refine Yn 12 [10] (fun i b => (i = 10 → b = b122 ∨ b = b61)) ⟨by kernel_rfl, by kernel_rfl⟩ hS (fun w hS hB => ?_)
 refine wpRF_start [⟨9, 5, 30, [.int .i64 0, .int .i64 0, .int .u8 0, .int .i64 0, .int .i64 0, .int .i64 0, .int .i64 0, .int .i64 0, .bool false, .slice none 0 0, .int .i64 0, .int .i64 0, .int .i64 0, .int .i64 0, .int .i64 0, .int .i64 0, .int .i64 0, .bool false, .slice none 0 0, .slice none 0 0, .slice none 0 0, .slice none 0 0]⟩] (.cons rfl Zbx rfl rfl rfl .nil) hS (fun hok => ?_)
 dsimp only [List.cons_append, List.nil_append]
 refine Zbm [false, false, true, true, true] [] (fun _ => True) (by decide +kernel) (fun _ h => by cases h) PFC.h (fun X Y tk ht w hS => ?_)
 refine LtK.put rfl rfl rfl (Zy rfl) ?_
 obtain ⟨e129, hi131, H⟩ := bind_some H
 obtain ⟨j130, A132, c133, hi131a, hi131b, hi131c⟩ := idxQ (q := q118) hq119 hi131
 refine LtK.put rfl rfl rfl (Xh Vk rfl rfl hi131a hi131c (Rd.el (hS.rd Jy) Zd2 hi131b)) ?_
 refine LtK.put rfl rfl rfl (Zdz Va rfl (Zhg _ _) (Rd.el (hS.rd Jy) Zd2 hi131b) Xg) ?_
 refine Zgw ht hS (by repeat (first | exact App.nil | apply App.cons)) (by repeat (first | exact App.nil | apply App.cons)) ?_
 dsimp only [List.cons_append, List.nil_append]
 refine Zet [true] 0 hok ⟨by decide, by decide +kernel, by decide, by decide⟩ rfl rfl (fun _ => rfl) (fun _ => rfl) rfl (hend_of (by decide +kernel)) (fun X Y tk ht w hS => ?_)
 try dsimp only [Zw]
 obtain ⟨r134, hm135, H⟩ := bind_some H
 refine Zn rfl rfl rfl rfl (by kernel_rfl) rfl (Zgt _ hm135) ?_
 rintro e w ⟨A136, c137, rfl, k138, hN⟩; refine ⟨_, rfl, ?_⟩; obtain ⟨hB, hS⟩ := hS.jn hN
 refine Zg ?_
 refine Zev ht hS hB (by repeat (first | exact App.nil | apply App.cons)) (by repeat (first | exact App.nil | apply App.cons)) ?_
 dsimp only [List.cons_append, List.nil_append]
 refine Zet [false, true] 1 hok ⟨by decide, by decide +kernel, by decide, by decide⟩ rfl rfl (fun _ => rfl) (fun _ => rfl) rfl (hend_of (by decide +kernel)) (fun X Y tk ht w hS => ?_)
 try dsimp only [Zw]
 obtain ⟨r140, hm141, H⟩ := bind_some H
 refine Zn rfl rfl rfl rfl (by kernel_rfl) rfl (c_ref20_New 2 3 2 r134 A136 c137 _ (Zhh k138 (hS.rd hs0) (hS.rd_blk hs0)) hm141) ?_
 rintro e w ⟨A142, c143, A146, c147, A150, c151, A154, c155, A158, c159, rfl, k144, k148, k152, k156, k160, hN⟩; refine ⟨_, rfl, ?_⟩; obtain ⟨hB, hS⟩ := hS.jn hN
 refine Zg ?_
 refine Zev ht hS hB (by repeat (first | exact App.nil | apply App.cons)) (by repeat (first | exact App.nil | apply App.cons)) ?_
 dsimp only [List.cons_append, List.nil_append]
 refine Zet [false, false, false, false, false, true] 5 hok ⟨by decide, by decide +kernel, by decide, by decide⟩ rfl rfl (fun _ => rfl) (fun _ => rfl) rfl (hend_of (by decide +kernel)) (fun X Y tk ht w hS => ?_)
 try dsimp only [Zw]
 obtain ⟨r162, hm163, H⟩ := bind_some H
 refine Zn rfl rfl rfl rfl (by kernel_rfl) rfl (c_elect_Vote r140 e129 A142 c143 A146 c147 A150 c151 A154 c155 A158 c159 A132 c133 _ (Zhh k144 (hS.row_rd hs0) (hS.row_blk hs0)) (Zhh k148 (hS.row_rd Y2) (hS.row_blk Y2)) (Zhh k152 (hS.row_rd Xi) (hS.row_blk Xi)) (Zhh k156 (hS.row_rd hs3) (hS.row_blk hs3)) (Zhh k160 (hS.row_rd Jq) (hS.row_blk Jq)) (Zhh (okq120 _ (List.mem_of_getElem? hi131b)) (hS.rds_rd hs13 hi131b) (hS.rds_blk hs13 hi131b)) hm163) ?_
 rintro e w ⟨A164, c165, A168, c169, A172, c173, A176, c177, A180, c181, A184, c185, q188, rfl, k166, k170, k174, k178, k182, k186, hq189, okq190, hN⟩; refine ⟨_, rfl, ?_⟩; obtain ⟨hB, hS⟩ := hS.jn hN
 refine Zg ?_
 refine Zev ht hS hB (by repeat (first | exact App.nil | apply App.cons)) (by repeat (first | exact App.nil | apply App.cons)) ?_
 dsimp only [List.cons_append, List.nil_append]
 refine Zbm [false, false, false, false, false, false, true, true] [] (fun _ => True) (by decide +kernel) (fun _ h => by cases h) PFC.h (fun X Y tk ht w hS => ?_)
 refine LtK.put rfl rfl rfl (Zy rfl) ?_
 refine LtK.put rfl rfl rfl (Z0 rfl rfl) ?_
 refine Zgw ht hS (by repeat (first | exact App.nil | apply App.cons)) (by repeat (first | exact App.nil | apply App.cons)) ?_
 dsimp only [List.cons_append, List.nil_append]
 refine Zbm [false, false, false, false, false, false, false, false, true] [10] (fun b => (b = b122 ∨ b = b61)) (by decide +kernel) (by intro j hj b hb; simp only [List.mem_cons, List.not_mem_nil, or_false] at hj; (try rcases hj with rfl | rfl | rfl | rfl | rfl) <;> first | (simp [hb]; done) | simp_all) PFC.h (fun X Y tk ht w hS => ?_)
 refine LtK.put rfl rfl rfl (Z0 rfl rfl) ?_
 refine Zgw ht hS (by repeat (first | exact App.nil | apply App.cons)) (by repeat (first | exact App.nil | apply App.cons)) ?_
 dsimp only [List.cons_append, List.nil_append]
 refine wpRF_done hok (by decide) (by decide +kernel) (fun _ => rfl) (fun _ => rfl) rfl (fun tk htk w hS => ?_)
 obtain ⟨b192, tkb192, rfl, htk194⟩ := tk_cons htk
 obtain rfl := tk_nil htk194
 dsimp only [tkH, tkL, List.map] at hS ⊢
 refine Yk [false, false, false, false, false, false, false, false, false, false, true] 10 ⟨by decide, by kernel_rfl, by kernel_rfl⟩ rfl rfl ?_
 try dsimp only [Zw]
 refine Zl rfl rfl rfl CellsOf.agg hS ps41 Z8 (by kernel_rfl) rfl (fun w hS hB => ?_)
 refine Zg ?_
 refine Yb (hB.sub (fun b _ h => by have h0 : b = b122 ∨ b = b61 := (by simpa using h); rcases h0 with h0 | h0; (rw [h0]; exact hS.ne 13 41 rfl rfl rfl); (rw [h0]; exact hS.ne 27 41 rfl rfl rfl))) ?_
 refine Zr [false, false, false, false, false, false, false, false, false, false, false, true] (by decide +kernel) PFC.h ?_
 refine LtK.put rfl rfl rfl (Z2 rfl) ?_
 refine LtK.nil ?_
 refine Ye (by kernel_rfl) ?_
 refine Zc hK128 ?_
 refine Zd (fun K hK195 => ?_)
 refine Zd (fun K hK196 => ?_)
 refine Zf ?_
 refine Zb 1 rfl ?_
 refine Za rfl rfl rfl (Yz Vk rfl) ?_
 refine Za rfl rfl rfl (Xm rfl rfl) ?_
 refine Zg ?_
 refine Zc hK196 ?_
 refine Z1 rfl (fun hb => ?_) (fun hb => ?_)
 ·replace H := Zo H hb
  refine Zd (fun K hK197 => ?_)
  refine Zf ?_
  refine Zb 1 rfl ?_
  refine Zg ?_
  refine Zc hK197 ?_
  refine Zk ?_
  refine Zj ?_
  refine Zm rfl (RV.tmp rfl RV.nil) rfl ?_
  obtain rfl := QJ H
  replace hS := hS.cut 0
  exact ⟨rfl, hS⟩
 replace H := Zp H hb
 refine Zs ?_
 refine Zc hK195 ?_
 refine Zd (fun K hK198 => ?_)
 refine Yn 11 [9] (fun i b => (i = 9 → b = b122 ∨ b = b61 ∨ b = b192)) ⟨by kernel_rfl, by kernel_rfl⟩ hS (fun w hS hB => ?_)
 refine wpRF_start [⟨8, 7, 30, [.int .i64 0, .int .i64 0, .int .u8 0, .int .i64 0, .int .i64 0, .int .i64 0, .int .i64 0, .int .i64 0, .bool false, .slice none 0 0, .int .i64 0, .int .i64 0, .int .i64 0, .int .i64 0, .int .i64 0, .int .i64 0, .int .i64 0, .bool false, .slice none 0 0, .slice none 0 0, .slice none 0 0, .slice none 0 0]⟩] (.cons rfl Zbx rfl rfl rfl .nil) hS (fun hok => ?_)
 dsimp only [List.cons_append, List.nil_append]
 refine Zbm [true, true, true, true] [] (fun _ => True) (by decide +kernel) (fun _ h => by cases h) PFC.h (fun X Y tk ht w hS => ?_)
 refine LtK.put rfl rfl rfl (Zi Zx rfl (Zhg _ _) hS hs13 trivial Zv) ?_
 refine LtK.put rfl rfl rfl (Zy rfl) ?_
 obtain ⟨e199, hi201, H⟩ := bind_some H
 obtain ⟨j200, A202, c203, hi201a, hi201b, hi201c⟩ := idxQ (q := q188) hq189 hi201
 refine LtK.put rfl rfl rfl (Xh Vk rfl rfl hi201a hi201c (Rd.el (hS.rd hs5) Zd2 hi201b)) ?_
 refine LtK.put rfl rfl rfl (Zdz Va rfl (Zhg _ _) (Rd.el (hS.rd hs5) Zd2 hi201b) Xg) ?_
 refine Zgw ht hS (by repeat (first | exact App.nil | apply App.cons)) (by repeat (first | exact App.nil | apply App.cons)) ?_
 dsimp only [List.cons_append, List.nil_append]
 refine Zet [false, false, false, false, true] 4 hok ⟨by decide, by decide +kernel, by decide, by decide⟩ rfl rfl (fun _ => rfl) (fun _ => rfl) rfl (hend_of (by decide +kernel)) (fun X Y tk ht w hS => ?_)
 try dsimp only [Zw]
 obtain ⟨r204, hm205, H⟩ := bind_some H
 refine Zn rfl rfl rfl rfl (by kernel_rfl) rfl (c_elect_Voted r92.1 e199 A94 c95 A98 c99 A102 c103 A106 c107 A110 c111 A202 c203 _ (Zhh k96 (hS.rd hs14) (hS.rd_blk hs14)) (Zhh k100 (hS.row_rd hs15) (hS.row_blk hs15)) (Zhh k104 (hS.row_rd hs16) (hS.row_blk hs16)) (Zhh k108 (hS.row_rd hs17) (hS.row_blk hs17)) (Zhh k112 (hS.row_rd hs18) (hS.row_blk hs18)) (Zhh (okq190 _ (List.mem_of_getElem? hi201b)) (hS.rds_rd Jy hi201b) (hS.rds_blk Jy hi201b)) hm205) ?_
 rintro e w ⟨A206, c207, A210, c211, A214, c215, A218, c219, A222, c223, A226, c227, q230, rfl, k208, k212, k216, k220, k224, k228, hq231, okq232, hN⟩; refine ⟨_, rfl, ?_⟩; obtain ⟨hB, hS⟩ := hS.jn hN
 refine Zg ?_
 refine Zev ht hS hB (by repeat (first | exact App.nil | apply App.cons)) (by repeat (first | exact App.nil | apply App.cons)) ?_
 dsimp only [List.cons_append, List.nil_append]
 refine Zbm [false, false, false, false, false, true, true] [] (fun _ => True) (by decide +kernel) (fun _ h => by cases h) PFC.h (fun X Y tk ht w hS => ?_)
 refine LtK.put rfl rfl rfl (Zy rfl) ?_
 refine LtK.put rfl rfl rfl (Z0 rfl rfl) ?_
 refine Zgw ht hS (by repeat (first | exact App.nil | apply App.cons)) (by repeat (first | exact App.nil | apply App.cons)) ?_
 dsimp only [List.cons_append, List.nil_append]
 refine Zbm [false, false, false, false, false, false, false, true] [9] (fun b => (b = b122 ∨ b = b61 ∨ b = b192)) (by decide +kernel) (by intro j hj b hb; simp only [List.mem_cons, List.not_mem_nil, or_false] at hj; (try rcases hj with rfl | rfl | rfl | rfl | rfl) <;> first | (simp [hb]; done) | simp_all) PFC.h (fun X Y tk ht w hS => ?_)
 refine LtK.put rfl rfl rfl (Z0 rfl rfl) ?_
 refine Zgw ht hS (by repeat (first | exact App.nil | apply App.cons)) (by repeat (first | exact App.nil | apply App.cons)) ?_
 dsimp only [List.cons_append, List.nil_append]
 refine wpRF_done hok (by decide) (by decide +kernel) (fun _ => rfl) (fun _ => rfl) rfl (fun tk htk w hS => ?_)
 obtain ⟨b234, tkb234, rfl, htk236⟩ := tk_cons htk
 obtain rfl := tk_nil htk236
 dsimp only [tkH, tkL, List.map] at hS ⊢
 refine Yk [false, false, false, false, false, false, false, false, false, true] 9 ⟨by decide, by kernel_rfl, by kernel_rfl⟩ rfl rfl ?_
 try dsimp only [Zw]
 refine Zl rfl rfl rfl CellsOf.agg hS ps49 Z8 (by kernel_rfl) rfl (fun w hS hB => ?_)
 refine Zg ?_
 refine Yb (hB.sub (fun b _ h => by have h0 : b = b122 ∨ b = b61 ∨ b = b192 := (by simpa using h); rcases h0 with h0 | h0 | h0; (rw [h0]; exact hS.ne 20 49 rfl rfl rfl); (rw [h0]; exact hS.ne 34 49 rfl rfl rfl); (rw [h0]; exact hS.ne 48 49 rfl rfl rfl))) ?_
 refine Zr [false, false, false, false, false, false, false, false, false, false, true] (by decide +kernel) PFC.h ?_
 refine LtK.put rfl rfl rfl (Z2 rfl) ?_
 refine LtK.nil ?_
 refine Ye (by kernel_rfl) ?_
 refine Zc hK198 ?_
 refine Zd (fun K hK237 => ?_)
 refine Zf ?_
 refine Za rfl rfl rfl (Zi Zx rfl (Zhe _) hS hs48 trivial Zv) ?_
 refine Za rfl rfl rfl (Xn (cells := [.int .u8 1, .int .i64 3, .int .i64 2, .int .i64 1, .int .i64 1, .int .i64 0, .int .i64 0, .int .i64 0, .bool false, .slice none 0 0, .int .i64 0, .int .i64 0, .int .i64 0, .int .i64 0, .bool false]) rfl (by kernel_rfl)) ?_
 obtain ⟨r238, hm239, H⟩ := bind_some H
 refine Zn rfl rfl rfl rfl (by kernel_rfl) rfl (c_elect_Vote r162.1 (⟨1, 3, 2, 1, 1, 0, 0, 0, false, [], (⟨0, 0, 0, 0, false⟩ : St)⟩ : Ms) A164 c165 A168 c169 A172 c173 A176 c177 A180 c181 none 0 _ (Zhh k166 (hS.rd hs7) (hS.rd_blk hs7)) (Zhh k170 (hS.row_rd hs8) (hS.row_blk hs8)) (Zhh k174 (hS.row_rd hs9) (hS.row_blk hs9)) (Zhh k178 (hS.row_rd hs10) (hS.row_blk hs10)) (Zhh k182 (hS.row_rd Zbo) (hS.row_blk Zbo)) (SlI.nil _ _) hm239) ?_
 rintro e w ⟨A240, c241, A244, c245, A248, c249, A252, c253, A256, c257, A260, c261, q264, rfl, k242, k246, k250, k254, k258, k262, hq265, okq266, hN⟩; refine ⟨_, rfl, ?_⟩; obtain ⟨hB, hS⟩ := hS.jn hN
 refine Zb 1 rfl ?_
 refine Za rfl rfl rfl (Z0 rfl rfl) ?_
 refine Za rfl rfl rfl (Z0 rfl rfl) ?_
 refine Yd rfl rfl Zbx hS (fun b268 w hS hB => ?_)
 refine Zl rfl rfl rfl CellsOf.agg hS ps0 Z8 (by kernel_rfl) rfl (fun w hS hB => ?_)
 refine Zb 1 rfl ?_
 refine Zg ?_
 refine Zc hK237 ?_
 refine Zd (fun K hK270 => ?_)
 refine Zd (fun K hK271 => ?_)
 refine Zf ?_
 refine Zb 1 rfl ?_
 refine Za rfl rfl rfl (Yz Vk rfl) ?_
 refine Za rfl rfl rfl (Xm rfl rfl) ?_
 refine Zg ?_
 refine Zc hK271 ?_
 refine Z1 rfl (fun hb => ?_) (fun hb => ?_)
 ·replace H := Zo H hb
  refine Zd (fun K hK272 => ?_)
  refine Zf ?_
  refine Zb 1 rfl ?_
  refine Zg ?_
  refine Zc hK272 ?_
  refine Zk ?_
  refine Zj ?_
  refine Zm rfl (RV.tmp rfl RV.nil) rfl ?_
  obtain rfl := QJ H
  replace hS := hS.cut 0
  exact ⟨rfl, hS⟩
 replace H := Zp H hb
 refine Zs ?_
 refine Zc hK270 ?_
 refine Zd (fun K hK273 => ?_)
 refine Zf ?_
 refine Za rfl rfl rfl (Ze Vv rfl) ?_
 refine Za rfl rfl rfl (Zh Zas rfl (Zhe _) hS hs42 trivial Jt) ?_
 refine Za rfl rfl rfl (Yr rfl rfl) ?_
 refine Zb 1 rfl ?_
 refine Zq 64 rfl (fun hb => ?_) (fun hb => ?_)
 rotate_left
 ·replace H := Zp H hb
  refine Zb 83 rfl ?_
  refine Zg ?_
  refine Zc hK273 ?_
  refine Zk ?_
  refine Zm rfl (RV.tmp rfl RV.nil) rfl ?_
  obtain rfl := QJ H
  replace hS := hS.cut 0
  exact ⟨rfl, hS⟩
 replace H := Zo H hb
 refine Zb 1 rfl ?_
 refine Za rfl rfl rfl (Yz Vk rfl) ?_
 refine Za rfl rfl rfl (Yr rfl rfl) ?_
 refine Zb 2 rfl ?_
 refine Zq 69 rfl (fun hb => ?_) (fun hb => ?_)
 rotate_left
 ·replace H := Zp H hb
  refine Zb 78 rfl ?_
  refine Zg ?_
  refine Zc hK273 ?_
  refine Zk ?_
  refine Zm rfl (RV.tmp rfl RV.nil) rfl ?_
  obtain rfl := QJ H
  replace hS := hS.cut 0
  exact ⟨rfl, hS⟩
 replace H := Zo H hb
 refine Za rfl rfl rfl (Ze Yq rfl) ?_
 refine Za rfl rfl rfl (Ze Xl rfl) ?_
 refine Za rfl rfl rfl (Zh Z3 rfl (Zhe _) hS hs42 trivial Vz) ?_
 refine Za rfl rfl rfl (Yr rfl rfl) ?_
 refine Zb 2 rfl ?_
 refine Zq 75 rfl (fun hb => ?_) (fun hb => ?_)
 rotate_left
 ·replace H := Zp H hb
  refine Zb 72 rfl ?_
  refine Zg ?_
  refine Zc hK273 ?_
  refine Zk ?_
  refine Zm rfl (RV.tmp rfl RV.nil) rfl ?_
  obtain rfl := QJ H
  replace hS := hS.cut 0
  exact ⟨rfl, hS⟩
 replace H := Zo H hb
 refine Za rfl rfl rfl (Ze Yq rfl) ?_
 refine Za rfl rfl rfl (Ze X7 rfl) ?_
 refine Za rfl rfl rfl (Zh Vm rfl (Zhe _) hS hs42 trivial Zfr) ?_
 refine Za rfl rfl rfl (Yz Xq rfl) ?_
 refine Za rfl rfl rfl (Yr rfl rfl) ?_
 refine Zb 2 rfl ?_
 refine Zq 82 rfl (fun hb => ?_) (fun hb => ?_)
 rotate_left
 ·replace H := Zp H hb
  refine Zb 65 rfl ?_
  refine Zg ?_
  refine Zc hK273 ?_
  refine Zk ?_
  refine Zm rfl (RV.tmp rfl RV.nil) rfl ?_
  obtain rfl := QJ H
  replace hS := hS.cut 0
  exact ⟨rfl, hS⟩
 replace H := Zo H hb
 refine Za rfl rfl rfl (Ze Vv rfl) ?_
 refine Za rfl rfl rfl (Zh Zas rfl (Zhe _) hS hs28 trivial Jt) ?_
 refine Za rfl rfl rfl (Yr rfl rfl) ?_
 refine Zb 2 rfl ?_
 refine Zq 87 rfl (fun hb => ?_) (fun hb => ?_)
 rotate_left
 ·replace H := Zp H hb
  refine Zb 60 rfl ?_
  refine Zg ?_
  refine Zc hK273 ?_
  refine Zk ?_
  refine Zm rfl (RV.tmp rfl RV.nil) rfl ?_
  obtain rfl := QJ H
  replace hS := hS.cut 0
  exact ⟨rfl, hS⟩
 replace H := Zo H hb
 refine Zb 1 rfl ?_
 obtain ⟨e274, hi276, H⟩ := bind_some H
 obtain ⟨j275, A277, c278, hi276a, hi276b, hi276c⟩ := idxQ (q := q188) hq189 hi276
 refine Za rfl rfl rfl (Xh Vk rfl rfl hi276a hi276c (Rd.el (hS.rd hs20) Zd2 hi276b)) ?_
 refine Za rfl rfl rfl (Zb9 Ze5 rfl (Rd.el (hS.rd hs20) Zd2 hi276b)) ?_
 refine Za rfl rfl rfl (yx_ld sc_4 rfl (Zhe _) (Rd.el (hS.rd hs20) Zd2 hi276b) rfl) ?_
 refine Zb 2 rfl ?_
 refine Zq 93 rfl (fun hb => ?_) (fun hb => ?_)
 rotate_left
 ·replace H := Zp H hb
  refine Zb 54 rfl ?_
  refine Zg ?_
  refine Zc hK273 ?_
  refine Zk ?_
  refine Zm rfl (RV.tmp rfl RV.nil) rfl ?_
  obtain rfl := QJ H
  replace hS := hS.cut 0
  exact ⟨rfl, hS⟩
 replace H := Zo H hb
 refine Za rfl rfl rfl (Ze Yq rfl) ?_
 refine Za rfl rfl rfl (Ze Vp rfl) ?_
 refine Za rfl rfl rfl (Zh Z3 rfl (Zhe _) hS hs56 trivial sg11_1) ?_
 refine Za rfl rfl rfl (Yr rfl rfl) ?_
 refine Zb 2 rfl ?_
 refine Zq 99 rfl (fun hb => ?_) (fun hb => ?_)
 rotate_left
 ·replace H := Zp H hb
  refine Zb 48 rfl ?_
  refine Zg ?_
  refine Zc hK273 ?_
  refine Zk ?_
  refine Zm rfl (RV.tmp rfl RV.nil) rfl ?_
  obtain rfl := QJ H
  replace hS := hS.cut 0
  exact ⟨rfl, hS⟩
 replace H := Zo H hb
 refine Za rfl rfl rfl (Ze Vv rfl) ?_
 refine Za rfl rfl rfl (Zh Zas rfl (Zhe _) hS hs57 trivial Jt) ?_
 refine Za rfl rfl rfl (Yr rfl rfl) ?_
 refine Zb 2 rfl ?_
 refine Zq 104 rfl (fun hb => ?_) (fun hb => ?_)
 rotate_left
 ·replace H := Zp H hb
  refine Zb 43 rfl ?_
  refine Zg ?_
  refine Zc hK273 ?_
  refine Zk ?_
  refine Zm rfl (RV.tmp rfl RV.nil) rfl ?_
  obtain rfl := QJ H
  replace hS := hS.cut 0
  exact ⟨rfl, hS⟩
 replace H := Zo H hb
 refine Zb 1 rfl ?_
 refine Za rfl rfl rfl (Yz Vk rfl) ?_
 refine Za rfl rfl rfl (Yr rfl rfl) ?_
 refine Zb 2 rfl ?_
 refine Zq 109 rfl (fun hb => ?_) (fun hb => ?_)
 rotate_left
 ·replace H := Zp H hb
  refine Zb 38 rfl ?_
  refine Zg ?_
  refine Zc hK273 ?_
  refine Zk ?_
  refine Zm rfl (RV.tmp rfl RV.nil) rfl ?_
  obtain rfl := QJ H
  replace hS := hS.cut 0
  exact ⟨rfl, hS⟩
 replace H := Zo H hb
 refine Za rfl rfl rfl (Ze V8 rfl) ?_
 refine Za rfl rfl rfl (Zh Vy rfl (Zhe _) hS hs57 trivial Zc7) ?_
 obtain ⟨e279, hi281, H⟩ := bind_some H
 obtain ⟨j280, hi281a, hi281b, hi281c⟩ := Y0 hi281
 refine Za rfl rfl rfl (Xh Vh rfl rfl hi281a hi281c (Rd.el (hS.row_rd Jc) Y6 hi281b)) ?_
 refine Za rfl rfl rfl (Zap Z3 rfl (Zhe _) (Rd.el (hS.row_rd Jc) Y6 hi281b) rfl) ?_
 refine Za rfl rfl rfl (Yr rfl rfl) ?_
 refine Zb 2 rfl ?_
 refine Zq 116 rfl (fun hb => ?_) (fun hb => ?_)
 rotate_left
 ·replace H := Zp H hb
  refine Zb 31 rfl ?_
  refine Zg ?_
  refine Zc hK273 ?_
  refine Zk ?_
  refine Zm rfl (RV.tmp rfl RV.nil) rfl ?_
  obtain rfl := QJ H
  replace hS := hS.cut 0
  exact ⟨rfl, hS⟩
 replace H := Zo H hb
 refine Zb 1 rfl ?_
 obtain ⟨e282, hi284, H⟩ := bind_some H
 obtain ⟨j283, A285, c286, hi284a, hi284b, hi284c⟩ := idxQ (q := q264) hq265 hi284
 refine Za rfl rfl rfl (Xh Vk rfl rfl hi284a hi284c (Rd.el (hS.rd Jy) Zd2 hi284b)) ?_
 refine Za rfl rfl rfl (Zb9 Ze5 rfl (Rd.el (hS.rd Jy) Zd2 hi284b)) ?_
 refine Za rfl rfl rfl (yx_ld sc_4 rfl (Zhe _) (Rd.el (hS.rd Jy) Zd2 hi284b) rfl) ?_
 refine Za rfl rfl rfl (Yo rfl) ?_
 refine Zb 2 rfl ?_
 refine Zq 123 rfl (fun hb => ?_) (fun hb => ?_)
 rotate_left
 ·replace H := Zp H hb
  refine Zb 24 rfl ?_
  refine Zg ?_
  refine Zc hK273 ?_
  refine Zk ?_
  refine Zm rfl (RV.tmp rfl RV.nil) rfl ?_
  obtain rfl := QJ H
  replace hS := hS.cut 0
  exact ⟨rfl, hS⟩
 replace H := Zo H hb
 refine Za rfl rfl rfl (Ze Yq rfl) ?_
 refine Za rfl rfl rfl (Ze Vp rfl) ?_
 refine Za rfl rfl rfl (Zh Z3 rfl (Zhe _) hS hs0 trivial sg11_1) ?_
 refine Za rfl rfl rfl (Yr rfl rfl) ?_
 refine Zb 2 rfl ?_
 refine Zq 129 rfl (fun hb => ?_) (fun hb => ?_)
 rotate_left
 ·replace H := Zp H hb
  refine Zb 18 rfl ?_
  refine Zg ?_
  refine Zc hK273 ?_
  refine Zk ?_
  refine Zm rfl (RV.tmp rfl RV.nil) rfl ?_
  obtain rfl := QJ H
  replace hS := hS.cut 0
  exact ⟨rfl, hS⟩
 replace H := Zo H hb
 refine Ym (ps := [(0, .const (.bool true)), (1, .const (.bool true)), (2, .const (.bool false))]) [.bool true, .bool true, .bool false] Zbs zc_4 rfl rfl rfl rfl rfl (by kernel_rfl) hS (fun b287 w hS hB => ?_)
 obtain ⟨r289, hm290, H⟩ := bind_some H
 refine Zn rfl rfl rfl rfl (by kernel_rfl) rfl (Zc9 ([true, true, false] : List Bool) (some ⟨b287, 0, none⟩) 3 _ (Zhh ⟨Nat.le_refl 3, by decide⟩ (hS.box_rd hs0) (hS.box_blk hs0)) hm290) ?_
 rintro e w ⟨rfl, hN⟩; refine ⟨_, rfl, ?_⟩; obtain ⟨hB, hS⟩ := hS.jn hN
 refine Zb 2 rfl ?_
 refine Zq 133 rfl (fun hb => ?_) (fun hb => ?_)
 rotate_left
 ·replace H := Zp H hb
  refine Zb 14 rfl ?_
  refine Zg ?_
  refine Zc hK273 ?_
  refine Zk ?_
  refine Zm rfl (RV.tmp rfl RV.nil) rfl ?_
  obtain rfl := QJ H
  replace hS := hS.cut 0
  exact ⟨rfl, hS⟩
 replace H := Zo H hb
 refine Ym (ps := [(0, .const (.bool true)), (1, .const (.bool false))]) [.bool true, .bool false] Zbs zc_4 rfl rfl rfl rfl rfl (by kernel_rfl) hS (fun b291 w hS hB => ?_)
 obtain ⟨r293, hm294, H⟩ := bind_some H
 refine Zn rfl rfl rfl rfl (by kernel_rfl) rfl (Zc9 ([true, false] : List Bool) (some ⟨b291, 0, none⟩) 2 _ (Zhh ⟨Nat.le_refl 2, by decide⟩ (hS.box_rd hs0) (hS.box_blk hs0)) hm294) ?_
 rintro e w ⟨rfl, hN⟩; refine ⟨_, rfl, ?_⟩; obtain ⟨hB, hS⟩ := hS.jn hN
 refine Za rfl rfl rfl (Yo rfl) ?_
 refine Zb 2 rfl ?_
 refine Zq 138 rfl (fun hb => ?_) (fun hb => ?_)
 rotate_left
 ·replace H := Zp H hb
  refine Zb 9 rfl ?_
  refine Zg ?_
  refine Zc hK273 ?_
  refine Zk ?_
  refine Zm rfl (RV.tmp rfl RV.nil) rfl ?_
  obtain rfl := QJ H
  replace hS := hS.cut 0
  exact ⟨rfl, hS⟩
 replace H := Zo H hb
 refine Za rfl rfl rfl (Zi Zx rfl (Zhe _) hS hs30 trivial Zv) ?_
 obtain ⟨r295, hm296, H⟩ := bind_some H
 refine Zn rfl rfl rfl rfl (by kernel_rfl) rfl (Zdt r92.1 0 0 A94 c95 A98 c99 A102 c103 A106 c107 A110 c111 _ (Zhh k96 (hS.rd hs31) (hS.rd_blk hs31)) (Zhh k100 (hS.row_rd hs32) (hS.row_blk hs32)) (Zhh k104 (hS.row_rd hs33) (hS.row_blk hs33)) (Zhh k108 (hS.row_rd hs34) (hS.row_blk hs34)) (Zhh k112 (hS.row_rd hs35) (hS.row_blk hs35)) hm296) ?_
 rintro e w ⟨rfl, hN⟩; refine ⟨_, rfl, ?_⟩; obtain ⟨hB, hS⟩ := hS.jn hN
 refine Zb 2 rfl ?_
 refine Zq 142 rfl (fun hb => ?_) (fun hb => ?_)
 rotate_left
 ·replace H := Zp H hb
  refine Zb 5 rfl ?_
  refine Zg ?_
  refine Zc hK273 ?_
  refine Zk ?_
  refine Zm rfl (RV.tmp rfl RV.nil) rfl ?_
  obtain rfl := QJ H
  replace hS := hS.cut 0
  exact ⟨rfl, hS⟩
 replace H := Zo H hb
 refine Za rfl rfl rfl (Zi Zx rfl (Zhe _) hS hs59 trivial Zv) ?_
 obtain ⟨r297, hm298, H⟩ := bind_some H
 refine Zn rfl rfl rfl rfl (by kernel_rfl) rfl (Zdt r204.1 0 9 A206 c207 A210 c211 A214 c215 A218 c219 A222 c223 _ (Zhh k208 (hS.rd hs10) (hS.rd_blk hs10)) (Zhh k212 (hS.row_rd Zbo) (hS.row_blk Zbo)) (Zhh k216 (hS.row_rd Jc) (hS.row_blk Jc)) (Zhh k220 (hS.row_rd hs13) (hS.row_blk hs13)) (Zhh k224 (hS.row_rd hs14) (hS.row_blk hs14)) hm298) ?_
 rintro e w ⟨rfl, hN⟩; refine ⟨_, rfl, ?_⟩; obtain ⟨hB, hS⟩ := hS.jn hN
 refine Za rfl rfl rfl (Yo rfl) ?_
 refine Zb 2 rfl ?_
 refine Zg ?_
 refine Zc hK273 ?_
 refine Zk ?_
 refine Zm rfl (RV.tmp rfl RV.nil) rfl ?_
 obtain rfl := QJ H
 replace hS := hS.cut 0
 exact ⟨rfl, hS⟩
theorem Zea (x0 : Co) (A0_ : OA) (c0_ : Nat) (A1_ : OA) (c1_ : Nat) (A2_ : OA) (c2_ : Nat) (A3_ : OA) (c3_ : Nat) (A4_ : OA) (c4_ : Nat) (w0 : World) (s0_ : SlI w0 V3 A0_ c0_ x0.tuple.log) (s1_ : SlI w0 enO A1_ c1_ x0.votes) (s2_ : SlI w0 X2 A2_ c2_ x0.next) (s3_ : SlI w0 X2 A3_ c3_ x0.mtch) (s4_ : SlI w0 X2 A4_ c4_ x0.caps) {r : Co} (H : Zax x0 = some r) : Calls Tryz.prog 39 #[.agg #[.int .i64 x0.id, .int .i64 x0.n, .int .u8 x0.role, .int .i64 x0.binary, .int .i64 x0.tuple.snap.index, .int .i64 x0.tuple.snap.term, .int .i64 x0.tuple.snap.sum, .int .i64 x0.tuple.snap.level, .bool x0.tuple.snap.final, .slice A0_ x0.tuple.log.length c0_, .int .i64 x0.tuple.term, .int .i64 x0.tuple.vote, .int .i64 x0.commit, .int .i64 x0.applied.index, .int .i64 x0.applied.term, .int .i64 x0.applied.sum, .int .i64 x0.applied.level, .bool x0.applied.final, .slice A1_ x0.votes.length c1_, .slice A2_ x0.next.length c2_, .slice A3_ x0.mtch.length c3_, .slice A4_ x0.caps.length c4_]] w0 fun e w' => ∃ (A0 : OA) (c0 : Nat) (A1 : OA) (c1 : Nat) (A2 : OA) (c2 : Nat) (A3 : OA) (c3 : Nat) (A4 : OA) (c4 : Nat), e = .returned (.agg #[.int .i64 r.id, .int .i64 r.n, .int .u8 r.role, .int .i64 r.binary, .int .i64 r.tuple.snap.index, .int .i64 r.tuple.snap.term, .int .i64 r.tuple.snap.sum, .int .i64 r.tuple.snap.level, .bool r.tuple.snap.final, .slice A0 r.tuple.log.length c0, .int .i64 r.tuple.term, .int .i64 r.tuple.vote, .int .i64 r.commit, .int .i64 r.applied.index, .int .i64 r.applied.term, .int .i64 r.applied.sum, .int .i64 r.applied.level, .bool r.applied.final, .slice A1 r.votes.length c1, .slice A2 r.next.length c2, .slice A3 r.mtch.length c3, .slice A4 r.caps.length c4]) ∧ (r.tuple.log.length ≤ c0 ∧ c0 ≤ maxLen) ∧ (r.votes.length ≤ c1 ∧ c1 ≤ maxLen) ∧ (r.next.length ≤ c2 ∧ c2 ≤ maxLen) ∧ (r.mtch.length ≤ c3 ∧ c3 ≤ maxLen) ∧ (r.caps.length ≤ c4 ∧ c4 ≤ maxLen) ∧ St0 All w0 w' [.row (.slice A0 r.tuple.log.length c0) 53 3 r.tuple.log.length (Yf V3 r.tuple.log), .row (.slice A1 r.votes.length c1) 4 1 r.votes.length (Yf enO r.votes), .row (.slice A2 r.next.length c2) 3 1 r.next.length (Yf X2 r.next), .row (.slice A3 r.mtch.length c3) 3 1 r.mtch.length (Yf X2 r.mtch), .row (.slice A4 r.caps.length c4) 3 1 r.caps.length (Yf X2 r.caps)] := by
 unfold Zax at H
 refine Yh Tryz.func39 rfl Tryz.ntmps39 rfl ?_
 have hS := St0.start All w0
 refine Zd (fun K hK1 => ?_)
 refine Zf ?_
 refine Z7 rfl rfl rfl CellsOf.agg hS (fun b2 w hS hB => ?_)
 refine Yd rfl rfl Zbx hS (fun b4 w hS hB => ?_)
 refine Zg ?_
 refine Zc hK1 ?_
 refine Zd (fun K hK6 => ?_)
 refine Zf ?_
 refine Za rfl rfl rfl (Ze Yq rfl) ?_
 refine Za rfl rfl rfl (Zi Yp rfl (Zhe _) hS Y2 trivial Zbt) ?_
 obtain ⟨r7, hm8, H⟩ := bind_some H
 refine Zn rfl rfl rfl rfl (by kernel_rfl) rfl (Vs x0.tuple A0_ c0_ _ (Zhh s0_.k (hS.rd0 s0_.rd) (hS.blk0 s0_.blk)) hm8) ?_
 rintro e w ⟨A9, c10, rfl, k11, hN⟩; refine ⟨_, rfl, ?_⟩; obtain ⟨hB, hS⟩ := hS.jn hN
 refine Za rfl rfl rfl (Ze Yq rfl) ?_
 refine Zl rfl rfl rfl CellsOf.agg hS ps2 st4_8 (by kernel_rfl) rfl (fun w hS hB => ?_)
 refine Zg ?_
 refine Zc hK6 ?_
 refine Zd (fun K hK13 => ?_)
 refine Zf ?_
 refine Zbj Zbs rfl rfl hS (fun b14 w hS hB => ?_)
 refine Za rfl rfl rfl (Ze Vd rfl) ?_
 refine Za rfl rfl rfl (Zh Zc1 rfl (Zhe _) hS hs3 trivial Zba) ?_
 obtain ⟨l16, hf17, H⟩ := bind_some H
 refine J1 (ys := x0.votes) V5 oc_enO em_27 (by decide) rfl rfl rfl rfl hS (fun _ => ps0) (hS.rd0 s1_.rd) hf17 (fun A18 c19 w k20 hS => ?_)
 refine Za rfl rfl rfl (Ze Vd rfl) ?_
 refine Zl rfl rfl rfl CellsOf.slice hS ps3 st18_1 (by kernel_rfl) rfl (fun w hS hB => ?_)
 refine Zg ?_
 refine Zc hK13 ?_
 refine Zd (fun K hK21 => ?_)
 refine Zf ?_
 refine Zbj Vh rfl rfl hS (fun b22 w hS hB => ?_)
 refine Za rfl rfl rfl (Ze Zce rfl) ?_
 refine Za rfl rfl rfl (Zh Vy rfl (Zhe _) hS Jq trivial Zfm) ?_
 obtain ⟨l24, hf25, H⟩ := bind_some H
 refine J1 (ys := x0.next) Y6 oc_enI em_28 (by decide) rfl rfl rfl rfl hS (fun _ => ps0) (hS.rd0 s2_.rd) hf25 (fun A26 c27 w k28 hS => ?_)
 refine Za rfl rfl rfl (Ze Zce rfl) ?_
 refine Zl rfl rfl rfl CellsOf.slice hS ps4 st19_1 (by kernel_rfl) rfl (fun w hS hB => ?_)
 refine Zg ?_
 refine Zc hK21 ?_
 refine Zd (fun K hK29 => ?_)
 refine Zf ?_
 refine Zbj Vh rfl rfl hS (fun b30 w hS hB => ?_)
 refine Za rfl rfl rfl (Ze Zbf rfl) ?_
 refine Za rfl rfl rfl (Zh Vy rfl (Zhe _) hS hs5 trivial Zec) ?_
 obtain ⟨l32, hf33, H⟩ := bind_some H
 refine J1 (ys := x0.mtch) Y6 oc_enI em_28 (by decide) rfl rfl rfl rfl hS (fun _ => ps0) (hS.rd0 s3_.rd) hf33 (fun A34 c35 w k36 hS => ?_)
 refine Za rfl rfl rfl (Ze Zbf rfl) ?_
 refine Zl rfl rfl rfl CellsOf.slice hS ps5 st20_1 (by kernel_rfl) rfl (fun w hS hB => ?_)
 refine Zg ?_
 refine Zc hK29 ?_
 refine Zd (fun K hK37 => ?_)
 refine Zf ?_
 refine Zbj Vh rfl rfl hS (fun b38 w hS hB => ?_)
 refine Za rfl rfl rfl (Ze V8 rfl) ?_
 refine Za rfl rfl rfl (Zh Vy rfl (Zhe _) hS Jy trivial Zc7) ?_
 obtain ⟨l40, hf41, H⟩ := bind_some H
 refine J1 (ys := x0.caps) Y6 oc_enI em_28 (by decide) rfl rfl rfl rfl hS (fun _ => ps0) (hS.rd0 s4_.rd) hf41 (fun A42 c43 w k44 hS => ?_)
 refine Za rfl rfl rfl (Ze V8 rfl) ?_
 refine Zl rfl rfl rfl CellsOf.slice hS ps6 st21_1 (by kernel_rfl) rfl (fun w hS hB => ?_)
 refine Zg ?_
 refine Zc hK37 ?_
 refine Zd (fun K hK45 => ?_)
 refine Zf ?_
 refine Za rfl rfl rfl (Zi Zx rfl (Zhe _) hS Jy trivial Zv) ?_
 refine Zl rfl rfl rfl CellsOf.agg hS ps5 Z8 (by kernel_rfl) rfl (fun w hS hB => ?_)
 refine Zg ?_
 refine Zc hK45 ?_
 refine Zk ?_
 refine Zm rfl (RV.cell rfl (Zt Zx hS hs5 Zv) RV.nil) rfl ?_
 obtain rfl := QJ H
 have hS := hS.front 0 rfl
 have hS := hS.front 1 rfl
 have hS := hS.front 2 rfl
 have hS := hS.front 3 rfl
 have hS := hS.front 4 rfl
 replace hS := hS.cut 5
 exact ⟨A9, c10, A18, c19, A26, c27, A34, c35, A42, c43, rfl, k11, k20, k28, k36, k44, hS⟩
theorem Zc2 (x0 : Int) (w0 : World) {r : Bool} (H : Je x0 = some r) : Calls Tryz.prog 124 #[.int .i64 x0] w0 fun e w' => e = .returned (.bool r) ∧ St0 All w0 w' [] := by
 unfold Je at H
 refine Yh Tryz.func124 rfl Tryz.ntmps124 rfl ?_
 have hS := St0.start All w0
 refine Zd (fun K hK1 => ?_)
 refine Zf ?_
 refine Zb 1 rfl ?_
 refine Zg ?_
 refine Zc hK1 ?_
 refine Zd (fun K hK2 => ?_)
 refine Zf ?_
 refine Zb 1 rfl ?_
 refine Za rfl rfl rfl (Zcz rfl rfl) ?_
 refine Zb 1 rfl ?_
 refine Zq 5 rfl (fun hb => ?_) (fun hb => ?_)
 rotate_left
 ·replace H := Zp H hb
  refine Zb 4 rfl ?_
  refine Zg ?_
  refine Zc hK2 ?_
  refine Zk ?_
  refine Zm rfl (RV.tmp rfl RV.nil) rfl ?_
  obtain rfl := QJ H
  replace hS := hS.cut 0
  exact ⟨rfl, hS⟩
 replace H := Zo H hb
 refine Zb 1 rfl ?_
 refine Za rfl rfl rfl (Zdj rfl rfl) ?_
 refine Zb 2 rfl ?_
 refine Zg ?_
 refine Zc hK2 ?_
 refine Zk ?_
 refine Zm rfl (RV.tmp rfl RV.nil) rfl ?_
 obtain rfl := QJ H
 replace hS := hS.cut 0
 exact ⟨rfl, hS⟩
end Go.Proofs.YtamjlcaoieliaaaGreat
