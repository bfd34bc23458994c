/- Texts of one claim put together. -/
import Derived.Test.YtamjlcaoieliaaaGreatMu1
import Derived.Test.YtamjlcaoieliaaaGreatMu2
namespace Go.Proofs.YtamjlcaoieliaaaGreat
open Go Go.RowKit
set_option maxRecDepth 100000
set_option maxHeartbeats 4000000
theorem c_ref12_Great (x0 : Tu) (A0_ : OA) (c0_ : Nat) (w0 : World) (s0_ : SlI w0 Vv A0_ c0_ x0.log) {r : Bool} (H : Zdp x0 = some r) : Calls Tryz.prog 46 #[.agg #[.int .i64 x0.snap.index, .int .i64 x0.snap.term, .int .i64 x0.snap.sum, .int .i64 x0.snap.level, .bool x0.snap.final, .slice A0_ x0.log.length c0_, .int .i64 x0.term, .int .i64 x0.vote]] w0 fun e w' => e = .returned (.bool r) ∧ St0 All w0 w' [] := by
 unfold Zdp at H
 refine Yp Tryz.func46 rfl Tryz.ntmps46 rfl ?_
 have hS := St0.start All w0
 refine Zd (fun K hK1 => Ze (Z4 rfl rfl rfl CellsOf.agg hS (fun b2 w hS hB => Zb 1 rfl (Zg (Zc hK1 (Zd (fun K hK4 => Ze ?_)))))))
 refine Za rfl rfl rfl (Zf X4 rfl) (Za rfl rfl rfl (Zh Xx rfl (Zhr _) hS hs0 trivial Jd) (Za rfl rfl rfl (Y0 Y8 rfl) (Za rfl rfl rfl (Xc rfl rfl) (Zb 1 rfl (Zg (Zc hK4 (Zk ?_)))))))
 refine Zm rfl (RV.tmp rfl RV.nil) rfl ?_
 obtain rfl := QJ H
 replace hS := hS.cut 0
 exact ⟨rfl, hS⟩
theorem c_ref20_Great (x0 : Co) (A0_ : OA) (c0_ : Nat) (A1_ : OA) (c1_ : Nat) (A2_ : OA) (c2_ : Nat) (A3_ : OA) (c3_ : Nat) (A4_ : OA) (c4_ : Nat) (w0 : World) (s0_ : SlI w0 Vv A0_ c0_ x0.tuple.log) (s1_ : SlI w0 enO A1_ c1_ x0.votes) (s2_ : SlI w0 Vh A2_ c2_ x0.next) (s3_ : SlI w0 Vh A3_ c3_ x0.mtch) (s4_ : SlI w0 Vh A4_ c4_ x0.caps) {r : Bool} (H : Zbp x0 = some r) : Calls Tryz.prog 7 #[.agg #[.int .i64 x0.id, .int .i64 x0.n, .int .u8 x0.role, .int .i64 x0.binary, .int .i64 x0.tuple.snap.index, .int .i64 x0.tuple.snap.term, .int .i64 x0.tuple.snap.sum, .int .i64 x0.tuple.snap.level, .bool x0.tuple.snap.final, .slice A0_ x0.tuple.log.length c0_, .int .i64 x0.tuple.term, .int .i64 x0.tuple.vote, .int .i64 x0.commit, .int .i64 x0.applied.index, .int .i64 x0.applied.term, .int .i64 x0.applied.sum, .int .i64 x0.applied.level, .bool x0.applied.final, .slice A1_ x0.votes.length c1_, .slice A2_ x0.next.length c2_, .slice A3_ x0.mtch.length c3_, .slice A4_ x0.caps.length c4_]] w0 fun e w' => e = .returned (.bool r) ∧ St0 All w0 w' [] := by
 unfold Zbp at H
 refine Yp Tryz.func7 rfl Tryz.ntmps7 rfl ?_
 have hS := St0.start All w0
 refine Zd (fun K hK1 => Ze (Z4 rfl rfl rfl CellsOf.agg hS (fun b2 w hS hB => Zb 1 rfl (Zg (Zc hK1 (Zd (fun K hK4 => Ze ?_)))))))
 refine Za rfl rfl rfl (Zf Yy rfl) (Za rfl rfl rfl (Zi Ya rfl (Zhr _) hS hs0 trivial Jv) ?_)
 obtain ⟨r5, hm6, H⟩ := bind_some H
 refine Zn rfl rfl rfl rfl (by kernel_rfl) rfl (c_ref12_Great x0.tuple A0_ c0_ _ (Zhu s0_.k (hS.rd0 s0_.rd) (hS.blk0 s0_.blk)) hm6) ?_
 rintro e w ⟨rfl, hN⟩; refine ⟨_, rfl, ?_⟩; obtain ⟨hB, hS⟩ := hS.jn hN
 refine Zb 1 rfl (Zs 6 rfl (fun hb => ?_) (fun hb => ?_))
 ·replace H := Zp H hb
  refine Zb 38 rfl (Zg (Zc hK4 (Zk (Zm rfl (RV.tmp rfl RV.nil) rfl ?_))))
  obtain rfl := QJ H
  replace hS := hS.cut 0
  exact ⟨rfl, hS⟩
 replace H := Zo H hb
 refine Za rfl rfl rfl (Zf Zbg rfl) (Za rfl rfl rfl (Zh sc_27 rfl (Zhr _) hS hs0 trivial Zgf) (Za rfl rfl rfl (Y0 el_27 rfl) (Za rfl rfl rfl (Xc rfl rfl) (Zb 2 rfl (Zs 12 rfl (fun hb => ?_) (fun hb => ?_))))))
 ·replace H := Zp H hb
  refine Zb 32 rfl (Zg (Zc hK4 (Zk (Zm rfl (RV.tmp rfl RV.nil) rfl ?_))))
  obtain rfl := QJ H
  replace hS := hS.cut 0
  exact ⟨rfl, hS⟩
 replace H := Zo H hb
 refine Za rfl rfl rfl (Zf Vs rfl) (Za rfl rfl rfl (Zh X3 rfl (Zhr _) hS hs0 trivial Zat) (Za rfl rfl rfl (Y0 Xv rfl) (Za rfl rfl rfl (Xc rfl rfl) (Zb 2 rfl (Zs 18 rfl (fun hb => ?_) (fun hb => ?_))))))
 ·replace H := Zp H hb
  refine Zb 26 rfl (Zg (Zc hK4 (Zk (Zm rfl (RV.tmp rfl RV.nil) rfl ?_))))
  obtain rfl := QJ H
  replace hS := hS.cut 0
  exact ⟨rfl, hS⟩
 replace H := Zo H hb
 refine Za rfl rfl rfl (Zf Ji rfl) (Za rfl rfl rfl (Zh X3 rfl (Zhr _) hS hs0 trivial Zbo) (Za rfl rfl rfl (Y0 Xv rfl) (Za rfl rfl rfl (Xc rfl rfl) (Zb 2 rfl (Zs 24 rfl (fun hb => ?_) (fun hb => ?_))))))
 ·replace H := Zp H hb
  refine Zb 20 rfl (Zg (Zc hK4 (Zk (Zm rfl (RV.tmp rfl RV.nil) rfl ?_))))
  obtain rfl := QJ H
  replace hS := hS.cut 0
  exact ⟨rfl, hS⟩
 replace H := Zo H hb
 refine Za rfl rfl rfl (Zf Jl rfl) (Za rfl rfl rfl (Zh X3 rfl (Zhr _) hS hs0 trivial Zdc) (Za rfl rfl rfl (Y0 Xv rfl) (Za rfl rfl rfl (Xc rfl rfl) (Zb 2 rfl (Zs 30 rfl (fun hb => ?_) (fun hb => ?_))))))
 ·replace H := Zp H hb
  refine Zb 14 rfl (Zg (Zc hK4 (Zk (Zm rfl (RV.tmp rfl RV.nil) rfl ?_))))
  obtain rfl := QJ H
  replace hS := hS.cut 0
  exact ⟨rfl, hS⟩
 replace H := Zo H hb
 refine Za rfl rfl rfl (Zf Yy rfl) (Za rfl rfl rfl (Zf Xj rfl) (Za rfl rfl rfl (Zf Yj rfl) (Za rfl rfl rfl (Zh Z1 rfl (Zhr _) hS hs0 trivial Zfw) (Za rfl rfl rfl (Xc rfl rfl) (Zb 2 rfl (Zs 37 rfl (fun hb => ?_) (fun hb => ?_)))))))
 ·replace H := Zp H hb
  refine Zb 7 rfl (Zg (Zc hK4 (Zk (Zm rfl (RV.tmp rfl RV.nil) rfl ?_))))
  obtain rfl := QJ H
  replace hS := hS.cut 0
  exact ⟨rfl, hS⟩
 replace H := Zo H hb
 refine Za rfl rfl rfl (Zf Yy rfl) (Za rfl rfl rfl (Zf Xj rfl) (Za rfl rfl rfl (Zf Yj rfl) (Za rfl rfl rfl (Zh Z1 rfl (Zhr _) hS hs0 trivial Zfw) (Za rfl rfl rfl (Xk rfl rfl) (Zb 2 rfl (Zg (Zc hK4 ?_)))))))
 refine Zk (Zm rfl (RV.tmp rfl RV.nil) rfl ?_)
 obtain rfl := QJ H
 replace hS := hS.cut 0
 exact ⟨rfl, hS⟩
theorem Zdq (w0 : World) {r : St} (H : Zaz = some r) : Calls Tryz.prog 88 #[] w0 fun e w' => e = .returned (.agg #[.int .i64 r.index, .int .i64 r.term, .int .i64 r.sum, .int .i64 r.level, .bool r.final]) ∧ St0 All w0 w' [] := by
 unfold Zaz at H
 refine gw_enter0 Tryz.func88 rfl Tryz.ntmps88 rfl ?_
 have hS := St0.start All w0
 refine Zd (fun K hK1 => Ze (Z5 rfl rfl zc_23 hS (fun b2 w hS hB => Zg (Zc hK1 (Zd (fun K hK4 => Ze (Za rfl rfl rfl (Xl (cells := [.int .i64 0, .int .i64 0, .int .i64 0, .int .i64 1, .bool false]) rfl (by kernel_rfl)) ?_)))))))
 refine Zl rfl rfl rfl CellsOf.agg hS ps0 Zex (by kernel_rfl) rfl (fun w hS hB => Zg (Zc hK4 (Zk (Zm rfl (RV.cell rfl (Zu Y6 hS hs0 Jm) RV.nil) rfl ?_))))
 obtain rfl := QJ H
 replace hS := hS.cut 0
 exact ⟨rfl, hS⟩
theorem c_ref12_First (w0 : World) {r : Tu} (H : Zg1 = some r) : Calls Tryz.prog 48 #[] w0 fun e w' => ∃ (A0 : OA) (c0 : Nat), e = .returned (.agg #[.int .i64 r.snap.index, .int .i64 r.snap.term, .int .i64 r.snap.sum, .int .i64 r.snap.level, .bool r.snap.final, .slice A0 r.log.length c0, .int .i64 r.term, .int .i64 r.vote]) ∧ (r.log.length ≤ c0 ∧ c0 ≤ maxLen) ∧ St0 All w0 w' [.rd A0 (Yg Vv r.log)] := by
 unfold Zg1 at H
 refine gw_enter0 Tryz.func48 rfl Tryz.ntmps48 rfl ?_
 have hS := St0.start All w0
 refine Zd (fun K hK1 => Ze (Z5 rfl rfl Zal hS (fun b2 w hS hB => Zg (Zc hK1 (Zd (fun K hK4 => Ze ?_))))))
 obtain ⟨r5, hm6, H⟩ := bind_some H
 refine Zn rfl rfl rfl rfl (by kernel_rfl) rfl (Zdq _ hm6) ?_
 rintro e w ⟨rfl, hN⟩; refine ⟨_, rfl, ?_⟩; obtain ⟨hB, hS⟩ := hS.jn hN
 refine Za rfl rfl rfl (Xl (cells := [.int .i64 r5.index, .int .i64 r5.term, .int .i64 r5.sum, .int .i64 r5.level, .bool r5.final, .slice none 0 0, .int .i64 0, .int .i64 0]) rfl (by kernel_rfl)) (Zl rfl rfl rfl CellsOf.agg hS ps0 X0 (by kernel_rfl) rfl (fun w hS hB => Zg (Zc hK4 (Zk (Zm rfl (RV.cell rfl (Zu Ya hS hs0 Yx) RV.nil) rfl ?_)))))
 obtain rfl := QJ H
 have hS := hS.nilRd
 replace hS := hS.cut 1
 exact ⟨none, 0, rfl, ⟨Nat.le_refl _, Nat.zero_le _⟩, hS⟩
theorem Va (x0 : Tu) (A0_ : OA) (c0_ : Nat) (w0 : World) (s0_ : SlI w0 Vv A0_ c0_ x0.log) {r : Tu} (H : Xt x0 = some r) : Calls Tryz.prog 84 #[.agg #[.int .i64 x0.snap.index, .int .i64 x0.snap.term, .int .i64 x0.snap.sum, .int .i64 x0.snap.level, .bool x0.snap.final, .slice A0_ x0.log.length c0_, .int .i64 x0.term, .int .i64 x0.vote]] w0 fun e w' => ∃ (A0 : OA) (c0 : Nat), e = .returned (.agg #[.int .i64 r.snap.index, .int .i64 r.snap.term, .int .i64 r.snap.sum, .int .i64 r.snap.level, .bool r.snap.final, .slice A0 r.log.length c0, .int .i64 r.term, .int .i64 r.vote]) ∧ (r.log.length ≤ c0 ∧ c0 ≤ maxLen) ∧ St0 All w0 w' [.row (.slice A0 r.log.length c0) 53 3 r.log.length (Yg Vv r.log)] := by
 unfold Xt at H
 refine Yp Tryz.func84 rfl Tryz.ntmps84 rfl ?_
 have hS := St0.start All w0
 refine Zd (fun K hK1 => Ze (Z4 rfl rfl rfl CellsOf.agg hS (fun b2 w hS hB => Z5 rfl rfl Zal hS (fun b4 w hS hB => Zg (Zc hK1 (Zd (fun K hK6 => Ze ?_)))))))
 refine Zcc Y8 rfl rfl hS (fun b7 w hS hB => Za rfl rfl rfl (Zf X4 rfl) (Za rfl rfl rfl (Zh Xx rfl (Zhr _) hS Xq trivial Jd) ?_))
 obtain ⟨l9, hf10, H⟩ := bind_some H
 refine Jf (ys := x0.log) Xy oc_enE em_24 (by decide) rfl rfl rfl rfl hS (fun _ => ps0) (hS.rd0 s0_.rd) hf10 (fun A11 c12 w k13 hS => ?_)
 refine Za rfl rfl rfl (Zf X4 rfl) (Zl rfl rfl rfl CellsOf.slice hS ps2 st5_1 (by kernel_rfl) rfl (fun w hS hB => Zg (Zc hK6 (Zd (fun K hK14 => Ze (Za rfl rfl rfl (Zi Ya rfl (Zhr _) hS Xq trivial Yx) (Zl rfl rfl rfl CellsOf.agg hS ps1 X0 (by kernel_rfl) rfl (fun w hS hB => ?_))))))))
 refine Zg (Zc hK14 (Zk (Zm rfl (RV.cell rfl (Zu Ya hS Xa Yx) RV.nil) rfl ?_)))
 obtain rfl := QJ H
 have hS := hS.front 0 rfl
 replace hS := hS.cut 1
 exact ⟨A11, c12, rfl, k13, hS⟩
theorem Zbd (x0 : Tu) (A0_ : OA) (c0_ : Nat) (w0 : World) (s0_ : SlI w0 Vv A0_ c0_ x0.log) {r : Int} (H : Jn x0 = some r) : Calls Tryz.prog 43 #[.agg #[.int .i64 x0.snap.index, .int .i64 x0.snap.term, .int .i64 x0.snap.sum, .int .i64 x0.snap.level, .bool x0.snap.final, .slice A0_ x0.log.length c0_, .int .i64 x0.term, .int .i64 x0.vote]] w0 fun e w' => e = .returned (.int .i64 r) ∧ St0 All w0 w' [] := by
 unfold Jn at H
 refine Yp Tryz.func43 rfl Tryz.ntmps43 rfl ?_
 have hS := St0.start All w0
 refine Zd (fun K hK1 => Ze (Z4 rfl rfl rfl CellsOf.agg hS (fun b2 w hS hB => Zb 1 rfl (Zg (Zc hK1 (Zd (fun K hK4 => Ze ?_)))))))
 refine Za rfl rfl rfl (Zf Xj rfl) (Za rfl rfl rfl (Zf Yj rfl) (Za rfl rfl rfl (Zh Z1 rfl (Zhr _) hS hs0 trivial Y4) (Za rfl rfl rfl (Zf X4 rfl) (Za rfl rfl rfl (Zh Xx rfl (Zhr _) hS hs0 trivial Jd) (Za rfl rfl rfl (Y0 Y8 rfl) (Za rfl rfl rfl (Xd rfl rfl) (Zb 1 rfl ?_)))))))
 refine Zg (Zc hK4 (Zk (Zm rfl (RV.tmp rfl RV.nil) rfl ?_)))
 obtain rfl := QJ H
 replace hS := hS.cut 0
 exact ⟨rfl, hS⟩
theorem c_ref20_New (x0 : Int) (x1 : Int) (x2 : Int) (x3 : Tu) (A0_ : OA) (c0_ : Nat) (w0 : World) (s0_ : SlI w0 Vv A0_ c0_ x3.log) {r : Co} (H : Zgx x0 x1 x2 x3 = some r) : Calls Tryz.prog 47 #[.int .i64 x0, .int .i64 x1, .int .i64 x2, .agg #[.int .i64 x3.snap.index, .int .i64 x3.snap.term, .int .i64 x3.snap.sum, .int .i64 x3.snap.level, .bool x3.snap.final, .slice A0_ x3.log.length c0_, .int .i64 x3.term, .int .i64 x3.vote]] w0 fun e w' => ∃ (A0 : OA) (c0 : Nat) (A1 : OA) (c1 : Nat) (A2 : OA) (c2 : Nat) (A3 : OA) (c3 : Nat) (A4 : OA) (c4 : Nat), e = .returned (.agg #[.int .i64 r.id, .int .i64 r.n, .int .u8 r.role, .int .i64 r.binary, .int .i64 r.tuple.snap.index, .int .i64 r.tuple.snap.term, .int .i64 r.tuple.snap.sum, .int .i64 r.tuple.snap.level, .bool r.tuple.snap.final, .slice A0 r.tuple.log.length c0, .int .i64 r.tuple.term, .int .i64 r.tuple.vote, .int .i64 r.commit, .int .i64 r.applied.index, .int .i64 r.applied.term, .int .i64 r.applied.sum, .int .i64 r.applied.level, .bool r.applied.final, .slice A1 r.votes.length c1, .slice A2 r.next.length c2, .slice A3 r.mtch.length c3, .slice A4 r.caps.length c4]) ∧ (r.tuple.log.length ≤ c0 ∧ c0 ≤ maxLen) ∧ (r.votes.length ≤ c1 ∧ c1 ≤ maxLen) ∧ (r.next.length ≤ c2 ∧ c2 ≤ maxLen) ∧ (r.mtch.length ≤ c3 ∧ c3 ≤ maxLen) ∧ (r.caps.length ≤ c4 ∧ c4 ≤ maxLen) ∧ St0 All w0 w' [.row (.slice A0 r.tuple.log.length c0) 53 3 r.tuple.log.length (Yg Vv r.tuple.log), .row (.slice A1 r.votes.length c1) 4 1 r.votes.length (Yg enO r.votes), .row (.slice A2 r.next.length c2) 3 1 r.next.length (Yg Vh r.next), .row (.slice A3 r.mtch.length c3) 3 1 r.mtch.length (Yg Vh r.mtch), .row (.slice A4 r.caps.length c4) 3 1 r.caps.length (Yg Vh r.caps)] := by
 unfold Zgx at H
 refine Zhm Tryz.func47 rfl Tryz.ntmps47 rfl ?_
 have hS := St0.start All w0
 refine Zd (fun K hK1 => Ze (Z4 rfl rfl rfl CellsOf.agg hS (fun b2 w hS hB => Z5 rfl rfl Zdk hS (fun b4 w hS hB => Zg (Zc hK1 (Zd (fun K hK6 => Zd (fun K hK7 => ?_))))))))
 refine Ze (Zb 1 rfl (Za rfl rfl rfl (Xk rfl rfl) (Zb 1 rfl (Zs 13 rfl (fun hb => ?_) (fun hb => ?_)))))
 ·replace H := Zp H hb
  refine Zb 12 rfl (Zg (Zc hK7 (Zt rfl rfl (Zd (fun K hK9 => Ze (Za rfl rfl rfl (Xl (cells := [.int .i64 0, .int .i64 0, .int .u8 0, .int .i64 0, .int .i64 0, .int .i64 0, .int .i64 0, .int .i64 0, .bool false, .slice none 0 0, .int .i64 0, .int .i64 0, .int .i64 0, .int .i64 0, .int .i64 0, .int .i64 0, .int .i64 0, .bool false, .slice none 0 0, .slice none 0 0, .slice none 0 0, .slice none 0 0]) rfl (by kernel_rfl)) (Zl rfl rfl rfl CellsOf.agg hS ps0 Yo (by kernel_rfl) rfl (fun w hS hB => ?_))))))))
  refine Zg (Zc hK9 (Zk (Zj (Zm rfl (RV.cell rfl (Zu Z7 hS hs0 Zz) RV.nil) rfl ?_))))
  obtain rfl := QJ H
  have hS := hS.nilRow 3 1
  have hS := hS.nilRow 3 1
  have hS := hS.nilRow 3 1
  have hS := hS.nilRow 4 1
  have hS := hS.nilRow 53 3
  replace hS := hS.cut 5
  exact ⟨none, 0, none, 0, none, 0, none, 0, none, 0, rfl, ⟨Nat.le_refl _, Nat.zero_le _⟩, ⟨Nat.le_refl _, Nat.zero_le _⟩, ⟨Nat.le_refl _, Nat.zero_le _⟩, ⟨Nat.le_refl _, Nat.zero_le _⟩, ⟨Nat.le_refl _, Nat.zero_le _⟩, hS⟩
 replace H := Zo H hb
 refine Zb 1 rfl (Za rfl rfl rfl (Xc rfl rfl) (Zb 2 rfl (Zs 17 rfl (fun hb => ?_) (fun hb => ?_))))
 ·replace H := Zp H hb
  refine Zb 8 rfl (Zg (Zc hK7 (Zt rfl rfl (Zd (fun K hK12 => Ze (Za rfl rfl rfl (Xl (cells := [.int .i64 0, .int .i64 0, .int .u8 0, .int .i64 0, .int .i64 0, .int .i64 0, .int .i64 0, .int .i64 0, .bool false, .slice none 0 0, .int .i64 0, .int .i64 0, .int .i64 0, .int .i64 0, .int .i64 0, .int .i64 0, .int .i64 0, .bool false, .slice none 0 0, .slice none 0 0, .slice none 0 0, .slice none 0 0]) rfl (by kernel_rfl)) (Zl rfl rfl rfl CellsOf.agg hS ps0 Yo (by kernel_rfl) rfl (fun w hS hB => ?_))))))))
  refine Zg (Zc hK12 (Zk (Zj (Zm rfl (RV.cell rfl (Zu Z7 hS hs0 Zz) RV.nil) rfl ?_))))
  obtain rfl := QJ H
  have hS := hS.nilRow 3 1
  have hS := hS.nilRow 3 1
  have hS := hS.nilRow 3 1
  have hS := hS.nilRow 4 1
  have hS := hS.nilRow 53 3
  replace hS := hS.cut 5
  exact ⟨none, 0, none, 0, none, 0, none, 0, none, 0, rfl, ⟨Nat.le_refl _, Nat.zero_le _⟩, ⟨Nat.le_refl _, Nat.zero_le _⟩, ⟨Nat.le_refl _, Nat.zero_le _⟩, ⟨Nat.le_refl _, Nat.zero_le _⟩, ⟨Nat.le_refl _, Nat.zero_le _⟩, hS⟩
 replace H := Zo H hb
 refine Zb 1 rfl (Za rfl rfl rfl (Xk rfl rfl) (Zb 2 rfl (Zs 21 rfl (fun hb => ?_) (fun hb => ?_))))
 ·replace H := Zp H hb
  refine Zb 4 rfl (Zg (Zc hK7 (Zt rfl rfl (Zd (fun K hK15 => Ze (Za rfl rfl rfl (Xl (cells := [.int .i64 0, .int .i64 0, .int .u8 0, .int .i64 0, .int .i64 0, .int .i64 0, .int .i64 0, .int .i64 0, .bool false, .slice none 0 0, .int .i64 0, .int .i64 0, .int .i64 0, .int .i64 0, .int .i64 0, .int .i64 0, .int .i64 0, .bool false, .slice none 0 0, .slice none 0 0, .slice none 0 0, .slice none 0 0]) rfl (by kernel_rfl)) (Zl rfl rfl rfl CellsOf.agg hS ps0 Yo (by kernel_rfl) rfl (fun w hS hB => ?_))))))))
  refine Zg (Zc hK15 (Zk (Zj (Zm rfl (RV.cell rfl (Zu Z7 hS hs0 Zz) RV.nil) rfl ?_))))
  obtain rfl := QJ H
  have hS := hS.nilRow 3 1
  have hS := hS.nilRow 3 1
  have hS := hS.nilRow 3 1
  have hS := hS.nilRow 4 1
  have hS := hS.nilRow 53 3
  replace hS := hS.cut 5
  exact ⟨none, 0, none, 0, none, 0, none, 0, none, 0, rfl, ⟨Nat.le_refl _, Nat.zero_le _⟩, ⟨Nat.le_refl _, Nat.zero_le _⟩, ⟨Nat.le_refl _, Nat.zero_le _⟩, ⟨Nat.le_refl _, Nat.zero_le _⟩, ⟨Nat.le_refl _, Nat.zero_le _⟩, hS⟩
 replace H := Zo H hb
 refine Zb 2 rfl (Za rfl rfl rfl (Xc rfl rfl) (Zb 1 rfl (Zg (Zc hK7 (Zy rfl (fun hb => ?_) (fun hb => ?_))))))
 ·replace H := Zp H hb
  refine Zd (fun K hK18 => Ze (Za rfl rfl rfl (Xl (cells := [.int .i64 0, .int .i64 0, .int .u8 0, .int .i64 0, .int .i64 0, .int .i64 0, .int .i64 0, .int .i64 0, .bool false, .slice none 0 0, .int .i64 0, .int .i64 0, .int .i64 0, .int .i64 0, .int .i64 0, .int .i64 0, .int .i64 0, .bool false, .slice none 0 0, .slice none 0 0, .slice none 0 0, .slice none 0 0]) rfl (by kernel_rfl)) (Zl rfl rfl rfl CellsOf.agg hS ps0 Yo (by kernel_rfl) rfl (fun w hS hB => Zg (Zc hK18 (Zk (Zj ?_)))))))
  refine Zm rfl (RV.cell rfl (Zu Z7 hS hs0 Zz) RV.nil) rfl ?_
  obtain rfl := QJ H
  have hS := hS.nilRow 3 1
  have hS := hS.nilRow 3 1
  have hS := hS.nilRow 3 1
  have hS := hS.nilRow 4 1
  have hS := hS.nilRow 53 3
  replace hS := hS.cut 5
  exact ⟨none, 0, none, 0, none, 0, none, 0, none, 0, rfl, ⟨Nat.le_refl _, Nat.zero_le _⟩, ⟨Nat.le_refl _, Nat.zero_le _⟩, ⟨Nat.le_refl _, Nat.zero_le _⟩, ⟨Nat.le_refl _, Nat.zero_le _⟩, ⟨Nat.le_refl _, Nat.zero_le _⟩, hS⟩
 replace H := Zo H hb
 refine Zr (Zc hK6 (Zd (fun K hK20 => Yi 13 [12] (fun i b => (i = 12 → b = b4 ∨ b = b2)) ⟨by kernel_rfl, by kernel_rfl⟩ hS (fun w hS hB => Ze6 [⟨11, 9, 30, [.int .i64 0, .int .i64 0, .int .u8 0, .int .i64 0, .int .i64 0, .int .i64 0, .int .i64 0, .int .i64 0, .bool false, .slice none 0 0, .int .i64 0, .int .i64 0, .int .i64 0, .int .i64 0, .int .i64 0, .int .i64 0, .int .i64 0, .bool false, .slice none 0 0, .slice none 0 0, .slice none 0 0, .slice none 0 0]⟩] (.cons rfl Zdk rfl rfl rfl .nil) hS (fun hok => ?_)))))
 dsimp only [List.cons_append, List.nil_append]
 refine Jo [Tt,Tt,Tt,Tt,Ff,Tt,Tt,Tt,Tt,Tt] [] (fun _ => True) (by decide +kernel) (fun _ h => by cases h) PFC.h (fun X Y tk ht w hS => LtK.put rfl rfl rfl (Zw rfl) (LtK.put rfl rfl rfl (Zw rfl) (LtK.put rfl rfl rfl (Zw rfl) (LtK.put rfl rfl rfl (Zi Ya rfl (Zht _ _) hS Xa trivial Yx) (LtK.put rfl rfl rfl (Zf Xj rfl) (LtK.put rfl rfl rfl (Zf Yj rfl) (LtK.put rfl rfl rfl (Zh Z1 rfl (Zht _ _) hS Xa trivial Y4) ?_)))))))
 refine LtK.put rfl rfl rfl (Zf Xj rfl) (LtK.put rfl rfl rfl (Zi Y6 rfl (Zht _ _) hS Xa trivial Jm) (Zei ht hS (by repeat (first | exact App.nil | apply App.cons)) (by repeat (first | exact App.nil | apply App.cons)) ?_))
 dsimp only [List.cons_append, List.nil_append]
 refine Ze2 [Ff,Ff,Ff,Ff,Tt] 4 hok ⟨by decide, by decide +kernel, by decide, by decide⟩ rfl rfl (fun _ => rfl) (fun _ => rfl) rfl (hend_of (by decide +kernel)) (fun X Y tk ht w hS => ?_)
 try dsimp only [Z0]
 obtain ⟨r21, hm22, H⟩ := bind_some H
 refine Zn rfl rfl rfl rfl (by kernel_rfl) rfl (Va x3 A0_ c0_ _ (Zhu s0_.k (hS.rd0 s0_.rd) (hS.blk0 s0_.blk)) hm22) ?_
 rintro e w ⟨A23, c24, rfl, k25, hN⟩; refine ⟨_, rfl, ?_⟩; obtain ⟨hB, hS⟩ := hS.jn hN
 refine Zg (Ze7 ht hS hB (by repeat (first | exact App.nil | apply App.cons)) (by repeat (first | exact App.nil | apply App.cons)) ?_)
 dsimp only [List.cons_append, List.nil_append]
 refine Jo [Ff,Ff,Ff,Ff,Ff,Ff,Ff,Ff,Ff,Ff,Tt] [] (fun _ => True) (by decide +kernel) (fun _ h => by cases h) PFC.h (fun X Y tk ht w hS => LtK.put rfl rfl rfl (Xl (cells := [.int .i64 x0, .int .i64 x1, .int .u8 0, .int .i64 x2, .int .i64 r21.snap.index, .int .i64 r21.snap.term, .int .i64 r21.snap.sum, .int .i64 r21.snap.level, .bool r21.snap.final, .slice A23 r21.log.length c24, .int .i64 r21.term, .int .i64 r21.vote, .int .i64 x3.snap.index, .int .i64 x3.snap.index, .int .i64 x3.snap.term, .int .i64 x3.snap.sum, .int .i64 x3.snap.level, .bool x3.snap.final, .slice none 0 0, .slice none 0 0, .slice none 0 0, .slice none 0 0]) rfl (by kernel_rfl)) (Zei ht hS (by repeat (first | exact App.nil | apply App.cons)) (by repeat (first | exact App.nil | apply App.cons)) ?_))
 dsimp only [List.cons_append, List.nil_append]
 refine Zf6 hok (by decide) (by decide +kernel) (fun _ => rfl) (fun _ => rfl) rfl (fun tk htk w hS => ?_)
 obtain ⟨b27, tkb27, rfl, htk29⟩ := tk_cons htk
 obtain rfl := tk_nil htk29
 dsimp only [tkH, tkL, List.map] at hS ⊢
 refine Yq [Ff,Ff,Ff,Ff,Ff,Ff,Ff,Ff,Ff,Ff,Ff,Ff,Tt] 12 ⟨by decide, by kernel_rfl, by kernel_rfl⟩ rfl rfl ?_
 try dsimp only [Z0]
 refine Zl rfl rfl rfl CellsOf.agg hS ps3 Yo (by kernel_rfl) rfl (fun w hS hB => Zg (Yk (hB.sub (fun b _ h => by have h0 : b = b4 ∨ b = b2 := (by simpa using h); rcases h0 with h0 | h0; (rw [h0]; exact hS.ne 1 3 rfl rfl rfl); (rw [h0]; exact hS.ne 2 3 rfl rfl rfl))) (Ye (by kernel_rfl) (Zc hK20 (Zd (fun K hK30 => Zd (fun K hK31 => Ze ?_)))))))
 refine Zb 1 rfl (Zg (Zc hK31 (Yd ?_)))
 replace hS := hS.nilRow 4 1
 replace hS := hS.nilRow 3 1
 replace hS := hS.nilRow 3 1
 replace hS := hS.nilRow 3 1
 refine Vq (X := Nat × Int × List Bool × OA × Nat × List Int × OA × Nat × List Int × OA × Nat × List Int × OA × Nat) (fun x => (0, .int .i64 x0) :: (1, .int .i64 x1) :: (2, .int .i64 x2) :: (7, .pointer (some ⟨b2, 0, none⟩)) :: (8, .pointer (some ⟨b4, 0, none⟩)) :: (9, .pointer (some ⟨b27, 0, none⟩)) :: (10, .int .i64 x.2.1) :: []) (fun x w => St0 All w0 w (.row (.slice x.2.2.2.2.2.2.2.2.2.2.2.2.1 x.2.2.2.2.2.2.2.2.2.2.2.1.length x.2.2.2.2.2.2.2.2.2.2.2.2.2) 3 1 x.2.2.2.2.2.2.2.2.2.2.2.1.length (Yg Vh x.2.2.2.2.2.2.2.2.2.2.2.1) :: .row (.slice x.2.2.2.2.2.2.2.2.2.1 x.2.2.2.2.2.2.2.2.1.length x.2.2.2.2.2.2.2.2.2.2.1) 3 1 x.2.2.2.2.2.2.2.2.1.length (Yg Vh x.2.2.2.2.2.2.2.2.1) :: .row (.slice x.2.2.2.2.2.2.1 x.2.2.2.2.2.1.length x.2.2.2.2.2.2.2.1) 3 1 x.2.2.2.2.2.1.length (Yg Vh x.2.2.2.2.2.1) :: .row (.slice x.2.2.2.1 x.2.2.1.length x.2.2.2.2.1) 4 1 x.2.2.1.length (Yg enO x.2.2.1) :: .row (.slice A23 r21.log.length c24) 53 3 r21.log.length (Yg Vv r21.log) :: .box b4 [.int .i64 0, .int .i64 0, .int .u8 0, .int .i64 0, .int .i64 0, .int .i64 0, .int .i64 0, .int .i64 0, .bool false, .slice none 0 0, .int .i64 0, .int .i64 0, .int .i64 0, .int .i64 0, .int .i64 0, .int .i64 0, .int .i64 0, .bool false, .slice none 0 0, .slice none 0 0, .slice none 0 0, .slice none 0 0] 30 :: .box b2 [.int .i64 x3.snap.index, .int .i64 x3.snap.term, .int .i64 x3.snap.sum, .int .i64 x3.snap.level, .bool x3.snap.final, .slice A0_ x3.log.length c0_, .int .i64 x3.term, .int .i64 x3.vote] 26 :: .box b27 [.int .i64 x0, .int .i64 x1, .int .u8 0, .int .i64 x2, .int .i64 r21.snap.index, .int .i64 r21.snap.term, .int .i64 r21.snap.sum, .int .i64 r21.snap.level, .bool r21.snap.final, .slice A23 r21.log.length c24, .int .i64 r21.term, .int .i64 r21.vote, .int .i64 x3.snap.index, .int .i64 x3.snap.index, .int .i64 x3.snap.term, .int .i64 x3.snap.sum, .int .i64 x3.snap.level, .bool x3.snap.final, .slice x.2.2.2.1 x.2.2.1.length x.2.2.2.2.1, .slice x.2.2.2.2.2.2.1 x.2.2.2.2.2.1.length x.2.2.2.2.2.2.2.1, .slice x.2.2.2.2.2.2.2.2.2.1 x.2.2.2.2.2.2.2.2.1.length x.2.2.2.2.2.2.2.2.2.2.1, .slice x.2.2.2.2.2.2.2.2.2.2.2.2.1 x.2.2.2.2.2.2.2.2.2.2.2.1.length x.2.2.2.2.2.2.2.2.2.2.2.2.2] 30 :: []) ∧ (x.2.2.1.length ≤ x.2.2.2.2.1 ∧ x.2.2.2.2.1 ≤ maxLen) ∧ (x.2.2.2.2.2.1.length ≤ x.2.2.2.2.2.2.2.1 ∧ x.2.2.2.2.2.2.2.1 ≤ maxLen) ∧ (x.2.2.2.2.2.2.2.2.1.length ≤ x.2.2.2.2.2.2.2.2.2.2.1 ∧ x.2.2.2.2.2.2.2.2.2.2.1 ≤ maxLen) ∧ (x.2.2.2.2.2.2.2.2.2.2.2.1.length ≤ x.2.2.2.2.2.2.2.2.2.2.2.2.2 ∧ x.2.2.2.2.2.2.2.2.2.2.2.2.2 ≤ maxLen) ∧ Zet x0 x1 x2 x3 r21 x.1 x.2.1 x.2.2.1 x.2.2.2.2.2.1 x.2.2.2.2.2.2.2.2.1 x.2.2.2.2.2.2.2.2.2.2.2.1 = some r) (fun x => x.1) (Xr, 1, [], none, 0, [], none, 0, [], none, 0, [], none, 0) (by repeat (first | exact Sub.nil | refine Sub.cons rfl ?_)) ⟨hS, ⟨Nat.le_refl _, Nat.zero_le _⟩, ⟨Nat.le_refl _, Nat.zero_le _⟩, ⟨Nat.le_refl _, Nat.zero_le _⟩, ⟨Nat.le_refl _, Nat.zero_le _⟩, H⟩ ?_
 rintro ⟨n, v32, v33, A34, c35, v38, A39, c40, v43, A44, c45, v48, A49, c50⟩ w ⟨hS, k36, k41, k46, k51, H⟩
 dsimp only at hS k36 k41 k46 k51 H ⊢
 obtain _ | n := n
 ·have H0 : none = some r := H
  cases H0
 rw [Zet] at H
 refine Zd (fun K hK53 => Zd (fun K hK54 => Ze (Zb 2 rfl (Za rfl rfl rfl (Za5 rfl rfl) (Zg (Zc hK54 (Zy rfl (fun hb => ?_) (fun hb => ?_))))))))
 rotate_left
 ·replace H := Zo H hb
  refine X1 (Z8 (Z8 (Yz (Zc hK30 (Zd (fun K hK91 => Ze (Za rfl rfl rfl (Zf Jl rfl) ?_)))))))
  refine Za rfl rfl rfl (Zh X3 rfl (Zhr _) hS hs7 trivial Zdc) (Zb 1 rfl (Za rfl rfl rfl (Ju rfl rfl) (Zb 1 rfl ?_)))
  obtain ⟨e92, hi94, H⟩ := bind_some H
  obtain ⟨j93, hi94a, hi94b, hi94c⟩ := Yt hi94
  refine Za rfl rfl rfl (Xf Xv rfl rfl hi94a hi94c (Rd.el (hS.row_rd hs0) Yh hi94b)) (wpX_storeR (a' := x2) (zs := (Zbe v48 (IntKind.wrap .i64 (x0 - 1)) x2)) Yh rfl rfl rfl CellsOf.int hS ps0 (Rd.el (hS.row_rd hs0) Yh hi94b) hi94a hi94b rfl Zfp (by kernel_rfl) rfl (fun w hS => ?_))
  have hi95b := Zc8 (a := x2) hi94a hi94b
  have hi95a := hi94a
  refine Zg (Zc hK91 (Zd (fun K hK96 => Ze (Za rfl rfl rfl (Zi Z7 rfl (Zhr _) hS hs7 trivial Zz) (Zl rfl rfl rfl CellsOf.agg hS ps5 Yo (by kernel_rfl) rfl (fun w hS hB => Zg (Zc hK96 ?_)))))))
  refine Zk (Zm rfl (RV.cell rfl (Zu Z7 hS hs5 Zz) RV.nil) rfl ?_)
  obtain rfl := QJ H
  have hS := hS.front 0 rfl
  have hS := hS.front 1 rfl
  have hS := hS.front 2 rfl
  have hS := hS.front 3 rfl
  have hS := hS.front 4 rfl
  replace hS := hS.cut 5
  exact ⟨A23, c24, A34, c35, A39, c40, A44, c45, A49, c50, by (repeat rw [(Jg rfl)]); rfl, k25, k36, k41, k46, (Zhd k51), hS.eqv (by (repeat rw [(Jg rfl)]); rfl)⟩
 replace H := Zp H hb
 refine Zr (Zc hK53 (Zd (fun K hK56 => Yd (Zd (fun K hK57 => Ze (Za rfl rfl rfl (Zf Zbg rfl) (Za rfl rfl rfl (Zh sc_27 rfl (Zhr _) hS hs7 trivial Zgf) ?_)))))))
 refine Xb (ps := [(0, .const (.bool false))]) [.bool false] el_27 zc_4 rfl rfl rfl rfl rfl (by kernel_rfl) hS (fun b58 w hS hB => ?_)
 obtain ⟨l60, hf61, H⟩ := bind_some H
 refine Jf (ys := ([false] : List Bool)) Zg6 oc_enO em_27 (by decide) rfl rfl rfl rfl hS (fun _ => ps4) (hS.box_rd hs0) hf61 (fun A62 c63 w k64 hS => ?_)
 refine Za rfl rfl rfl (Zf Zbg rfl) (Zl rfl rfl rfl CellsOf.slice hS ps8 st18_1 (by kernel_rfl) rfl (fun w hS hB => Zg (Zc hK57 (Zd (fun K hK65 => Yi 9 [6, 8] (fun i b => (i = 6 → False) ∧ (i = 8 → b ≠ b27)) ⟨by kernel_rfl, by kernel_rfl⟩ hS (fun w hS hB => Y7 [true] [6] (fun _ => False) (by decide +kernel) (by intro j hj b hb; simp only [List.mem_cons, List.not_mem_nil, or_false] at hj; (try rcases hj with rfl | rfl | rfl | rfl | rfl) <;> first | (simp [hb]; done) | simp_all) PFC.h (LtK.put rfl rfl rfl (Zf Vs rfl) ?_)))))))
 refine LtK.nil (Zq [Ff,Tt] (by decide +kernel) PFC.h (LtK.put rfl rfl rfl (Zh X3 rfl (Zhs _) hS hs8 trivial Zat) (LtK.nil (Z6 [Ff,Ff,Tt] 2 ⟨by decide, by kernel_rfl, by kernel_rfl⟩ rfl rfl ?_))))
 try dsimp only [Z0]
 refine Za rfl rfl rfl (Zi Ya rfl (Zhr _) hS hs7 trivial Yx) (Zg (Z9 (Below.refl _ _) (Z6 [Ff,Ff,Ff,Tt] 3 ⟨by decide, by kernel_rfl, by kernel_rfl⟩ rfl rfl ?_)))
 try dsimp only [Z0]
 obtain ⟨r66, hm67, H⟩ := bind_some H
 refine Zn rfl rfl rfl rfl (by kernel_rfl) rfl (Zbd x3 A0_ c0_ _ (Zhu s0_.k (hS.rd0 s0_.rd) (hS.blk0 s0_.blk)) hm67) ?_
 rintro e w ⟨rfl, hN⟩; refine ⟨_, rfl, ?_⟩; obtain ⟨hB, hS⟩ := hS.jn hN
 refine Zg (Z9 hB (Y7 [Ff,Ff,Ff,Ff,Tt] [6] (fun _ => False) (by decide +kernel) (by intro j hj b hb; simp only [List.mem_cons, List.not_mem_nil, or_false] at hj; (try rcases hj with rfl | rfl | rfl | rfl | rfl) <;> first | (simp [hb]; done) | simp_all) PFC.h (LtK.put rfl rfl rfl (Xd rfl rfl) (LtK.nil (Z6 [Ff,Ff,Ff,Ff,Ff,Tt] 5 ⟨by decide, by kernel_rfl, by kernel_rfl⟩ rfl rfl ?_)))))
 try dsimp only [Z0]
 refine Xb (ps := [(0, .tmp 52)]) [.int .i64 (IntKind.wrap .i64 (r66 + 1))] Xv zc_3 rfl rfl rfl rfl rfl (by kernel_rfl) hS (fun b68 w hS hB => Zg (Z9 hB (Yq [Ff,Ff,Ff,Ff,Ff,Ff,Tt] 6 ⟨by decide, by kernel_rfl, by kernel_rfl⟩ rfl rfl ?_)))
 try dsimp only [Z0]
 obtain ⟨l70, hf71, H⟩ := bind_some H
 refine wpX_append2 (ys := ([(IntKind.wrap .i64 (r66 + 1))] : List Int)) Yh oc_enI em_28 (by decide) rfl rfl rfl rfl hS (fun _ => ps4) (hS.box_rd hs0) hf71 (fun A72 c73 w k74 hS hB => ?_)
 refine Zg (Yk (hB.sub (fun _ _ h => by simp at h)) ?_)
 refine Zq [Ff,Ff,Ff,Ff,Ff,Ff,Ff,Tt] (by decide +kernel) PFC.h (LtK.put rfl rfl rfl (Zf Vs rfl) (LtK.nil (Yq [Ff,Ff,Ff,Ff,Ff,Ff,Ff,Ff,Tt] 8 ⟨by decide, by kernel_rfl, by kernel_rfl⟩ rfl rfl ?_)))
 try dsimp only [Z0]
 refine Zl rfl rfl rfl CellsOf.slice hS ps9 st19_1 (by kernel_rfl) rfl (fun w hS hB => Zg (Yk (hB.sub (fun _ _ h => by simpa using h)) (Ye (by kernel_rfl) (Zc hK65 (Zd (fun K hK75 => Ze (Za rfl rfl rfl (Zf Ji rfl) ?_)))))))
 refine Za rfl rfl rfl (Zh X3 rfl (Zhr _) hS hs9 trivial Zbo) (Xb (ps := [(0, .const (.int .i64 0))]) [.int .i64 0] Xv zc_3 rfl rfl rfl rfl rfl (by kernel_rfl) hS (fun b76 w hS hB => ?_))
 obtain ⟨l78, hf79, H⟩ := bind_some H
 refine Jf (ys := ([0] : List Int)) Yh oc_enI em_28 (by decide) rfl rfl rfl rfl hS (fun _ => ps4) (hS.box_rd hs0) hf79 (fun A80 c81 w k82 hS => ?_)
 refine Za rfl rfl rfl (Zf Ji rfl) (Zl rfl rfl rfl CellsOf.slice hS ps10 st20_1 (by kernel_rfl) rfl (fun w hS hB => Zg (Zc hK75 (Ze (Za rfl rfl rfl (Zf Jl rfl) (Za rfl rfl rfl (Zh X3 rfl (Zhr _) hS Zek trivial Zdc) (Xb (ps := [(0, .const (.int .i64 0))]) [.int .i64 0] Xv zc_3 rfl rfl rfl rfl rfl (by kernel_rfl) hS (fun b83 w hS hB => ?_))))))))
 obtain ⟨l85, hf86, H⟩ := bind_some H
 refine Jf (ys := ([0] : List Int)) Yh oc_enI em_28 (by decide) rfl rfl rfl rfl hS (fun _ => ps4) (hS.box_rd hs0) hf86 (fun A87 c88 w k89 hS => ?_)
 refine Za rfl rfl rfl (Zf Jl rfl) (Zl rfl rfl rfl CellsOf.slice hS ps11 st21_1 (by kernel_rfl) rfl (fun w hS hB => Zg (Z3 (Zc hK56 (Ze (Zb 1 rfl (Za rfl rfl rfl (Xd rfl rfl) ?_)))))))
 refine Zb 1 rfl (Zg ?_)
 exact X2 (n, (IntKind.wrap .i64 (v32 + 1)), l60, A62, c63, l70, A72, c73, l78, A80, c81, l85, A87, c88) (by repeat (first | exact Sub.nil | refine Sub.cons rfl ?_)) ⟨(hS.sub (List.Sublist.cons _ (List.Sublist.cons _ (List.Sublist.cons _ (List.Sublist.cons _ (List.Sublist.cons_cons _ (List.Sublist.cons_cons _ (List.Sublist.cons_cons _ (List.Sublist.cons_cons _ (List.Sublist.cons_cons _ (List.Sublist.cons_cons _ (List.Sublist.cons_cons _ (List.Sublist.cons_cons _ List.Sublist.slnil))))))))))))), k64, k74, k82, k89, H⟩ (Nat.lt_succ_self _)
theorem Zc9 (x0 : List En) (A0_ : OA) (c0_ : Nat) (w0 : World) (s0_ : SlI w0 Vv A0_ c0_ x0) {r : List En} (H : Vg x0 = some r) : Calls Tryz.prog 102 #[.slice A0_ x0.length c0_] w0 fun e w' => ∃ (A0 : OA) (c0 : Nat), e = .returned (.slice A0 r.length c0) ∧ (r.length ≤ c0 ∧ c0 ≤ maxLen) ∧ St0 All w0 w' [.row (.slice A0 r.length c0) 53 3 r.length (Yg Vv r)] := by
 unfold Vg at H
 obtain ⟨rfl, hfew⟩ := Ze3 H
 cases A0_ with
 | none =>
  obtain rfl : r = [] := by
   cases r with
   | nil => rfl
   | cons e l => obtain ⟨b, o, h, _⟩ := s0_.rd 0 _ rfl; cases h
  refine Yp Tryz.func102 rfl Tryz.ntmps102 rfl ?_
  have hS := St0.start All w0
  refine Zd (fun K hK1 => Ze (Zb 1 rfl (Zg (Zc hK1 (Zd (fun K hK2 => Zd (fun K hK3 => Ze ?_)))))))
  refine Zb 1 rfl (Za rfl rfl rfl (Zd2 (e := 53) (by kernel_rfl) rfl rfl) (Zg (Zc hK3 (Zt rfl rfl (Zd (fun K hK4 => Ze (Zb 1 rfl ?_)))))))
  refine Zg (Zc hK4 (Zk (Zj (Zm rfl (RV.tmp rfl RV.nil) rfl ?_))))
  have hS := hS.nilRow 53 3
  replace hS := hS.cut 1
  exact ⟨none, 0, rfl, ⟨Nat.le_refl _, Nat.zero_le _⟩, hS⟩
 | some a0 =>
  refine Yp Tryz.func102 rfl Tryz.ntmps102 rfl ?_
  have hS := St0.start All w0
  have H : (Zeh ([] ++ r)).bind (fun z => some z) = some r := by rw [List.nil_append, H]; rfl
  refine Zd (fun K hK5 => Ze (Zb 1 rfl (Zg (Zc hK5 (Zd (fun K hK6 => Zd (fun K hK7 => Ze ?_)))))))
  refine Zb 1 rfl (Za rfl rfl rfl (Zd2 (e := 53) (by kernel_rfl) rfl rfl) (Zg (Zc hK7 (Yl rfl rfl (Zr (Zc hK6 (Zd (fun K hK8 => ?_))))))))
  refine Ze (Zcc Y8 rfl rfl hS (fun b9 w hS hB => Zb 1 rfl ?_))
  obtain ⟨l11, hf12, H⟩ := bind_some H
  refine Jf (ys := r) Xy oc_enE em_24 (by decide) rfl rfl rfl rfl hS (fun _ => ps0) (hS.rd0 s0_.rd) hf12 (fun A13 c14 w k15 hS => ?_)
  refine Zb 1 rfl (Zg (Zc hK8 (Zk (Zm rfl (RV.tmp rfl RV.nil) rfl ?_))))
  obtain rfl := QJ H
  have hS := hS.front 0 rfl
  replace hS := hS.cut 1
  exact ⟨A13, c14, rfl, k15, hS⟩
theorem c_tuple_Own (x0 : Tu) (A0_ : OA) (c0_ : Nat) (w0 : World) (s0_ : SlI w0 Vv A0_ c0_ x0.log) {r : Tu} (H : Zgt x0 = some r) : Calls Tryz.prog 89 #[.agg #[.int .i64 x0.snap.index, .int .i64 x0.snap.term, .int .i64 x0.snap.sum, .int .i64 x0.snap.level, .bool x0.snap.final, .slice A0_ x0.log.length c0_, .int .i64 x0.term, .int .i64 x0.vote]] w0 fun e w' => ∃ (A0 : OA) (c0 : Nat), e = .returned (.agg #[.int .i64 r.snap.index, .int .i64 r.snap.term, .int .i64 r.snap.sum, .int .i64 r.snap.level, .bool r.snap.final, .slice A0 r.log.length c0, .int .i64 r.term, .int .i64 r.vote]) ∧ (r.log.length ≤ c0 ∧ c0 ≤ maxLen) ∧ St0 All w0 w' [.row (.slice A0 r.log.length c0) 53 3 r.log.length (Yg Vv r.log)] := by
 unfold Zgt at H
 refine Yp Tryz.func89 rfl Tryz.ntmps89 rfl ?_
 have hS := St0.start All w0
 refine Zd (fun K hK1 => Ze (Z4 rfl rfl rfl CellsOf.agg hS (fun b2 w hS hB => Z5 rfl rfl Zal hS (fun b4 w hS hB => Zg (Zc hK1 (Zd (fun K hK6 => Ze ?_)))))))
 refine Za rfl rfl rfl (Zf X4 rfl) (Za rfl rfl rfl (Zh Xx rfl (Zhr _) hS Xa trivial Jd) ?_)
 obtain ⟨r7, hm8, H⟩ := bind_some H
 refine Zn rfl rfl rfl rfl (by kernel_rfl) rfl (Zc9 x0.log A0_ c0_ _ (Zhu s0_.k (hS.rd0 s0_.rd) (hS.blk0 s0_.blk)) hm8) ?_
 rintro e w ⟨A9, c10, rfl, k11, hN⟩; refine ⟨_, rfl, ?_⟩; obtain ⟨hB, hS⟩ := hS.jn hN
 refine Za rfl rfl rfl (Zf X4 rfl) (Zl rfl rfl rfl CellsOf.slice hS ps2 st5_1 (by kernel_rfl) rfl (fun w hS hB => Zg (Zc hK6 (Zd (fun K hK13 => Ze (Za rfl rfl rfl (Zi Ya rfl (Zhr _) hS Xq trivial Yx) (Zl rfl rfl rfl CellsOf.agg hS ps1 X0 (by kernel_rfl) rfl (fun w hS hB => ?_))))))))
 refine Zg (Zc hK13 (Zk (Zm rfl (RV.cell rfl (Zu Ya hS Xa Yx) RV.nil) rfl ?_)))
 obtain rfl := QJ H
 have hS := hS.front 0 rfl
 replace hS := hS.cut 1
 exact ⟨A9, c10, rfl, k11, hS⟩
theorem Zf4 (x0 : List Bool) (A0_ : OA) (c0_ : Nat) (w0 : World) (s0_ : SlI w0 enO A0_ c0_ x0) {r : List Bool} (H : Jj x0 = some r) : Calls Tryz.prog 90 #[.slice A0_ x0.length c0_] w0 fun e w' => ∃ (A0 : OA) (c0 : Nat), e = .returned (.slice A0 r.length c0) ∧ (r.length ≤ c0 ∧ c0 ≤ maxLen) ∧ St0 All w0 w' [.row (.slice A0 r.length c0) 4 1 r.length (Yg enO r)] := by
 unfold Jj at H
 obtain ⟨rfl, hfew⟩ := Ze3 H
 cases A0_ with
 | none =>
  obtain rfl : r = [] := by
   cases r with
   | nil => rfl
   | cons e l => obtain ⟨b, o, h, _⟩ := s0_.rd 0 _ rfl; cases h
  refine Yp Tryz.func90 rfl Tryz.ntmps90 rfl ?_
  have hS := St0.start All w0
  refine Zd (fun K hK1 => Ze (Zb 1 rfl (Zg (Zc hK1 (Zd (fun K hK2 => Zd (fun K hK3 => Ze ?_)))))))
  refine Zb 1 rfl (Za rfl rfl rfl (Zd2 (e := 4) (by kernel_rfl) rfl rfl) (Zg (Zc hK3 (Zt rfl rfl (Zd (fun K hK4 => Ze (Zb 1 rfl ?_)))))))
  refine Zg (Zc hK4 (Zk (Zj (Zm rfl (RV.tmp rfl RV.nil) rfl ?_))))
  have hS := hS.nilRow 4 1
  replace hS := hS.cut 1
  exact ⟨none, 0, rfl, ⟨Nat.le_refl _, Nat.zero_le _⟩, hS⟩
 | some a0 =>
  refine Yp Tryz.func90 rfl Tryz.ntmps90 rfl ?_
  have hS := St0.start All w0
  have H : (Zeh ([] ++ r)).bind (fun z => some z) = some r := by rw [List.nil_append, H]; rfl
  refine Zd (fun K hK5 => Ze (Zb 1 rfl (Zg (Zc hK5 (Zd (fun K hK6 => Zd (fun K hK7 => Ze ?_)))))))
  refine Zb 1 rfl (Za rfl rfl rfl (Zd2 (e := 4) (by kernel_rfl) rfl rfl) (Zg (Zc hK7 (Yl rfl rfl (Zr (Zc hK6 (Zd (fun K hK8 => ?_))))))))
  refine Ze (Zcc el_27 rfl rfl hS (fun b9 w hS hB => Zb 1 rfl ?_))
  obtain ⟨l11, hf12, H⟩ := bind_some H
  refine Jf (ys := r) Zg6 oc_enO em_27 (by decide) rfl rfl rfl rfl hS (fun _ => ps0) (hS.rd0 s0_.rd) hf12 (fun A13 c14 w k15 hS => ?_)
  refine Zb 1 rfl (Zg (Zc hK8 (Zk (Zm rfl (RV.tmp rfl RV.nil) rfl ?_))))
  obtain rfl := QJ H
  have hS := hS.front 0 rfl
  replace hS := hS.cut 1
  exact ⟨A13, c14, rfl, k15, hS⟩
theorem Zbb (x0 : List Int) (A0_ : OA) (c0_ : Nat) (w0 : World) (s0_ : SlI w0 Vh A0_ c0_ x0) {r : List Int} (H : Vn x0 = some r) : Calls Tryz.prog 91 #[.slice A0_ x0.length c0_] w0 fun e w' => ∃ (A0 : OA) (c0 : Nat), e = .returned (.slice A0 r.length c0) ∧ (r.length ≤ c0 ∧ c0 ≤ maxLen) ∧ St0 All w0 w' [.row (.slice A0 r.length c0) 3 1 r.length (Yg Vh r)] := by
 unfold Vn at H
 obtain ⟨rfl, hfew⟩ := Ze3 H
 cases A0_ with
 | none =>
  obtain rfl : r = [] := by
   cases r with
   | nil => rfl
   | cons e l => obtain ⟨b, o, h, _⟩ := s0_.rd 0 _ rfl; cases h
  refine Yp Tryz.func91 rfl Tryz.ntmps91 rfl ?_
  have hS := St0.start All w0
  refine Zd (fun K hK1 => Ze (Zb 1 rfl (Zg (Zc hK1 (Zd (fun K hK2 => Zd (fun K hK3 => Ze ?_)))))))
  refine Zb 1 rfl (Za rfl rfl rfl (Zd2 (e := 3) (by kernel_rfl) rfl rfl) (Zg (Zc hK3 (Zt rfl rfl (Zd (fun K hK4 => Ze (Zb 1 rfl ?_)))))))
  refine Zg (Zc hK4 (Zk (Zj (Zm rfl (RV.tmp rfl RV.nil) rfl ?_))))
  have hS := hS.nilRow 3 1
  replace hS := hS.cut 1
  exact ⟨none, 0, rfl, ⟨Nat.le_refl _, Nat.zero_le _⟩, hS⟩
 | some a0 =>
  refine Yp Tryz.func91 rfl Tryz.ntmps91 rfl ?_
  have hS := St0.start All w0
  have H : (Zeh ([] ++ r)).bind (fun z => some z) = some r := by rw [List.nil_append, H]; rfl
  refine Zd (fun K hK5 => Ze (Zb 1 rfl (Zg (Zc hK5 (Zd (fun K hK6 => Zd (fun K hK7 => Ze ?_)))))))
  refine Zb 1 rfl (Za rfl rfl rfl (Zd2 (e := 3) (by kernel_rfl) rfl rfl) (Zg (Zc hK7 (Yl rfl rfl (Zr (Zc hK6 (Zd (fun K hK8 => ?_))))))))
  refine Ze (Zcc Xv rfl rfl hS (fun b9 w hS hB => Zb 1 rfl ?_))
  obtain ⟨l11, hf12, H⟩ := bind_some H
  refine Jf (ys := r) Yh oc_enI em_28 (by decide) rfl rfl rfl rfl hS (fun _ => ps0) (hS.rd0 s0_.rd) hf12 (fun A13 c14 w k15 hS => ?_)
  refine Zb 1 rfl (Zg (Zc hK8 (Zk (Zm rfl (RV.tmp rfl RV.nil) rfl ?_))))
  obtain rfl := QJ H
  have hS := hS.front 0 rfl
  replace hS := hS.cut 1
  exact ⟨A13, c14, rfl, k15, hS⟩
theorem Ze8 (x0 : Co) (A0_ : OA) (c0_ : Nat) (A1_ : OA) (c1_ : Nat) (A2_ : OA) (c2_ : Nat) (A3_ : OA) (c3_ : Nat) (A4_ : OA) (c4_ : Nat) (w0 : World) (s0_ : SlI w0 Vv A0_ c0_ x0.tuple.log) (s1_ : SlI w0 enO A1_ c1_ x0.votes) (s2_ : SlI w0 Vh A2_ c2_ x0.next) (s3_ : SlI w0 Vh A3_ c3_ x0.mtch) (s4_ : SlI w0 Vh A4_ c4_ x0.caps) {r : Co} (H : Zbz x0 = some r) : Calls Tryz.prog 49 #[.agg #[.int .i64 x0.id, .int .i64 x0.n, .int .u8 x0.role, .int .i64 x0.binary, .int .i64 x0.tuple.snap.index, .int .i64 x0.tuple.snap.term, .int .i64 x0.tuple.snap.sum, .int .i64 x0.tuple.snap.level, .bool x0.tuple.snap.final, .slice A0_ x0.tuple.log.length c0_, .int .i64 x0.tuple.term, .int .i64 x0.tuple.vote, .int .i64 x0.commit, .int .i64 x0.applied.index, .int .i64 x0.applied.term, .int .i64 x0.applied.sum, .int .i64 x0.applied.level, .bool x0.applied.final, .slice A1_ x0.votes.length c1_, .slice A2_ x0.next.length c2_, .slice A3_ x0.mtch.length c3_, .slice A4_ x0.caps.length c4_]] w0 fun e w' => ∃ (A0 : OA) (c0 : Nat) (A1 : OA) (c1 : Nat) (A2 : OA) (c2 : Nat) (A3 : OA) (c3 : Nat) (A4 : OA) (c4 : Nat), e = .returned (.agg #[.int .i64 r.id, .int .i64 r.n, .int .u8 r.role, .int .i64 r.binary, .int .i64 r.tuple.snap.index, .int .i64 r.tuple.snap.term, .int .i64 r.tuple.snap.sum, .int .i64 r.tuple.snap.level, .bool r.tuple.snap.final, .slice A0 r.tuple.log.length c0, .int .i64 r.tuple.term, .int .i64 r.tuple.vote, .int .i64 r.commit, .int .i64 r.applied.index, .int .i64 r.applied.term, .int .i64 r.applied.sum, .int .i64 r.applied.level, .bool r.applied.final, .slice A1 r.votes.length c1, .slice A2 r.next.length c2, .slice A3 r.mtch.length c3, .slice A4 r.caps.length c4]) ∧ (r.tuple.log.length ≤ c0 ∧ c0 ≤ maxLen) ∧ (r.votes.length ≤ c1 ∧ c1 ≤ maxLen) ∧ (r.next.length ≤ c2 ∧ c2 ≤ maxLen) ∧ (r.mtch.length ≤ c3 ∧ c3 ≤ maxLen) ∧ (r.caps.length ≤ c4 ∧ c4 ≤ maxLen) ∧ St0 All w0 w' [.row (.slice A0 r.tuple.log.length c0) 53 3 r.tuple.log.length (Yg Vv r.tuple.log), .row (.slice A1 r.votes.length c1) 4 1 r.votes.length (Yg enO r.votes), .row (.slice A2 r.next.length c2) 3 1 r.next.length (Yg Vh r.next), .row (.slice A3 r.mtch.length c3) 3 1 r.mtch.length (Yg Vh r.mtch), .row (.slice A4 r.caps.length c4) 3 1 r.caps.length (Yg Vh r.caps)] := by
 unfold Zbz at H
 refine Yp Tryz.func49 rfl Tryz.ntmps49 rfl ?_
 have hS := St0.start All w0
 refine Zd (fun K hK1 => Ze (Z4 rfl rfl rfl CellsOf.agg hS (fun b2 w hS hB => Z5 rfl rfl Zdk hS (fun b4 w hS hB => Zg (Zc hK1 (Zd (fun K hK6 => Ze ?_)))))))
 refine Za rfl rfl rfl (Zf Yy rfl) (Za rfl rfl rfl (Zi Ya rfl (Zhr _) hS Xa trivial Jv) ?_)
 obtain ⟨r7, hm8, H⟩ := bind_some H
 refine Zn rfl rfl rfl rfl (by kernel_rfl) rfl (c_tuple_Own x0.tuple A0_ c0_ _ (Zhu s0_.k (hS.rd0 s0_.rd) (hS.blk0 s0_.blk)) hm8) ?_
 rintro e w ⟨A9, c10, rfl, k11, hN⟩; refine ⟨_, rfl, ?_⟩; obtain ⟨hB, hS⟩ := hS.jn hN
 refine Za rfl rfl rfl (Zf Yy rfl) (Zl rfl rfl rfl CellsOf.agg hS ps2 st4_8 (by kernel_rfl) rfl (fun w hS hB => Zg (Zc hK6 (Zd (fun K hK13 => Yi 20 [13, 15, 17, 19] (fun i b => (i = 13 → b ≠ b2) ∧ (i = 15 → b ≠ b2) ∧ (i = 17 → b ≠ b2) ∧ (i = 19 → b ≠ b2)) ⟨by kernel_rfl, by kernel_rfl⟩ hS (fun w hS hB => Zq [Tt,Tt,Ff,Tt,Tt,Ff,Tt,Tt,Ff,Tt,Tt] (by decide +kernel) PFC.h (LtK.put rfl rfl rfl (Zf Zbg rfl) ?_)))))))
 refine LtK.put rfl rfl rfl (Zh sc_27 rfl (Zhs _) hS Xq trivial Zgf) (LtK.put rfl rfl rfl (Zf Vs rfl) (LtK.put rfl rfl rfl (Zh X3 rfl (Zhs _) hS Xq trivial Zat) (LtK.put rfl rfl rfl (Zf Ji rfl) (LtK.put rfl rfl rfl (Zh X3 rfl (Zhs _) hS Xq trivial Zbo) (LtK.put rfl rfl rfl (Zf Jl rfl) (LtK.put rfl rfl rfl (Zh X3 rfl (Zhs _) hS Xq trivial Zdc) (LtK.nil ?_)))))))
 refine Z6 [Ff,Ff,Tt] 2 ⟨by decide, by kernel_rfl, by kernel_rfl⟩ rfl rfl ?_
 try dsimp only [Z0]
 obtain ⟨r14, hm15, H⟩ := bind_some H
 refine Zn rfl rfl rfl rfl (by kernel_rfl) rfl (Zf4 x0.votes A1_ c1_ _ (Zhu s1_.k (hS.rd0 s1_.rd) (hS.blk0 s1_.blk)) hm15) ?_
 rintro e w ⟨A16, c17, rfl, k18, hN⟩; refine ⟨_, rfl, ?_⟩; obtain ⟨hB, hS⟩ := hS.jn hN
 refine Zg (Z9 hB (Zq [Ff,Ff,Ff,Ff,Ff,Ff,Ff,Ff,Ff,Ff,Ff,Ff,Tt] (by decide +kernel) PFC.h (LtK.put rfl rfl rfl (Zf Zbg rfl) (LtK.nil (Z6 [Ff,Ff,Ff,Ff,Ff,Tt] 5 ⟨by decide, by kernel_rfl, by kernel_rfl⟩ rfl rfl ?_)))))
 try dsimp only [Z0]
 obtain ⟨r20, hm21, H⟩ := bind_some H
 refine Zn rfl rfl rfl rfl (by kernel_rfl) rfl (Zbb x0.next A2_ c2_ _ (Zhu s2_.k (hS.rd0 s2_.rd) (hS.blk0 s2_.blk)) hm21) ?_
 rintro e w ⟨A22, c23, rfl, k24, hN⟩; refine ⟨_, rfl, ?_⟩; obtain ⟨hB, hS⟩ := hS.jn hN
 refine Zg (Z9 hB (Z6 [Ff,Ff,Ff,Ff,Ff,Ff,Ff,Ff,Tt] 8 ⟨by decide, by kernel_rfl, by kernel_rfl⟩ rfl rfl ?_))
 try dsimp only [Z0]
 obtain ⟨r26, hm27, H⟩ := bind_some H
 refine Zn rfl rfl rfl rfl (by kernel_rfl) rfl (Zbb x0.mtch A3_ c3_ _ (Zhu s3_.k (hS.rd0 s3_.rd) (hS.blk0 s3_.blk)) hm27) ?_
 rintro e w ⟨A28, c29, rfl, k30, hN⟩; refine ⟨_, rfl, ?_⟩; obtain ⟨hB, hS⟩ := hS.jn hN
 refine Zg (Z9 hB (Z6 [Ff,Ff,Ff,Ff,Ff,Ff,Ff,Ff,Ff,Ff,Ff,Tt] 11 ⟨by decide, by kernel_rfl, by kernel_rfl⟩ rfl rfl ?_))
 try dsimp only [Z0]
 obtain ⟨r32, hm33, H⟩ := bind_some H
 refine Zn rfl rfl rfl rfl (by kernel_rfl) rfl (Zbb x0.caps A4_ c4_ _ (Zhu s4_.k (hS.rd0 s4_.rd) (hS.blk0 s4_.blk)) hm33) ?_
 rintro e w ⟨A34, c35, rfl, k36, hN⟩; refine ⟨_, rfl, ?_⟩; obtain ⟨hB, hS⟩ := hS.jn hN
 refine Zg (Z9 hB (Yq [Ff,Ff,Ff,Ff,Ff,Ff,Ff,Ff,Ff,Ff,Ff,Ff,Ff,Tt] 13 ⟨by decide, by kernel_rfl, by kernel_rfl⟩ rfl rfl ?_))
 try dsimp only [Z0]
 refine Zl rfl rfl rfl CellsOf.slice hS ps6 st18_1 (by kernel_rfl) rfl (fun w hS hB => Zg (Yk (hB.sub (fun _ _ h => by simpa using h)) (Zq [Ff,Ff,Ff,Ff,Ff,Ff,Ff,Ff,Ff,Ff,Ff,Ff,Ff,Ff,Tt] (by decide +kernel) PFC.h (LtK.put rfl rfl rfl (Zf Vs rfl) (LtK.nil (Yq [Ff,Ff,Ff,Ff,Ff,Ff,Ff,Ff,Ff,Ff,Ff,Ff,Ff,Ff,Ff,Tt] 15 ⟨by decide, by kernel_rfl, by kernel_rfl⟩ rfl rfl ?_))))))
 try dsimp only [Z0]
 refine Zl rfl rfl rfl CellsOf.slice hS ps6 st19_1 (by kernel_rfl) rfl (fun w hS hB => Zg (Yk (hB.sub (fun _ _ h => by simpa using h)) (Zq [Ff,Ff,Ff,Ff,Ff,Ff,Ff,Ff,Ff,Ff,Ff,Ff,Ff,Ff,Ff,Ff,Tt] (by decide +kernel) PFC.h (LtK.put rfl rfl rfl (Zf Ji rfl) (LtK.nil (Yq [Ff,Ff,Ff,Ff,Ff,Ff,Ff,Ff,Ff,Ff,Ff,Ff,Ff,Ff,Ff,Ff,Ff,Tt] 17 ⟨by decide, by kernel_rfl, by kernel_rfl⟩ rfl rfl ?_))))))
 try dsimp only [Z0]
 refine Zl rfl rfl rfl CellsOf.slice hS ps6 st20_1 (by kernel_rfl) rfl (fun w hS hB => Zg (Yk (hB.sub (fun _ _ h => by simpa using h)) (Zq [Ff,Ff,Ff,Ff,Ff,Ff,Ff,Ff,Ff,Ff,Ff,Ff,Ff,Ff,Ff,Ff,Ff,Ff,Tt] (by decide +kernel) PFC.h (LtK.put rfl rfl rfl (Zf Jl rfl) (LtK.nil (Yq [Ff,Ff,Ff,Ff,Ff,Ff,Ff,Ff,Ff,Ff,Ff,Ff,Ff,Ff,Ff,Ff,Ff,Ff,Ff,Tt] 19 ⟨by decide, by kernel_rfl, by kernel_rfl⟩ rfl rfl ?_))))))
 try dsimp only [Z0]
 refine Zl rfl rfl rfl CellsOf.slice hS ps6 st21_1 (by kernel_rfl) rfl (fun w hS hB => Zg (Yk (hB.sub (fun _ _ h => by simpa using h)) (Ye (by kernel_rfl) (Zc hK13 (Zd (fun K hK38 => Ze (Za rfl rfl rfl (Zi Z7 rfl (Zhr _) hS hs6 trivial Zz) ?_)))))))
 refine Zl rfl rfl rfl CellsOf.agg hS ps5 Yo (by kernel_rfl) rfl (fun w hS hB => Zg (Zc hK38 (Zk (Zm rfl (RV.cell rfl (Zu Z7 hS hs5 Zz) RV.nil) rfl ?_))))
 obtain rfl := QJ H
 have hS := hS.front 0 rfl
 have hS := hS.front 1 rfl
 have hS := hS.front 2 rfl
 have hS := hS.front 3 rfl
 have hS := hS.front 4 rfl
 replace hS := hS.cut 5
 exact ⟨A9, c10, A16, c17, A22, c23, A28, c29, A34, c35, rfl, k11, k18, k24, k30, k36, hS⟩
theorem Zer (x0 : Tu) (A0_ : OA) (c0_ : Nat) (w0 : World) (s0_ : SlI w0 Vv A0_ c0_ x0.log) {r : Int} (H : Zaw x0 = some r) : Calls Tryz.prog 67 #[.agg #[.int .i64 x0.snap.index, .int .i64 x0.snap.term, .int .i64 x0.snap.sum, .int .i64 x0.snap.level, .bool x0.snap.final, .slice A0_ x0.log.length c0_, .int .i64 x0.term, .int .i64 x0.vote]] w0 fun e w' => e = .returned (.int .i64 r) ∧ St0 All w0 w' [] := by
 unfold Zaw at H
 refine Yp Tryz.func67 rfl Tryz.ntmps67 rfl ?_
 have hS := St0.start All w0
 refine Zd (fun K hK1 => Ze (Z4 rfl rfl rfl CellsOf.agg hS (fun b2 w hS hB => Zb 1 rfl (Zg (Zc hK1 (Zd (fun K hK4 => Ze ?_)))))))
 refine Za rfl rfl rfl (Zf Xj rfl) (Za rfl rfl rfl (Zf Yj rfl) (Za rfl rfl rfl (Zh Z1 rfl (Zhr _) hS hs0 trivial Y4) (Za rfl rfl rfl (Zf X4 rfl) (Za rfl rfl rfl (Zh Xx rfl (Zhr _) hS hs0 trivial Jd) (Za rfl rfl rfl (Y0 Y8 rfl) (Za rfl rfl rfl (Xd rfl rfl) (Zb 1 rfl ?_)))))))
 refine Zg (Zc hK4 (Zk (Zm rfl (RV.tmp rfl RV.nil) rfl ?_)))
 obtain rfl := QJ H
 replace hS := hS.cut 0
 exact ⟨rfl, hS⟩
theorem Zax (x0 : Int) (x1 : Int) (x2 : Int) (w0 : World) {r : Bool} (H : Vz x0 x1 x2 = some r) : Calls Tryz.prog 93 #[.int .i64 x0, .int .i64 x1, .int .i64 x2] w0 fun e w' => e = .returned (.bool r) ∧ St0 All w0 w' [] := by
 unfold Vz at H
 refine Vx Tryz.func93 rfl Tryz.ntmps93 rfl ?_
 have hS := St0.start All w0
 refine Zd (fun K hK1 => Ze (Zb 1 rfl (Zg (Zc hK1 (Zd (fun K hK2 => Ze (Zb 2 rfl ?_)))))))
 refine Za rfl rfl rfl (Zed rfl rfl) (Zb 1 rfl (Zs 10 rfl (fun hb => ?_) (fun hb => ?_)))
 rotate_left
 ·replace H := Zo H hb
  refine Zb 5 rfl (Zg (Zc hK2 (Zk (Zm rfl (RV.tmp rfl RV.nil) rfl ?_))))
  obtain rfl := QJ H
  replace hS := hS.cut 0
  exact ⟨rfl, hS⟩
 replace H := Zp H hb
 refine Zb 2 rfl (Za rfl rfl rfl (Za5 rfl rfl) (Zb 2 rfl (Zg (Zc hK2 (Zk (Zm rfl (RV.tmp rfl RV.nil) rfl ?_))))))
 obtain rfl := QJ H
 replace hS := hS.cut 0
 exact ⟨rfl, hS⟩
theorem c_entry_First (w0 : World) {r : St} (H : Zfh = some r) : Calls Tryz.prog 142 #[] w0 fun e w' => e = .returned (.agg #[.int .i64 r.index, .int .i64 r.term, .int .i64 r.sum, .int .i64 r.level, .bool r.final]) ∧ St0 All w0 w' [] := by
 unfold Zfh at H
 refine gw_enter0 Tryz.func142 rfl Tryz.ntmps142 rfl ?_
 have hS := St0.start All w0
 refine Zd (fun K hK1 => Ze (Z5 rfl rfl zc_23 hS (fun b2 w hS hB => Zg (Zc hK1 (Zd (fun K hK4 => Ze (Za rfl rfl rfl (Xl (cells := [.int .i64 0, .int .i64 0, .int .i64 0, .int .i64 1, .bool false]) rfl (by kernel_rfl)) ?_)))))))
 refine Zl rfl rfl rfl CellsOf.agg hS ps0 Zex (by kernel_rfl) rfl (fun w hS hB => Zg (Zc hK4 (Zk (Zm rfl (RV.cell rfl (Zu Y6 hS hs0 Jm) RV.nil) rfl ?_))))
 obtain rfl := QJ H
 replace hS := hS.cut 0
 exact ⟨rfl, hS⟩
theorem Jr (x0 : Int) (w0 : World) {r : Bool} (H : Vk x0 = some r) : Calls Tryz.prog 143 #[.int .i64 x0] w0 fun e w' => e = .returned (.bool r) ∧ St0 All w0 w' [] := by
 unfold Vk at H
 refine Yp Tryz.func143 rfl Tryz.ntmps143 rfl ?_
 have hS := St0.start All w0
 refine Zd (fun K hK1 => Ze (Zb 1 rfl (Zg (Zc hK1 (Zd (fun K hK2 => Ze (Zb 1 rfl ?_)))))))
 refine Za rfl rfl rfl (Zed rfl rfl) (Zb 1 rfl (Zs 5 rfl (fun hb => ?_) (fun hb => ?_)))
 rotate_left
 ·replace H := Zo H hb
  refine Zb 4 rfl (Zg (Zc hK2 (Zk (Zm rfl (RV.tmp rfl RV.nil) rfl ?_))))
  obtain rfl := QJ H
  replace hS := hS.cut 0
  exact ⟨rfl, hS⟩
 replace H := Zp H hb
 refine Zb 1 rfl (Za rfl rfl rfl (Za5 rfl rfl) (Zb 2 rfl (Zg (Zc hK2 (Zk (Zm rfl (RV.tmp rfl RV.nil) rfl ?_))))))
 obtain rfl := QJ H
 replace hS := hS.cut 0
 exact ⟨rfl, hS⟩
theorem Zcz (x0 : St) (w0 : World) {r : Bool} (H : J8 x0 = some r) : Calls Tryz.prog 132 #[.agg #[.int .i64 x0.index, .int .i64 x0.term, .int .i64 x0.sum, .int .i64 x0.level, .bool x0.final]] w0 fun e w' => e = .returned (.bool r) ∧ St0 All w0 w' [] := by
 unfold J8 at H
 refine Yp Tryz.func132 rfl Tryz.ntmps132 rfl ?_
 have hS := St0.start All w0
 refine Zd (fun K hK1 => Ze (Z4 rfl rfl rfl CellsOf.agg hS (fun b2 w hS hB => Zb 1 rfl (Zg (Zc hK1 (Zd (fun K hK4 => Yd ?_)))))))
 refine Zd (fun K hK5 => Ze (Za rfl rfl rfl (Zf Yj rfl) (Za rfl rfl rfl (Zh Z1 rfl (Zhr _) hS hs0 trivial Y4) (Za rfl rfl rfl (Y1 rfl rfl) (Zb 1 rfl (Zg (Zc hK5 ?_)))))))
 refine Zy rfl (fun hb => ?_) (fun hb => ?_)
 ·replace H := Zp H hb
  refine Zd (fun K hK7 => Yi 4 [] (fun _ _ => True) ⟨by kernel_rfl, by kernel_rfl⟩ hS (fun w hS hB => Zq [true] (by decide +kernel) PFC.h (LtK.put rfl rfl rfl (Zi Y6 rfl (Zhs _) hS hs0 trivial Jm) (LtK.nil (Z6 [Ff,Tt] 1 ⟨by decide, by kernel_rfl, by kernel_rfl⟩ rfl rfl ?_)))))
  try dsimp only [Z0]
  obtain ⟨r8, hm9, H⟩ := bind_some H
  refine Zn rfl rfl rfl rfl (by kernel_rfl) rfl (c_entry_First _ hm9) ?_
  rintro e w ⟨rfl, hN⟩; refine ⟨_, rfl, ?_⟩; obtain ⟨hB, hS⟩ := hS.jn hN
  refine Zg (Z9 hB (Zq [Ff,Ff,Tt,Tt] (by decide +kernel) PFC.h (LtK.put rfl rfl rfl (Zah (by kernel_rfl) rfl rfl (Zbc _ _ _ _ _ _ _ _ _ _)) (LtK.put rfl rfl rfl (Z2 rfl) (LtK.nil (Ye (by kernel_rfl) (Zc hK7 ?_)))))))
  refine Zk (Zx (Zj (Zm rfl (RV.tmp rfl RV.nil) rfl ?_)))
  obtain rfl := QJ H
  replace hS := hS.cut 0
  exact ⟨rfl, hS⟩
 replace H := Zo H hb
 refine Zd (fun K hK11 => Ze (Za rfl rfl rfl (Zf fo_23_4 rfl) (Za rfl rfl rfl (Zh sc_4 rfl (Zhr _) hS hs0 trivial Zfw) (Zb 1 rfl (Zg (Zc hK11 (Zy rfl (fun hb => ?_) (fun hb => ?_))))))))
 ·replace H := Zp H hb
  refine Zd (fun K hK13 => Ze (Za rfl rfl rfl (Zf Zfd rfl) (Za rfl rfl rfl (Zh Z1 rfl (Zhr _) hS hs0 trivial J9) (Za rfl rfl rfl (Y1 rfl rfl) (Zb 1 rfl (Zs 16 rfl (fun hb => ?_) (fun hb => ?_)))))))
  rotate_left
  ·replace H := Zo H hb
   refine Zb 20 rfl (Zg (Zc hK13 (Zk (Zx (Zj (Zm rfl (RV.tmp rfl RV.nil) rfl ?_))))))
   obtain rfl := QJ H
   replace hS := hS.cut 0
   exact ⟨rfl, hS⟩
  replace H := Zp H hb
  refine Za rfl rfl rfl (Zf Yj rfl) (Za rfl rfl rfl (Zh Z1 rfl (Zhr _) hS hs0 trivial Y4) ?_)
  obtain ⟨r15, hm16, H⟩ := bind_some H
  refine Zn rfl rfl rfl rfl (by kernel_rfl) rfl (Jr x0.index _ hm16) ?_
  rintro e w ⟨rfl, hN⟩; refine ⟨_, rfl, ?_⟩; obtain ⟨hB, hS⟩ := hS.jn hN
  refine Zb 2 rfl (Zs 21 rfl (fun hb => ?_) (fun hb => ?_))
  rotate_left
  ·replace H := Zo H hb
   refine Zb 15 rfl (Zg (Zc hK13 (Zk (Zx (Zj (Zm rfl (RV.tmp rfl RV.nil) rfl ?_))))))
   obtain rfl := QJ H
   replace hS := hS.cut 0
   exact ⟨rfl, hS⟩
  replace H := Zp H hb
  refine Za rfl rfl rfl (Zf Zc1 rfl) (Za rfl rfl rfl (Zh Z1 rfl (Zhr _) hS hs0 trivial Vl) (Za rfl rfl rfl (Xc rfl rfl) (Zb 2 rfl (Zs 26 rfl (fun hb => ?_) (fun hb => ?_)))))
  rotate_left
  ·replace H := Zo H hb
   refine Zb 10 rfl (Zg (Zc hK13 (Zk (Zx (Zj (Zm rfl (RV.tmp rfl RV.nil) rfl ?_))))))
   obtain rfl := QJ H
   replace hS := hS.cut 0
   exact ⟨rfl, hS⟩
  replace H := Zp H hb
  refine Za rfl rfl rfl (Zf Zc1 rfl) (Za rfl rfl rfl (Zh Z1 rfl (Zhr _) hS hs0 trivial Vl) ?_)
  obtain ⟨r19, hm20, H⟩ := bind_some H
  refine Zn rfl rfl rfl rfl (by kernel_rfl) rfl (Jr x0.term _ hm20) ?_
  rintro e w ⟨rfl, hN⟩; refine ⟨_, rfl, ?_⟩; obtain ⟨hB, hS⟩ := hS.jn hN
  refine Zb 2 rfl (Zs 31 rfl (fun hb => ?_) (fun hb => ?_))
  rotate_left
  ·replace H := Zo H hb
   refine Zb 5 rfl (Zg (Zc hK13 (Zk (Zx (Zj (Zm rfl (RV.tmp rfl RV.nil) rfl ?_))))))
   obtain rfl := QJ H
   replace hS := hS.cut 0
   exact ⟨rfl, hS⟩
  replace H := Zp H hb
  refine Za rfl rfl rfl (Zf fo_23_2 rfl) (Za rfl rfl rfl (Zh Z1 rfl (Zhr _) hS hs0 trivial Za0) ?_)
  obtain ⟨r22, hm23, H⟩ := bind_some H
  refine Zn rfl rfl rfl rfl (by kernel_rfl) rfl (Jr x0.sum _ hm23) ?_
  rintro e w ⟨rfl, hN⟩; refine ⟨_, rfl, ?_⟩; obtain ⟨hB, hS⟩ := hS.jn hN
  refine Zb 2 rfl (Zg (Zc hK13 (Zk (Zx (Zj (Zm rfl (RV.tmp rfl RV.nil) rfl ?_))))))
  obtain rfl := QJ H
  replace hS := hS.cut 0
  exact ⟨rfl, hS⟩
 replace H := Zo H hb
 refine Zr (Z3 (Zc hK4 (Zd (fun K hK29 => Ze (Za rfl rfl rfl (Zf Zfd rfl) (Za rfl rfl rfl (Zh Z1 rfl (Zhr _) hS hs0 trivial J9) (Za rfl rfl rfl (Y1 rfl rfl) ?_)))))))
 refine Zb 1 rfl (Zs 39 rfl (fun hb => ?_) (fun hb => ?_))
 ·replace H := Zp H hb
  refine Zb 5 rfl (Za rfl rfl rfl (Zf Yj rfl) (Za rfl rfl rfl (Zh Z1 rfl (Zhr _) hS hs0 trivial Y4) ?_))
  obtain ⟨r31, hm32, H⟩ := bind_some H
  refine Zn rfl rfl rfl rfl (by kernel_rfl) rfl (Jr x0.index _ hm32) ?_
  rintro e w ⟨rfl, hN⟩; refine ⟨_, rfl, ?_⟩; obtain ⟨hB, hS⟩ := hS.jn hN
  refine Zb 2 rfl (Zs 49 rfl (fun hb => ?_) (fun hb => ?_))
  rotate_left
  ·replace H := Zo H hb
   refine Zb 15 rfl (Zg (Zc hK29 (Zk (Zm rfl (RV.tmp rfl RV.nil) rfl ?_))))
   obtain rfl := QJ H
   replace hS := hS.cut 0
   exact ⟨rfl, hS⟩
  replace H := Zp H hb
  refine Za rfl rfl rfl (Zf Zc1 rfl) (Za rfl rfl rfl (Zh Z1 rfl (Zhr _) hS hs0 trivial Vl) (Za rfl rfl rfl (Xc rfl rfl) (Zb 2 rfl (Zs 54 rfl (fun hb => ?_) (fun hb => ?_)))))
  rotate_left
  ·replace H := Zo H hb
   refine Zb 10 rfl (Zg (Zc hK29 (Zk (Zm rfl (RV.tmp rfl RV.nil) rfl ?_))))
   obtain rfl := QJ H
   replace hS := hS.cut 0
   exact ⟨rfl, hS⟩
  replace H := Zp H hb
  refine Za rfl rfl rfl (Zf Zc1 rfl) (Za rfl rfl rfl (Zh Z1 rfl (Zhr _) hS hs0 trivial Vl) ?_)
  obtain ⟨r35, hm36, H⟩ := bind_some H
  refine Zn rfl rfl rfl rfl (by kernel_rfl) rfl (Jr x0.term _ hm36) ?_
  rintro e w ⟨rfl, hN⟩; refine ⟨_, rfl, ?_⟩; obtain ⟨hB, hS⟩ := hS.jn hN
  refine Zb 2 rfl (Zs 59 rfl (fun hb => ?_) (fun hb => ?_))
  rotate_left
  ·replace H := Zo H hb
   refine Zb 5 rfl (Zg (Zc hK29 (Zk (Zm rfl (RV.tmp rfl RV.nil) rfl ?_))))
   obtain rfl := QJ H
   replace hS := hS.cut 0
   exact ⟨rfl, hS⟩
  replace H := Zp H hb
  refine Za rfl rfl rfl (Zf fo_23_2 rfl) (Za rfl rfl rfl (Zh Z1 rfl (Zhr _) hS hs0 trivial Za0) ?_)
  obtain ⟨r38, hm39, H⟩ := bind_some H
  refine Zn rfl rfl rfl rfl (by kernel_rfl) rfl (Jr x0.sum _ hm39) ?_
  rintro e w ⟨rfl, hN⟩; refine ⟨_, rfl, ?_⟩; obtain ⟨hB, hS⟩ := hS.jn hN
  refine Zb 2 rfl (Zg (Zc hK29 (Zk (Zm rfl (RV.tmp rfl RV.nil) rfl ?_))))
  obtain rfl := QJ H
  replace hS := hS.cut 0
  exact ⟨rfl, hS⟩
 replace H := Zo H hb
 refine Za rfl rfl rfl (Zf Zfd rfl) (Za rfl rfl rfl (Zh Z1 rfl (Zhr _) hS hs0 trivial J9) (Za rfl rfl rfl (Y1 rfl rfl) (Zb 2 rfl (Zs 44 rfl (fun hb => ?_) (fun hb => ?_)))))
 rotate_left
 ·replace H := Zo H hb
  refine Zb 20 rfl (Zg (Zc hK29 (Zk (Zm rfl (RV.tmp rfl RV.nil) rfl ?_))))
  obtain rfl := QJ H
  replace hS := hS.cut 0
  exact ⟨rfl, hS⟩
 replace H := Zp H hb
 refine Za rfl rfl rfl (Zf Yj rfl) (Za rfl rfl rfl (Zh Z1 rfl (Zhr _) hS hs0 trivial Y4) ?_)
 obtain ⟨r45, hm46, H⟩ := bind_some H
 refine Zn rfl rfl rfl rfl (by kernel_rfl) rfl (Jr x0.index _ hm46) ?_
 rintro e w ⟨rfl, hN⟩; refine ⟨_, rfl, ?_⟩; obtain ⟨hB, hS⟩ := hS.jn hN
 refine Zb 2 rfl (Zs 49 rfl (fun hb => ?_) (fun hb => ?_))
 rotate_left
 ·replace H := Zo H hb
  refine Zb 15 rfl (Zg (Zc hK29 (Zk (Zm rfl (RV.tmp rfl RV.nil) rfl ?_))))
  obtain rfl := QJ H
  replace hS := hS.cut 0
  exact ⟨rfl, hS⟩
 replace H := Zp H hb
 refine Za rfl rfl rfl (Zf Zc1 rfl) (Za rfl rfl rfl (Zh Z1 rfl (Zhr _) hS hs0 trivial Vl) (Za rfl rfl rfl (Xc rfl rfl) (Zb 2 rfl (Zs 54 rfl (fun hb => ?_) (fun hb => ?_)))))
 rotate_left
 ·replace H := Zo H hb
  refine Zb 10 rfl (Zg (Zc hK29 (Zk (Zm rfl (RV.tmp rfl RV.nil) rfl ?_))))
  obtain rfl := QJ H
  replace hS := hS.cut 0
  exact ⟨rfl, hS⟩
 replace H := Zp H hb
 refine Za rfl rfl rfl (Zf Zc1 rfl) (Za rfl rfl rfl (Zh Z1 rfl (Zhr _) hS hs0 trivial Vl) ?_)
 obtain ⟨r49, hm50, H⟩ := bind_some H
 refine Zn rfl rfl rfl rfl (by kernel_rfl) rfl (Jr x0.term _ hm50) ?_
 rintro e w ⟨rfl, hN⟩; refine ⟨_, rfl, ?_⟩; obtain ⟨hB, hS⟩ := hS.jn hN
 refine Zb 2 rfl (Zs 59 rfl (fun hb => ?_) (fun hb => ?_))
 rotate_left
 ·replace H := Zo H hb
  refine Zb 5 rfl (Zg (Zc hK29 (Zk (Zm rfl (RV.tmp rfl RV.nil) rfl ?_))))
  obtain rfl := QJ H
  replace hS := hS.cut 0
  exact ⟨rfl, hS⟩
 replace H := Zp H hb
 refine Za rfl rfl rfl (Zf fo_23_2 rfl) (Za rfl rfl rfl (Zh Z1 rfl (Zhr _) hS hs0 trivial Za0) ?_)
 obtain ⟨r52, hm53, H⟩ := bind_some H
 refine Zn rfl rfl rfl rfl (by kernel_rfl) rfl (Jr x0.sum _ hm53) ?_
 rintro e w ⟨rfl, hN⟩; refine ⟨_, rfl, ?_⟩; obtain ⟨hB, hS⟩ := hS.jn hN
 refine Zb 2 rfl (Zg (Zc hK29 (Zk (Zm rfl (RV.tmp rfl RV.nil) rfl ?_))))
 obtain rfl := QJ H
 replace hS := hS.cut 0
 exact ⟨rfl, hS⟩
theorem Zgk (x0 : List Int) (x1 : Int) (x2 : Int) (x3 : Int) (A0_ : OA) (c0_ : Nat) (w0 : World) (s0_ : SlI w0 Vh A0_ c0_ x0) {r : Bool} (H : Zcb x0 x1 x2 x3 = some r) : Calls Tryz.prog 98 #[.slice A0_ x0.length c0_, .int .i64 x1, .int .i64 x2, .int .i64 x3] w0 fun e w' => e = .returned (.bool r) ∧ St0 All w0 w' [] := by
 unfold Zcb at H
 refine Zhm Tryz.func98 rfl Tryz.ntmps98 rfl ?_
 have hS := St0.start All w0
 refine Zd (fun K hK1 => Ze (Z4 rfl rfl rfl CellsOf.int hS (fun b2 w hS hB => Z4 rfl rfl rfl CellsOf.int hS (fun b4 w hS hB => Zb 1 rfl (Zg (Zc hK1 (Zd (fun K hK6 => ?_))))))))
 refine Ze (Zb 1 rfl (Za rfl rfl rfl (Y0 Xv rfl) (Zb 1 rfl (Za rfl rfl rfl (Y1 rfl rfl) (Zb 1 rfl (Zs 13 rfl (fun hb => ?_) (fun hb => ?_)))))))
 rotate_left
 ·replace H := Zo H hb
  refine Zb 6 rfl (Zg (Zc hK6 (Zk (Zm rfl (RV.tmp rfl RV.nil) rfl ?_))))
  obtain rfl := QJ H
  replace hS := hS.cut 0
  exact ⟨rfl, hS⟩
 replace H := Zp H hb
 refine Zb 1 rfl (Za rfl rfl rfl (Vc rfl rfl) (Jy rfl rfl rfl rfl (by kernel_rfl) rfl ?_))
 show Calls _ _ #[_, _] _ _
 refine Yn Tryz.func128 rfl Tryz.ntmps128 rfl (Zd (fun K hK8 => Ze (Zb 1 rfl (Zg (Zc hK8 (Zd (fun K hK9 => Ze ?_)))))))
 refine Zb 2 rfl (Jy rfl rfl rfl rfl (by kernel_rfl) rfl ?_)
 show Calls _ _ #[_, _] _ _
 refine Yn Tryz.func115 rfl Tryz.ntmps115 rfl (Zd (fun K hK10 => Ze (Zb 1 rfl (Zg (Zc hK10 (Zd (fun K hK11 => Zd (fun K hK12 => ?_))))))))
 refine Ze (Zb 1 rfl (Za rfl rfl rfl (Y0 Xv rfl) (Zb 1 rfl (Zg (Zc hK12 (Yd (Vq (X := Nat × Int × Int) (fun x => (0, .slice A0_ x0.length c0_) :: (1, .func (.func 129) #[] #[.pointer (some ⟨b2, 0, none⟩), .pointer (some ⟨b4, 0, none⟩)]) :: (4, .int .i64 x.2.1) :: (7, .int .i64 (x0.length : Int)) :: (8, .int .i64 x.2.2) :: []) (fun x w => St0 All w0 w (.box b4 [.int .i64 x3] 3 :: .box b2 [.int .i64 x2] 3 :: []) ∧ Zbm x0 x2 x3 x.1 x.2.1 x.2.2 = some r) (fun x => x.1) (Xr, 0, 0) (by repeat (first | exact Sub.nil | refine Sub.cons rfl ?_)) ⟨hS, H⟩ ?_)))))))
 rintro ⟨n, v13, v14⟩ w ⟨hS, H⟩
 dsimp only at hS H ⊢
 obtain _ | n := n
 ·have H0 : none = some r := H
  cases H0
 rw [Zbm] at H
 refine Zd (fun K hK15 => Ze (Za rfl rfl rfl (Xk rfl rfl) (Zg (Zc hK15 (Zd (fun K hK16 => Zy rfl (fun hb => ?_) (fun hb => ?_)))))))
 rotate_left
 ·replace H := Zo H hb
  refine X1 (Z8 (Z8 (Yz (Zc hK11 (Zd (fun K hK32 => Ze (Zb 1 rfl ?_)))))))
  refine Zg (Zc hK32 (Zk (Zm rfl (RV.tmp rfl RV.nil) rfl (⟨_, rfl, ?_⟩))))
  refine Za rfl rfl rfl (Zed rfl rfl) (Zb 1 rfl (Zg (Zc hK9 (Zk (Zm rfl (RV.tmp rfl RV.nil) rfl (⟨_, rfl, ?_⟩))))))
  refine Za rfl rfl rfl (Ys rfl) (Zb 2 rfl (Zg (Zc hK6 (Zk (Zm rfl (RV.tmp rfl RV.nil) rfl ?_)))))
  obtain rfl := QJ H
  replace hS := hS.cut 0
  exact ⟨rfl, hS⟩
 replace H := Zp H hb
 refine Zr (Zc hK16 (Zd (fun K hK18 => Yd (Zd (fun K hK19 => Ze (Zb 2 rfl (Zg ?_)))))))
 refine Zc hK19 (Zd (fun K hK20 => Ze (Zb 3 rfl ?_)))
 obtain ⟨e21, hi23, H⟩ := bind_some H
 obtain ⟨j22, hi23a, hi23b, hi23c⟩ := Yt hi23
 refine Za rfl rfl rfl (Xf Xv rfl rfl hi23a hi23c (Rd.el (hS.rd0 s0_.rd) Yh hi23b)) (Za rfl rfl rfl (Vj Z1 rfl (Zhr _) (Rd.el (hS.rd0 s0_.rd) Yh hi23b) rfl) (Jy rfl rfl rfl rfl (by kernel_rfl) rfl ?_))
 show Calls _ _ #[_, _, _] _ _
 refine Vx Tryz.func129 rfl Tryz.ntmps129 rfl (Zd (fun K hK24 => Ze (Zb 1 rfl (Zg (Zc hK24 (Zd (fun K hK25 => Ze ?_)))))))
 refine Zb 1 rfl (Za rfl rfl rfl (Zh Z1 rfl (Zhr _) hS Xa trivial Y4) (Za rfl rfl rfl (Zh Z1 rfl (Zhr _) hS hs0 trivial Y4) ?_))
 obtain ⟨r26, hm27, H⟩ := bind_some H
 refine Zn rfl rfl rfl rfl (by kernel_rfl) rfl (Zax e21 x2 x3 _ hm27) ?_
 rintro e w ⟨rfl, hN⟩; refine ⟨_, rfl, ?_⟩; obtain ⟨hB, hS⟩ := hS.jn hN
 refine Za rfl rfl rfl (Ys rfl) (Zb 1 rfl (Zg (Zc hK25 (Zk (Zm rfl (RV.tmp rfl RV.nil) rfl (⟨_, rfl, ?_⟩))))))
 refine Zg (Zc hK20 (Zy rfl (fun hb => ?_) (fun hb => ?_)))
 rotate_left
 ·replace H := Zo H hb
  refine Zr (Z3 (Zc hK18 (Ze (Za rfl rfl rfl (Xd rfl rfl) (Zb 1 rfl (Zg ?_))))))
  exact X2 (n, v13, (IntKind.wrap .i64 (v14 + 1))) (by repeat (first | exact Sub.nil | refine Sub.cons rfl ?_)) ⟨hS, H⟩ (Nat.lt_succ_self _)
 replace H := Zp H hb
 refine Zd (fun K hK29 => Ze (Zb 2 rfl (Zg (Zc hK29 (Zk (Zx (Zj ?_)))))))
 refine Zj (Zx (Zj (Zm rfl (RV.tmp rfl RV.nil) rfl (⟨_, rfl, ?_⟩))))
 refine Za rfl rfl rfl (Zed rfl rfl) (Zb 1 rfl (Zg (Zc hK9 (Zk (Zm rfl (RV.tmp rfl RV.nil) rfl (⟨_, rfl, ?_⟩))))))
 refine Za rfl rfl rfl (Ys rfl) (Zb 2 rfl (Zg (Zc hK6 (Zk (Zm rfl (RV.tmp rfl RV.nil) rfl ?_)))))
 obtain rfl := QJ H
 replace hS := hS.cut 0
 exact ⟨rfl, hS⟩
theorem Zg0 (x0 : Co) (A0_ : OA) (c0_ : Nat) (A1_ : OA) (c1_ : Nat) (A2_ : OA) (c2_ : Nat) (A3_ : OA) (c3_ : Nat) (A4_ : OA) (c4_ : Nat) (w0 : World) (s0_ : SlI w0 Vv A0_ c0_ x0.tuple.log) (s1_ : SlI w0 enO A1_ c1_ x0.votes) (s2_ : SlI w0 Vh A2_ c2_ x0.next) (s3_ : SlI w0 Vh A3_ c3_ x0.mtch) (s4_ : SlI w0 Vh A4_ c4_ x0.caps) {r : Bool} (H : Zb3 x0 = some r) : Calls Tryz.prog 50 #[.agg #[.int .i64 x0.id, .int .i64 x0.n, .int .u8 x0.role, .int .i64 x0.binary, .int .i64 x0.tuple.snap.index, .int .i64 x0.tuple.snap.term, .int .i64 x0.tuple.snap.sum, .int .i64 x0.tuple.snap.level, .bool x0.tuple.snap.final, .slice A0_ x0.tuple.log.length c0_, .int .i64 x0.tuple.term, .int .i64 x0.tuple.vote, .int .i64 x0.commit, .int .i64 x0.applied.index, .int .i64 x0.applied.term, .int .i64 x0.applied.sum, .int .i64 x0.applied.level, .bool x0.applied.final, .slice A1_ x0.votes.length c1_, .slice A2_ x0.next.length c2_, .slice A3_ x0.mtch.length c3_, .slice A4_ x0.caps.length c4_]] w0 fun e w' => e = .returned (.bool r) ∧ St0 All w0 w' [] := by
 unfold Zb3 at H
 refine Yp Tryz.func50 rfl Tryz.ntmps50 rfl ?_
 have hS := St0.start All w0
 refine Zd (fun K hK1 => Ze (Z4 rfl rfl rfl CellsOf.agg hS (fun b2 w hS hB => Zb 1 rfl (Zg (Zc hK1 (Zd (fun K hK4 => Ze ?_)))))))
 refine Za rfl rfl rfl (Zf Yy rfl) (Za rfl rfl rfl (Zi Ya rfl (Zhr _) hS hs0 trivial Jv) ?_)
 obtain ⟨r5, hm6, H⟩ := bind_some H
 refine Zn rfl rfl rfl rfl (by kernel_rfl) rfl (Zer x0.tuple A0_ c0_ _ (Zhu s0_.k (hS.rd0 s0_.rd) (hS.blk0 s0_.blk)) hm6) ?_
 rintro e w ⟨rfl, hN⟩; refine ⟨_, rfl, ?_⟩; obtain ⟨hB, hS⟩ := hS.jn hN
 refine Z5 rfl rfl zc_3 hS (fun b7 w hS hB => Zl rfl rfl rfl CellsOf.int hS ps0 Zfp (by kernel_rfl) rfl (fun w hS hB => Zg (Zc hK4 (Zd (fun K hK9 => Zd (fun K hK10 => Ze (Za rfl rfl rfl (Vc rfl rfl) ?_)))))))
 refine Za rfl rfl rfl (Vc rfl rfl) (Za rfl rfl rfl (Vc rfl rfl) (Za rfl rfl rfl (Vc rfl rfl) (Za rfl rfl rfl (Vc rfl rfl) (Za rfl rfl rfl (Vc rfl rfl) (Za rfl rfl rfl (Xl (cells := [.func (.func 92) #[] #[.pointer (some ⟨b2, 0, none⟩)], .func (.func 94) #[] #[.pointer (some ⟨b2, 0, none⟩)], .func (.func 96) #[] #[.pointer (some ⟨b2, 0, none⟩)], .func (.func 97) #[] #[.pointer (some ⟨b2, 0, none⟩), .pointer (some ⟨b7, 0, none⟩)], .func (.func 99) #[] #[.pointer (some ⟨b2, 0, none⟩)], .func (.func 100) #[] #[.pointer (some ⟨b2, 0, none⟩)]]) rfl (by kernel_rfl)) (Zb 1 rfl (Zg ?_)))))))
 refine Zc hK10 (Yd (wpC_rounds 60 (Zd (fun K hK11 => Ze (Za rfl rfl rfl (Xk rfl rfl) (Zg (Zc hK11 ?_)))))))
 refine Zd (fun K hK12 => Zt rfl rfl (Zr (Zc hK12 (Zd (fun K hK13 => Yd (Zd (fun K hK14 => Ze ?_)))))))
 refine Za rfl rfl rfl (Zhf (n := 6) (e := 34) (j := 0) (by kernel_rfl) (by kernel_rfl) (by kernel_rfl) rfl rfl rfl (by decide) rfl) (Zb 1 rfl (Zg (Zc hK14 (Zd (fun K hK15 => Ze (Zb 1 rfl (Jy rfl rfl rfl rfl (by kernel_rfl) rfl ?_)))))))
 show Calls _ _ #[_] _ _
 refine Yp Tryz.func92 rfl Tryz.ntmps92 rfl (Zd (fun K hK16 => Ze (Zb 1 rfl (Zg (Zc hK16 (Zd (fun K hK17 => Ze ?_)))))))
 refine Za rfl rfl rfl (Zf V4 rfl) (Za rfl rfl rfl (Zh Z1 rfl (Zhr _) hS Xa trivial Vl) ?_)
 obtain ⟨r18, hm19, H⟩ := bind_some H
 refine Zn rfl rfl rfl rfl (by kernel_rfl) rfl (Zax x0.n 1 5 _ hm19) ?_
 rintro e w ⟨rfl, hN⟩; refine ⟨_, rfl, ?_⟩; obtain ⟨hB, hS⟩ := hS.jn hN
 refine Zb 1 rfl (Zs 5 rfl (fun hb => ?_) (fun hb => ?_))
 rotate_left
 ·replace H := Zo H hb
  refine Zb 7 rfl (Zg (Zc hK17 (Zk (Zm rfl (RV.tmp rfl RV.nil) rfl (⟨_, rfl, ?_⟩)))))
  refine Za rfl rfl rfl (Ys rfl) (Zg (Zc hK15 (Zt rfl rfl (Zd (fun K hK124 => Ze (Zb 1 rfl (Zg ?_)))))))
  refine Zc hK124 (Zk (Zx (Zj (Zj (Zx (Zj (Zm rfl (RV.tmp rfl RV.nil) rfl ?_)))))))
  obtain rfl := QJ H
  replace hS := hS.cut 0
  exact ⟨rfl, hS⟩
 replace H := Zp H hb
 refine Za rfl rfl rfl (Zf Zai rfl) (Za rfl rfl rfl (Zh Z1 rfl (Zhr _) hS Xa trivial Y4) (Za rfl rfl rfl (Zf V4 rfl) (Za rfl rfl rfl (Zh Z1 rfl (Zhr _) hS Xa trivial Vl) ?_)))
 obtain ⟨r21, hm22, H⟩ := bind_some H
 refine Zn rfl rfl rfl rfl (by kernel_rfl) rfl (Zax x0.id 1 x0.n _ hm22) ?_
 rintro e w ⟨rfl, hN⟩; refine ⟨_, rfl, ?_⟩; obtain ⟨hB, hS⟩ := hS.jn hN
 refine Zb 2 rfl (Zg (Zc hK17 (Zk (Zm rfl (RV.tmp rfl RV.nil) rfl (⟨_, rfl, ?_⟩)))))
 refine Za rfl rfl rfl (Ys rfl) (Zg (Zc hK15 (Zy rfl (fun hb => ?_) (fun hb => ?_))))
 ·replace H := Zp H hb
  refine Zd (fun K hK24 => Ze (Zb 1 rfl (Zg (Zc hK24 (Zk (Zx (Zj ?_)))))))
  refine Zj (Zx (Zj (Zm rfl (RV.tmp rfl RV.nil) rfl ?_)))
  obtain rfl := QJ H
  replace hS := hS.cut 0
  exact ⟨rfl, hS⟩
 replace H := Zo H hb
 refine Zr (Z3 (Zc hK13 (Ze (Za rfl rfl rfl (Xd rfl rfl) (Zb 1 rfl (Zg (QH_more ?_)))))))
 refine Zd (fun K hK26 => Ze (Za rfl rfl rfl (Xk rfl rfl) (Zg (Zc hK26 (Zd (fun K hK27 => Zt rfl rfl (Zr ?_)))))))
 refine Zc hK27 (Zd (fun K hK28 => Yd (Zd (fun K hK29 => Ze (Za rfl rfl rfl (Zhf (n := 6) (e := 34) (j := 1) (by kernel_rfl) (by kernel_rfl) (by kernel_rfl) rfl rfl rfl (by decide) rfl) (Zb 1 rfl (Zg ?_)))))))
 refine Zc hK29 (Zd (fun K hK30 => Ze (Zb 1 rfl (Jy rfl rfl rfl rfl (by kernel_rfl) rfl ?_))))
 show Calls _ _ #[_] _ _
 refine Yp Tryz.func94 rfl Tryz.ntmps94 rfl (Zd (fun K hK31 => Ze (Zb 1 rfl (Zg (Zc hK31 (Zd (fun K hK32 => Ze ?_)))))))
 refine Za rfl rfl rfl (Zf Zbj rfl) (Za rfl rfl rfl (Zh Zbq rfl (Zhr _) hS Xa trivial Za0) (Za rfl rfl rfl (Za5 rfl rfl) (Zb 1 rfl (Zs 5 rfl (fun hb => ?_) (fun hb => ?_)))))
 rotate_left
 ·replace H := Zo H hb
  refine Zb 10 rfl (Zg (Zc hK32 (Zk (Zm rfl (RV.tmp rfl RV.nil) rfl (⟨_, rfl, ?_⟩)))))
  refine Za rfl rfl rfl (Ys rfl) (Zg (Zc hK30 (Zt rfl rfl (Zd (fun K hK122 => Ze (Zb 1 rfl (Zg ?_)))))))
  refine Zc hK122 (Zk (Zx (Zj (Zj (Zx (Zj (Zm rfl (RV.tmp rfl RV.nil) rfl ?_)))))))
  obtain rfl := QJ H
  replace hS := hS.cut 0
  exact ⟨rfl, hS⟩
 replace H := Zp H hb
 refine Za rfl rfl rfl (Zf Zdr rfl) (Za rfl rfl rfl (Zh Z1 rfl (Zhr _) hS Xa trivial J9) ?_)
 obtain ⟨r34, hm35, H⟩ := bind_some H
 refine Zn rfl rfl rfl rfl (by kernel_rfl) rfl (Zax x0.binary 1 2 _ hm35) ?_
 rintro e w ⟨rfl, hN⟩; refine ⟨_, rfl, ?_⟩; obtain ⟨hB, hS⟩ := hS.jn hN
 refine Zb 2 rfl (Zs 10 rfl (fun hb => ?_) (fun hb => ?_))
 rotate_left
 ·replace H := Zo H hb
  refine Zb 5 rfl (Zg (Zc hK32 (Zk (Zm rfl (RV.tmp rfl RV.nil) rfl (⟨_, rfl, ?_⟩)))))
  refine Za rfl rfl rfl (Ys rfl) (Zg (Zc hK30 (Zt rfl rfl (Zd (fun K hK120 => Ze (Zb 1 rfl (Zg ?_)))))))
  refine Zc hK120 (Zk (Zx (Zj (Zj (Zx (Zj (Zm rfl (RV.tmp rfl RV.nil) rfl ?_)))))))
  obtain rfl := QJ H
  replace hS := hS.cut 0
  exact ⟨rfl, hS⟩
 replace H := Zp H hb
 refine Za rfl rfl rfl (Zf Yy rfl) (Za rfl rfl rfl (Zi Ya rfl (Zhr _) hS Xa trivial Jv) ?_)
 obtain ⟨r37, hm38, H⟩ := bind_some H
 refine Zn rfl rfl rfl rfl (by kernel_rfl) rfl (c_tuple_Right x0.tuple A0_ c0_ _ (Zhu s0_.k (hS.rd0 s0_.rd) (hS.blk0 s0_.blk)) hm38) ?_
 rintro e w ⟨rfl, hN⟩; refine ⟨_, rfl, ?_⟩; obtain ⟨hB, hS⟩ := hS.jn hN
 refine Zb 2 rfl (Zg (Zc hK32 (Zk (Zm rfl (RV.tmp rfl RV.nil) rfl (⟨_, rfl, ?_⟩)))))
 refine Za rfl rfl rfl (Ys rfl) (Zg (Zc hK30 (Zy rfl (fun hb => ?_) (fun hb => ?_))))
 ·replace H := Zp H hb
  refine Zd (fun K hK40 => Ze (Zb 1 rfl (Zg (Zc hK40 (Zk (Zx (Zj ?_)))))))
  refine Zj (Zx (Zj (Zm rfl (RV.tmp rfl RV.nil) rfl ?_)))
  obtain rfl := QJ H
  replace hS := hS.cut 0
  exact ⟨rfl, hS⟩
 replace H := Zo H hb
 refine Zr (Z3 (Zc hK28 (Ze (Za rfl rfl rfl (Xd rfl rfl) (Zb 1 rfl (Zg (QH_more ?_)))))))
 refine Zd (fun K hK42 => Ze (Za rfl rfl rfl (Xk rfl rfl) (Zg (Zc hK42 (Zd (fun K hK43 => Zt rfl rfl (Zr ?_)))))))
 refine Zc hK43 (Zd (fun K hK44 => Yd (Zd (fun K hK45 => Ze (Za rfl rfl rfl (Zhf (n := 6) (e := 34) (j := 2) (by kernel_rfl) (by kernel_rfl) (by kernel_rfl) rfl rfl rfl (by decide) rfl) (Zb 1 rfl (Zg ?_)))))))
 refine Zc hK45 (Zd (fun K hK46 => Ze (Zb 1 rfl (Jy rfl rfl rfl rfl (by kernel_rfl) rfl ?_))))
 show Calls _ _ #[_] _ _
 refine Yp Tryz.func96 rfl Tryz.ntmps96 rfl (Zd (fun K hK47 => Ze (Zb 1 rfl (Zg (Zc hK47 (Zd (fun K hK48 => Ze ?_)))))))
 refine Za rfl rfl rfl (Zf Yy rfl) (Za rfl rfl rfl (Zi Ya rfl (Zhr _) hS Xa trivial Jv) (Za rfl rfl rfl (Zf V6 rfl) (Za rfl rfl rfl (Zh Z1 rfl (Zhr _) hS Xa trivial Zbw) ?_)))
 obtain ⟨r49, hm50, H⟩ := bind_some H
 refine Zn rfl rfl rfl rfl (by kernel_rfl) rfl (Zfb x0.tuple x0.commit A0_ c0_ _ (Zhu s0_.k (hS.rd0 s0_.rd) (hS.blk0 s0_.blk)) hm50) ?_
 rintro e w ⟨rfl, hN⟩; refine ⟨_, rfl, ?_⟩; obtain ⟨hB, hS⟩ := hS.jn hN
 refine Zb 1 rfl (Za rfl rfl rfl (Zv rfl rfl) (Za rfl rfl rfl (Zv rfl rfl) (Z5 rfl rfl zc_23 hS (fun b51 w hS hB => Zl rfl rfl rfl CellsOf.agg hS ps0 Zex (by kernel_rfl) rfl (fun w hS hB => Zb 1 rfl (Zg (Zc hK48 ?_)))))))
 refine Zd (fun K hK53 => Ze (Zb 2 rfl (Zs 13 rfl (fun hb => ?_) (fun hb => ?_))))
 rotate_left
 ·replace H := Zo H hb
  refine Zb 6 rfl (Zg (Zc hK53 (Zk (Zm rfl (RV.tmp rfl RV.nil) rfl (⟨_, rfl, ?_⟩)))))
  refine Za rfl rfl rfl (Ys rfl) (Zg (Zc hK46 (Zt rfl rfl (Zd (fun K hK118 => Ze (Zb 1 rfl (Zg ?_)))))))
  refine Zc hK118 (Zk (Zx (Zj (Zj (Zx (Zj (Zm rfl (RV.tmp rfl RV.nil) rfl ?_)))))))
  obtain rfl := QJ H
  replace hS := hS.cut 0
  exact ⟨rfl, hS⟩
 replace H := Zp H hb
 refine Za rfl rfl rfl (Zi Y6 rfl (Zhr _) hS hs0 trivial Jm) (Za rfl rfl rfl (Zf Zfg rfl) (Za rfl rfl rfl (Zi Y6 rfl (Zhr _) hS Xq trivial sg13_5) (Za rfl rfl rfl (Zah (by kernel_rfl) rfl rfl (Zbc _ _ _ _ _ _ _ _ _ _)) (Zb 2 rfl (Zg (Zc hK53 (Zk ?_)))))))
 refine Zm rfl (RV.tmp rfl RV.nil) rfl (⟨_, rfl, ?_⟩)
 refine Za rfl rfl rfl (Ys rfl) (Zg (Zc hK46 (Zy rfl (fun hb => ?_) (fun hb => ?_))))
 ·replace H := Zp H hb
  refine Zd (fun K hK56 => Ze (Zb 1 rfl (Zg (Zc hK56 (Zk (Zx (Zj ?_)))))))
  refine Zj (Zx (Zj (Zm rfl (RV.tmp rfl RV.nil) rfl ?_)))
  obtain rfl := QJ H
  replace hS := hS.cut 0
  exact ⟨rfl, hS⟩
 replace H := Zo H hb
 refine Zr (Z3 (Zc hK44 (Ze (Za rfl rfl rfl (Xd rfl rfl) (Zb 1 rfl (Zg (QH_more ?_)))))))
 refine Zd (fun K hK58 => Ze (Za rfl rfl rfl (Xk rfl rfl) (Zg (Zc hK58 (Zd (fun K hK59 => Zt rfl rfl (Zr ?_)))))))
 refine Zc hK59 (Zd (fun K hK60 => Yd (Zd (fun K hK61 => Ze (Za rfl rfl rfl (Zhf (n := 6) (e := 34) (j := 3) (by kernel_rfl) (by kernel_rfl) (by kernel_rfl) rfl rfl rfl (by decide) rfl) (Zb 1 rfl (Zg ?_)))))))
 refine Zc hK61 (Zd (fun K hK62 => Ze (Zb 1 rfl (Jy rfl rfl rfl rfl (by kernel_rfl) rfl ?_))))
 show Calls _ _ #[_, _] _ _
 refine Yn Tryz.func97 rfl Tryz.ntmps97 rfl (Zd (fun K hK63 => Ze (Zb 1 rfl (Zg (Zc hK63 (Zd (fun K hK64 => Ze ?_)))))))
 refine Za rfl rfl rfl (Zf Zbg rfl) (Za rfl rfl rfl (Zh sc_27 rfl (Zhr _) hS Xq trivial Zgf) (Za rfl rfl rfl (Y0 el_27 rfl) (Za rfl rfl rfl (Zf V4 rfl) (Za rfl rfl rfl (Zh Z1 rfl (Zhr _) hS Xq trivial Vl) (Za rfl rfl rfl (Y1 rfl rfl) (Zb 1 rfl (Zs 9 rfl (fun hb => ?_) (fun hb => ?_))))))))
 rotate_left
 ·replace H := Zo H hb
  refine Zb 17 rfl (Zg (Zc hK64 (Zk (Zm rfl (RV.tmp rfl RV.nil) rfl (⟨_, rfl, ?_⟩)))))
  refine Za rfl rfl rfl (Ys rfl) (Zg (Zc hK62 (Zt rfl rfl (Zd (fun K hK116 => Ze (Zb 1 rfl (Zg ?_)))))))
  refine Zc hK116 (Zk (Zx (Zj (Zj (Zx (Zj (Zm rfl (RV.tmp rfl RV.nil) rfl ?_)))))))
  obtain rfl := QJ H
  replace hS := hS.cut 0
  exact ⟨rfl, hS⟩
 replace H := Zp H hb
 refine Za rfl rfl rfl (Zf Vs rfl) (Za rfl rfl rfl (Zh X3 rfl (Zhr _) hS Xq trivial Zat) (Za rfl rfl rfl (Zf V4 rfl) (Za rfl rfl rfl (Zh Z1 rfl (Zhr _) hS Xq trivial Vl) (Za rfl rfl rfl (Zh Z1 rfl (Zhr _) hS Xa trivial Y4) (Za rfl rfl rfl (Xd rfl rfl) ?_)))))
 obtain ⟨r66, hm67, H⟩ := bind_some H
 refine Zn rfl rfl rfl rfl (by kernel_rfl) rfl (Zgk x0.next x0.n 1 (IntKind.wrap .i64 (r5 + 1)) A2_ c2_ _ (Zhu s2_.k (hS.rd0 s2_.rd) (hS.blk0 s2_.blk)) hm67) ?_
 rintro e w ⟨rfl, hN⟩; refine ⟨_, rfl, ?_⟩; obtain ⟨hB, hS⟩ := hS.jn hN
 refine Zb 2 rfl (Zs 18 rfl (fun hb => ?_) (fun hb => ?_))
 rotate_left
 ·replace H := Zo H hb
  refine Zb 8 rfl (Zg (Zc hK64 (Zk (Zm rfl (RV.tmp rfl RV.nil) rfl (⟨_, rfl, ?_⟩)))))
  refine Za rfl rfl rfl (Ys rfl) (Zg (Zc hK62 (Zt rfl rfl (Zd (fun K hK114 => Ze (Zb 1 rfl (Zg ?_)))))))
  refine Zc hK114 (Zk (Zx (Zj (Zj (Zx (Zj (Zm rfl (RV.tmp rfl RV.nil) rfl ?_)))))))
  obtain rfl := QJ H
  replace hS := hS.cut 0
  exact ⟨rfl, hS⟩
 replace H := Zp H hb
 refine Za rfl rfl rfl (Zf Ji rfl) (Za rfl rfl rfl (Zh X3 rfl (Zhr _) hS Xq trivial Zbo) (Za rfl rfl rfl (Zf V4 rfl) (Za rfl rfl rfl (Zh Z1 rfl (Zhr _) hS Xq trivial Vl) (Za rfl rfl rfl (Zh Z1 rfl (Zhr _) hS Xa trivial Y4) ?_))))
 obtain ⟨r69, hm70, H⟩ := bind_some H
 refine Zn rfl rfl rfl rfl (by kernel_rfl) rfl (Zgk x0.mtch x0.n 0 r5 A3_ c3_ _ (Zhu s3_.k (hS.rd0 s3_.rd) (hS.blk0 s3_.blk)) hm70) ?_
 rintro e w ⟨rfl, hN⟩; refine ⟨_, rfl, ?_⟩; obtain ⟨hB, hS⟩ := hS.jn hN
 refine Zb 2 rfl (Zg (Zc hK64 (Zk (Zm rfl (RV.tmp rfl RV.nil) rfl (⟨_, rfl, ?_⟩)))))
 refine Za rfl rfl rfl (Ys rfl) (Zg (Zc hK62 (Zy rfl (fun hb => ?_) (fun hb => ?_))))
 ·replace H := Zp H hb
  refine Zd (fun K hK72 => Ze (Zb 1 rfl (Zg (Zc hK72 (Zk (Zx (Zj ?_)))))))
  refine Zj (Zx (Zj (Zm rfl (RV.tmp rfl RV.nil) rfl ?_)))
  obtain rfl := QJ H
  replace hS := hS.cut 0
  exact ⟨rfl, hS⟩
 replace H := Zo H hb
 refine Zr (Z3 (Zc hK60 (Ze (Za rfl rfl rfl (Xd rfl rfl) (Zb 1 rfl (Zg (QH_more ?_)))))))
 refine Zd (fun K hK74 => Ze (Za rfl rfl rfl (Xk rfl rfl) (Zg (Zc hK74 (Zd (fun K hK75 => Zt rfl rfl (Zr ?_)))))))
 refine Zc hK75 (Zd (fun K hK76 => Yd (Zd (fun K hK77 => Ze (Za rfl rfl rfl (Zhf (n := 6) (e := 34) (j := 4) (by kernel_rfl) (by kernel_rfl) (by kernel_rfl) rfl rfl rfl (by decide) rfl) (Zb 1 rfl (Zg ?_)))))))
 refine Zc hK77 (Zd (fun K hK78 => Ze (Zb 1 rfl (Jy rfl rfl rfl rfl (by kernel_rfl) rfl ?_))))
 show Calls _ _ #[_] _ _
 refine Yp Tryz.func99 rfl Tryz.ntmps99 rfl (Zd (fun K hK79 => Ze (Zb 1 rfl (Zg (Zc hK79 (Zd (fun K hK80 => Yi 18 [] (fun _ _ => True) ⟨by kernel_rfl, by kernel_rfl⟩ hS (fun w hS hB => ?_))))))))
 refine Zq [Tt,Tt,Tt,Tt] (by decide +kernel) PFC.h (LtK.put rfl rfl rfl (Zf Jl rfl) (LtK.put rfl rfl rfl (Zh X3 rfl (Zhs _) hS Xq trivial Zdc) (LtK.put rfl rfl rfl (Zf V4 rfl) (LtK.put rfl rfl rfl (Zh Z1 rfl (Zhs _) hS Xq trivial Vl) (LtK.nil (Z6 [Ff,Ff,Ff,Ff,Tt] 4 ⟨by decide, by kernel_rfl, by kernel_rfl⟩ rfl rfl ?_))))))
 try dsimp only [Z0]
 obtain ⟨r81, hm82, H⟩ := bind_some H
 refine Zn rfl rfl rfl rfl (by kernel_rfl) rfl (Zgk x0.caps x0.n 0 2 A4_ c4_ _ (Zhu s4_.k (hS.rd0 s4_.rd) (hS.blk0 s4_.blk)) hm82) ?_
 rintro e w ⟨rfl, hN⟩; refine ⟨_, rfl, ?_⟩; obtain ⟨hB, hS⟩ := hS.jn hN
 refine Zg (Z9 hB (Zq [Ff,Ff,Ff,Ff,Ff,Tt] (by decide +kernel) PFC.h (LtK.put rfl rfl rfl (Zw rfl) (LtK.nil (Jw 7 rfl (fun hb => ?_) (fun hb => ?_))))))
 rotate_left
 ·replace H := Zo H hb
  refine Zq [Ff,Ff,Ff,Ff,Ff,Ff,Tt,Tt,Tt,Tt,Tt,Tt,Tt,Tt,Tt,Tt,Tt,Tt] (by decide +kernel) PFC.h (LtK.skip rfl rfl rfl (LtK.skip rfl rfl rfl (LtK.skip rfl rfl rfl (LtK.skip rfl rfl rfl (LtK.skip rfl rfl rfl (LtK.skip rfl rfl rfl (LtK.skip rfl rfl rfl ?_)))))))
  refine LtK.skip rfl rfl rfl (LtK.skip rfl rfl rfl (LtK.skip rfl rfl rfl (LtK.put rfl rfl rfl (Y3 rfl rfl rfl) (LtK.put rfl rfl rfl (Z2 rfl) (LtK.nil (Ye (by kernel_rfl) (Zc hK80 ?_)))))))
  refine Zk (Zm rfl (RV.tmp rfl RV.nil) rfl (⟨_, rfl, ?_⟩))
  refine Za rfl rfl rfl (Ys rfl) (Zg (Zc hK78 (Zt rfl rfl (Zd (fun K hK112 => Ze (Zb 1 rfl (Zg ?_)))))))
  refine Zc hK112 (Zk (Zx (Zj (Zj (Zx (Zj (Zm rfl (RV.tmp rfl RV.nil) rfl ?_)))))))
  obtain rfl := QJ H
  replace hS := hS.cut 0
  exact ⟨rfl, hS⟩
 replace H := Zp H hb
 refine Zq [Ff,Ff,Ff,Ff,Ff,Ff,Tt,Tt,Tt,Tt,Tt,Tt,Tt,Tt,Tt,Tt,Tt,Tt] (by decide +kernel) PFC.h (LtK.put rfl rfl rfl (Zf Jl rfl) (LtK.put rfl rfl rfl (Zh X3 rfl (Zhs _) hS Xq trivial Zdc) (LtK.put rfl rfl rfl (Zf Zai rfl) (LtK.put rfl rfl rfl (Zh Z1 rfl (Zhs _) hS Xq trivial Y4) (LtK.put rfl rfl rfl (Ju rfl rfl) ?_)))))
 obtain ⟨e84, hi86, H⟩ := bind_some H
 obtain ⟨j85, hi86a, hi86b, hi86c⟩ := Yt hi86
 refine LtK.put rfl rfl rfl (Xf Xv rfl rfl hi86a hi86c (Rd.el (hS.rd0 s4_.rd) Yh hi86b)) (LtK.put rfl rfl rfl (Vj Z1 rfl (Zhs _) (Rd.el (hS.rd0 s4_.rd) Yh hi86b) rfl) (LtK.put rfl rfl rfl (Zf Zdr rfl) (LtK.put rfl rfl rfl (Zh Z1 rfl (Zhs _) hS Xq trivial J9) (LtK.put rfl rfl rfl (Y1 rfl rfl) (LtK.put rfl rfl rfl (Ym rfl rfl rfl) (LtK.put rfl rfl rfl (Z2 rfl) (LtK.nil ?_)))))))
 refine Ye (by kernel_rfl) (Zc hK80 (Zk (Zm rfl (RV.tmp rfl RV.nil) rfl (⟨_, rfl, ?_⟩))))
 refine Za rfl rfl rfl (Ys rfl) (Zg (Zc hK78 (Zy rfl (fun hb => ?_) (fun hb => ?_))))
 ·replace H := Zp H hb
  refine Zd (fun K hK88 => Ze (Zb 1 rfl (Zg (Zc hK88 (Zk (Zx (Zj ?_)))))))
  refine Zj (Zx (Zj (Zm rfl (RV.tmp rfl RV.nil) rfl ?_)))
  obtain rfl := QJ H
  replace hS := hS.cut 0
  exact ⟨rfl, hS⟩
 replace H := Zo H hb
 refine Zr (Z3 (Zc hK76 (Ze (Za rfl rfl rfl (Xd rfl rfl) (Zb 1 rfl (Zg (QH_more ?_)))))))
 refine Zd (fun K hK90 => Ze (Za rfl rfl rfl (Xk rfl rfl) (Zg (Zc hK90 (Zd (fun K hK91 => Zt rfl rfl (Zr ?_)))))))
 refine Zc hK91 (Zd (fun K hK92 => Yd (Zd (fun K hK93 => Ze (Za rfl rfl rfl (Zhf (n := 6) (e := 34) (j := 5) (by kernel_rfl) (by kernel_rfl) (by kernel_rfl) rfl rfl rfl (by decide) rfl) (Zb 1 rfl (Zg ?_)))))))
 refine Zc hK93 (Zd (fun K hK94 => Ze (Zb 1 rfl (Jy rfl rfl rfl rfl (by kernel_rfl) rfl ?_))))
 show Calls _ _ #[_] _ _
 refine Yp Tryz.func100 rfl Tryz.ntmps100 rfl (Zd (fun K hK95 => Ze (Zb 1 rfl (Zg (Zc hK95 (Zd (fun K hK96 => Ze ?_)))))))
 refine Za rfl rfl rfl (Zf Zbj rfl) (Za rfl rfl rfl (Zh Zbq rfl (Zhr _) hS Xq trivial Za0) (Za rfl rfl rfl (Y1 rfl rfl) (Zb 1 rfl (Zs 5 rfl (fun hb => ?_) (fun hb => ?_)))))
 ·replace H := Zp H hb
  refine Zb 14 rfl (Zg (Zc hK96 (Zk (Zm rfl (RV.tmp rfl RV.nil) rfl (⟨_, rfl, ?_⟩)))))
  refine Za rfl rfl rfl (Ys rfl) (Zg (Zc hK94 (Yl rfl rfl (Zr (Z3 (Zc hK92 (Ze ?_)))))))
  refine Za rfl rfl rfl (Xd rfl rfl) (Zb 1 rfl (Zg (QH_more (Zd (fun K hK98 => Ze (Za rfl rfl rfl (Xk rfl rfl) (Zg ?_)))))))
  refine Zc hK98 (Zd (fun K hK99 => Yl rfl rfl (X1 (Z8 (Z8 (Yz (Zc hK9 ?_)))))))
  refine Zd (fun K hK100 => Ze (Zb 1 rfl (Zg (Zc hK100 (Zk (Zm rfl (RV.tmp rfl RV.nil) rfl ?_))))))
  obtain rfl := QJ H
  replace hS := hS.cut 0
  exact ⟨rfl, hS⟩
 replace H := Zo H hb
 refine Za rfl rfl rfl (Zf Yy rfl) (Za rfl rfl rfl (Zf Vi rfl) (Za rfl rfl rfl (Zh Z1 rfl (Zhr _) hS Xq trivial Zam) (Za rfl rfl rfl (Xc rfl rfl) (Zb 1 rfl (Zs 10 rfl (fun hb => ?_) (fun hb => ?_))))))
 rotate_left
 ·replace H := Zo H hb
  refine Zb 9 rfl (Zg (Zc hK96 (Zk (Zm rfl (RV.tmp rfl RV.nil) rfl (⟨_, rfl, ?_⟩)))))
  refine Za rfl rfl rfl (Ys rfl) (Zg (Zc hK94 (Zt rfl rfl (Zd (fun K hK110 => Ze (Zb 1 rfl (Zg ?_)))))))
  refine Zc hK110 (Zk (Zx (Zj (Zj (Zx (Zj (Zm rfl (RV.tmp rfl RV.nil) rfl ?_)))))))
  obtain rfl := QJ H
  replace hS := hS.cut 0
  exact ⟨rfl, hS⟩
 replace H := Zp H hb
 refine Za rfl rfl rfl (Zf Yy rfl) (Za rfl rfl rfl (Zf J5 rfl) (Za rfl rfl rfl (Zh Z1 rfl (Zhr _) hS Xq trivial sg11_1) (Za rfl rfl rfl (Zf Zai rfl) (Za rfl rfl rfl (Zh Z1 rfl (Zhr _) hS Xq trivial Y4) (Za rfl rfl rfl (Y1 rfl rfl) (Zb 3 rfl (Zg ?_)))))))
 refine Zc hK96 (Zk (Zm rfl (RV.tmp rfl RV.nil) rfl (⟨_, rfl, ?_⟩)))
 refine Za rfl rfl rfl (Ys rfl) (Zg (Zc hK94 (Zy rfl (fun hb => ?_) (fun hb => ?_))))
 ·replace H := Zp H hb
  refine Zd (fun K hK104 => Ze (Zb 1 rfl (Zg (Zc hK104 (Zk (Zx (Zj ?_)))))))
  refine Zj (Zx (Zj (Zm rfl (RV.tmp rfl RV.nil) rfl ?_)))
  obtain rfl := QJ H
  replace hS := hS.cut 0
  exact ⟨rfl, hS⟩
 replace H := Zo H hb
 refine Zr (Z3 (Zc hK92 (Ze (Za rfl rfl rfl (Xd rfl rfl) (Zb 1 rfl (Zg (QH_more ?_)))))))
 refine Zd (fun K hK106 => Ze (Za rfl rfl rfl (Xk rfl rfl) (Zg (Zc hK106 (Zd (fun K hK107 => Yl rfl rfl (X1 ?_)))))))
 refine Z8 (Z8 (Yz (Zc hK9 (Zd (fun K hK108 => Ze (Zb 1 rfl (Zg ?_)))))))
 refine Zc hK108 (Zk (Zm rfl (RV.tmp rfl RV.nil) rfl ?_))
 obtain rfl := QJ H
 replace hS := hS.cut 0
 exact ⟨rfl, hS⟩
theorem c_tuple_At (x0 : Tu) (x1 : Int) (A0_ : OA) (c0_ : Nat) (w0 : World) (s0_ : SlI w0 Vv A0_ c0_ x0.log) {r : En × Bool} (H : m_tuple_At x0 x1 = some r) : Calls Tryz.prog 113 #[.agg #[.int .i64 x0.snap.index, .int .i64 x0.snap.term, .int .i64 x0.snap.sum, .int .i64 x0.snap.level, .bool x0.snap.final, .slice A0_ x0.log.length c0_, .int .i64 x0.term, .int .i64 x0.vote], .int .i64 x1] w0 fun e w' => e = .returned (.tuple #[.agg #[.int .i64 r.1.term, .int .i64 r.1.kind, .int .i64 r.1.value], .bool r.2]) ∧ St0 All w0 w' [] := by
 unfold m_tuple_At at H
 refine Yn Tryz.func113 rfl Tryz.ntmps113 rfl ?_
 have hS := St0.start All w0
 refine Zd (fun K hK1 => Ze (Z4 rfl rfl rfl CellsOf.agg hS (fun b2 w hS hB => Z5 rfl rfl Zdh hS (fun b4 w hS hB => Zb 1 rfl (Zg (Zc hK1 (Zd (fun K hK6 => ?_))))))))
 refine Zd (fun K hK7 => Ze (Zb 1 rfl (Za rfl rfl rfl (Zf Xj rfl) (Za rfl rfl rfl (Zf Yj rfl) (Za rfl rfl rfl (Zh Z1 rfl (Zhr _) hS Xa trivial Y4) (Za rfl rfl rfl (Za5 rfl rfl) (Zb 1 rfl ?_)))))))
 refine Zs 11 rfl (fun hb => ?_) (fun hb => ?_)
 ·replace H := Zp H hb
  refine Zb 5 rfl (Zg (Zc hK7 (Zt rfl rfl (Zd (fun K hK9 => Ze (Za rfl rfl rfl (Zi Jt rfl (Zhr _) hS hs0 trivial Zd3) (Zl rfl rfl rfl CellsOf.agg hS ps0 st0_3 (by kernel_rfl) rfl (fun w hS hB => ?_))))))))
  refine Zb 1 rfl (Zg (Zc hK9 (Zk (Zj (Zm rfl (RV.cell rfl (Zu Jt hS hs0 Zd3) (RV.tmp rfl RV.nil)) rfl ?_)))))
  obtain rfl := QJ H
  replace hS := hS.cut 0
  exact ⟨rfl, hS⟩
 replace H := Zo H hb
 refine Zb 1 rfl (Za rfl rfl rfl (Zi Ya rfl (Zhr _) hS Xa trivial Yx) ?_)
 obtain ⟨r11, hm12, H⟩ := bind_some H
 refine Zn rfl rfl rfl rfl (by kernel_rfl) rfl (Zer x0 A0_ c0_ _ (Zhu s0_.k (hS.rd0 s0_.rd) (hS.blk0 s0_.blk)) hm12) ?_
 rintro e w ⟨rfl, hN⟩; refine ⟨_, rfl, ?_⟩; obtain ⟨hB, hS⟩ := hS.jn hN
 refine Za rfl rfl rfl (Xc rfl rfl) (Zb 1 rfl (Zg (Zc hK7 (Zy rfl (fun hb => ?_) (fun hb => ?_)))))
 ·replace H := Zp H hb
  refine Zd (fun K hK14 => Ze (Za rfl rfl rfl (Zi Jt rfl (Zhr _) hS hs0 trivial Zd3) (Zl rfl rfl rfl CellsOf.agg hS ps0 st0_3 (by kernel_rfl) rfl (fun w hS hB => Zb 1 rfl (Zg (Zc hK14 (Zk ?_)))))))
  refine Zj (Zm rfl (RV.cell rfl (Zu Jt hS hs0 Zd3) (RV.tmp rfl RV.nil)) rfl ?_)
  obtain rfl := QJ H
  replace hS := hS.cut 0
  exact ⟨rfl, hS⟩
 replace H := Zo H hb
 refine Zr (Zc hK6 (Zd (fun K hK16 => Ze (Za rfl rfl rfl (Zf X4 rfl) (Za rfl rfl rfl (Zh Xx rfl (Zhr _) hS Xa trivial Jd) (Zb 1 rfl (Za rfl rfl rfl (Zf Xj rfl) ?_)))))))
 refine Za rfl rfl rfl (Zf Yj rfl) (Za rfl rfl rfl (Zh Z1 rfl (Zhr _) hS Xa trivial Y4) (Za rfl rfl rfl (Ju rfl rfl) (Za rfl rfl rfl (Ju rfl rfl) ?_)))
 obtain ⟨e17, hi19, H⟩ := bind_some H
 obtain ⟨j18, hi19a, hi19b, hi19c⟩ := Yt hi19
 refine Za rfl rfl rfl (Xf Y8 rfl rfl hi19a hi19c (Rd.el (hS.rd0 s0_.rd) Xy hi19b)) (Za rfl rfl rfl (Zel Jt rfl (Zhr _) (Rd.el (hS.rd0 s0_.rd) Xy hi19b) Zd3) (Zl rfl rfl rfl CellsOf.agg hS ps0 st0_3 (by kernel_rfl) rfl (fun w hS hB => Zb 1 rfl (Zg (Zc hK16 (Zk (Zm rfl (RV.cell rfl (Zu Jt hS hs0 Zd3) (RV.tmp rfl RV.nil)) rfl ?_)))))))
 obtain rfl := QJ H
 replace hS := hS.cut 0
 exact ⟨rfl, hS⟩
theorem Zga (x0 : Tu) (x1 : Int) (A0_ : OA) (c0_ : Nat) (w0 : World) (s0_ : SlI w0 Vv A0_ c0_ x0.log) {r : Int × Bool} (H : Za2 x0 x1 = some r) : Calls Tryz.prog 70 #[.agg #[.int .i64 x0.snap.index, .int .i64 x0.snap.term, .int .i64 x0.snap.sum, .int .i64 x0.snap.level, .bool x0.snap.final, .slice A0_ x0.log.length c0_, .int .i64 x0.term, .int .i64 x0.vote], .int .i64 x1] w0 fun e w' => e = .returned (.tuple #[.int .i64 r.1, .bool r.2]) ∧ St0 All w0 w' [] := by
 unfold Za2 at H
 refine Yn Tryz.func70 rfl Tryz.ntmps70 rfl ?_
 have hS := St0.start All w0
 refine Zd (fun K hK1 => Ze (Z4 rfl rfl rfl CellsOf.agg hS (fun b2 w hS hB => Zb 2 rfl (Zg (Zc hK1 (Zd (fun K hK4 => Zd (fun K hK5 => ?_))))))))
 refine Ze (Zb 1 rfl (Za rfl rfl rfl (Zf Xj rfl) (Za rfl rfl rfl (Zf Yj rfl) (Za rfl rfl rfl (Zh Z1 rfl (Zhr _) hS hs0 trivial Y4) (Za rfl rfl rfl (Y1 rfl rfl) (Zg (Zc hK5 ?_)))))))
 refine Zy rfl (fun hb => ?_) (fun hb => ?_)
 ·replace H := Zp H hb
  refine Zd (fun K hK7 => Ze (Za rfl rfl rfl (Zf Xj rfl) (Za rfl rfl rfl (Zf Zc1 rfl) (Za rfl rfl rfl (Zh Z1 rfl (Zhr _) hS hs0 trivial Vl) (Zb 2 rfl (Zg (Zc hK7 ?_)))))))
  refine Zk (Zj (Zm rfl (RV.tmp rfl (RV.tmp rfl RV.nil)) rfl ?_))
  obtain rfl := QJ H
  replace hS := hS.cut 0
  exact ⟨rfl, hS⟩
 replace H := Zo H hb
 refine Zr (Zc hK4 (Zd (fun K hK9 => Ze (Za rfl rfl rfl (Zi Ya rfl (Zhr _) hS hs0 trivial Yx) (Zb 1 rfl ?_)))))
 obtain ⟨r10, hm11, H⟩ := bind_some H
 refine Zn rfl rfl rfl rfl (by kernel_rfl) rfl (c_tuple_At x0 x1 A0_ c0_ _ (Zhu s0_.k (hS.rd0 s0_.rd) (hS.blk0 s0_.blk)) hm11) ?_
 rintro e w ⟨rfl, hN⟩; refine ⟨_, rfl, ?_⟩; obtain ⟨hB, hS⟩ := hS.jn hN
 refine Zb 1 rfl (Za rfl rfl rfl (Zv rfl rfl) (Za rfl rfl rfl (Zv rfl rfl) (Z5 rfl rfl Zdh hS (fun b12 w hS hB => Zl rfl rfl rfl CellsOf.agg hS ps0 st0_3 (by kernel_rfl) rfl (fun w hS hB => Zb 1 rfl (Zg (Zc hK9 ?_)))))))
 refine Zd (fun K hK14 => Ze (Za rfl rfl rfl (Zf Zbt rfl) (Za rfl rfl rfl (Zh Z1 rfl (Zhr _) hS hs0 trivial Y4) (Zb 3 rfl (Zg (Zc hK14 (Zk ?_)))))))
 refine Zm rfl (RV.tmp rfl (RV.tmp rfl RV.nil)) rfl ?_
 obtain rfl := QJ H
 replace hS := hS.cut 0
 exact ⟨rfl, hS⟩
theorem c_msg_entries (x0 : Ms) (A0_ : OA) (c0_ : Nat) (w0 : World) (s0_ : SlI w0 Vv A0_ c0_ x0.entries) {r : Bool} (H : Zdm x0 = some r) : Calls Tryz.prog 131 #[.agg #[.int .u8 x0.kind, .int .i64 x0.frm, .int .i64 x0.dst, .int .i64 x0.term, .int .i64 x0.cap, .int .i64 x0.last, .int .i64 x0.lastTerm, .int .i64 x0.commit, .bool x0.okk, .slice A0_ x0.entries.length c0_, .int .i64 x0.snap.index, .int .i64 x0.snap.term, .int .i64 x0.snap.sum, .int .i64 x0.snap.level, .bool x0.snap.final]] w0 fun e w' => e = .returned (.bool r) ∧ St0 All w0 w' [] := by
 unfold Zdm at H
 refine Yp Tryz.func131 rfl Tryz.ntmps131 rfl ?_
 have hS := St0.start All w0
 refine Zd (fun K hK1 => Ze (Z4 rfl rfl rfl CellsOf.agg hS (fun b2 w hS hB => Zb 1 rfl (Zg (Zc hK1 (Zd (fun K hK4 => Ze ?_)))))))
 refine Za rfl rfl rfl (Zf Zfe rfl) (Za rfl rfl rfl (Zh Z1 rfl (Zhr _) hS hs0 trivial Zgj) (Zb 1 rfl (Zg (Zc hK4 (Zd (fun K hK5 => Zd (fun K hK6 => Ze ?_)))))))
 refine Za rfl rfl rfl (Zf X8 rfl) (Za rfl rfl rfl (Zh Xx rfl (Zhr _) hS hs0 trivial Zak) (Za rfl rfl rfl (Y0 Y8 rfl) (Zb 1 rfl (Zg (Zc hK6 (Yd (Vq (X := Nat × Bool × Int × Int) (fun x => (1, .pointer (some ⟨b2, 0, none⟩)) :: (2, .bool x.2.1) :: (3, .int .i64 x.2.2.1) :: (9, .slice A0_ x0.entries.length c0_) :: (10, .int .i64 (x0.entries.length : Int)) :: (11, .int .i64 x.2.2.2) :: []) (fun x w => St0 All w0 w (.box b2 [.int .u8 x0.kind, .int .i64 x0.frm, .int .i64 x0.dst, .int .i64 x0.term, .int .i64 x0.cap, .int .i64 x0.last, .int .i64 x0.lastTerm, .int .i64 x0.commit, .bool x0.okk, .slice A0_ x0.entries.length c0_, .int .i64 x0.snap.index, .int .i64 x0.snap.term, .int .i64 x0.snap.sum, .int .i64 x0.snap.level, .bool x0.snap.final] 32 :: []) ∧ J2 x0 x.1 x.2.1 x.2.2.1 x.2.2.2 = some r) (fun x => x.1) (Xr, false, x0.lastTerm, 0) (by repeat (first | exact Sub.nil | refine Sub.cons rfl ?_)) ⟨hS, H⟩ ?_)))))))
 rintro ⟨n, v7, v8, v9⟩ w ⟨hS, H⟩
 dsimp only at hS H ⊢
 obtain _ | n := n
 ·have H0 : none = some r := H
  cases H0
 rw [J2] at H
 refine Zd (fun K hK10 => Ze (Za rfl rfl rfl (Xk rfl rfl) (Zg (Zc hK10 (Zd (fun K hK11 => Zy rfl (fun hb => ?_) (fun hb => ?_)))))))
 rotate_left
 ·replace H := Zo H hb
  refine X1 (Z8 (Z8 (Yz (Zc hK5 (Zd (fun K hK33 => Ze (Za rfl rfl rfl (Zf X8 rfl) ?_)))))))
  refine Za rfl rfl rfl (Zh Xx rfl (Zhr _) hS hs0 trivial Zak) (Za rfl rfl rfl (Y0 Y8 rfl) (Za rfl rfl rfl (Za5 rfl rfl) (Zb 1 rfl (Zg (Zc hK33 (Zk (Zm rfl (RV.tmp rfl RV.nil) rfl ?_)))))))
  obtain rfl := QJ H
  replace hS := hS.cut 0
  exact ⟨rfl, hS⟩
 replace H := Zp H hb
 refine Zr (Zc hK11 (Zd (fun K hK13 => Yd (Zd (fun K hK14 => Ze ?_)))))
 obtain ⟨e15, hi17, H⟩ := bind_some H
 obtain ⟨j16, hi17a, hi17b, hi17c⟩ := Yt hi17
 refine Za rfl rfl rfl (Xf Y8 rfl rfl hi17a hi17c (Rd.el (hS.rd0 s0_.rd) Xy hi17b)) (Za rfl rfl rfl (Zel Jt rfl (Zhr _) (Rd.el (hS.rd0 s0_.rd) Xy hi17b) Zd3) (Z5 rfl rfl Zdh hS (fun b18 w hS hB => Zl rfl rfl rfl CellsOf.agg hS ps0 st0_3 (by kernel_rfl) rfl (fun w hS hB => Zg (Zc hK14 (Zd (fun K hK20 => Zd (fun K hK21 => ?_))))))))
 refine Ze (Za rfl rfl rfl (Zi Jt rfl (Zhr _) hS hs0 trivial Zd3) ?_)
 obtain ⟨r22, hm23, H⟩ := bind_some H
 refine Zn rfl rfl rfl rfl (by kernel_rfl) rfl (c_entry_Right e15 _ hm23) ?_
 rintro e w ⟨rfl, hN⟩; refine ⟨_, rfl, ?_⟩; obtain ⟨hB, hS⟩ := hS.jn hN
 refine Za rfl rfl rfl (Ys rfl) (Zb 1 rfl (Zs 18 rfl (fun hb => ?_) (fun hb => ?_)))
 ·replace H := Zp H hb
  refine Zb 8 rfl (Zg (Zc hK21 (Zt rfl rfl (Zd (fun K hK25 => Ze (Zb 1 rfl (Zg ?_)))))))
  refine Zc hK25 (Zk (Zj (Zx (Zj (Zj (Zx (Zj ?_)))))))
  refine Zm rfl (RV.tmp rfl RV.nil) rfl ?_
  obtain rfl := QJ H
  replace hS := hS.cut 0
  exact ⟨rfl, hS⟩
 replace H := Zo H hb
 refine Za rfl rfl rfl (Zf Zbt rfl) (Za rfl rfl rfl (Zh Z1 rfl (Zhr _) hS hs0 trivial Y4) (Zb 1 rfl (Za rfl rfl rfl (Zf Zca rfl) (Za rfl rfl rfl (Zh Z1 rfl (Zhr _) hS Xa trivial J9) ?_))))
 obtain ⟨r27, hm28, H⟩ := bind_some H
 refine Zn rfl rfl rfl rfl (by kernel_rfl) rfl (Zax e15.term v8 x0.term _ hm28) ?_
 rintro e w ⟨rfl, hN⟩; refine ⟨_, rfl, ?_⟩; obtain ⟨hB, hS⟩ := hS.jn hN
 refine Za rfl rfl rfl (Ys rfl) (Zb 1 rfl (Zg (Zc hK21 (Zy rfl (fun hb => ?_) (fun hb => ?_)))))
 rotate_left
 ·replace H := Zo H hb
  refine Zr (Zc hK20 (Ze (Za rfl rfl rfl (Zf Zbt rfl) (Za rfl rfl rfl (Zh Z1 rfl (Zhr _) hS hs0 trivial Y4) (Zb 1 rfl (Zg (Z3 ?_)))))))
  refine Zc hK13 (Ze (Za rfl rfl rfl (Xd rfl rfl) (Zb 1 rfl (Zg ?_))))
  exact X2 (n, v7, e15.term, (IntKind.wrap .i64 (v9 + 1))) (by repeat (first | exact Sub.nil | refine Sub.cons rfl ?_)) ⟨(hS.sub (List.Sublist.cons _ (List.Sublist.cons_cons _ List.Sublist.slnil))), H⟩ (Nat.lt_succ_self _)
 replace H := Zp H hb
 refine Zd (fun K hK30 => Ze (Zb 1 rfl (Zg (Zc hK30 (Zk (Zj (Zx ?_)))))))
 refine Zj (Zj (Zx (Zj (Zm rfl (RV.tmp rfl RV.nil) rfl ?_))))
 obtain rfl := QJ H
 replace hS := hS.cut 0
 exact ⟨rfl, hS⟩
theorem c_msg_Fine (x0 : Ms) (x1 : Int) (A0_ : OA) (c0_ : Nat) (w0 : World) (s0_ : SlI w0 Vv A0_ c0_ x0.entries) {r : Bool} (H : Zez x0 x1 = some r) : Calls Tryz.prog 104 #[.agg #[.int .u8 x0.kind, .int .i64 x0.frm, .int .i64 x0.dst, .int .i64 x0.term, .int .i64 x0.cap, .int .i64 x0.last, .int .i64 x0.lastTerm, .int .i64 x0.commit, .bool x0.okk, .slice A0_ x0.entries.length c0_, .int .i64 x0.snap.index, .int .i64 x0.snap.term, .int .i64 x0.snap.sum, .int .i64 x0.snap.level, .bool x0.snap.final], .int .i64 x1] w0 fun e w' => e = .returned (.bool r) ∧ St0 All w0 w' [] := by
 unfold Zez at H
 refine Yn Tryz.func104 rfl Tryz.ntmps104 rfl ?_
 have hS := St0.start All w0
 refine Zd (fun K hK1 => Ze (Z4 rfl rfl rfl CellsOf.agg hS (fun b2 w hS hB => Zb 1 rfl (Zg (Zc hK1 (wpC_scope1 0 rfl (Zd (fun K hK4 => ?_))))))))
 refine Zd (fun K hK5 => Ze (Zb 1 rfl ?_))
 obtain ⟨r6, hm7, H⟩ := bind_some H
 refine Zn rfl rfl rfl rfl (by kernel_rfl) rfl (Zax x1 1 5 _ hm7) ?_
 rintro e w ⟨rfl, hN⟩; refine ⟨_, rfl, ?_⟩; obtain ⟨hB, hS⟩ := hS.jn hN
 refine Za rfl rfl rfl (Ys rfl) (Zb 1 rfl (Zs 8 rfl (fun hb => ?_) (fun hb => ?_)))
 ·replace H := Zp H hb
  refine Zb 16 rfl (Zg (Zc hK5 (Zt rfl rfl (Vr (Xp (Jh (Zd (fun K hK9 => ?_))))))))
  refine Zr (Zc hK9 (Zd (fun K hK10 => Ze (Zb 1 rfl (Zg (Zc hK10 (Zk ?_)))))))
  refine Yc (Zm rfl (RV.tmp rfl RV.nil) rfl ?_)
  obtain rfl := QJ H
  replace hS := hS.cut 0
  exact ⟨rfl, hS⟩
 replace H := Zo H hb
 refine Za rfl rfl rfl (Zf Zck rfl) (Za rfl rfl rfl (Zh Z1 rfl (Zhr _) hS hs0 trivial Vl) (Za rfl rfl rfl (Zf Zeq rfl) (Za rfl rfl rfl (Zh Z1 rfl (Zhr _) hS hs0 trivial Za0) (Xb (ps := [(0, .tmp 10), (1, .tmp 12)]) [.int .i64 x0.frm, .int .i64 x0.dst] Xv zc_3 rfl rfl rfl rfl rfl (by kernel_rfl) hS (fun b12 w hS hB => Zb 1 rfl ?_)))))
 obtain ⟨r14, hm15, H⟩ := bind_some H
 refine Zn rfl rfl rfl rfl (by kernel_rfl) rfl (Zgk ([x0.frm, x0.dst] : List Int) 2 1 x1 (some ⟨b12, 0, none⟩) 2 _ (Zhu ⟨Nat.le_refl 2, by decide⟩ (hS.box_rd hs0) (hS.box_blk hs0)) hm15) ?_
 rintro e w ⟨rfl, hN⟩; refine ⟨_, rfl, ?_⟩; obtain ⟨hB, hS⟩ := hS.jn hN
 refine Za rfl rfl rfl (Ys rfl) (Zb 2 rfl (Zs 18 rfl (fun hb => ?_) (fun hb => ?_)))
 ·replace H := Zp H hb
  refine Zb 6 rfl (Zg (Zc hK5 (Zt rfl rfl (Vr (Xp (Jh (Zd (fun K hK17 => ?_))))))))
  refine Zr (Zc hK17 (Zd (fun K hK18 => Ze (Zb 1 rfl (Zg (Zc hK18 (Zk ?_)))))))
  refine Yc (Zm rfl (RV.tmp rfl RV.nil) rfl ?_)
  obtain rfl := QJ H
  replace hS := hS.cut 0
  exact ⟨rfl, hS⟩
 replace H := Zo H hb
 refine Za rfl rfl rfl (Zf Zck rfl) (Za rfl rfl rfl (Zh Z1 rfl (Zhr _) hS Xa trivial Vl) (Za rfl rfl rfl (Zf Zeq rfl) (Za rfl rfl rfl (Zh Z1 rfl (Zhr _) hS Xa trivial Za0) (Za rfl rfl rfl (Y1 rfl rfl) (Zb 1 rfl (Zg (Zc hK5 ?_)))))))
 refine Zy rfl (fun hb => ?_) (fun hb => ?_)
 ·replace H := Zp H hb
  refine Vr (Xp (Jh (Zd (fun K hK21 => Zr (Zc hK21 (Zd (fun K hK22 => Ze ?_)))))))
  refine Zb 1 rfl (Zg (Zc hK22 (Zk (Yc (Zm rfl (RV.tmp rfl RV.nil) rfl ?_)))))
  obtain rfl := QJ H
  replace hS := hS.cut 0
  exact ⟨rfl, hS⟩
 replace H := Zo H hb
 refine Zr (Zc hK4 (Zd (fun K hK24 => Zd (fun K hK25 => Ze (Za rfl rfl rfl (Zf Vo rfl) (Za rfl rfl rfl (Zh Zbq rfl (Zhr _) hS Xa trivial Y4) (Za rfl rfl rfl (yx_conv (k' := .i64) (by kernel_rfl) (by kernel_rfl) rfl) ?_)))))))
 obtain ⟨r26, hm27, H⟩ := bind_some H
 refine Zn rfl rfl rfl rfl (by kernel_rfl) rfl (Zax (IntKind.wrap .i64 x0.kind) 1 5 _ hm27) ?_
 rintro e w ⟨rfl, hN⟩; refine ⟨_, rfl, ?_⟩; obtain ⟨hB, hS⟩ := hS.jn hN
 refine Za rfl rfl rfl (Ys rfl) (Zb 1 rfl (Zs 30 rfl (fun hb => ?_) (fun hb => ?_)))
 ·replace H := Zp H hb
  refine Zb 11 rfl (Zg (Zc hK25 (Zt rfl rfl (Vr (Xp (Jh (Zd (fun K hK29 => ?_))))))))
  refine Zr (Zc hK29 (Zd (fun K hK30 => Ze (Zb 1 rfl (Zg (Zc hK30 (Zk ?_)))))))
  refine Yc (Zm rfl (RV.tmp rfl RV.nil) rfl ?_)
  obtain rfl := QJ H
  replace hS := hS.cut 0
  exact ⟨rfl, hS⟩
 replace H := Zo H hb
 refine Za rfl rfl rfl (Zf Zca rfl) (Za rfl rfl rfl (Zh Z1 rfl (Zhr _) hS Xa trivial J9) ?_)
 obtain ⟨r32, hm33, H⟩ := bind_some H
 refine Zn rfl rfl rfl rfl (by kernel_rfl) rfl (Zax x0.term 1 1073741824 _ hm33) ?_
 rintro e w ⟨rfl, hN⟩; refine ⟨_, rfl, ?_⟩; obtain ⟨hB, hS⟩ := hS.jn hN
 refine Za rfl rfl rfl (Ys rfl) (Zb 2 rfl (Zs 36 rfl (fun hb => ?_) (fun hb => ?_)))
 ·replace H := Zp H hb
  refine Zb 5 rfl (Zg (Zc hK25 (Zt rfl rfl (Vr (Xp (Jh (Zd (fun K hK35 => ?_))))))))
  refine Zr (Zc hK35 (Zd (fun K hK36 => Ze (Zb 1 rfl (Zg (Zc hK36 (Zk ?_)))))))
  refine Yc (Zm rfl (RV.tmp rfl RV.nil) rfl ?_)
  obtain rfl := QJ H
  replace hS := hS.cut 0
  exact ⟨rfl, hS⟩
 replace H := Zo H hb
 refine Za rfl rfl rfl (Zf fo_32_4 rfl) (Za rfl rfl rfl (Zh Z1 rfl (Zhr _) hS Xa trivial Zfw) ?_)
 obtain ⟨r38, hm39, H⟩ := bind_some H
 refine Zn rfl rfl rfl rfl (by kernel_rfl) rfl (Zax x0.cap 1 2 _ hm39) ?_
 rintro e w ⟨rfl, hN⟩; refine ⟨_, rfl, ?_⟩; obtain ⟨hB, hS⟩ := hS.jn hN
 refine Za rfl rfl rfl (Ys rfl) (Zb 1 rfl (Zg (Zc hK25 (Zy rfl (fun hb => ?_) (fun hb => ?_)))))
 ·replace H := Zp H hb
  refine Vr (Xp (Jh (Zd (fun K hK41 => Zr (Zc hK41 (Zd (fun K hK42 => Ze ?_)))))))
  refine Zb 1 rfl (Zg (Zc hK42 (Zk (Yc (Zm rfl (RV.tmp rfl RV.nil) rfl ?_)))))
  obtain rfl := QJ H
  replace hS := hS.cut 0
  exact ⟨rfl, hS⟩
 replace H := Zo H hb
 refine Zr (Zc hK24 (Zd (fun K hK44 => Zd (fun K hK45 => Ze (Za rfl rfl rfl (Zf V0 rfl) (Za rfl rfl rfl (Zh Z1 rfl (Zhr _) hS Xa trivial Jd) (Za rfl rfl rfl (Zf Zfe rfl) ?_)))))))
 refine Za rfl rfl rfl (Zh Z1 rfl (Zhr _) hS Xa trivial Zgj) (Za rfl rfl rfl (Zf Zdu rfl) (Za rfl rfl rfl (Zh Z1 rfl (Zhr _) hS Xa trivial Zey) (Xb (ps := [(0, .tmp 43), (1, .tmp 45), (2, .tmp 47)]) [.int .i64 x0.last, .int .i64 x0.lastTerm, .int .i64 x0.commit] Xv zc_3 rfl rfl rfl rfl rfl (by kernel_rfl) hS (fun b46 w hS hB => ?_))))
 obtain ⟨r48, hm49, H⟩ := bind_some H
 refine Zn rfl rfl rfl rfl (by kernel_rfl) rfl (Zgk ([x0.last, x0.lastTerm, x0.commit] : List Int) 3 0 1073741824 (some ⟨b46, 0, none⟩) 3 _ (Zhu ⟨Nat.le_refl 3, by decide⟩ (hS.box_rd hs0) (hS.box_blk hs0)) hm49) ?_
 rintro e w ⟨rfl, hN⟩; refine ⟨_, rfl, ?_⟩; obtain ⟨hB, hS⟩ := hS.jn hN
 refine Za rfl rfl rfl (Ys rfl) (Zb 1 rfl (Zs 51 rfl (fun hb => ?_) (fun hb => ?_)))
 ·replace H := Zp H hb
  refine Zb 4 rfl (Zg (Zc hK45 (Zt rfl rfl (Vr (Xp (Jh (Zd (fun K hK51 => ?_))))))))
  refine Zr (Zc hK51 (Zd (fun K hK52 => Ze (Zb 1 rfl (Zg (Zc hK52 (Zk ?_)))))))
  refine Yc (Zm rfl (RV.tmp rfl RV.nil) rfl ?_)
  obtain rfl := QJ H
  replace hS := hS.cut 0
  exact ⟨rfl, hS⟩
 replace H := Zo H hb
 refine Za rfl rfl rfl (Zi Xn rfl (Zhr _) hS Xq trivial Y2) ?_
 obtain ⟨r54, hm55, H⟩ := bind_some H
 refine Zn rfl rfl rfl rfl (by kernel_rfl) rfl (c_msg_entries x0 A0_ c0_ _ (Zhu s0_.k (hS.rd0 s0_.rd) (hS.blk0 s0_.blk)) hm55) ?_
 rintro e w ⟨rfl, hN⟩; refine ⟨_, rfl, ?_⟩; obtain ⟨hB, hS⟩ := hS.jn hN
 refine Za rfl rfl rfl (Ys rfl) (Zb 1 rfl (Zg (Zc hK45 (Zy rfl (fun hb => ?_) (fun hb => ?_)))))
 ·replace H := Zp H hb
  refine Vr (Xp (Jh (Zd (fun K hK57 => Zr (Zc hK57 (Zd (fun K hK58 => Ze ?_)))))))
  refine Zb 1 rfl (Zg (Zc hK58 (Zk (Yc (Zm rfl (RV.tmp rfl RV.nil) rfl ?_)))))
  obtain rfl := QJ H
  replace hS := hS.cut 0
  exact ⟨rfl, hS⟩
 replace H := Zo H hb
 refine Zr (Zc hK44 (Zd (fun K hK60 => Zd (fun K hK61 => Ze (Za rfl rfl rfl (Zf Vo rfl) (Za rfl rfl rfl (Zh Zbq rfl (Zhr _) hS Xq trivial Y4) (Za rfl rfl rfl (Xu rfl rfl) ?_)))))))
 refine Zb 1 rfl (Zs 59 rfl (fun hb => ?_) (fun hb => ?_))
 rotate_left
 ·replace H := Zo H hb
  refine Zb 10 rfl (Zg (Zc hK61 (Yl rfl rfl (Zr (Zc hK60 (Zd (fun K hK115 => Zd (fun K hK116 => ?_))))))))
  refine Ze (Za rfl rfl rfl (Zf Zf0 rfl) (Za rfl rfl rfl (Zh sc_4 rfl (Zhr _) hS Xq trivial sg8_1) (Zb 1 rfl (Zs 72 rfl (fun hb => ?_) (fun hb => ?_)))))
  rotate_left
  ·replace H := Zo H hb
   refine Zb 9 rfl (Zg (Zc hK116 (Yl rfl rfl (Zr (Zc hK115 (Zd (fun K hK147 => Zd (fun K hK148 => ?_))))))))
   refine Ze (Za rfl rfl rfl (Zf Vo rfl) (Za rfl rfl rfl (Zh Zbq rfl (Zhr _) hS Xq trivial Y4) (Za rfl rfl rfl (Y1 rfl rfl) (Zg (Zc hK148 (Zy rfl (fun hb => ?_) (fun hb => ?_)))))))
   rotate_left
   ·replace H := Zo H hb
    refine Zr (Zc hK147 (Zd (fun K hK156 => Zd (fun K hK157 => Ze (Za rfl rfl rfl (Zf Xm rfl) (Za rfl rfl rfl (Zi Y6 rfl (Zhr _) hS Xq trivial Zae) (Za rfl rfl rfl (Xl (cells := [.int .i64 0, .int .i64 0, .int .i64 0, .int .i64 0, .bool false]) rfl (by kernel_rfl)) ?_)))))))
    refine Za rfl rfl rfl (Zah (by kernel_rfl) rfl rfl (Zbc _ _ _ _ _ _ _ _ _ _)) (Zb 1 rfl (Zg (Zc hK157 (Zk (Zj (Yc (Zm rfl (RV.tmp rfl RV.nil) rfl ?_)))))))
    obtain rfl := QJ H
    replace hS := hS.cut 0
    exact ⟨rfl, hS⟩
   replace H := Zp H hb
   refine Zd (fun K hK150 => Ze (Za rfl rfl rfl (Zf Xm rfl) (Za rfl rfl rfl (Zf Yj rfl) (Za rfl rfl rfl (Zh Z1 rfl (Zhr _) hS Xq trivial Zam) (Za rfl rfl rfl (Xc rfl rfl) (Zb 1 rfl (Zs 89 rfl (fun hb => ?_) (fun hb => ?_))))))))
   rotate_left
   ·replace H := Zo H hb
    refine Zb 5 rfl (Zg (Zc hK150 (Zk (Zj (Yc (Zm rfl (RV.tmp rfl RV.nil) rfl ?_))))))
    obtain rfl := QJ H
    replace hS := hS.cut 0
    exact ⟨rfl, hS⟩
   replace H := Zp H hb
   refine Za rfl rfl rfl (Zf Xm rfl) (Za rfl rfl rfl (Zi Y6 rfl (Zhr _) hS Xq trivial Zae) ?_)
   obtain ⟨r152, hm153, H⟩ := bind_some H
   refine Zn rfl rfl rfl rfl (by kernel_rfl) rfl (Zcz x0.snap _ hm153) ?_
   rintro e w ⟨rfl, hN⟩; refine ⟨_, rfl, ?_⟩; obtain ⟨hB, hS⟩ := hS.jn hN
   refine Zb 2 rfl (Zg (Zc hK150 (Zk (Zj (Yc (Zm rfl (RV.tmp rfl RV.nil) rfl ?_))))))
   obtain rfl := QJ H
   replace hS := hS.cut 0
   exact ⟨rfl, hS⟩
  replace H := Zp H hb
  refine Za rfl rfl rfl (Zf Vo rfl) (Za rfl rfl rfl (Zh Zbq rfl (Zhr _) hS Xq trivial Y4) (Za rfl rfl rfl (Xu rfl rfl) (Zb 2 rfl (Zs 77 rfl (fun hb => ?_) (fun hb => ?_)))))
  rotate_left
  ·replace H := Zo H hb
   refine Zb 4 rfl (Zg (Zc hK116 (Yl rfl rfl (Zr (Zc hK115 (Zd (fun K hK135 => Zd (fun K hK136 => ?_))))))))
   refine Ze (Za rfl rfl rfl (Zf Vo rfl) (Za rfl rfl rfl (Zh Zbq rfl (Zhr _) hS Xq trivial Y4) (Za rfl rfl rfl (Y1 rfl rfl) (Zg (Zc hK136 (Zy rfl (fun hb => ?_) (fun hb => ?_)))))))
   rotate_left
   ·replace H := Zo H hb
    refine Zr (Zc hK135 (Zd (fun K hK144 => Zd (fun K hK145 => Ze (Za rfl rfl rfl (Zf Xm rfl) (Za rfl rfl rfl (Zi Y6 rfl (Zhr _) hS Xq trivial Zae) (Za rfl rfl rfl (Xl (cells := [.int .i64 0, .int .i64 0, .int .i64 0, .int .i64 0, .bool false]) rfl (by kernel_rfl)) ?_)))))))
    refine Za rfl rfl rfl (Zah (by kernel_rfl) rfl rfl (Zbc _ _ _ _ _ _ _ _ _ _)) (Zb 1 rfl (Zg (Zc hK145 (Zk (Zj (Yc (Zm rfl (RV.tmp rfl RV.nil) rfl ?_)))))))
    obtain rfl := QJ H
    replace hS := hS.cut 0
    exact ⟨rfl, hS⟩
   replace H := Zp H hb
   refine Zd (fun K hK138 => Ze (Za rfl rfl rfl (Zf Xm rfl) (Za rfl rfl rfl (Zf Yj rfl) (Za rfl rfl rfl (Zh Z1 rfl (Zhr _) hS Xq trivial Zam) (Za rfl rfl rfl (Xc rfl rfl) (Zb 1 rfl (Zs 89 rfl (fun hb => ?_) (fun hb => ?_))))))))
   rotate_left
   ·replace H := Zo H hb
    refine Zb 5 rfl (Zg (Zc hK138 (Zk (Zj (Yc (Zm rfl (RV.tmp rfl RV.nil) rfl ?_))))))
    obtain rfl := QJ H
    replace hS := hS.cut 0
    exact ⟨rfl, hS⟩
   replace H := Zp H hb
   refine Za rfl rfl rfl (Zf Xm rfl) (Za rfl rfl rfl (Zi Y6 rfl (Zhr _) hS Xq trivial Zae) ?_)
   obtain ⟨r140, hm141, H⟩ := bind_some H
   refine Zn rfl rfl rfl rfl (by kernel_rfl) rfl (Zcz x0.snap _ hm141) ?_
   rintro e w ⟨rfl, hN⟩; refine ⟨_, rfl, ?_⟩; obtain ⟨hB, hS⟩ := hS.jn hN
   refine Zb 2 rfl (Zg (Zc hK138 (Zk (Zj (Yc (Zm rfl (RV.tmp rfl RV.nil) rfl ?_))))))
   obtain rfl := QJ H
   replace hS := hS.cut 0
   exact ⟨rfl, hS⟩
  replace H := Zp H hb
  refine Za rfl rfl rfl (Zf Vo rfl) (Za rfl rfl rfl (Zh Zbq rfl (Zhr _) hS Xq trivial Y4) (Za rfl rfl rfl (Xu rfl rfl) (Zb 1 rfl (Zg (Zc hK116 (Zy rfl (fun hb => ?_) (fun hb => ?_)))))))
  ·replace H := Zp H hb
   refine Vr (Xp (Jh (Zd (fun K hK120 => Zr (Zc hK120 (Zd (fun K hK121 => Ze ?_)))))))
   refine Zb 1 rfl (Zg (Zc hK121 (Zk (Yc (Zm rfl (RV.tmp rfl RV.nil) rfl ?_)))))
   obtain rfl := QJ H
   replace hS := hS.cut 0
   exact ⟨rfl, hS⟩
  replace H := Zo H hb
  refine Zr (Zc hK115 (Zd (fun K hK123 => Zd (fun K hK124 => Ze (Za rfl rfl rfl (Zf Vo rfl) (Za rfl rfl rfl (Zh Zbq rfl (Zhr _) hS Xq trivial Y4) (Za rfl rfl rfl (Y1 rfl rfl) ?_)))))))
  refine Zg (Zc hK124 (Zy rfl (fun hb => ?_) (fun hb => ?_)))
  rotate_left
  ·replace H := Zo H hb
   refine Zr (Zc hK123 (Zd (fun K hK132 => Zd (fun K hK133 => Ze (Za rfl rfl rfl (Zf Xm rfl) (Za rfl rfl rfl (Zi Y6 rfl (Zhr _) hS Xq trivial Zae) (Za rfl rfl rfl (Xl (cells := [.int .i64 0, .int .i64 0, .int .i64 0, .int .i64 0, .bool false]) rfl (by kernel_rfl)) ?_)))))))
   refine Za rfl rfl rfl (Zah (by kernel_rfl) rfl rfl (Zbc _ _ _ _ _ _ _ _ _ _)) (Zb 1 rfl (Zg (Zc hK133 (Zk (Zj (Yc (Zm rfl (RV.tmp rfl RV.nil) rfl ?_)))))))
   obtain rfl := QJ H
   replace hS := hS.cut 0
   exact ⟨rfl, hS⟩
  replace H := Zp H hb
  refine Zd (fun K hK126 => Ze (Za rfl rfl rfl (Zf Xm rfl) (Za rfl rfl rfl (Zf Yj rfl) (Za rfl rfl rfl (Zh Z1 rfl (Zhr _) hS Xq trivial Zam) (Za rfl rfl rfl (Xc rfl rfl) (Zb 1 rfl (Zs 89 rfl (fun hb => ?_) (fun hb => ?_))))))))
  rotate_left
  ·replace H := Zo H hb
   refine Zb 5 rfl (Zg (Zc hK126 (Zk (Zj (Yc (Zm rfl (RV.tmp rfl RV.nil) rfl ?_))))))
   obtain rfl := QJ H
   replace hS := hS.cut 0
   exact ⟨rfl, hS⟩
  replace H := Zp H hb
  refine Za rfl rfl rfl (Zf Xm rfl) (Za rfl rfl rfl (Zi Y6 rfl (Zhr _) hS Xq trivial Zae) ?_)
  obtain ⟨r128, hm129, H⟩ := bind_some H
  refine Zn rfl rfl rfl rfl (by kernel_rfl) rfl (Zcz x0.snap _ hm129) ?_
  rintro e w ⟨rfl, hN⟩; refine ⟨_, rfl, ?_⟩; obtain ⟨hB, hS⟩ := hS.jn hN
  refine Zb 2 rfl (Zg (Zc hK126 (Zk (Zj (Yc (Zm rfl (RV.tmp rfl RV.nil) rfl ?_))))))
  obtain rfl := QJ H
  replace hS := hS.cut 0
  exact ⟨rfl, hS⟩
 replace H := Zp H hb
 refine Za rfl rfl rfl (Zf X8 rfl) (Za rfl rfl rfl (Zh Xx rfl (Zhr _) hS Xq trivial Zak) (Za rfl rfl rfl (Y0 Y8 rfl) (Za rfl rfl rfl (Xc rfl rfl) (Zb 1 rfl (Zs 64 rfl (fun hb => ?_) (fun hb => ?_))))))
 ·replace H := Zp H hb
  refine Zb 5 rfl (Zg (Zc hK61 (Zt rfl rfl (Vr (Xp (Jh (Zd (fun K hK64 => ?_))))))))
  refine Zr (Zc hK64 (Zd (fun K hK65 => Ze (Zb 1 rfl (Zg (Zc hK65 (Zk ?_)))))))
  refine Yc (Zm rfl (RV.tmp rfl RV.nil) rfl ?_)
  obtain rfl := QJ H
  replace hS := hS.cut 0
  exact ⟨rfl, hS⟩
 replace H := Zo H hb
 refine Za rfl rfl rfl (Zf Zdu rfl) (Za rfl rfl rfl (Zh Z1 rfl (Zhr _) hS Xq trivial Zey) (Za rfl rfl rfl (Xc rfl rfl) (Zb 2 rfl (Zg (Zc hK61 (Zy rfl (fun hb => ?_) (fun hb => ?_)))))))
 ·replace H := Zp H hb
  refine Vr (Xp (Jh (Zd (fun K hK68 => Zr (Zc hK68 (Zd (fun K hK69 => Ze ?_)))))))
  refine Zb 1 rfl (Zg (Zc hK69 (Zk (Yc (Zm rfl (RV.tmp rfl RV.nil) rfl ?_)))))
  obtain rfl := QJ H
  replace hS := hS.cut 0
  exact ⟨rfl, hS⟩
 replace H := Zo H hb
 refine Zr (Zc hK60 (Zd (fun K hK71 => Zd (fun K hK72 => Ze (Za rfl rfl rfl (Zf Zf0 rfl) (Za rfl rfl rfl (Zh sc_4 rfl (Zhr _) hS Xq trivial sg8_1) (Zb 1 rfl ?_)))))))
 refine Zs 72 rfl (fun hb => ?_) (fun hb => ?_)
 rotate_left
 ·replace H := Zo H hb
  refine Zb 9 rfl (Zg (Zc hK72 (Yl rfl rfl (Zr (Zc hK71 (Zd (fun K hK103 => Zd (fun K hK104 => ?_))))))))
  refine Ze (Za rfl rfl rfl (Zf Vo rfl) (Za rfl rfl rfl (Zh Zbq rfl (Zhr _) hS Xq trivial Y4) (Za rfl rfl rfl (Y1 rfl rfl) (Zg (Zc hK104 (Zy rfl (fun hb => ?_) (fun hb => ?_)))))))
  rotate_left
  ·replace H := Zo H hb
   refine Zr (Zc hK103 (Zd (fun K hK112 => Zd (fun K hK113 => Ze (Za rfl rfl rfl (Zf Xm rfl) (Za rfl rfl rfl (Zi Y6 rfl (Zhr _) hS Xq trivial Zae) (Za rfl rfl rfl (Xl (cells := [.int .i64 0, .int .i64 0, .int .i64 0, .int .i64 0, .bool false]) rfl (by kernel_rfl)) ?_)))))))
   refine Za rfl rfl rfl (Zah (by kernel_rfl) rfl rfl (Zbc _ _ _ _ _ _ _ _ _ _)) (Zb 1 rfl (Zg (Zc hK113 (Zk (Zj (Yc (Zm rfl (RV.tmp rfl RV.nil) rfl ?_)))))))
   obtain rfl := QJ H
   replace hS := hS.cut 0
   exact ⟨rfl, hS⟩
  replace H := Zp H hb
  refine Zd (fun K hK106 => Ze (Za rfl rfl rfl (Zf Xm rfl) (Za rfl rfl rfl (Zf Yj rfl) (Za rfl rfl rfl (Zh Z1 rfl (Zhr _) hS Xq trivial Zam) (Za rfl rfl rfl (Xc rfl rfl) (Zb 1 rfl (Zs 89 rfl (fun hb => ?_) (fun hb => ?_))))))))
  rotate_left
  ·replace H := Zo H hb
   refine Zb 5 rfl (Zg (Zc hK106 (Zk (Zj (Yc (Zm rfl (RV.tmp rfl RV.nil) rfl ?_))))))
   obtain rfl := QJ H
   replace hS := hS.cut 0
   exact ⟨rfl, hS⟩
  replace H := Zp H hb
  refine Za rfl rfl rfl (Zf Xm rfl) (Za rfl rfl rfl (Zi Y6 rfl (Zhr _) hS Xq trivial Zae) ?_)
  obtain ⟨r108, hm109, H⟩ := bind_some H
  refine Zn rfl rfl rfl rfl (by kernel_rfl) rfl (Zcz x0.snap _ hm109) ?_
  rintro e w ⟨rfl, hN⟩; refine ⟨_, rfl, ?_⟩; obtain ⟨hB, hS⟩ := hS.jn hN
  refine Zb 2 rfl (Zg (Zc hK106 (Zk (Zj (Yc (Zm rfl (RV.tmp rfl RV.nil) rfl ?_))))))
  obtain rfl := QJ H
  replace hS := hS.cut 0
  exact ⟨rfl, hS⟩
 replace H := Zp H hb
 refine Za rfl rfl rfl (Zf Vo rfl) (Za rfl rfl rfl (Zh Zbq rfl (Zhr _) hS Xq trivial Y4) (Za rfl rfl rfl (Xu rfl rfl) (Zb 2 rfl (Zs 77 rfl (fun hb => ?_) (fun hb => ?_)))))
 rotate_left
 ·replace H := Zo H hb
  refine Zb 4 rfl (Zg (Zc hK72 (Yl rfl rfl (Zr (Zc hK71 (Zd (fun K hK91 => Zd (fun K hK92 => ?_))))))))
  refine Ze (Za rfl rfl rfl (Zf Vo rfl) (Za rfl rfl rfl (Zh Zbq rfl (Zhr _) hS Xq trivial Y4) (Za rfl rfl rfl (Y1 rfl rfl) (Zg (Zc hK92 (Zy rfl (fun hb => ?_) (fun hb => ?_)))))))
  rotate_left
  ·replace H := Zo H hb
   refine Zr (Zc hK91 (Zd (fun K hK100 => Zd (fun K hK101 => Ze (Za rfl rfl rfl (Zf Xm rfl) (Za rfl rfl rfl (Zi Y6 rfl (Zhr _) hS Xq trivial Zae) (Za rfl rfl rfl (Xl (cells := [.int .i64 0, .int .i64 0, .int .i64 0, .int .i64 0, .bool false]) rfl (by kernel_rfl)) ?_)))))))
   refine Za rfl rfl rfl (Zah (by kernel_rfl) rfl rfl (Zbc _ _ _ _ _ _ _ _ _ _)) (Zb 1 rfl (Zg (Zc hK101 (Zk (Zj (Yc (Zm rfl (RV.tmp rfl RV.nil) rfl ?_)))))))
   obtain rfl := QJ H
   replace hS := hS.cut 0
   exact ⟨rfl, hS⟩
  replace H := Zp H hb
  refine Zd (fun K hK94 => Ze (Za rfl rfl rfl (Zf Xm rfl) (Za rfl rfl rfl (Zf Yj rfl) (Za rfl rfl rfl (Zh Z1 rfl (Zhr _) hS Xq trivial Zam) (Za rfl rfl rfl (Xc rfl rfl) (Zb 1 rfl (Zs 89 rfl (fun hb => ?_) (fun hb => ?_))))))))
  rotate_left
  ·replace H := Zo H hb
   refine Zb 5 rfl (Zg (Zc hK94 (Zk (Zj (Yc (Zm rfl (RV.tmp rfl RV.nil) rfl ?_))))))
   obtain rfl := QJ H
   replace hS := hS.cut 0
   exact ⟨rfl, hS⟩
  replace H := Zp H hb
  refine Za rfl rfl rfl (Zf Xm rfl) (Za rfl rfl rfl (Zi Y6 rfl (Zhr _) hS Xq trivial Zae) ?_)
  obtain ⟨r96, hm97, H⟩ := bind_some H
  refine Zn rfl rfl rfl rfl (by kernel_rfl) rfl (Zcz x0.snap _ hm97) ?_
  rintro e w ⟨rfl, hN⟩; refine ⟨_, rfl, ?_⟩; obtain ⟨hB, hS⟩ := hS.jn hN
  refine Zb 2 rfl (Zg (Zc hK94 (Zk (Zj (Yc (Zm rfl (RV.tmp rfl RV.nil) rfl ?_))))))
  obtain rfl := QJ H
  replace hS := hS.cut 0
  exact ⟨rfl, hS⟩
 replace H := Zp H hb
 refine Za rfl rfl rfl (Zf Vo rfl) (Za rfl rfl rfl (Zh Zbq rfl (Zhr _) hS Xq trivial Y4) (Za rfl rfl rfl (Xu rfl rfl) (Zb 1 rfl (Zg (Zc hK72 (Zy rfl (fun hb => ?_) (fun hb => ?_)))))))
 ·replace H := Zp H hb
  refine Vr (Xp (Jh (Zd (fun K hK76 => Zr (Zc hK76 (Zd (fun K hK77 => Ze ?_)))))))
  refine Zb 1 rfl (Zg (Zc hK77 (Zk (Yc (Zm rfl (RV.tmp rfl RV.nil) rfl ?_)))))
  obtain rfl := QJ H
  replace hS := hS.cut 0
  exact ⟨rfl, hS⟩
 replace H := Zo H hb
 refine Zr (Zc hK71 (Zd (fun K hK79 => Zd (fun K hK80 => Ze (Za rfl rfl rfl (Zf Vo rfl) (Za rfl rfl rfl (Zh Zbq rfl (Zhr _) hS Xq trivial Y4) (Za rfl rfl rfl (Y1 rfl rfl) ?_)))))))
 refine Zg (Zc hK80 (Zy rfl (fun hb => ?_) (fun hb => ?_)))
 rotate_left
 ·replace H := Zo H hb
  refine Zr (Zc hK79 (Zd (fun K hK88 => Zd (fun K hK89 => Ze (Za rfl rfl rfl (Zf Xm rfl) (Za rfl rfl rfl (Zi Y6 rfl (Zhr _) hS Xq trivial Zae) (Za rfl rfl rfl (Xl (cells := [.int .i64 0, .int .i64 0, .int .i64 0, .int .i64 0, .bool false]) rfl (by kernel_rfl)) ?_)))))))
  refine Za rfl rfl rfl (Zah (by kernel_rfl) rfl rfl (Zbc _ _ _ _ _ _ _ _ _ _)) (Zb 1 rfl (Zg (Zc hK89 (Zk (Zj (Yc (Zm rfl (RV.tmp rfl RV.nil) rfl ?_)))))))
  obtain rfl := QJ H
  replace hS := hS.cut 0
  exact ⟨rfl, hS⟩
 replace H := Zp H hb
 refine Zd (fun K hK82 => Ze (Za rfl rfl rfl (Zf Xm rfl) (Za rfl rfl rfl (Zf Yj rfl) (Za rfl rfl rfl (Zh Z1 rfl (Zhr _) hS Xq trivial Zam) (Za rfl rfl rfl (Xc rfl rfl) (Zb 1 rfl (Zs 89 rfl (fun hb => ?_) (fun hb => ?_))))))))
 rotate_left
 ·replace H := Zo H hb
  refine Zb 5 rfl (Zg (Zc hK82 (Zk (Zj (Yc (Zm rfl (RV.tmp rfl RV.nil) rfl ?_))))))
  obtain rfl := QJ H
  replace hS := hS.cut 0
  exact ⟨rfl, hS⟩
 replace H := Zp H hb
 refine Za rfl rfl rfl (Zf Xm rfl) (Za rfl rfl rfl (Zi Y6 rfl (Zhr _) hS Xq trivial Zae) ?_)
 obtain ⟨r84, hm85, H⟩ := bind_some H
 refine Zn rfl rfl rfl rfl (by kernel_rfl) rfl (Zcz x0.snap _ hm85) ?_
 rintro e w ⟨rfl, hN⟩; refine ⟨_, rfl, ?_⟩; obtain ⟨hB, hS⟩ := hS.jn hN
 refine Zb 2 rfl (Zg (Zc hK82 (Zk (Zj (Yc (Zm rfl (RV.tmp rfl RV.nil) rfl ?_))))))
 obtain rfl := QJ H
 replace hS := hS.cut 0
 exact ⟨rfl, hS⟩
theorem c_elect_fits (x0 : Co) (x1 : Ms) (A0_ : OA) (c0_ : Nat) (A1_ : OA) (c1_ : Nat) (A2_ : OA) (c2_ : Nat) (A3_ : OA) (c3_ : Nat) (A4_ : OA) (c4_ : Nat) (A5_ : OA) (c5_ : Nat) (w0 : World) (s0_ : SlI w0 Vv A0_ c0_ x0.tuple.log) (s1_ : SlI w0 enO A1_ c1_ x0.votes) (s2_ : SlI w0 Vh A2_ c2_ x0.next) (s3_ : SlI w0 Vh A3_ c3_ x0.mtch) (s4_ : SlI w0 Vh A4_ c4_ x0.caps) (s5_ : SlI w0 Vv A5_ c5_ x1.entries) {r : Bool} (H : Zej x0 x1 = some r) : Calls Tryz.prog 59 #[.agg #[.int .i64 x0.id, .int .i64 x0.n, .int .u8 x0.role, .int .i64 x0.binary, .int .i64 x0.tuple.snap.index, .int .i64 x0.tuple.snap.term, .int .i64 x0.tuple.snap.sum, .int .i64 x0.tuple.snap.level, .bool x0.tuple.snap.final, .slice A0_ x0.tuple.log.length c0_, .int .i64 x0.tuple.term, .int .i64 x0.tuple.vote, .int .i64 x0.commit, .int .i64 x0.applied.index, .int .i64 x0.applied.term, .int .i64 x0.applied.sum, .int .i64 x0.applied.level, .bool x0.applied.final, .slice A1_ x0.votes.length c1_, .slice A2_ x0.next.length c2_, .slice A3_ x0.mtch.length c3_, .slice A4_ x0.caps.length c4_], .agg #[.int .u8 x1.kind, .int .i64 x1.frm, .int .i64 x1.dst, .int .i64 x1.term, .int .i64 x1.cap, .int .i64 x1.last, .int .i64 x1.lastTerm, .int .i64 x1.commit, .bool x1.okk, .slice A5_ x1.entries.length c5_, .int .i64 x1.snap.index, .int .i64 x1.snap.term, .int .i64 x1.snap.sum, .int .i64 x1.snap.level, .bool x1.snap.final]] w0 fun e w' => e = .returned (.bool r) ∧ St0 All w0 w' [] := by
 unfold Zej at H
 refine Yn Tryz.func59 rfl Tryz.ntmps59 rfl ?_
 have hS := St0.start All w0
 refine Zd (fun K hK1 => Ze (Z4 rfl rfl rfl CellsOf.agg hS (fun b2 w hS hB => Z4 rfl rfl rfl CellsOf.agg hS (fun b4 w hS hB => Zb 1 rfl (Zg (Zc hK1 (Zd (fun K hK6 => ?_))))))))
 refine Ze (Za rfl rfl rfl (Zf Zeq rfl) (Za rfl rfl rfl (Zh Z1 rfl (Zhr _) hS hs0 trivial Za0) (Za rfl rfl rfl (Zf Zai rfl) (Za rfl rfl rfl (Zh Z1 rfl (Zhr _) hS Xa trivial Y4) (Za rfl rfl rfl (Y1 rfl rfl) (Zb 1 rfl (Zs 10 rfl (fun hb => ?_) (fun hb => ?_))))))))
 rotate_left
 ·replace H := Zo H hb
  refine Zb 10 rfl (Zg (Zc hK6 (Zk (Zm rfl (RV.tmp rfl RV.nil) rfl ?_))))
  obtain rfl := QJ H
  replace hS := hS.cut 0
  exact ⟨rfl, hS⟩
 replace H := Zp H hb
 refine Za rfl rfl rfl (Zi Xn rfl (Zhr _) hS hs0 trivial Y2) (Za rfl rfl rfl (Zf V4 rfl) (Za rfl rfl rfl (Zh Z1 rfl (Zhr _) hS Xa trivial Vl) ?_))
 obtain ⟨r8, hm9, H⟩ := bind_some H
 refine Zn rfl rfl rfl rfl (by kernel_rfl) rfl (c_msg_Fine x1 x0.n A5_ c5_ _ (Zhu s5_.k (hS.rd0 s5_.rd) (hS.blk0 s5_.blk)) hm9) ?_
 rintro e w ⟨rfl, hN⟩; refine ⟨_, rfl, ?_⟩; obtain ⟨hB, hS⟩ := hS.jn hN
 refine Zb 2 rfl (Zs 16 rfl (fun hb => ?_) (fun hb => ?_))
 rotate_left
 ·replace H := Zo H hb
  refine Zb 4 rfl (Zg (Zc hK6 (Zk (Zm rfl (RV.tmp rfl RV.nil) rfl ?_))))
  obtain rfl := QJ H
  replace hS := hS.cut 0
  exact ⟨rfl, hS⟩
 replace H := Zp H hb
 refine Za rfl rfl rfl (Zi Z7 rfl (Zhr _) hS Xa trivial Zz) ?_
 obtain ⟨r11, hm12, H⟩ := bind_some H
 refine Zn rfl rfl rfl rfl (by kernel_rfl) rfl (Zg0 x0 A0_ c0_ A1_ c1_ A2_ c2_ A3_ c3_ A4_ c4_ _ (Zhu s0_.k (hS.rd0 s0_.rd) (hS.blk0 s0_.blk)) (Zhu s1_.k (hS.rd0 s1_.rd) (hS.blk0 s1_.blk)) (Zhu s2_.k (hS.rd0 s2_.rd) (hS.blk0 s2_.blk)) (Zhu s3_.k (hS.rd0 s3_.rd) (hS.blk0 s3_.blk)) (Zhu s4_.k (hS.rd0 s4_.rd) (hS.blk0 s4_.blk)) hm12) ?_
 rintro e w ⟨rfl, hN⟩; refine ⟨_, rfl, ?_⟩; obtain ⟨hB, hS⟩ := hS.jn hN
 refine Zb 2 rfl (Zg (Zc hK6 (Zk (Zm rfl (RV.tmp rfl RV.nil) rfl ?_))))
 obtain rfl := QJ H
 replace hS := hS.cut 0
 exact ⟨rfl, hS⟩
theorem c_advert_To (x0 : Co) (x1 : Ms) (A0_ : OA) (c0_ : Nat) (A1_ : OA) (c1_ : Nat) (A2_ : OA) (c2_ : Nat) (A3_ : OA) (c3_ : Nat) (A4_ : OA) (c4_ : Nat) (A5_ : OA) (c5_ : Nat) (w0 : World) (s0_ : SlI w0 Vv A0_ c0_ x0.tuple.log) (s1_ : SlI w0 enO A1_ c1_ x0.votes) (s2_ : SlI w0 Vh A2_ c2_ x0.next) (s3_ : SlI w0 Vh A3_ c3_ x0.mtch) (s4_ : SlI w0 Vh A4_ c4_ x0.caps) (s5_ : SlI w0 Vv A5_ c5_ x1.entries) {r : Bool} (H : Zct x0 x1 = some r) : Calls Tryz.prog 73 #[.agg #[.int .i64 x0.id, .int .i64 x0.n, .int .u8 x0.role, .int .i64 x0.binary, .int .i64 x0.tuple.snap.index, .int .i64 x0.tuple.snap.term, .int .i64 x0.tuple.snap.sum, .int .i64 x0.tuple.snap.level, .bool x0.tuple.snap.final, .slice A0_ x0.tuple.log.length c0_, .int .i64 x0.tuple.term, .int .i64 x0.tuple.vote, .int .i64 x0.commit, .int .i64 x0.applied.index, .int .i64 x0.applied.term, .int .i64 x0.applied.sum, .int .i64 x0.applied.level, .bool x0.applied.final, .slice A1_ x0.votes.length c1_, .slice A2_ x0.next.length c2_, .slice A3_ x0.mtch.length c3_, .slice A4_ x0.caps.length c4_], .agg #[.int .u8 x1.kind, .int .i64 x1.frm, .int .i64 x1.dst, .int .i64 x1.term, .int .i64 x1.cap, .int .i64 x1.last, .int .i64 x1.lastTerm, .int .i64 x1.commit, .bool x1.okk, .slice A5_ x1.entries.length c5_, .int .i64 x1.snap.index, .int .i64 x1.snap.term, .int .i64 x1.snap.sum, .int .i64 x1.snap.level, .bool x1.snap.final]] w0 fun e w' => e = .returned (.bool r) ∧ St0 All w0 w' [] := by
 unfold Zct at H
 refine Yn Tryz.func73 rfl Tryz.ntmps73 rfl ?_
 have hS := St0.start All w0
 refine Zd (fun K hK1 => Ze (Z4 rfl rfl rfl CellsOf.agg hS (fun b2 w hS hB => Z4 rfl rfl rfl CellsOf.agg hS (fun b4 w hS hB => Zb 1 rfl (Zg (Zc hK1 (wpC_scope1 0 rfl ?_)))))))
 refine Zd (fun K hK6 => Zd (fun K hK7 => Ze (Za rfl rfl rfl (Zf Zeq rfl) (Za rfl rfl rfl (Zh Z1 rfl (Zhr _) hS hs0 trivial Za0) (Za rfl rfl rfl (Zf Zai rfl) (Za rfl rfl rfl (Zh Z1 rfl (Zhr _) hS Xa trivial Y4) (Za rfl rfl rfl (Xu rfl rfl) ?_)))))))
 refine Zb 1 rfl (Zs 10 rfl (fun hb => ?_) (fun hb => ?_))
 ·replace H := Zp H hb
  refine Zb 4 rfl (Zg (Zc hK7 (Zt rfl rfl (Vr (Xp (Jh (Zd (fun K hK9 => ?_))))))))
  refine Zr (Zc hK9 (Zd (fun K hK10 => Ze (Zb 2 rfl (Zg (Zc hK10 (Zk ?_)))))))
  refine Yc (Zm rfl (RV.tmp rfl RV.nil) rfl ?_)
  obtain rfl := QJ H
  replace hS := hS.cut 0
  exact ⟨rfl, hS⟩
 replace H := Zo H hb
 refine Za rfl rfl rfl (Zi Z7 rfl (Zhr _) hS Xa trivial Zz) ?_
 obtain ⟨r12, hm13, H⟩ := bind_some H
 refine Zn rfl rfl rfl rfl (by kernel_rfl) rfl (Zg0 x0 A0_ c0_ A1_ c1_ A2_ c2_ A3_ c3_ A4_ c4_ _ (Zhu s0_.k (hS.rd0 s0_.rd) (hS.blk0 s0_.blk)) (Zhu s1_.k (hS.rd0 s1_.rd) (hS.blk0 s1_.blk)) (Zhu s2_.k (hS.rd0 s2_.rd) (hS.blk0 s2_.blk)) (Zhu s3_.k (hS.rd0 s3_.rd) (hS.blk0 s3_.blk)) (Zhu s4_.k (hS.rd0 s4_.rd) (hS.blk0 s4_.blk)) hm13) ?_
 rintro e w ⟨rfl, hN⟩; refine ⟨_, rfl, ?_⟩; obtain ⟨hB, hS⟩ := hS.jn hN
 refine Za rfl rfl rfl (Ys rfl) (Zb 1 rfl (Zg (Zc hK7 (Zy rfl (fun hb => ?_) (fun hb => ?_)))))
 ·replace H := Zp H hb
  refine Vr (Xp (Jh (Zd (fun K hK15 => Zr (Zc hK15 (Zd (fun K hK16 => Ze ?_)))))))
  refine Zb 2 rfl (Zg (Zc hK16 (Zk (Yc (Zm rfl (RV.tmp rfl RV.nil) rfl ?_)))))
  obtain rfl := QJ H
  replace hS := hS.cut 0
  exact ⟨rfl, hS⟩
 replace H := Zo H hb
 refine Zr (Zc hK6 (Zd (fun K hK18 => Ze (Za rfl rfl rfl (Zi Xn rfl (Zhr _) hS hs0 trivial Y2) (Za rfl rfl rfl (Zf V4 rfl) (Za rfl rfl rfl (Zh Z1 rfl (Zhr _) hS Xa trivial Vl) ?_))))))
 obtain ⟨r19, hm20, H⟩ := bind_some H
 refine Zn rfl rfl rfl rfl (by kernel_rfl) rfl (c_msg_Fine x1 x0.n A5_ c5_ _ (Zhu s5_.k (hS.rd0 s5_.rd) (hS.blk0 s5_.blk)) hm20) ?_
 rintro e w ⟨rfl, hN⟩; refine ⟨_, rfl, ?_⟩; obtain ⟨hB, hS⟩ := hS.jn hN
 refine Zb 1 rfl (Zg (Zc hK18 (Zd (fun K hK21 => Zea (Zc hK21 (Zd (fun K hK22 => Ze ?_)))))))
 refine Zb 2 rfl (Zg (Zc hK22 (Zk (Yc (Zm rfl (RV.tmp rfl RV.nil) rfl ?_)))))
 obtain rfl := QJ H
 replace hS := hS.cut 0
 exact ⟨rfl, hS⟩
theorem c_advert_Hear (x0 : Co) (x1 : Ms) (A0_ : OA) (c0_ : Nat) (A1_ : OA) (c1_ : Nat) (A2_ : OA) (c2_ : Nat) (A3_ : OA) (c3_ : Nat) (A4_ : OA) (c4_ : Nat) (A5_ : OA) (c5_ : Nat) (w0 : World) (s0_ : SlI w0 Vv A0_ c0_ x0.tuple.log) (s1_ : SlI w0 enO A1_ c1_ x0.votes) (s2_ : SlI w0 Vh A2_ c2_ x0.next) (s3_ : SlI w0 Vh A3_ c3_ x0.mtch) (s4_ : SlI w0 Vh A4_ c4_ x0.caps) (s5_ : SlI w0 Vv A5_ c5_ x1.entries) {r : Co} (H : Zde x0 x1 = some r) : Calls Tryz.prog 64 #[.agg #[.int .i64 x0.id, .int .i64 x0.n, .int .u8 x0.role, .int .i64 x0.binary, .int .i64 x0.tuple.snap.index, .int .i64 x0.tuple.snap.term, .int .i64 x0.tuple.snap.sum, .int .i64 x0.tuple.snap.level, .bool x0.tuple.snap.final, .slice A0_ x0.tuple.log.length c0_, .int .i64 x0.tuple.term, .int .i64 x0.tuple.vote, .int .i64 x0.commit, .int .i64 x0.applied.index, .int .i64 x0.applied.term, .int .i64 x0.applied.sum, .int .i64 x0.applied.level, .bool x0.applied.final, .slice A1_ x0.votes.length c1_, .slice A2_ x0.next.length c2_, .slice A3_ x0.mtch.length c3_, .slice A4_ x0.caps.length c4_], .agg #[.int .u8 x1.kind, .int .i64 x1.frm, .int .i64 x1.dst, .int .i64 x1.term, .int .i64 x1.cap, .int .i64 x1.last, .int .i64 x1.lastTerm, .int .i64 x1.commit, .bool x1.okk, .slice A5_ x1.entries.length c5_, .int .i64 x1.snap.index, .int .i64 x1.snap.term, .int .i64 x1.snap.sum, .int .i64 x1.snap.level, .bool x1.snap.final]] w0 fun e w' => ∃ (A0 : OA) (c0 : Nat) (A1 : OA) (c1 : Nat) (A2 : OA) (c2 : Nat) (A3 : OA) (c3 : Nat) (A4 : OA) (c4 : Nat), e = .returned (.agg #[.int .i64 r.id, .int .i64 r.n, .int .u8 r.role, .int .i64 r.binary, .int .i64 r.tuple.snap.index, .int .i64 r.tuple.snap.term, .int .i64 r.tuple.snap.sum, .int .i64 r.tuple.snap.level, .bool r.tuple.snap.final, .slice A0 r.tuple.log.length c0, .int .i64 r.tuple.term, .int .i64 r.tuple.vote, .int .i64 r.commit, .int .i64 r.applied.index, .int .i64 r.applied.term, .int .i64 r.applied.sum, .int .i64 r.applied.level, .bool r.applied.final, .slice A1 r.votes.length c1, .slice A2 r.next.length c2, .slice A3 r.mtch.length c3, .slice A4 r.caps.length c4]) ∧ (r.tuple.log.length ≤ c0 ∧ c0 ≤ maxLen) ∧ (r.votes.length ≤ c1 ∧ c1 ≤ maxLen) ∧ (r.next.length ≤ c2 ∧ c2 ≤ maxLen) ∧ (r.mtch.length ≤ c3 ∧ c3 ≤ maxLen) ∧ (r.caps.length ≤ c4 ∧ c4 ≤ maxLen) ∧ St0 All w0 w' [.row (.slice A0 r.tuple.log.length c0) 53 3 r.tuple.log.length (Yg Vv r.tuple.log), .row (.slice A1 r.votes.length c1) 4 1 r.votes.length (Yg enO r.votes), .row (.slice A2 r.next.length c2) 3 1 r.next.length (Yg Vh r.next), .row (.slice A3 r.mtch.length c3) 3 1 r.mtch.length (Yg Vh r.mtch), .row (.slice A4 r.caps.length c4) 3 1 r.caps.length (Yg Vh r.caps)] := by
 unfold Zde at H
 refine Yn Tryz.func64 rfl Tryz.ntmps64 rfl ?_
 have hS := St0.start All w0
 refine Zd (fun K hK1 => Ze (Z4 rfl rfl rfl CellsOf.agg hS (fun b2 w hS hB => Z4 rfl rfl rfl CellsOf.agg hS (fun b4 w hS hB => Z5 rfl rfl Zdk hS (fun b6 w hS hB => Zg (Zc hK1 (Zd (fun K hK8 => ?_))))))))
 refine Yi 7 [6] (fun i b => (i = 6 → b ≠ b6)) ⟨by kernel_rfl, by kernel_rfl⟩ hS (fun w hS hB => Zq [Tt,Tt,Tt,Ff,Tt] (by decide +kernel) PFC.h (LtK.put rfl rfl rfl (Zi Z7 rfl (Zhs _) hS Xq trivial Zz) (LtK.put rfl rfl rfl (Zi Z7 rfl (Zhs _) hS Xq trivial Zz) (LtK.put rfl rfl rfl (Zi Xn rfl (Zhs _) hS Xa trivial Y2) (LtK.put rfl rfl rfl (Vc rfl rfl) (LtK.nil (Z6 [Ff,Ff,Ff,Tt] 3 ⟨by decide, by kernel_rfl, by kernel_rfl⟩ rfl rfl ?_)))))))
 try dsimp only [Z0]
 obtain ⟨r9, hm10, H⟩ := bind_some H
 refine Zn rfl rfl rfl rfl (by kernel_rfl) rfl (c_advert_To x0 x1 A0_ c0_ A1_ c1_ A2_ c2_ A3_ c3_ A4_ c4_ A5_ c5_ _ (Zhu s0_.k (hS.rd0 s0_.rd) (hS.blk0 s0_.blk)) (Zhu s1_.k (hS.rd0 s1_.rd) (hS.blk0 s1_.blk)) (Zhu s2_.k (hS.rd0 s2_.rd) (hS.blk0 s2_.blk)) (Zhu s3_.k (hS.rd0 s3_.rd) (hS.blk0 s3_.blk)) (Zhu s4_.k (hS.rd0 s4_.rd) (hS.blk0 s4_.blk)) (Zhu s5_.k (hS.rd0 s5_.rd) (hS.blk0 s5_.blk)) hm10) ?_
 rintro e w ⟨rfl, hN⟩; refine ⟨_, rfl, ?_⟩; obtain ⟨hB, hS⟩ := hS.jn hN
 refine Zg (Z9 hB (Z6 [Ff,Ff,Ff,Ff,Ff,Tt] 5 ⟨by decide, by kernel_rfl, by kernel_rfl⟩ rfl rfl ?_))
 try dsimp only [Z0]
 have hO11 := hS
 rename World => wS12
 have hS := St0.start All wS12
 refine Jy rfl rfl rfl rfl (by kernel_rfl) rfl ?_
 show Calls _ _ #[_, _, _] _ _
 refine Vx Tryz.func108 rfl Tryz.ntmps108 rfl (Zd (fun K hK13 => Ze (Z4 rfl rfl rfl CellsOf.agg hS (fun b14 w hS hB => Z5 rfl rfl Zdk hS (fun b16 w hS hB => Zg (Zc hK13 (Zd (fun K hK18 => ?_))))))))
 refine Ze (Za rfl rfl rfl (Zi Z7 rfl (Zhr _) (hO11.join hS) Xa trivial Zz) ?_)
 obtain ⟨r19, hm20, H⟩ := bind_some H
 refine Zn rfl rfl rfl rfl (by kernel_rfl) rfl (Ze8 x0 A0_ c0_ A1_ c1_ A2_ c2_ A3_ c3_ A4_ c4_ _ (Zhu s0_.k ((hO11.join hS).rd0 s0_.rd) ((hO11.join hS).blk0 s0_.blk)) (Zhu s1_.k ((hO11.join hS).rd0 s1_.rd) ((hO11.join hS).blk0 s1_.blk)) (Zhu s2_.k ((hO11.join hS).rd0 s2_.rd) ((hO11.join hS).blk0 s2_.blk)) (Zhu s3_.k ((hO11.join hS).rd0 s3_.rd) ((hO11.join hS).blk0 s3_.blk)) (Zhu s4_.k ((hO11.join hS).rd0 s4_.rd) ((hO11.join hS).blk0 s4_.blk)) hm20) ?_
 rintro e w ⟨A21, c22, A25, c26, A29, c30, A33, c34, A37, c38, rfl, k23, k27, k31, k35, k39, hN⟩; refine ⟨_, rfl, ?_⟩; obtain ⟨hB, hS⟩ := hS.jn hN
 refine Zl rfl rfl rfl CellsOf.agg hS ps6 Yo (by kernel_rfl) rfl (fun w hS hB => Zg (Zc hK18 (Zd (fun K hK41 => Zd (fun K hK42 => Ze (Zb 2 rfl (Zs 10 rfl (fun hb => ?_) (fun hb => ?_))))))))
 rotate_left
 ·replace H := Zo H hb
  refine Zb 3 rfl (Zg (Zc hK42 (Yl rfl rfl (Zr (Zc hK41 (Zd (fun K hK55 => Ze ?_)))))))
  refine Za rfl rfl rfl (Zi Z7 rfl (Zhr _) (hO11.join hS) hs6 trivial Zz) (Zl rfl rfl rfl CellsOf.agg hS ps5 Yo (by kernel_rfl) rfl (fun w hS hB => Zg (Zc hK55 (Zk (Zm rfl (RV.cell rfl (Zu Z7 (hO11.join hS) hs5 Zz) RV.nil) rfl (⟨_, rfl, ?_⟩))))))
  have hB := hS.pure
  have hS := hO11.join hS
  dsimp only [List.cons_append, List.nil_append] at hS
  refine Zg (Z9 hB (Yq [Ff,Ff,Ff,Ff,Ff,Ff,Tt] 6 ⟨by decide, by kernel_rfl, by kernel_rfl⟩ rfl rfl ?_))
  try dsimp only [Z0]
  refine Zl rfl rfl rfl CellsOf.agg hS ps7 Yo (by kernel_rfl) rfl (fun w hS hB => Zg (Yk (hB.sub (fun _ _ h => by simpa using h)) (Ye (by kernel_rfl) (Zc hK8 (Zk (Zm rfl (RV.cell rfl (Zu Z7 hS hs7 Zz) RV.nil) rfl ?_))))))
  obtain rfl := QJ H
  have hS := hS.front 4 rfl
  have hS := hS.front 4 rfl
  have hS := hS.front 4 rfl
  have hS := hS.front 4 rfl
  have hS := hS.front 4 rfl
  replace hS := hS.cut 5
  exact ⟨A21, c22, A25, c26, A29, c30, A33, c34, A37, c38, rfl, k23, k27, k31, k35, k39, hS⟩
 replace H := Zp H hb
 refine Za rfl rfl rfl (Zi Z7 rfl (Zhr _) (hO11.join hS) hs6 trivial Zz) ?_
 obtain ⟨r44, hm45, H⟩ := bind_some H
 refine Zn rfl rfl rfl rfl (by kernel_rfl) rfl (Zg0 r19 A21 c22 A25 c26 A29 c30 A33 c34 A37 c38 _ (Zhu k23 ((hO11.join hS).row_rd hs0) ((hO11.join hS).row_blk hs0)) (Zhu k27 ((hO11.join hS).row_rd Xa) ((hO11.join hS).row_blk Xa)) (Zhu k31 ((hO11.join hS).row_rd Xq) ((hO11.join hS).row_blk Xq)) (Zhu k35 ((hO11.join hS).row_rd hs3) ((hO11.join hS).row_blk hs3)) (Zhu k39 ((hO11.join hS).row_rd hs4) ((hO11.join hS).row_blk hs4)) hm45) ?_
 rintro e w ⟨rfl, hN⟩; refine ⟨_, rfl, ?_⟩; obtain ⟨hB, hS⟩ := hS.jn hN
 refine Zb 1 rfl (Zg (Zc hK42 (Zy rfl (fun hb => ?_) (fun hb => ?_))))
 rotate_left
 ·replace H := Zo H hb
  refine Zr (Zc hK41 (Zd (fun K hK53 => Ze (Za rfl rfl rfl (Zi Z7 rfl (Zhr _) (hO11.join hS) hs6 trivial Zz) (Zl rfl rfl rfl CellsOf.agg hS ps5 Yo (by kernel_rfl) rfl (fun w hS hB => Zg (Zc hK53 ?_)))))))
  refine Zk (Zm rfl (RV.cell rfl (Zu Z7 (hO11.join hS) hs5 Zz) RV.nil) rfl (⟨_, rfl, ?_⟩))
  have hB := hS.pure
  have hS := hO11.join hS
  dsimp only [List.cons_append, List.nil_append] at hS
  refine Zg (Z9 hB (Yq [Ff,Ff,Ff,Ff,Ff,Ff,Tt] 6 ⟨by decide, by kernel_rfl, by kernel_rfl⟩ rfl rfl ?_))
  try dsimp only [Z0]
  refine Zl rfl rfl rfl CellsOf.agg hS ps7 Yo (by kernel_rfl) rfl (fun w hS hB => Zg (Yk (hB.sub (fun _ _ h => by simpa using h)) (Ye (by kernel_rfl) (Zc hK8 (Zk (Zm rfl (RV.cell rfl (Zu Z7 hS hs7 Zz) RV.nil) rfl ?_))))))
  obtain rfl := QJ H
  have hS := hS.front 4 rfl
  have hS := hS.front 4 rfl
  have hS := hS.front 4 rfl
  have hS := hS.front 4 rfl
  have hS := hS.front 4 rfl
  replace hS := hS.cut 5
  exact ⟨A21, c22, A25, c26, A29, c30, A33, c34, A37, c38, rfl, k23, k27, k31, k35, k39, hS⟩
 replace H := Zp H hb
 refine Ze (Zb 1 rfl (Jy rfl rfl rfl rfl (by kernel_rfl) rfl ?_))
 show Calls _ _ #[_, _] _ _
 refine Yn Tryz.func109 rfl Tryz.ntmps109 rfl (Yi 11 [10] (fun i b => (i = 10 → b = b16 ∨ b = b14)) ⟨by kernel_rfl, by kernel_rfl⟩ hS (fun w hS hB => Zq [Tt,Tt,Tt,Tt,Tt,Tt,Tt,Tt,Tt,Tt] (by decide +kernel) PFC.h (LtK.put rfl rfl rfl (Zw rfl) (LtK.put rfl rfl rfl (X5 rfl) (LtK.put rfl rfl rfl (Zf Jl rfl) (LtK.put rfl rfl rfl (Zh X3 rfl (Zhs _) (hO11.join hS) hs6 trivial Zdc) (LtK.put rfl rfl rfl (Zf Zck rfl) ?_)))))))
 refine LtK.put rfl rfl rfl (Zh Z1 rfl (Zhs _) (hO11.join hS) hs8 trivial Vl) (LtK.put rfl rfl rfl (Ju rfl rfl) (LtK.put rfl rfl rfl (Zf fo_32_4 rfl) (LtK.put rfl rfl rfl (Zh Z1 rfl (Zhs _) (hO11.join hS) hs8 trivial Zfw) ?_)))
 obtain ⟨e47, hi49, H⟩ := bind_some H
 obtain ⟨j48, hi49a, hi49b, hi49c⟩ := Yt hi49
 refine LtK.put rfl rfl rfl (Xf Xv rfl rfl hi49a hi49c (Rd.el ((hO11.join hS).row_rd hs4) Yh hi49b)) (LtK.nil (Yq [Ff,Ff,Ff,Ff,Ff,Ff,Ff,Ff,Ff,Ff,Tt] 10 ⟨by decide, by kernel_rfl, by kernel_rfl⟩ rfl rfl ?_))
 try dsimp only [Z0]
 refine Zbk (a' := x1.cap) (zs := (Zbe r19.caps (IntKind.wrap .i64 (x1.frm - 1)) x1.cap)) Yh rfl rfl rfl CellsOf.int hS ps4 (Rd.el ((hO11.join hS).row_rd hs4) Yh hi49b) hi49a hi49b rfl Zfp (by kernel_rfl) rfl (fun w hS hB => ?_)
 have hi50b := Zc8 (a := x1.cap) hi49a hi49b
 have hi50a := hi49a
 refine Zg (Yk (hB.sub (fun b _ h => by have h0 : b = b16 ∨ b = b14 := (by simpa using h); rcases h0 with h0 | h0; (rw [h0]; exact hS.neRow 5 4 rfl rfl); (rw [h0]; exact hS.neRow 6 4 rfl rfl))) ?_)
 refine Ye (by kernel_rfl) (Zdb rfl RV.nil rfl (⟨_, rfl, ?_⟩))
 refine Zg (Zc hK41 (Zd (fun K hK51 => Ze (Za rfl rfl rfl (Zi Z7 rfl (Zhr _) (hO11.join hS) hs6 trivial Zz) (Zl rfl rfl rfl CellsOf.agg hS ps5 Yo (by kernel_rfl) rfl (fun w hS hB => Zg (Zc hK51 ?_)))))))
 refine Zk (Zm rfl (RV.cell rfl (Zu Z7 (hO11.join hS) hs5 Zz) RV.nil) rfl (⟨_, rfl, ?_⟩))
 have hB := hS.pure
 have hS := hO11.join hS
 dsimp only [List.cons_append, List.nil_append] at hS
 refine Zg (Z9 hB (Yq [Ff,Ff,Ff,Ff,Ff,Ff,Tt] 6 ⟨by decide, by kernel_rfl, by kernel_rfl⟩ rfl rfl ?_))
 try dsimp only [Z0]
 refine Zl rfl rfl rfl CellsOf.agg hS ps7 Yo (by kernel_rfl) rfl (fun w hS hB => Zg (Yk (hB.sub (fun _ _ h => by simpa using h)) (Ye (by kernel_rfl) (Zc hK8 (Zk (Zm rfl (RV.cell rfl (Zu Z7 hS hs7 Zz) RV.nil) rfl ?_))))))
 obtain rfl := QJ H
 have hS := hS.front 4 rfl
 have hS := hS.front 4 rfl
 have hS := hS.front 4 rfl
 have hS := hS.front 4 rfl
 have hS := hS.front 4 rfl
 replace hS := hS.cut 5
 exact ⟨A21, c22, A25, c26, A29, c30, A33, c34, A37, c38, by (repeat rw [(Jg rfl)]); rfl, k23, k27, k31, k35, (Zhd k39), hS.eqv (by (repeat rw [(Jg rfl)]); rfl)⟩
theorem c_elect_Meet (x0 : Co) (x1 : Ms) (A0_ : OA) (c0_ : Nat) (A1_ : OA) (c1_ : Nat) (A2_ : OA) (c2_ : Nat) (A3_ : OA) (c3_ : Nat) (A4_ : OA) (c4_ : Nat) (A5_ : OA) (c5_ : Nat) (w0 : World) (s0_ : SlI w0 Vv A0_ c0_ x0.tuple.log) (s1_ : SlI w0 enO A1_ c1_ x0.votes) (s2_ : SlI w0 Vh A2_ c2_ x0.next) (s3_ : SlI w0 Vh A3_ c3_ x0.mtch) (s4_ : SlI w0 Vh A4_ c4_ x0.caps) (s5_ : SlI w0 Vv A5_ c5_ x1.entries) {r : Co} (H : Zc4 x0 x1 = some r) : Calls Tryz.prog 17 #[.agg #[.int .i64 x0.id, .int .i64 x0.n, .int .u8 x0.role, .int .i64 x0.binary, .int .i64 x0.tuple.snap.index, .int .i64 x0.tuple.snap.term, .int .i64 x0.tuple.snap.sum, .int .i64 x0.tuple.snap.level, .bool x0.tuple.snap.final, .slice A0_ x0.tuple.log.length c0_, .int .i64 x0.tuple.term, .int .i64 x0.tuple.vote, .int .i64 x0.commit, .int .i64 x0.applied.index, .int .i64 x0.applied.term, .int .i64 x0.applied.sum, .int .i64 x0.applied.level, .bool x0.applied.final, .slice A1_ x0.votes.length c1_, .slice A2_ x0.next.length c2_, .slice A3_ x0.mtch.length c3_, .slice A4_ x0.caps.length c4_], .agg #[.int .u8 x1.kind, .int .i64 x1.frm, .int .i64 x1.dst, .int .i64 x1.term, .int .i64 x1.cap, .int .i64 x1.last, .int .i64 x1.lastTerm, .int .i64 x1.commit, .bool x1.okk, .slice A5_ x1.entries.length c5_, .int .i64 x1.snap.index, .int .i64 x1.snap.term, .int .i64 x1.snap.sum, .int .i64 x1.snap.level, .bool x1.snap.final]] w0 fun e w' => ∃ (A0 : OA) (c0 : Nat) (A1 : OA) (c1 : Nat) (A2 : OA) (c2 : Nat) (A3 : OA) (c3 : Nat) (A4 : OA) (c4 : Nat), e = .returned (.agg #[.int .i64 r.id, .int .i64 r.n, .int .u8 r.role, .int .i64 r.binary, .int .i64 r.tuple.snap.index, .int .i64 r.tuple.snap.term, .int .i64 r.tuple.snap.sum, .int .i64 r.tuple.snap.level, .bool r.tuple.snap.final, .slice A0 r.tuple.log.length c0, .int .i64 r.tuple.term, .int .i64 r.tuple.vote, .int .i64 r.commit, .int .i64 r.applied.index, .int .i64 r.applied.term, .int .i64 r.applied.sum, .int .i64 r.applied.level, .bool r.applied.final, .slice A1 r.votes.length c1, .slice A2 r.next.length c2, .slice A3 r.mtch.length c3, .slice A4 r.caps.length c4]) ∧ (r.tuple.log.length ≤ c0 ∧ c0 ≤ maxLen) ∧ (r.votes.length ≤ c1 ∧ c1 ≤ maxLen) ∧ (r.next.length ≤ c2 ∧ c2 ≤ maxLen) ∧ (r.mtch.length ≤ c3 ∧ c3 ≤ maxLen) ∧ (r.caps.length ≤ c4 ∧ c4 ≤ maxLen) ∧ St0 All w0 w' [.rd A0 (Yg Vv r.tuple.log), .row (.slice A1 r.votes.length c1) 4 1 r.votes.length (Yg enO r.votes), .row (.slice A2 r.next.length c2) 3 1 r.next.length (Yg Vh r.next), .row (.slice A3 r.mtch.length c3) 3 1 r.mtch.length (Yg Vh r.mtch), .row (.slice A4 r.caps.length c4) 3 1 r.caps.length (Yg Vh r.caps)] := by
 unfold Zc4 at H
 refine Yn Tryz.func17 rfl Tryz.ntmps17 rfl ?_
 have hS := St0.start All w0
 refine Zd (fun K hK1 => Ze (Z4 rfl rfl rfl CellsOf.agg hS (fun b2 w hS hB => Z4 rfl rfl rfl CellsOf.agg hS (fun b4 w hS hB => Z5 rfl rfl Zdk hS (fun b6 w hS hB => Zg (Zc hK1 (wpC_scope1 0 rfl ?_)))))))
 refine Zd (fun K hK8 => Ze (Za rfl rfl rfl (Zi Z7 rfl (Zhr _) hS Xq trivial Zz) ?_))
 obtain ⟨r9, hm10, H⟩ := bind_some H
 refine Zn rfl rfl rfl rfl (by kernel_rfl) rfl (Ze8 x0 A0_ c0_ A1_ c1_ A2_ c2_ A3_ c3_ A4_ c4_ _ (Zhu s0_.k (hS.rd0 s0_.rd) (hS.blk0 s0_.blk)) (Zhu s1_.k (hS.rd0 s1_.rd) (hS.blk0 s1_.blk)) (Zhu s2_.k (hS.rd0 s2_.rd) (hS.blk0 s2_.blk)) (Zhu s3_.k (hS.rd0 s3_.rd) (hS.blk0 s3_.blk)) (Zhu s4_.k (hS.rd0 s4_.rd) (hS.blk0 s4_.blk)) hm10) ?_
 rintro e w ⟨A11, c12, A15, c16, A19, c20, A23, c24, A27, c28, rfl, k13, k17, k21, k25, k29, hN⟩; refine ⟨_, rfl, ?_⟩; obtain ⟨hB, hS⟩ := hS.jn hN
 refine Zl rfl rfl rfl CellsOf.agg hS ps7 Yo (by kernel_rfl) rfl (fun w hS hB => Zg (Zc hK8 (Zd (fun K hK31 => Zd (fun K hK32 => Ze (Za rfl rfl rfl (Zi Z7 rfl (Zhr _) hS hs7 trivial Zz) (Za rfl rfl rfl (Zi Xn rfl (Zhr _) hS hs6 trivial Y2) ?_)))))))
 obtain ⟨r33, hm34, H⟩ := bind_some H
 refine Zn rfl rfl rfl rfl (by kernel_rfl) rfl (c_elect_fits r9 x1 A11 c12 A15 c16 A19 c20 A23 c24 A27 c28 A5_ c5_ _ (Zhu k13 (hS.row_rd hs0) (hS.row_blk hs0)) (Zhu k17 (hS.row_rd Xa) (hS.row_blk Xa)) (Zhu k21 (hS.row_rd Xq) (hS.row_blk Xq)) (Zhu k25 (hS.row_rd hs3) (hS.row_blk hs3)) (Zhu k29 (hS.row_rd hs4) (hS.row_blk hs4)) (Zhu s5_.k (hS.rd0 s5_.rd) (hS.blk0 s5_.blk)) hm34) ?_
 rintro e w ⟨rfl, hN⟩; refine ⟨_, rfl, ?_⟩; obtain ⟨hB, hS⟩ := hS.jn hN
 refine Za rfl rfl rfl (Ys rfl) (Zg (Zc hK32 (Zy rfl (fun hb => ?_) (fun hb => ?_))))
 ·replace H := Zp H hb
  refine Vr (Xp (Jh (Zd (fun K hK36 => Zr (Zc hK36 (Zd (fun K hK37 => Ze ?_)))))))
  refine Za rfl rfl rfl (Zi Z7 rfl (Zhr _) hS hs7 trivial Zz) (Zl rfl rfl rfl CellsOf.agg hS ps5 Yo (by kernel_rfl) rfl (fun w hS hB => Zg (Zc hK37 (Zk (Yc (Zm rfl (RV.cell rfl (Zu Z7 hS hs5 Zz) RV.nil) rfl ?_))))))
  obtain rfl := QJ H
  have hS := hS.front 4 rfl
  have hS := hS.front 4 rfl
  have hS := hS.front 4 rfl
  have hS := hS.front 4 rfl
  have hS := hS.front 4 rfl
  replace hS := hS.weak Weak.rowRd
  replace hS := hS.cut 5
  exact ⟨A11, c12, A15, c16, A19, c20, A23, c24, A27, c28, rfl, k13, k17, k21, k25, k29, hS⟩
 replace H := Zo H hb
 refine Zr (Zc hK31 (Zd (fun K hK39 => Zd (fun K hK40 => Ze (Za rfl rfl rfl (Zi Z7 rfl (Zhr _) hS hs7 trivial Zz) (Za rfl rfl rfl (Zi Xn rfl (Zhr _) hS hs6 trivial Y2) ?_))))))
 obtain ⟨r41, hm42, H⟩ := bind_some H
 refine Zn rfl rfl rfl rfl (by kernel_rfl) rfl (c_advert_Hear r9 x1 A11 c12 A15 c16 A19 c20 A23 c24 A27 c28 A5_ c5_ _ (Zhu k13 (hS.row_rd hs0) (hS.row_blk hs0)) (Zhu k17 (hS.row_rd Xa) (hS.row_blk Xa)) (Zhu k21 (hS.row_rd Xq) (hS.row_blk Xq)) (Zhu k25 (hS.row_rd hs3) (hS.row_blk hs3)) (Zhu k29 (hS.row_rd hs4) (hS.row_blk hs4)) (Zhu s5_.k (hS.rd0 s5_.rd) (hS.blk0 s5_.blk)) hm42) ?_
 rintro e w ⟨A43, c44, A47, c48, A51, c52, A55, c56, A59, c60, rfl, k45, k49, k53, k57, k61, hN⟩; refine ⟨_, rfl, ?_⟩; obtain ⟨hB, hS⟩ := hS.jn hN
 refine Zl rfl rfl rfl CellsOf.agg hS ps12 Yo (by kernel_rfl) rfl (fun w hS hB => Zg (Zc hK40 (Zd (fun K hK63 => Ze (Za rfl rfl rfl (Zf Zca rfl) (Za rfl rfl rfl (Zh Z1 rfl (Zhr _) hS hs11 trivial J9) (Za rfl rfl rfl (Zf Yy rfl) ?_)))))))
 refine Za rfl rfl rfl (Zf Vi rfl) (Za rfl rfl rfl (Zh Z1 rfl (Zhr _) hS hs12 trivial Zam) (Za rfl rfl rfl (Xc rfl rfl) (Zg (Zc hK63 (Zy rfl (fun hb => ?_) (fun hb => ?_))))))
 rotate_left
 ·replace H := Zo H hb
  refine Zr (Zc hK39 (Zd (fun K hK92 => Zea (Zc hK92 (Zd (fun K hK93 => Ze (Za rfl rfl rfl (Zi Z7 rfl (Zhr _) hS hs12 trivial Zz) ?_)))))))
  refine Zl rfl rfl rfl CellsOf.agg hS ps10 Yo (by kernel_rfl) rfl (fun w hS hB => Zg (Zc hK93 (Zk (Yc (Zm rfl (RV.cell rfl (Zu Z7 hS Zek Zz) RV.nil) rfl ?_)))))
  obtain rfl := QJ H
  have hS := hS.front 4 rfl
  have hS := hS.front 4 rfl
  have hS := hS.front 4 rfl
  have hS := hS.front 4 rfl
  have hS := hS.front 4 rfl
  replace hS := hS.weak Weak.rowRd
  replace hS := hS.cut 5
  exact ⟨A43, c44, A47, c48, A51, c52, A55, c56, A59, c60, rfl, k45, k49, k53, k57, k61, hS⟩
 replace H := Zp H hb
 refine Ze (Za rfl rfl rfl (Zi Z7 rfl (Zhr _) hS hs12 trivial Zz) (Za rfl rfl rfl (Zf Zca rfl) (Za rfl rfl rfl (Zh Z1 rfl (Zhr _) hS hs11 trivial J9) (Jy rfl rfl rfl rfl (by kernel_rfl) rfl ?_))))
 show Calls _ _ #[_, _, _, _, _] _ _
 refine gw_enter5 Tryz.func51 rfl Tryz.ntmps51 rfl (Zd (fun K hK65 => Ze (Z4 rfl rfl rfl CellsOf.agg hS (fun b66 w hS hB => Z5 rfl rfl Zdk hS (fun b68 w hS hB => Zg (Zc hK65 (Zd (fun K hK70 => ?_))))))))
 refine Ze (Za rfl rfl rfl (Zf Yy rfl) (Za rfl rfl rfl (Zi Ya rfl (Zhr _) hS Xa trivial Jv) (Zb 2 rfl ?_)))
 obtain ⟨r71, hm72, H⟩ := bind_some H
 refine Zn rfl rfl rfl rfl (by kernel_rfl) rfl (c_tuple_Hard r41.tuple x1.term 0 A43 c44 _ (Zhu k45 (hS.row_rd Xq) (hS.row_blk Xq)) hm72) ?_
 rintro e w ⟨A73, c74, rfl, k75, hN⟩; refine ⟨_, rfl, ?_⟩; obtain ⟨hB, hS⟩ := hS.jn hN
 refine Zb 1 rfl (Za rfl rfl rfl (Zv rfl rfl) (Za rfl rfl rfl (Zv rfl rfl) (Za rfl rfl rfl (Zf Yy rfl) (Zl rfl rfl rfl CellsOf.agg hS ps2 st4_8 (by kernel_rfl) rfl (fun w hS hB => Zg (Zc hK70 (Zd (fun K hK77 => ?_))))))))
 refine Yi 8 [5, 7] (fun i b => (i = 5 → b ≠ b66) ∧ (i = 7 → b ≠ b66)) ⟨by kernel_rfl, by kernel_rfl⟩ hS (fun w hS hB => Zq [Tt,Tt,Tt,Ff,Tt] (by decide +kernel) PFC.h (LtK.put rfl rfl rfl (Zw rfl) (LtK.put rfl rfl rfl (Zf V4 rfl) (LtK.put rfl rfl rfl (Zh Z1 rfl (Zhs _) hS Xq trivial Vl) (LtK.put rfl rfl rfl (Zf Zbj rfl) (LtK.nil (Zes [3, 5] ⟨by decide, by kernel_rfl⟩ rfl (.call [Ff,Ff,Ff,Tt] 3 rfl rfl rfl ?_ (.put [Ff,Ff,Ff,Ff,Ff,Tt] 5 rfl rfl rfl ?_ .nil)))))))))
 ·try dsimp only [Z0]
  obtain ⟨l78, hm79, H⟩ := bind_some H
  refine wpX_make Zg6 em_27 rfl (by decide) rfl rfl rfl rfl hS hm79 (fun A80 c81 w k82 hS hB => ?_)
  refine Zg (Z9 hB (Yq [Ff,Ff,Ff,Ff,Ff,Tt] 5 ⟨by decide, by kernel_rfl, by kernel_rfl⟩ rfl rfl ?_))
  try dsimp only [Z0]
  refine Zl rfl rfl rfl CellsOf.int hS ps3 st2_1 (by kernel_rfl) rfl (fun w hS hB => Zg (Yk (hB.sub (fun _ _ h => by simpa using h)) (Zq [Ff,Ff,Ff,Ff,Ff,Ff,Tt] (by decide +kernel) PFC.h (LtK.put rfl rfl rfl (Zf Zbg rfl) (LtK.nil (Yq [Ff,Ff,Ff,Ff,Ff,Ff,Ff,Tt] 7 ⟨by decide, by kernel_rfl, by kernel_rfl⟩ rfl rfl ?_))))))
  try dsimp only [Z0]
  refine Zl rfl rfl rfl CellsOf.slice hS ps3 st18_1 (by kernel_rfl) rfl (fun w hS hB => Zg (Yk (hB.sub (fun _ _ h => by simpa using h)) (Ye (by kernel_rfl) (Zc hK77 (Zd (fun K hK84 => Zd (fun K hK85 => Ze ?_)))))))
  refine Zb 1 rfl (Za rfl rfl rfl (Y0 Xv rfl) (Zb 1 rfl (Zg (Zc hK85 (Yd (wpC_rounds 60 (Zd (fun K hK86 => ?_))))))))
  refine Ze (Za rfl rfl rfl (Xk rfl rfl) (Zg (Zc hK86 (Zd (fun K hK87 => Yl rfl rfl (X1 (Z8 ?_)))))))
  refine Z8 (Yz (Zc hK84 (Zd (fun K hK88 => Ze (Za rfl rfl rfl (Zi Z7 rfl (Zhr _) hS hs3 trivial Zz) (Zl rfl rfl rfl CellsOf.agg hS ps2 Yo (by kernel_rfl) rfl (fun w hS hB => Zg ?_)))))))
  refine Zc hK88 (Zk (Zm rfl (RV.cell rfl (Zu Z7 hS Xq Zz) RV.nil) rfl (⟨_, rfl, ?_⟩)))
  refine Zl rfl rfl rfl CellsOf.agg hS ps16 Yo (by kernel_rfl) rfl (fun w hS hB => Zg (Zc hK39 (Zd (fun K hK89 => Zea (Zc hK89 (Zd (fun K hK90 => Ze ?_)))))))
  refine Za rfl rfl rfl (Zi Z7 rfl (Zhr _) hS hs16 trivial Zz) (Zl rfl rfl rfl CellsOf.agg hS ps14 Yo (by kernel_rfl) rfl (fun w hS hB => Zg (Zc hK90 (Zk (Yc (Zm rfl (RV.cell rfl (Zu Z7 hS Zg8 Zz) RV.nil) rfl ?_))))))
  obtain rfl := QJ H
  have hS := hS.front 8 rfl
  have hS := hS.front 8 rfl
  have hS := hS.front 8 rfl
  have hS := hS.front 3 rfl
  have hS := hS.front 4 rfl
  replace hS := hS.cut 5
  exact ⟨A73, c74, A80, c81, A51, c52, A55, c56, A59, c60, rfl, k75, k82, k53, k57, k61, hS⟩
 ·try dsimp only [Z0]
  refine Zl rfl rfl rfl CellsOf.int hS ps2 st2_1 (by kernel_rfl) rfl (fun w hS hB => Zg (Yk (hB.sub (fun _ _ h => by simpa using h)) (Z6 [Ff,Ff,Ff,Tt] 3 ⟨by decide, by kernel_rfl, by kernel_rfl⟩ rfl rfl ?_)))
  try dsimp only [Z0]
  obtain ⟨l78, hm79, H⟩ := bind_some H
  refine wpX_make Zg6 em_27 rfl (by decide) rfl rfl rfl rfl hS hm79 (fun A80 c81 w k82 hS hB => ?_)
  refine Zg (Z9 hB (Zq [Ff,Ff,Ff,Ff,Ff,Ff,Tt] (by decide +kernel) PFC.h (LtK.put rfl rfl rfl (Zf Zbg rfl) (LtK.nil (Yq [Ff,Ff,Ff,Ff,Ff,Ff,Ff,Tt] 7 ⟨by decide, by kernel_rfl, by kernel_rfl⟩ rfl rfl ?_)))))
  try dsimp only [Z0]
  refine Zl rfl rfl rfl CellsOf.slice hS ps3 st18_1 (by kernel_rfl) rfl (fun w hS hB => Zg (Yk (hB.sub (fun _ _ h => by simpa using h)) (Ye (by kernel_rfl) (Zc hK77 (Zd (fun K hK84 => Zd (fun K hK85 => Ze ?_)))))))
  refine Zb 1 rfl (Za rfl rfl rfl (Y0 Xv rfl) (Zb 1 rfl (Zg (Zc hK85 (Yd (wpC_rounds 60 (Zd (fun K hK86 => ?_))))))))
  refine Ze (Za rfl rfl rfl (Xk rfl rfl) (Zg (Zc hK86 (Zd (fun K hK87 => Yl rfl rfl (X1 (Z8 ?_)))))))
  refine Z8 (Yz (Zc hK84 (Zd (fun K hK88 => Ze (Za rfl rfl rfl (Zi Z7 rfl (Zhr _) hS hs3 trivial Zz) (Zl rfl rfl rfl CellsOf.agg hS ps2 Yo (by kernel_rfl) rfl (fun w hS hB => Zg ?_)))))))
  refine Zc hK88 (Zk (Zm rfl (RV.cell rfl (Zu Z7 hS Xq Zz) RV.nil) rfl (⟨_, rfl, ?_⟩)))
  refine Zl rfl rfl rfl CellsOf.agg hS ps16 Yo (by kernel_rfl) rfl (fun w hS hB => Zg (Zc hK39 (Zd (fun K hK89 => Zea (Zc hK89 (Zd (fun K hK90 => Ze ?_)))))))
  refine Za rfl rfl rfl (Zi Z7 rfl (Zhr _) hS hs16 trivial Zz) (Zl rfl rfl rfl CellsOf.agg hS ps14 Yo (by kernel_rfl) rfl (fun w hS hB => Zg (Zc hK90 (Zk (Yc (Zm rfl (RV.cell rfl (Zu Z7 hS Zg8 Zz) RV.nil) rfl ?_))))))
  obtain rfl := QJ H
  have hS := hS.front 8 rfl
  have hS := hS.front 8 rfl
  have hS := hS.front 8 rfl
  have hS := hS.front 3 rfl
  have hS := hS.front 4 rfl
  replace hS := hS.cut 5
  exact ⟨A73, c74, A80, c81, A51, c52, A55, c56, A59, c60, rfl, k75, k82, k53, k57, k61, hS⟩
theorem Zcs (x0 : Co) (x1 : Ms) (x2 : Int) (x3 : Bool) (x4 : Int) (A0_ : OA) (c0_ : Nat) (A1_ : OA) (c1_ : Nat) (A2_ : OA) (c2_ : Nat) (A3_ : OA) (c3_ : Nat) (A4_ : OA) (c4_ : Nat) (A5_ : OA) (c5_ : Nat) (w0 : World) (s0_ : SlI w0 Vv A0_ c0_ x0.tuple.log) (s1_ : SlI w0 enO A1_ c1_ x0.votes) (s2_ : SlI w0 Vh A2_ c2_ x0.next) (s3_ : SlI w0 Vh A3_ c3_ x0.mtch) (s4_ : SlI w0 Vh A4_ c4_ x0.caps) (s5_ : SlI w0 Vv A5_ c5_ x1.entries) {r : Ms} (H : V3 x0 x1 x2 x3 x4 = some r) : Calls Tryz.prog 61 #[.agg #[.int .i64 x0.id, .int .i64 x0.n, .int .u8 x0.role, .int .i64 x0.binary, .int .i64 x0.tuple.snap.index, .int .i64 x0.tuple.snap.term, .int .i64 x0.tuple.snap.sum, .int .i64 x0.tuple.snap.level, .bool x0.tuple.snap.final, .slice A0_ x0.tuple.log.length c0_, .int .i64 x0.tuple.term, .int .i64 x0.tuple.vote, .int .i64 x0.commit, .int .i64 x0.applied.index, .int .i64 x0.applied.term, .int .i64 x0.applied.sum, .int .i64 x0.applied.level, .bool x0.applied.final, .slice A1_ x0.votes.length c1_, .slice A2_ x0.next.length c2_, .slice A3_ x0.mtch.length c3_, .slice A4_ x0.caps.length c4_], .agg #[.int .u8 x1.kind, .int .i64 x1.frm, .int .i64 x1.dst, .int .i64 x1.term, .int .i64 x1.cap, .int .i64 x1.last, .int .i64 x1.lastTerm, .int .i64 x1.commit, .bool x1.okk, .slice A5_ x1.entries.length c5_, .int .i64 x1.snap.index, .int .i64 x1.snap.term, .int .i64 x1.snap.sum, .int .i64 x1.snap.level, .bool x1.snap.final], .int .u8 x2, .bool x3, .int .i64 x4] w0 fun e w' => ∃ (A0 : OA) (c0 : Nat), e = .returned (.agg #[.int .u8 r.kind, .int .i64 r.frm, .int .i64 r.dst, .int .i64 r.term, .int .i64 r.cap, .int .i64 r.last, .int .i64 r.lastTerm, .int .i64 r.commit, .bool r.okk, .slice A0 r.entries.length c0, .int .i64 r.snap.index, .int .i64 r.snap.term, .int .i64 r.snap.sum, .int .i64 r.snap.level, .bool r.snap.final]) ∧ (r.entries.length ≤ c0 ∧ c0 ≤ maxLen) ∧ St0 All w0 w' [.rd A0 (Yg Vv r.entries)] := by
 unfold V3 at H
 refine gw_enter5 Tryz.func61 rfl Tryz.ntmps61 rfl ?_
 have hS := St0.start All w0
 refine Zd (fun K hK1 => Ze (Z4 rfl rfl rfl CellsOf.agg hS (fun b2 w hS hB => Z4 rfl rfl rfl CellsOf.agg hS (fun b4 w hS hB => Z5 rfl rfl Zba hS (fun b6 w hS hB => Zg (Zc hK1 (Zd (fun K hK8 => ?_))))))))
 refine Ze (Zb 1 rfl (Za rfl rfl rfl (Zf Zai rfl) (Za rfl rfl rfl (Zh Z1 rfl (Zhr _) hS Xq trivial Y4) (Za rfl rfl rfl (Zf Zck rfl) (Za rfl rfl rfl (Zh Z1 rfl (Zhr _) hS Xa trivial Vl) (Za rfl rfl rfl (Zf Yy rfl) (Za rfl rfl rfl (Zf Vi rfl) ?_)))))))
 refine Za rfl rfl rfl (Zh Z1 rfl (Zhr _) hS Xq trivial Zam) (Za rfl rfl rfl (Zf Zdr rfl) (Za rfl rfl rfl (Zh Z1 rfl (Zhr _) hS Xq trivial J9) (Zb 2 rfl (Za rfl rfl rfl (Xl (cells := [.int .u8 x2, .int .i64 x0.id, .int .i64 x1.frm, .int .i64 x0.tuple.term, .int .i64 x0.binary, .int .i64 x4, .int .i64 0, .int .i64 0, .bool x3, .slice none 0 0, .int .i64 0, .int .i64 0, .int .i64 0, .int .i64 0, .bool false]) rfl (by kernel_rfl)) (Zl rfl rfl rfl CellsOf.agg hS ps0 Zaq (by kernel_rfl) rfl (fun w hS hB => Zg (Zc hK8 ?_)))))))
 refine Zk (Zm rfl (RV.cell rfl (Zu Xn hS hs0 Y2) RV.nil) rfl ?_)
 obtain rfl := QJ H
 have hS := hS.nilRd
 replace hS := hS.cut 1
 exact ⟨none, 0, rfl, ⟨Nat.le_refl _, Nat.zero_le _⟩, hS⟩
theorem Zcw (x0 : Co) (A0_ : OA) (c0_ : Nat) (A1_ : OA) (c1_ : Nat) (A2_ : OA) (c2_ : Nat) (A3_ : OA) (c3_ : Nat) (A4_ : OA) (c4_ : Nat) (w0 : World) (s0_ : SlI w0 Vv A0_ c0_ x0.tuple.log) (s1_ : SlI w0 enO A1_ c1_ x0.votes) (s2_ : SlI w0 Vh A2_ c2_ x0.next) (s3_ : SlI w0 Vh A3_ c3_ x0.mtch) (s4_ : SlI w0 Vh A4_ c4_ x0.caps) {r : Co} (H : Zab x0 = some r) : Calls Tryz.prog 39 #[.agg #[.int .i64 x0.id, .int .i64 x0.n, .int .u8 x0.role, .int .i64 x0.binary, .int .i64 x0.tuple.snap.index, .int .i64 x0.tuple.snap.term, .int .i64 x0.tuple.snap.sum, .int .i64 x0.tuple.snap.level, .bool x0.tuple.snap.final, .slice A0_ x0.tuple.log.length c0_, .int .i64 x0.tuple.term, .int .i64 x0.tuple.vote, .int .i64 x0.commit, .int .i64 x0.applied.index, .int .i64 x0.applied.term, .int .i64 x0.applied.sum, .int .i64 x0.applied.level, .bool x0.applied.final, .slice A1_ x0.votes.length c1_, .slice A2_ x0.next.length c2_, .slice A3_ x0.mtch.length c3_, .slice A4_ x0.caps.length c4_]] w0 fun e w' => ∃ (A0 : OA) (c0 : Nat) (A1 : OA) (c1 : Nat) (A2 : OA) (c2 : Nat) (A3 : OA) (c3 : Nat) (A4 : OA) (c4 : Nat), e = .returned (.agg #[.int .i64 r.id, .int .i64 r.n, .int .u8 r.role, .int .i64 r.binary, .int .i64 r.tuple.snap.index, .int .i64 r.tuple.snap.term, .int .i64 r.tuple.snap.sum, .int .i64 r.tuple.snap.level, .bool r.tuple.snap.final, .slice A0 r.tuple.log.length c0, .int .i64 r.tuple.term, .int .i64 r.tuple.vote, .int .i64 r.commit, .int .i64 r.applied.index, .int .i64 r.applied.term, .int .i64 r.applied.sum, .int .i64 r.applied.level, .bool r.applied.final, .slice A1 r.votes.length c1, .slice A2 r.next.length c2, .slice A3 r.mtch.length c3, .slice A4 r.caps.length c4]) ∧ (r.tuple.log.length ≤ c0 ∧ c0 ≤ maxLen) ∧ (r.votes.length ≤ c1 ∧ c1 ≤ maxLen) ∧ (r.next.length ≤ c2 ∧ c2 ≤ maxLen) ∧ (r.mtch.length ≤ c3 ∧ c3 ≤ maxLen) ∧ (r.caps.length ≤ c4 ∧ c4 ≤ maxLen) ∧ St0 All w0 w' [.row (.slice A0 r.tuple.log.length c0) 53 3 r.tuple.log.length (Yg Vv r.tuple.log), .row (.slice A1 r.votes.length c1) 4 1 r.votes.length (Yg enO r.votes), .row (.slice A2 r.next.length c2) 3 1 r.next.length (Yg Vh r.next), .row (.slice A3 r.mtch.length c3) 3 1 r.mtch.length (Yg Vh r.mtch), .row (.slice A4 r.caps.length c4) 3 1 r.caps.length (Yg Vh r.caps)] := by
 unfold Zab at H
 refine Yp Tryz.func39 rfl Tryz.ntmps39 rfl ?_
 have hS := St0.start All w0
 refine Zd (fun K hK1 => Ze (Z4 rfl rfl rfl CellsOf.agg hS (fun b2 w hS hB => Z5 rfl rfl Zdk hS (fun b4 w hS hB => Zg (Zc hK1 (Zd (fun K hK6 => Ze ?_)))))))
 refine Za rfl rfl rfl (Zf Yy rfl) (Za rfl rfl rfl (Zi Ya rfl (Zhr _) hS Xa trivial Jv) ?_)
 obtain ⟨r7, hm8, H⟩ := bind_some H
 refine Zn rfl rfl rfl rfl (by kernel_rfl) rfl (Va x0.tuple A0_ c0_ _ (Zhu s0_.k (hS.rd0 s0_.rd) (hS.blk0 s0_.blk)) hm8) ?_
 rintro e w ⟨A9, c10, rfl, k11, hN⟩; refine ⟨_, rfl, ?_⟩; obtain ⟨hB, hS⟩ := hS.jn hN
 refine Za rfl rfl rfl (Zf Yy rfl) (Zl rfl rfl rfl CellsOf.agg hS ps2 st4_8 (by kernel_rfl) rfl (fun w hS hB => Zg (Zc hK6 (Zd (fun K hK13 => Ze (Zcc el_27 rfl rfl hS (fun b14 w hS hB => Za rfl rfl rfl (Zf Zbg rfl) ?_)))))))
 refine Za rfl rfl rfl (Zh sc_27 rfl (Zhr _) hS hs3 trivial Zgf) ?_
 obtain ⟨l16, hf17, H⟩ := bind_some H
 refine Jf (ys := x0.votes) Zg6 oc_enO em_27 (by decide) rfl rfl rfl rfl hS (fun _ => ps0) (hS.rd0 s1_.rd) hf17 (fun A18 c19 w k20 hS => ?_)
 refine Za rfl rfl rfl (Zf Zbg rfl) (Zl rfl rfl rfl CellsOf.slice hS ps3 st18_1 (by kernel_rfl) rfl (fun w hS hB => Zg (Zc hK13 (Zd (fun K hK21 => Ze (Zcc Xv rfl rfl hS (fun b22 w hS hB => Za rfl rfl rfl (Zf Vs rfl) ?_)))))))
 refine Za rfl rfl rfl (Zh X3 rfl (Zhr _) hS hs4 trivial Zat) ?_
 obtain ⟨l24, hf25, H⟩ := bind_some H
 refine Jf (ys := x0.next) Yh oc_enI em_28 (by decide) rfl rfl rfl rfl hS (fun _ => ps0) (hS.rd0 s2_.rd) hf25 (fun A26 c27 w k28 hS => ?_)
 refine Za rfl rfl rfl (Zf Vs rfl) (Zl rfl rfl rfl CellsOf.slice hS ps4 st19_1 (by kernel_rfl) rfl (fun w hS hB => Zg (Zc hK21 (Zd (fun K hK29 => Ze (Zcc Xv rfl rfl hS (fun b30 w hS hB => Za rfl rfl rfl (Zf Ji rfl) ?_)))))))
 refine Za rfl rfl rfl (Zh X3 rfl (Zhr _) hS hs5 trivial Zbo) ?_
 obtain ⟨l32, hf33, H⟩ := bind_some H
 refine Jf (ys := x0.mtch) Yh oc_enI em_28 (by decide) rfl rfl rfl rfl hS (fun _ => ps0) (hS.rd0 s3_.rd) hf33 (fun A34 c35 w k36 hS => ?_)
 refine Za rfl rfl rfl (Zf Ji rfl) (Zl rfl rfl rfl CellsOf.slice hS ps5 st20_1 (by kernel_rfl) rfl (fun w hS hB => Zg (Zc hK29 (Zd (fun K hK37 => Ze (Zcc Xv rfl rfl hS (fun b38 w hS hB => Za rfl rfl rfl (Zf Jl rfl) ?_)))))))
 refine Za rfl rfl rfl (Zh X3 rfl (Zhr _) hS hs6 trivial Zdc) ?_
 obtain ⟨l40, hf41, H⟩ := bind_some H
 refine Jf (ys := x0.caps) Yh oc_enI em_28 (by decide) rfl rfl rfl rfl hS (fun _ => ps0) (hS.rd0 s4_.rd) hf41 (fun A42 c43 w k44 hS => ?_)
 refine Za rfl rfl rfl (Zf Jl rfl) (Zl rfl rfl rfl CellsOf.slice hS ps6 st21_1 (by kernel_rfl) rfl (fun w hS hB => Zg (Zc hK37 (Zd (fun K hK45 => Ze (Za rfl rfl rfl (Zi Z7 rfl (Zhr _) hS hs6 trivial Zz) (Zl rfl rfl rfl CellsOf.agg hS ps5 Yo (by kernel_rfl) rfl (fun w hS hB => ?_))))))))
 refine Zg (Zc hK45 (Zk (Zm rfl (RV.cell rfl (Zu Z7 hS hs5 Zz) RV.nil) rfl ?_)))
 obtain rfl := QJ H
 have hS := hS.front 0 rfl
 have hS := hS.front 1 rfl
 have hS := hS.front 2 rfl
 have hS := hS.front 3 rfl
 have hS := hS.front 4 rfl
 replace hS := hS.cut 5
 exact ⟨A9, c10, A18, c19, A26, c27, A34, c35, A42, c43, rfl, k11, k20, k28, k36, k44, hS⟩
theorem Zcv (x0 : Int) (w0 : World) {r : Bool} (H : Jq x0 = some r) : Calls Tryz.prog 124 #[.int .i64 x0] w0 fun e w' => e = .returned (.bool r) ∧ St0 All w0 w' [] := by
 unfold Jq at H
 refine Yp Tryz.func124 rfl Tryz.ntmps124 rfl ?_
 have hS := St0.start All w0
 refine Zd (fun K hK1 => Ze (Zb 1 rfl (Zg (Zc hK1 (Zd (fun K hK2 => Ze (Zb 1 rfl ?_)))))))
 refine Za rfl rfl rfl (Zed rfl rfl) (Zb 1 rfl (Zs 5 rfl (fun hb => ?_) (fun hb => ?_)))
 rotate_left
 ·replace H := Zo H hb
  refine Zb 4 rfl (Zg (Zc hK2 (Zk (Zm rfl (RV.tmp rfl RV.nil) rfl ?_))))
  obtain rfl := QJ H
  replace hS := hS.cut 0
  exact ⟨rfl, hS⟩
 replace H := Zp H hb
 refine Zb 1 rfl (Za rfl rfl rfl (Za5 rfl rfl) (Zb 2 rfl (Zg (Zc hK2 (Zk (Zm rfl (RV.tmp rfl RV.nil) rfl ?_))))))
 obtain rfl := QJ H
 replace hS := hS.cut 0
 exact ⟨rfl, hS⟩
end Go.Proofs.YtamjlcaoieliaaaGreat
