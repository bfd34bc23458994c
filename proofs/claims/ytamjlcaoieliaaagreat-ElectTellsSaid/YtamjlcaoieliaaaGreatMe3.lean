/- Texts of one claim put together. -/
import Derived.Test.YtamjlcaoieliaaaGreatMe1
import Derived.Test.YtamjlcaoieliaaaGreatMe2
namespace Go.Proofs.YtamjlcaoieliaaaGreat
open Go Go.RowKit
set_option maxRecDepth 100000
set_option maxHeartbeats 4000000
theorem c_ref12_Great (x0 : Tu) (A0_ : OA) (c0_ : Nat) (w0 : World) (s0_ : SlI w0 V3 A0_ c0_ x0.log) {r : Bool} (H : Zdp x0 = some r) : Calls Tryz.prog 46 #[.agg #[.int .i64 x0.snap.index, .int .i64 x0.snap.term, .int .i64 x0.snap.sum, .int .i64 x0.snap.level, .bool x0.snap.final, .slice A0_ x0.log.length c0_, .int .i64 x0.term, .int .i64 x0.vote]] w0 fun e w' => e = .returned (.bool r) ∧ St0 All w0 w' [] := by
 unfold Zdp at H
 refine Yh Tryz.func46 rfl Tryz.ntmps46 rfl ?_
 have hS := St0.start All w0
 refine Zd (fun K hK1 => ?_)
 refine Zf ?_
 refine Z7 rfl rfl rfl CellsOf.agg hS (fun b2 w hS hB => ?_)
 refine Zb 1 rfl ?_
 refine Zg ?_
 refine Zc hK1 ?_
 refine Zd (fun K hK4 => ?_)
 refine Zf ?_
 refine Za rfl rfl rfl (Ze X7 rfl) ?_
 refine Za rfl rfl rfl (Zh Vm rfl (Zhe _) hS hs0 trivial Zcq) ?_
 refine Za rfl rfl rfl (Yz Xq rfl) ?_
 refine Za rfl rfl rfl (Y7 rfl rfl) ?_
 refine Zb 1 rfl ?_
 refine Zg ?_
 refine Zc hK4 ?_
 refine Zk ?_
 refine Zm rfl (RV.tmp rfl RV.nil) rfl ?_
 obtain rfl := QJ H
 replace hS := hS.cut 0
 exact ⟨rfl, hS⟩
theorem c_ref20_Great (x0 : Co) (A0_ : OA) (c0_ : Nat) (A1_ : OA) (c1_ : Nat) (A2_ : OA) (c2_ : Nat) (A3_ : OA) (c3_ : Nat) (A4_ : OA) (c4_ : Nat) (w0 : World) (s0_ : SlI w0 V3 A0_ c0_ x0.tuple.log) (s1_ : SlI w0 enO A1_ c1_ x0.votes) (s2_ : SlI w0 X2 A2_ c2_ x0.next) (s3_ : SlI w0 X2 A3_ c3_ x0.mtch) (s4_ : SlI w0 X2 A4_ c4_ x0.caps) {r : Bool} (H : Zbk x0 = some r) : Calls Tryz.prog 7 #[.agg #[.int .i64 x0.id, .int .i64 x0.n, .int .u8 x0.role, .int .i64 x0.binary, .int .i64 x0.tuple.snap.index, .int .i64 x0.tuple.snap.term, .int .i64 x0.tuple.snap.sum, .int .i64 x0.tuple.snap.level, .bool x0.tuple.snap.final, .slice A0_ x0.tuple.log.length c0_, .int .i64 x0.tuple.term, .int .i64 x0.tuple.vote, .int .i64 x0.commit, .int .i64 x0.applied.index, .int .i64 x0.applied.term, .int .i64 x0.applied.sum, .int .i64 x0.applied.level, .bool x0.applied.final, .slice A1_ x0.votes.length c1_, .slice A2_ x0.next.length c2_, .slice A3_ x0.mtch.length c3_, .slice A4_ x0.caps.length c4_]] w0 fun e w' => e = .returned (.bool r) ∧ St0 All w0 w' [] := by
 unfold Zbk at H
 refine Yh Tryz.func7 rfl Tryz.ntmps7 rfl ?_
 have hS := St0.start All w0
 refine Zd (fun K hK1 => ?_)
 refine Zf ?_
 refine Z7 rfl rfl rfl CellsOf.agg hS (fun b2 w hS hB => ?_)
 refine Zb 1 rfl ?_
 refine Zg ?_
 refine Zc hK1 ?_
 refine Zd (fun K hK4 => ?_)
 refine Zf ?_
 refine Za rfl rfl rfl (Ze Yq rfl) ?_
 refine Za rfl rfl rfl (Zi Yp rfl (Zhe _) hS hs0 trivial Zbt) ?_
 obtain ⟨r5, hm6, H⟩ := bind_some H
 refine Zn rfl rfl rfl rfl (by kernel_rfl) rfl (c_ref12_Great x0.tuple A0_ c0_ _ (Zhh s0_.k (hS.rd0 s0_.rd) (hS.blk0 s0_.blk)) hm6) ?_
 rintro e w ⟨rfl, hN⟩; refine ⟨_, rfl, ?_⟩; obtain ⟨hB, hS⟩ := hS.jn hN
 refine Zb 1 rfl ?_
 refine Zq 6 rfl (fun hb => ?_) (fun hb => ?_)
 ·replace H := Zo H hb
  refine Zb 38 rfl ?_
  refine Zg ?_
  refine Zc hK4 ?_
  refine Zk ?_
  refine Zm rfl (RV.tmp rfl RV.nil) rfl ?_
  obtain rfl := QJ H
  replace hS := hS.cut 0
  exact ⟨rfl, hS⟩
 replace H := Zp H hb
 refine Za rfl rfl rfl (Ze Vd rfl) ?_
 refine Za rfl rfl rfl (Zh Zc1 rfl (Zhe _) hS hs0 trivial Zba) ?_
 refine Za rfl rfl rfl (Yz Zbs rfl) ?_
 refine Za rfl rfl rfl (Y7 rfl rfl) ?_
 refine Zb 2 rfl ?_
 refine Zq 12 rfl (fun hb => ?_) (fun hb => ?_)
 ·replace H := Zo H hb
  refine Zb 32 rfl ?_
  refine Zg ?_
  refine Zc hK4 ?_
  refine Zk ?_
  refine Zm rfl (RV.tmp rfl RV.nil) rfl ?_
  obtain rfl := QJ H
  replace hS := hS.cut 0
  exact ⟨rfl, hS⟩
 replace H := Zp H hb
 refine Za rfl rfl rfl (Ze Zce rfl) ?_
 refine Za rfl rfl rfl (Zh Vy rfl (Zhe _) hS hs0 trivial Zfm) ?_
 refine Za rfl rfl rfl (Yz Vh rfl) ?_
 refine Za rfl rfl rfl (Y7 rfl rfl) ?_
 refine Zb 2 rfl ?_
 refine Zq 18 rfl (fun hb => ?_) (fun hb => ?_)
 ·replace H := Zo H hb
  refine Zb 26 rfl ?_
  refine Zg ?_
  refine Zc hK4 ?_
  refine Zk ?_
  refine Zm rfl (RV.tmp rfl RV.nil) rfl ?_
  obtain rfl := QJ H
  replace hS := hS.cut 0
  exact ⟨rfl, hS⟩
 replace H := Zp H hb
 refine Za rfl rfl rfl (Ze Zbf rfl) ?_
 refine Za rfl rfl rfl (Zh Vy rfl (Zhe _) hS hs0 trivial Zec) ?_
 refine Za rfl rfl rfl (Yz Vh rfl) ?_
 refine Za rfl rfl rfl (Y7 rfl rfl) ?_
 refine Zb 2 rfl ?_
 refine Zq 24 rfl (fun hb => ?_) (fun hb => ?_)
 ·replace H := Zo H hb
  refine Zb 20 rfl ?_
  refine Zg ?_
  refine Zc hK4 ?_
  refine Zk ?_
  refine Zm rfl (RV.tmp rfl RV.nil) rfl ?_
  obtain rfl := QJ H
  replace hS := hS.cut 0
  exact ⟨rfl, hS⟩
 replace H := Zp H hb
 refine Za rfl rfl rfl (Ze V8 rfl) ?_
 refine Za rfl rfl rfl (Zh Vy rfl (Zhe _) hS hs0 trivial Zc7) ?_
 refine Za rfl rfl rfl (Yz Vh rfl) ?_
 refine Za rfl rfl rfl (Y7 rfl rfl) ?_
 refine Zb 2 rfl ?_
 refine Zq 30 rfl (fun hb => ?_) (fun hb => ?_)
 ·replace H := Zo H hb
  refine Zb 14 rfl ?_
  refine Zg ?_
  refine Zc hK4 ?_
  refine Zk ?_
  refine Zm rfl (RV.tmp rfl RV.nil) rfl ?_
  obtain rfl := QJ H
  replace hS := hS.cut 0
  exact ⟨rfl, hS⟩
 replace H := Zp H hb
 refine Za rfl rfl rfl (Ze Yq rfl) ?_
 refine Za rfl rfl rfl (Ze Xy rfl) ?_
 refine Za rfl rfl rfl (Ze Yl rfl) ?_
 refine Za rfl rfl rfl (Zh Z3 rfl (Zhe _) hS hs0 trivial Zg7) ?_
 refine Za rfl rfl rfl (Y7 rfl rfl) ?_
 refine Zb 2 rfl ?_
 refine Zq 37 rfl (fun hb => ?_) (fun hb => ?_)
 ·replace H := Zo H hb
  refine Zb 7 rfl ?_
  refine Zg ?_
  refine Zc hK4 ?_
  refine Zk ?_
  refine Zm rfl (RV.tmp rfl RV.nil) rfl ?_
  obtain rfl := QJ H
  replace hS := hS.cut 0
  exact ⟨rfl, hS⟩
 replace H := Zp H hb
 refine Za rfl rfl rfl (Ze Yq rfl) ?_
 refine Za rfl rfl rfl (Ze Xy rfl) ?_
 refine Za rfl rfl rfl (Ze Yl rfl) ?_
 refine Za rfl rfl rfl (Zh Z3 rfl (Zhe _) hS hs0 trivial Zg7) ?_
 refine Za rfl rfl rfl (Xk rfl rfl) ?_
 refine Zb 2 rfl ?_
 refine Zg ?_
 refine Zc hK4 ?_
 refine Zk ?_
 refine Zm rfl (RV.tmp rfl RV.nil) rfl ?_
 obtain rfl := QJ H
 replace hS := hS.cut 0
 exact ⟨rfl, hS⟩
theorem Zds (w0 : World) {r : St} (H : Za2 = some r) : Calls Tryz.prog 88 #[] w0 fun e w' => e = .returned (.agg #[.int .i64 r.index, .int .i64 r.term, .int .i64 r.sum, .int .i64 r.level, .bool r.final]) ∧ St0 All w0 w' [] := by
 unfold Za2 at H
 refine gw_enter0 Tryz.func88 rfl Tryz.ntmps88 rfl ?_
 have hS := St0.start All w0
 refine Zd (fun K hK1 => ?_)
 refine Zf ?_
 refine Yd rfl rfl zc_23 hS (fun b2 w hS hB => ?_)
 refine Zg ?_
 refine Zc hK1 ?_
 refine Zd (fun K hK4 => ?_)
 refine Zf ?_
 refine Za rfl rfl rfl (Xn (cells := [.int .i64 0, .int .i64 0, .int .i64 0, .int .i64 1, .bool false]) rfl (by kernel_rfl)) ?_
 refine Zl rfl rfl rfl CellsOf.agg hS ps0 Zeo (by kernel_rfl) rfl (fun w hS hB => ?_)
 refine Zg ?_
 refine Zc hK4 ?_
 refine Zk ?_
 refine Zm rfl (RV.cell rfl (Zt Y3 hS hs0 Jh) RV.nil) rfl ?_
 obtain rfl := QJ H
 replace hS := hS.cut 0
 exact ⟨rfl, hS⟩
theorem Zgt (w0 : World) {r : Tu} (H : Zdq = some r) : Calls Tryz.prog 48 #[] w0 fun e w' => ∃ (A0 : OA) (c0 : Nat), e = .returned (.agg #[.int .i64 r.snap.index, .int .i64 r.snap.term, .int .i64 r.snap.sum, .int .i64 r.snap.level, .bool r.snap.final, .slice A0 r.log.length c0, .int .i64 r.term, .int .i64 r.vote]) ∧ (r.log.length ≤ c0 ∧ c0 ≤ maxLen) ∧ St0 All w0 w' [.rd A0 (Yf V3 r.log)] := by
 unfold Zdq at H
 refine gw_enter0 Tryz.func48 rfl Tryz.ntmps48 rfl ?_
 have hS := St0.start All w0
 refine Zd (fun K hK1 => ?_)
 refine Zf ?_
 refine Yd rfl rfl Zeq hS (fun b2 w hS hB => ?_)
 refine Zg ?_
 refine Zc hK1 ?_
 refine Zd (fun K hK4 => ?_)
 refine Zf ?_
 obtain ⟨r5, hm6, H⟩ := bind_some H
 refine Zn rfl rfl rfl rfl (by kernel_rfl) rfl (Zds _ hm6) ?_
 rintro e w ⟨rfl, hN⟩; refine ⟨_, rfl, ?_⟩; obtain ⟨hB, hS⟩ := hS.jn hN
 refine Za rfl rfl rfl (Xn (cells := [.int .i64 r5.index, .int .i64 r5.term, .int .i64 r5.sum, .int .i64 r5.level, .bool r5.final, .slice none 0 0, .int .i64 0, .int .i64 0]) rfl (by kernel_rfl)) ?_
 refine Zl rfl rfl rfl CellsOf.agg hS ps0 Zag (by kernel_rfl) rfl (fun w hS hB => ?_)
 refine Zg ?_
 refine Zc hK4 ?_
 refine Zk ?_
 refine Zm rfl (RV.cell rfl (Zt Yp hS hs0 Xe) RV.nil) rfl ?_
 obtain rfl := QJ H
 have hS := hS.nilRd
 replace hS := hS.cut 1
 exact ⟨none, 0, rfl, ⟨Nat.le_refl _, Nat.zero_le _⟩, hS⟩
theorem Vs (x0 : Tu) (A0_ : OA) (c0_ : Nat) (w0 : World) (s0_ : SlI w0 V3 A0_ c0_ x0.log) {r : Tu} (H : X1 x0 = some r) : Calls Tryz.prog 84 #[.agg #[.int .i64 x0.snap.index, .int .i64 x0.snap.term, .int .i64 x0.snap.sum, .int .i64 x0.snap.level, .bool x0.snap.final, .slice A0_ x0.log.length c0_, .int .i64 x0.term, .int .i64 x0.vote]] w0 fun e w' => ∃ (A0 : OA) (c0 : Nat), e = .returned (.agg #[.int .i64 r.snap.index, .int .i64 r.snap.term, .int .i64 r.snap.sum, .int .i64 r.snap.level, .bool r.snap.final, .slice A0 r.log.length c0, .int .i64 r.term, .int .i64 r.vote]) ∧ (r.log.length ≤ c0 ∧ c0 ≤ maxLen) ∧ St0 All w0 w' [.row (.slice A0 r.log.length c0) 53 3 r.log.length (Yf V3 r.log)] := by
 unfold X1 at H
 refine Yh Tryz.func84 rfl Tryz.ntmps84 rfl ?_
 have hS := St0.start All w0
 refine Zd (fun K hK1 => ?_)
 refine Zf ?_
 refine Z7 rfl rfl rfl CellsOf.agg hS (fun b2 w hS hB => ?_)
 refine Yd rfl rfl Zeq hS (fun b4 w hS hB => ?_)
 refine Zg ?_
 refine Zc hK1 ?_
 refine Zd (fun K hK6 => ?_)
 refine Zf ?_
 refine Zbj Xq rfl rfl hS (fun b7 w hS hB => ?_)
 refine Za rfl rfl rfl (Ze X7 rfl) ?_
 refine Za rfl rfl rfl (Zh Vm rfl (Zhe _) hS Xi trivial Zcq) ?_
 obtain ⟨l9, hf10, H⟩ := bind_some H
 refine J1 (ys := x0.log) Vj oc_enE em_24 (by decide) rfl rfl rfl rfl hS (fun _ => ps0) (hS.rd0 s0_.rd) hf10 (fun A11 c12 w k13 hS => ?_)
 refine Za rfl rfl rfl (Ze X7 rfl) ?_
 refine Zl rfl rfl rfl CellsOf.slice hS ps2 st5_1 (by kernel_rfl) rfl (fun w hS hB => ?_)
 refine Zg ?_
 refine Zc hK6 ?_
 refine Zd (fun K hK14 => ?_)
 refine Zf ?_
 refine Za rfl rfl rfl (Zi Yp rfl (Zhe _) hS Xi trivial Xe) ?_
 refine Zl rfl rfl rfl CellsOf.agg hS ps1 Zag (by kernel_rfl) rfl (fun w hS hB => ?_)
 refine Zg ?_
 refine Zc hK14 ?_
 refine Zk ?_
 refine Zm rfl (RV.cell rfl (Zt Yp hS Y2 Xe) RV.nil) rfl ?_
 obtain rfl := QJ H
 have hS := hS.front 0 rfl
 replace hS := hS.cut 1
 exact ⟨A11, c12, rfl, k13, hS⟩
theorem Zaw (x0 : Tu) (A0_ : OA) (c0_ : Nat) (w0 : World) (s0_ : SlI w0 V3 A0_ c0_ x0.log) {r : Int} (H : Vq x0 = some r) : Calls Tryz.prog 43 #[.agg #[.int .i64 x0.snap.index, .int .i64 x0.snap.term, .int .i64 x0.snap.sum, .int .i64 x0.snap.level, .bool x0.snap.final, .slice A0_ x0.log.length c0_, .int .i64 x0.term, .int .i64 x0.vote]] w0 fun e w' => e = .returned (.int .i64 r) ∧ St0 All w0 w' [] := by
 unfold Vq at H
 refine Yh Tryz.func43 rfl Tryz.ntmps43 rfl ?_
 have hS := St0.start All w0
 refine Zd (fun K hK1 => ?_)
 refine Zf ?_
 refine Z7 rfl rfl rfl CellsOf.agg hS (fun b2 w hS hB => ?_)
 refine Zb 1 rfl ?_
 refine Zg ?_
 refine Zc hK1 ?_
 refine Zd (fun K hK4 => ?_)
 refine Zf ?_
 refine Za rfl rfl rfl (Ze Xy rfl) ?_
 refine Za rfl rfl rfl (Ze Yl rfl) ?_
 refine Za rfl rfl rfl (Zh Z3 rfl (Zhe _) hS hs0 trivial Yx) ?_
 refine Za rfl rfl rfl (Ze X7 rfl) ?_
 refine Za rfl rfl rfl (Zh Vm rfl (Zhe _) hS hs0 trivial Zcq) ?_
 refine Za rfl rfl rfl (Yz Xq rfl) ?_
 refine Za rfl rfl rfl (X8 rfl rfl) ?_
 refine Zb 1 rfl ?_
 refine Zg ?_
 refine Zc hK4 ?_
 refine Zk ?_
 refine Zm rfl (RV.tmp rfl RV.nil) rfl ?_
 obtain rfl := QJ H
 replace hS := hS.cut 0
 exact ⟨rfl, hS⟩
theorem c_ref20_New (x0 : Int) (x1 : Int) (x2 : Int) (x3 : Tu) (A0_ : OA) (c0_ : Nat) (w0 : World) (s0_ : SlI w0 V3 A0_ c0_ x3.log) {r : Co} (H : Zfe x0 x1 x2 x3 = some r) : Calls Tryz.prog 47 #[.int .i64 x0, .int .i64 x1, .int .i64 x2, .agg #[.int .i64 x3.snap.index, .int .i64 x3.snap.term, .int .i64 x3.snap.sum, .int .i64 x3.snap.level, .bool x3.snap.final, .slice A0_ x3.log.length c0_, .int .i64 x3.term, .int .i64 x3.vote]] w0 fun e w' => ∃ (A0 : OA) (c0 : Nat) (A1 : OA) (c1 : Nat) (A2 : OA) (c2 : Nat) (A3 : OA) (c3 : Nat) (A4 : OA) (c4 : Nat), e = .returned (.agg #[.int .i64 r.id, .int .i64 r.n, .int .u8 r.role, .int .i64 r.binary, .int .i64 r.tuple.snap.index, .int .i64 r.tuple.snap.term, .int .i64 r.tuple.snap.sum, .int .i64 r.tuple.snap.level, .bool r.tuple.snap.final, .slice A0 r.tuple.log.length c0, .int .i64 r.tuple.term, .int .i64 r.tuple.vote, .int .i64 r.commit, .int .i64 r.applied.index, .int .i64 r.applied.term, .int .i64 r.applied.sum, .int .i64 r.applied.level, .bool r.applied.final, .slice A1 r.votes.length c1, .slice A2 r.next.length c2, .slice A3 r.mtch.length c3, .slice A4 r.caps.length c4]) ∧ (r.tuple.log.length ≤ c0 ∧ c0 ≤ maxLen) ∧ (r.votes.length ≤ c1 ∧ c1 ≤ maxLen) ∧ (r.next.length ≤ c2 ∧ c2 ≤ maxLen) ∧ (r.mtch.length ≤ c3 ∧ c3 ≤ maxLen) ∧ (r.caps.length ≤ c4 ∧ c4 ≤ maxLen) ∧ St0 All w0 w' [.row (.slice A0 r.tuple.log.length c0) 53 3 r.tuple.log.length (Yf V3 r.tuple.log), .row (.slice A1 r.votes.length c1) 4 1 r.votes.length (Yf enO r.votes), .row (.slice A2 r.next.length c2) 3 1 r.next.length (Yf X2 r.next), .row (.slice A3 r.mtch.length c3) 3 1 r.mtch.length (Yf X2 r.mtch), .row (.slice A4 r.caps.length c4) 3 1 r.caps.length (Yf X2 r.caps)] := by
 unfold Zfe at H
 refine gw_enter4 Tryz.func47 rfl Tryz.ntmps47 rfl ?_
 have hS := St0.start All w0
 refine Zd (fun K hK1 => ?_)
 refine Zf ?_
 refine Z7 rfl rfl rfl CellsOf.agg hS (fun b2 w hS hB => ?_)
 refine Yd rfl rfl Zbx hS (fun b4 w hS hB => ?_)
 refine Zg ?_
 refine Zc hK1 ?_
 refine Zd (fun K hK6 => ?_)
 refine Zd (fun K hK7 => ?_)
 refine Zf ?_
 refine Zb 1 rfl ?_
 refine Za rfl rfl rfl (Xk rfl rfl) ?_
 refine Zb 1 rfl ?_
 refine Zq 13 rfl (fun hb => ?_) (fun hb => ?_)
 ·replace H := Zo H hb
  refine Zb 12 rfl ?_
  refine Zg ?_
  refine Zc hK7 ?_
  refine Zu rfl rfl ?_
  refine Zd (fun K hK8 => ?_)
  refine Zf ?_
  refine Za rfl rfl rfl (Xn (cells := [.int .i64 0, .int .i64 0, .int .u8 0, .int .i64 0, .int .i64 0, .int .i64 0, .int .i64 0, .int .i64 0, .bool false, .slice none 0 0, .int .i64 0, .int .i64 0, .int .i64 0, .int .i64 0, .int .i64 0, .int .i64 0, .int .i64 0, .bool false, .slice none 0 0, .slice none 0 0, .slice none 0 0, .slice none 0 0]) rfl (by kernel_rfl)) ?_
  refine Zl rfl rfl rfl CellsOf.agg hS ps0 Z8 (by kernel_rfl) rfl (fun w hS hB => ?_)
  refine Zg ?_
  refine Zc hK8 ?_
  refine Zk ?_
  refine Zj ?_
  refine Zm rfl (RV.cell rfl (Zt Zx hS hs0 Zv) RV.nil) rfl ?_
  obtain rfl := QJ H
  have hS := hS.nilRow 3 1
  have hS := hS.nilRow 3 1
  have hS := hS.nilRow 3 1
  have hS := hS.nilRow 4 1
  have hS := hS.nilRow 53 3
  replace hS := hS.cut 5
  exact ⟨none, 0, none, 0, none, 0, none, 0, none, 0, rfl, ⟨Nat.le_refl _, Nat.zero_le _⟩, ⟨Nat.le_refl _, Nat.zero_le _⟩, ⟨Nat.le_refl _, Nat.zero_le _⟩, ⟨Nat.le_refl _, Nat.zero_le _⟩, ⟨Nat.le_refl _, Nat.zero_le _⟩, hS⟩
 replace H := Zp H hb
 refine Zb 1 rfl ?_
 refine Za rfl rfl rfl (Y7 rfl rfl) ?_
 refine Zb 2 rfl ?_
 refine Zq 17 rfl (fun hb => ?_) (fun hb => ?_)
 ·replace H := Zo H hb
  refine Zb 8 rfl ?_
  refine Zg ?_
  refine Zc hK7 ?_
  refine Zu rfl rfl ?_
  refine Zd (fun K hK9 => ?_)
  refine Zf ?_
  refine Za rfl rfl rfl (Xn (cells := [.int .i64 0, .int .i64 0, .int .u8 0, .int .i64 0, .int .i64 0, .int .i64 0, .int .i64 0, .int .i64 0, .bool false, .slice none 0 0, .int .i64 0, .int .i64 0, .int .i64 0, .int .i64 0, .int .i64 0, .int .i64 0, .int .i64 0, .bool false, .slice none 0 0, .slice none 0 0, .slice none 0 0, .slice none 0 0]) rfl (by kernel_rfl)) ?_
  refine Zl rfl rfl rfl CellsOf.agg hS ps0 Z8 (by kernel_rfl) rfl (fun w hS hB => ?_)
  refine Zg ?_
  refine Zc hK9 ?_
  refine Zk ?_
  refine Zj ?_
  refine Zm rfl (RV.cell rfl (Zt Zx hS hs0 Zv) RV.nil) rfl ?_
  obtain rfl := QJ H
  have hS := hS.nilRow 3 1
  have hS := hS.nilRow 3 1
  have hS := hS.nilRow 3 1
  have hS := hS.nilRow 4 1
  have hS := hS.nilRow 53 3
  replace hS := hS.cut 5
  exact ⟨none, 0, none, 0, none, 0, none, 0, none, 0, rfl, ⟨Nat.le_refl _, Nat.zero_le _⟩, ⟨Nat.le_refl _, Nat.zero_le _⟩, ⟨Nat.le_refl _, Nat.zero_le _⟩, ⟨Nat.le_refl _, Nat.zero_le _⟩, ⟨Nat.le_refl _, Nat.zero_le _⟩, hS⟩
 replace H := Zp H hb
 refine Zb 1 rfl ?_
 refine Za rfl rfl rfl (Xk rfl rfl) ?_
 refine Zb 2 rfl ?_
 refine Zq 21 rfl (fun hb => ?_) (fun hb => ?_)
 ·replace H := Zo H hb
  refine Zb 4 rfl ?_
  refine Zg ?_
  refine Zc hK7 ?_
  refine Zu rfl rfl ?_
  refine Zd (fun K hK10 => ?_)
  refine Zf ?_
  refine Za rfl rfl rfl (Xn (cells := [.int .i64 0, .int .i64 0, .int .u8 0, .int .i64 0, .int .i64 0, .int .i64 0, .int .i64 0, .int .i64 0, .bool false, .slice none 0 0, .int .i64 0, .int .i64 0, .int .i64 0, .int .i64 0, .int .i64 0, .int .i64 0, .int .i64 0, .bool false, .slice none 0 0, .slice none 0 0, .slice none 0 0, .slice none 0 0]) rfl (by kernel_rfl)) ?_
  refine Zl rfl rfl rfl CellsOf.agg hS ps0 Z8 (by kernel_rfl) rfl (fun w hS hB => ?_)
  refine Zg ?_
  refine Zc hK10 ?_
  refine Zk ?_
  refine Zj ?_
  refine Zm rfl (RV.cell rfl (Zt Zx hS hs0 Zv) RV.nil) rfl ?_
  obtain rfl := QJ H
  have hS := hS.nilRow 3 1
  have hS := hS.nilRow 3 1
  have hS := hS.nilRow 3 1
  have hS := hS.nilRow 4 1
  have hS := hS.nilRow 53 3
  replace hS := hS.cut 5
  exact ⟨none, 0, none, 0, none, 0, none, 0, none, 0, rfl, ⟨Nat.le_refl _, Nat.zero_le _⟩, ⟨Nat.le_refl _, Nat.zero_le _⟩, ⟨Nat.le_refl _, Nat.zero_le _⟩, ⟨Nat.le_refl _, Nat.zero_le _⟩, ⟨Nat.le_refl _, Nat.zero_le _⟩, hS⟩
 replace H := Zp H hb
 refine Zb 2 rfl ?_
 refine Za rfl rfl rfl (Y7 rfl rfl) ?_
 refine Zb 1 rfl ?_
 refine Zg ?_
 refine Zc hK7 ?_
 refine Z1 rfl (fun hb => ?_) (fun hb => ?_)
 ·replace H := Zo H hb
  refine Zd (fun K hK11 => ?_)
  refine Zf ?_
  refine Za rfl rfl rfl (Xn (cells := [.int .i64 0, .int .i64 0, .int .u8 0, .int .i64 0, .int .i64 0, .int .i64 0, .int .i64 0, .int .i64 0, .bool false, .slice none 0 0, .int .i64 0, .int .i64 0, .int .i64 0, .int .i64 0, .int .i64 0, .int .i64 0, .int .i64 0, .bool false, .slice none 0 0, .slice none 0 0, .slice none 0 0, .slice none 0 0]) rfl (by kernel_rfl)) ?_
  refine Zl rfl rfl rfl CellsOf.agg hS ps0 Z8 (by kernel_rfl) rfl (fun w hS hB => ?_)
  refine Zg ?_
  refine Zc hK11 ?_
  refine Zk ?_
  refine Zj ?_
  refine Zm rfl (RV.cell rfl (Zt Zx hS hs0 Zv) RV.nil) rfl ?_
  obtain rfl := QJ H
  have hS := hS.nilRow 3 1
  have hS := hS.nilRow 3 1
  have hS := hS.nilRow 3 1
  have hS := hS.nilRow 4 1
  have hS := hS.nilRow 53 3
  replace hS := hS.cut 5
  exact ⟨none, 0, none, 0, none, 0, none, 0, none, 0, rfl, ⟨Nat.le_refl _, Nat.zero_le _⟩, ⟨Nat.le_refl _, Nat.zero_le _⟩, ⟨Nat.le_refl _, Nat.zero_le _⟩, ⟨Nat.le_refl _, Nat.zero_le _⟩, ⟨Nat.le_refl _, Nat.zero_le _⟩, hS⟩
 replace H := Zp H hb
 refine Zs ?_
 refine Zc hK6 ?_
 refine Zd (fun K hK12 => ?_)
 refine Yn 13 [12] (fun i b => (i = 12 → b = b4 ∨ b = b2)) ⟨by kernel_rfl, by kernel_rfl⟩ hS (fun w hS hB => ?_)
 refine wpRF_start [⟨11, 9, 30, [.int .i64 0, .int .i64 0, .int .u8 0, .int .i64 0, .int .i64 0, .int .i64 0, .int .i64 0, .int .i64 0, .bool false, .slice none 0 0, .int .i64 0, .int .i64 0, .int .i64 0, .int .i64 0, .int .i64 0, .int .i64 0, .int .i64 0, .bool false, .slice none 0 0, .slice none 0 0, .slice none 0 0, .slice none 0 0]⟩] (.cons rfl Zbx rfl rfl rfl .nil) hS (fun hok => ?_)
 dsimp only [List.cons_append, List.nil_append]
 refine Zbm [true, true, true, true, false, true, true, true, true, true] [] (fun _ => True) (by decide +kernel) (fun _ h => by cases h) PFC.h (fun X Y tk ht w hS => ?_)
 refine LtK.put rfl rfl rfl (Zy rfl) ?_
 refine LtK.put rfl rfl rfl (Zy rfl) ?_
 refine LtK.put rfl rfl rfl (Zy rfl) ?_
 refine LtK.put rfl rfl rfl (Zi Yp rfl (Zhg _ _) hS Y2 trivial Xe) ?_
 refine LtK.put rfl rfl rfl (Ze Xy rfl) ?_
 refine LtK.put rfl rfl rfl (Ze Yl rfl) ?_
 refine LtK.put rfl rfl rfl (Zh Z3 rfl (Zhg _ _) hS Y2 trivial Yx) ?_
 refine LtK.put rfl rfl rfl (Ze Xy rfl) ?_
 refine LtK.put rfl rfl rfl (Zi Y3 rfl (Zhg _ _) hS Y2 trivial Jh) ?_
 refine Zgw ht hS (by repeat (first | exact App.nil | apply App.cons)) (by repeat (first | exact App.nil | apply App.cons)) ?_
 dsimp only [List.cons_append, List.nil_append]
 refine Zet [false, false, false, false, true] 4 hok ⟨by decide, by decide +kernel, by decide, by decide⟩ rfl rfl (fun _ => rfl) (fun _ => rfl) rfl (hend_of (by decide +kernel)) (fun X Y tk ht w hS => ?_)
 try dsimp only [Zw]
 obtain ⟨r13, hm14, H⟩ := bind_some H
 refine Zn rfl rfl rfl rfl (by kernel_rfl) rfl (Vs x3 A0_ c0_ _ (Zhh s0_.k (hS.rd0 s0_.rd) (hS.blk0 s0_.blk)) hm14) ?_
 rintro e w ⟨A15, c16, rfl, k17, hN⟩; refine ⟨_, rfl, ?_⟩; obtain ⟨hB, hS⟩ := hS.jn hN
 refine Zg ?_
 refine Zev ht hS hB (by repeat (first | exact App.nil | apply App.cons)) (by repeat (first | exact App.nil | apply App.cons)) ?_
 dsimp only [List.cons_append, List.nil_append]
 refine Zbm [false, false, false, false, false, false, false, false, false, false, true] [] (fun _ => True) (by decide +kernel) (fun _ h => by cases h) PFC.h (fun X Y tk ht w hS => ?_)
 refine LtK.put rfl rfl rfl (Xn (cells := [.int .i64 x0, .int .i64 x1, .int .u8 0, .int .i64 x2, .int .i64 r13.snap.index, .int .i64 r13.snap.term, .int .i64 r13.snap.sum, .int .i64 r13.snap.level, .bool r13.snap.final, .slice A15 r13.log.length c16, .int .i64 r13.term, .int .i64 r13.vote, .int .i64 x3.snap.index, .int .i64 x3.snap.index, .int .i64 x3.snap.term, .int .i64 x3.snap.sum, .int .i64 x3.snap.level, .bool x3.snap.final, .slice none 0 0, .slice none 0 0, .slice none 0 0, .slice none 0 0]) rfl (by kernel_rfl)) ?_
 refine Zgw ht hS (by repeat (first | exact App.nil | apply App.cons)) (by repeat (first | exact App.nil | apply App.cons)) ?_
 dsimp only [List.cons_append, List.nil_append]
 refine wpRF_done hok (by decide) (by decide +kernel) (fun _ => rfl) (fun _ => rfl) rfl (fun tk htk w hS => ?_)
 obtain ⟨b19, tkb19, rfl, htk21⟩ := tk_cons htk
 obtain rfl := tk_nil htk21
 dsimp only [tkH, tkL, List.map] at hS ⊢
 refine Yk [false, false, false, false, false, false, false, false, false, false, false, false, true] 12 ⟨by decide, by kernel_rfl, by kernel_rfl⟩ rfl rfl ?_
 try dsimp only [Zw]
 refine Zl rfl rfl rfl CellsOf.agg hS ps3 Z8 (by kernel_rfl) rfl (fun w hS hB => ?_)
 refine Zg ?_
 refine Yb (hB.sub (fun b _ h => by have h0 : b = b4 ∨ b = b2 := (by simpa using h); rcases h0 with h0 | h0; (rw [h0]; exact hS.ne 1 3 rfl rfl rfl); (rw [h0]; exact hS.ne 2 3 rfl rfl rfl))) ?_
 refine Ye (by kernel_rfl) ?_
 refine Zc hK12 ?_
 refine Zd (fun K hK22 => ?_)
 refine Zd (fun K hK23 => ?_)
 refine Zf ?_
 refine Zb 1 rfl ?_
 refine Zg ?_
 refine Zc hK23 ?_
 refine Yc ?_
 replace hS := hS.nilRow 4 1
 replace hS := hS.nilRow 3 1
 replace hS := hS.nilRow 3 1
 replace hS := hS.nilRow 3 1
 refine V7 (X := Nat × Int × List Bool × OA × Nat × List Int × OA × Nat × List Int × OA × Nat × List Int × OA × Nat) (fun x => (0, .int .i64 x0) :: (1, .int .i64 x1) :: (2, .int .i64 x2) :: (7, .pointer (some ⟨b2, 0, none⟩)) :: (8, .pointer (some ⟨b4, 0, none⟩)) :: (9, .pointer (some ⟨b19, 0, none⟩)) :: (10, .int .i64 x.2.1) :: []) (fun x w => St0 All w0 w (.row (.slice x.2.2.2.2.2.2.2.2.2.2.2.2.1 x.2.2.2.2.2.2.2.2.2.2.2.1.length x.2.2.2.2.2.2.2.2.2.2.2.2.2) 3 1 x.2.2.2.2.2.2.2.2.2.2.2.1.length (Yf X2 x.2.2.2.2.2.2.2.2.2.2.2.1) :: .row (.slice x.2.2.2.2.2.2.2.2.2.1 x.2.2.2.2.2.2.2.2.1.length x.2.2.2.2.2.2.2.2.2.2.1) 3 1 x.2.2.2.2.2.2.2.2.1.length (Yf X2 x.2.2.2.2.2.2.2.2.1) :: .row (.slice x.2.2.2.2.2.2.1 x.2.2.2.2.2.1.length x.2.2.2.2.2.2.2.1) 3 1 x.2.2.2.2.2.1.length (Yf X2 x.2.2.2.2.2.1) :: .row (.slice x.2.2.2.1 x.2.2.1.length x.2.2.2.2.1) 4 1 x.2.2.1.length (Yf enO x.2.2.1) :: .row (.slice A15 r13.log.length c16) 53 3 r13.log.length (Yf V3 r13.log) :: .box b4 [.int .i64 0, .int .i64 0, .int .u8 0, .int .i64 0, .int .i64 0, .int .i64 0, .int .i64 0, .int .i64 0, .bool false, .slice none 0 0, .int .i64 0, .int .i64 0, .int .i64 0, .int .i64 0, .int .i64 0, .int .i64 0, .int .i64 0, .bool false, .slice none 0 0, .slice none 0 0, .slice none 0 0, .slice none 0 0] 30 :: .box b2 [.int .i64 x3.snap.index, .int .i64 x3.snap.term, .int .i64 x3.snap.sum, .int .i64 x3.snap.level, .bool x3.snap.final, .slice A0_ x3.log.length c0_, .int .i64 x3.term, .int .i64 x3.vote] 26 :: .box b19 [.int .i64 x0, .int .i64 x1, .int .u8 0, .int .i64 x2, .int .i64 r13.snap.index, .int .i64 r13.snap.term, .int .i64 r13.snap.sum, .int .i64 r13.snap.level, .bool r13.snap.final, .slice A15 r13.log.length c16, .int .i64 r13.term, .int .i64 r13.vote, .int .i64 x3.snap.index, .int .i64 x3.snap.index, .int .i64 x3.snap.term, .int .i64 x3.snap.sum, .int .i64 x3.snap.level, .bool x3.snap.final, .slice x.2.2.2.1 x.2.2.1.length x.2.2.2.2.1, .slice x.2.2.2.2.2.2.1 x.2.2.2.2.2.1.length x.2.2.2.2.2.2.2.1, .slice x.2.2.2.2.2.2.2.2.2.1 x.2.2.2.2.2.2.2.2.1.length x.2.2.2.2.2.2.2.2.2.2.1, .slice x.2.2.2.2.2.2.2.2.2.2.2.2.1 x.2.2.2.2.2.2.2.2.2.2.2.1.length x.2.2.2.2.2.2.2.2.2.2.2.2.2] 30 :: []) ∧ (x.2.2.1.length ≤ x.2.2.2.2.1 ∧ x.2.2.2.2.1 ≤ maxLen) ∧ (x.2.2.2.2.2.1.length ≤ x.2.2.2.2.2.2.2.1 ∧ x.2.2.2.2.2.2.2.1 ≤ maxLen) ∧ (x.2.2.2.2.2.2.2.2.1.length ≤ x.2.2.2.2.2.2.2.2.2.2.1 ∧ x.2.2.2.2.2.2.2.2.2.2.1 ≤ maxLen) ∧ (x.2.2.2.2.2.2.2.2.2.2.2.1.length ≤ x.2.2.2.2.2.2.2.2.2.2.2.2.2 ∧ x.2.2.2.2.2.2.2.2.2.2.2.2.2 ≤ maxLen) ∧ Zef x0 x1 x2 x3 r13 x.1 x.2.1 x.2.2.1 x.2.2.2.2.2.1 x.2.2.2.2.2.2.2.2.1 x.2.2.2.2.2.2.2.2.2.2.2.1 = some r) (fun x => x.1) (Xw, 1, [], none, 0, [], none, 0, [], none, 0, [], none, 0) (by repeat (first | exact Sub.nil | refine Sub.cons rfl ?_)) ⟨hS, ⟨Nat.le_refl _, Nat.zero_le _⟩, ⟨Nat.le_refl _, Nat.zero_le _⟩, ⟨Nat.le_refl _, Nat.zero_le _⟩, ⟨Nat.le_refl _, Nat.zero_le _⟩, H⟩ ?_
 rintro ⟨n, v24, v25, A26, c27, v30, A31, c32, v35, A36, c37, v40, A41, c42⟩ w ⟨hS, k28, k33, k38, k43, H⟩
 dsimp only at hS k28 k33 k38 k43 H ⊢
 obtain _ | n := n
 ·have H0 : none = some r := H
  cases H0
 rw [Zef] at H
 refine Zd (fun K hK45 => ?_)
 refine Zd (fun K hK46 => ?_)
 refine Zf ?_
 refine Zb 2 rfl ?_
 refine Za rfl rfl rfl (Zdj rfl rfl) ?_
 refine Zg ?_
 refine Zc hK46 ?_
 refine Z1 rfl (fun hb => ?_) (fun hb => ?_)
 rotate_left
 ·replace H := Zp H hb
  refine X0 ?_
  refine Z9 ?_
  refine Z9 ?_
  refine Yy ?_
  refine Zc hK22 ?_
  refine Zd (fun K hK81 => ?_)
  refine Zf ?_
  refine Za rfl rfl rfl (Ze V8 rfl) ?_
  refine Za rfl rfl rfl (Zh Vy rfl (Zhe _) hS hs7 trivial Zc7) ?_
  refine Zb 1 rfl ?_
  refine Za rfl rfl rfl (Zcn rfl rfl) ?_
  refine Zb 1 rfl ?_
  obtain ⟨e82, hi84, H⟩ := bind_some H
  obtain ⟨j83, hi84a, hi84b, hi84c⟩ := Y0 hi84
  refine Za rfl rfl rfl (Xh Vh rfl rfl hi84a hi84c (Rd.el (hS.row_rd hs0) Y6 hi84b)) ?_
  refine Zcd (a' := x2) (zs := (Vw v40 (IntKind.wrap .i64 (x0 - 1)) x2)) Y6 rfl rfl rfl CellsOf.int hS ps0 (Rd.el (hS.row_rd hs0) Y6 hi84b) hi84a hi84b rfl Zeb (by kernel_rfl) rfl (fun w hS => ?_)
  refine Zg ?_
  refine Zc hK81 ?_
  refine Zd (fun K hK85 => ?_)
  refine Zf ?_
  refine Za rfl rfl rfl (Zi Zx rfl (Zhe _) hS hs7 trivial Zv) ?_
  refine Zl rfl rfl rfl CellsOf.agg hS ps5 Z8 (by kernel_rfl) rfl (fun w hS hB => ?_)
  refine Zg ?_
  refine Zc hK85 ?_
  refine Zk ?_
  refine Zm rfl (RV.cell rfl (Zt Zx hS hs5 Zv) RV.nil) rfl ?_
  obtain rfl := QJ H
  have hS := hS.front 0 rfl
  have hS := hS.front 1 rfl
  have hS := hS.front 2 rfl
  have hS := hS.front 3 rfl
  have hS := hS.front 4 rfl
  replace hS := hS.cut 5
  exact ⟨A15, c16, A26, c27, A31, c32, A36, c37, A41, c42, by rw [(Y8 rfl)]; rfl, k17, k28, k33, k38, (Za7 k43), hS.eqv (by rw [(Y8 rfl)]; rfl)⟩
 replace H := Zo H hb
 refine Zs ?_
 refine Zc hK45 ?_
 refine Zd (fun K hK47 => ?_)
 refine Yc ?_
 refine Zd (fun K hK48 => ?_)
 refine Zf ?_
 refine Za rfl rfl rfl (Ze Vd rfl) ?_
 refine Za rfl rfl rfl (Zh Zc1 rfl (Zhe _) hS hs7 trivial Zba) ?_
 refine Ym (ps := [(0, .const (.bool false))]) [.bool false] Zbs zc_4 rfl rfl rfl rfl rfl (by kernel_rfl) hS (fun b49 w hS hB => ?_)
 obtain ⟨l51, hf52, H⟩ := bind_some H
 refine J1 (ys := ([false] : List Bool)) V5 oc_enO em_27 (by decide) rfl rfl rfl rfl hS (fun _ => ps4) (hS.box_rd hs0) hf52 (fun A53 c54 w k55 hS => ?_)
 refine Za rfl rfl rfl (Ze Vd rfl) ?_
 refine Zl rfl rfl rfl CellsOf.slice hS ps8 st18_1 (by kernel_rfl) rfl (fun w hS hB => ?_)
 refine Zg ?_
 refine Zc hK48 ?_
 refine Zd (fun K hK56 => ?_)
 refine Yn 9 [6, 8] (fun i b => (i = 6 → False) ∧ (i = 8 → b ≠ b19)) ⟨by kernel_rfl, by kernel_rfl⟩ hS (fun w hS hB => ?_)
 refine Y1 [true] [6] (fun _ => False) (by decide +kernel) (by intro j hj b hb; simp only [List.mem_cons, List.not_mem_nil, or_false] at hj; (try rcases hj with rfl | rfl | rfl | rfl | rfl) <;> first | (simp [hb]; done) | simp_all) PFC.h ?_
 refine LtK.put rfl rfl rfl (Ze Zce rfl) ?_
 refine LtK.nil ?_
 refine Zr [false, true] (by decide +kernel) PFC.h ?_
 refine LtK.put rfl rfl rfl (Zh Vy rfl (Zhf _) hS hs8 trivial Zfm) ?_
 refine LtK.nil ?_
 refine Z5 [false, false, true] 2 ⟨by decide, by kernel_rfl, by kernel_rfl⟩ rfl rfl ?_
 try dsimp only [Zw]
 refine Za rfl rfl rfl (Zi Yp rfl (Zhe _) hS hs7 trivial Xe) ?_
 refine Zg ?_
 refine Z6 (Below.refl _ _) ?_
 refine Z5 [false, false, false, true] 3 ⟨by decide, by kernel_rfl, by kernel_rfl⟩ rfl rfl ?_
 try dsimp only [Zw]
 obtain ⟨r57, hm58, H⟩ := bind_some H
 refine Zn rfl rfl rfl rfl (by kernel_rfl) rfl (Zaw x3 A0_ c0_ _ (Zhh s0_.k (hS.rd0 s0_.rd) (hS.blk0 s0_.blk)) hm58) ?_
 rintro e w ⟨rfl, hN⟩; refine ⟨_, rfl, ?_⟩; obtain ⟨hB, hS⟩ := hS.jn hN
 refine Zg ?_
 refine Z6 hB ?_
 refine Y1 [false, false, false, false, true] [6] (fun _ => False) (by decide +kernel) (by intro j hj b hb; simp only [List.mem_cons, List.not_mem_nil, or_false] at hj; (try rcases hj with rfl | rfl | rfl | rfl | rfl) <;> first | (simp [hb]; done) | simp_all) PFC.h ?_
 refine LtK.put rfl rfl rfl (X8 rfl rfl) ?_
 refine LtK.nil ?_
 refine Z5 [false, false, false, false, false, true] 5 ⟨by decide, by kernel_rfl, by kernel_rfl⟩ rfl rfl ?_
 try dsimp only [Zw]
 refine Ym (ps := [(0, .tmp 52)]) [.int .i64 (IntKind.wrap .i64 (r57 + 1))] Vh zc_3 rfl rfl rfl rfl rfl (by kernel_rfl) hS (fun b59 w hS hB => ?_)
 refine Zg ?_
 refine Z6 hB ?_
 refine Yk [false, false, false, false, false, false, true] 6 ⟨by decide, by kernel_rfl, by kernel_rfl⟩ rfl rfl ?_
 try dsimp only [Zw]
 obtain ⟨l61, hf62, H⟩ := bind_some H
 refine wpX_append2 (ys := ([(IntKind.wrap .i64 (r57 + 1))] : List Int)) Y6 oc_enI em_28 (by decide) rfl rfl rfl rfl hS (fun _ => ps4) (hS.box_rd hs0) hf62 (fun A63 c64 w k65 hS hB => ?_)
 refine Zg ?_
 refine Yb (hB.sub (fun _ _ h => by simp at h)) ?_
 refine Zr [false, false, false, false, false, false, false, true] (by decide +kernel) PFC.h ?_
 refine LtK.put rfl rfl rfl (Ze Zce rfl) ?_
 refine LtK.nil ?_
 refine Yk [false, false, false, false, false, false, false, false, true] 8 ⟨by decide, by kernel_rfl, by kernel_rfl⟩ rfl rfl ?_
 try dsimp only [Zw]
 refine Zl rfl rfl rfl CellsOf.slice hS ps9 st19_1 (by kernel_rfl) rfl (fun w hS hB => ?_)
 refine Zg ?_
 refine Yb (hB.sub (fun _ _ h => by simpa using h)) ?_
 refine Ye (by kernel_rfl) ?_
 refine Zc hK56 ?_
 refine Zd (fun K hK66 => ?_)
 refine Zf ?_
 refine Za rfl rfl rfl (Ze Zbf rfl) ?_
 refine Za rfl rfl rfl (Zh Vy rfl (Zhe _) hS hs9 trivial Zec) ?_
 refine Ym (ps := [(0, .const (.int .i64 0))]) [.int .i64 0] Vh zc_3 rfl rfl rfl rfl rfl (by kernel_rfl) hS (fun b67 w hS hB => ?_)
 obtain ⟨l69, hf70, H⟩ := bind_some H
 refine J1 (ys := ([0] : List Int)) Y6 oc_enI em_28 (by decide) rfl rfl rfl rfl hS (fun _ => ps4) (hS.box_rd hs0) hf70 (fun A71 c72 w k73 hS => ?_)
 refine Za rfl rfl rfl (Ze Zbf rfl) ?_
 refine Zl rfl rfl rfl CellsOf.slice hS ps10 st20_1 (by kernel_rfl) rfl (fun w hS hB => ?_)
 refine Zg ?_
 refine Zc hK66 ?_
 refine Zf ?_
 refine Za rfl rfl rfl (Ze V8 rfl) ?_
 refine Za rfl rfl rfl (Zh Vy rfl (Zhe _) hS hs10 trivial Zc7) ?_
 refine Ym (ps := [(0, .const (.int .i64 0))]) [.int .i64 0] Vh zc_3 rfl rfl rfl rfl rfl (by kernel_rfl) hS (fun b74 w hS hB => ?_)
 obtain ⟨l76, hf77, H⟩ := bind_some H
 refine J1 (ys := ([0] : List Int)) Y6 oc_enI em_28 (by decide) rfl rfl rfl rfl hS (fun _ => ps4) (hS.box_rd hs0) hf77 (fun A78 c79 w k80 hS => ?_)
 refine Za rfl rfl rfl (Ze V8 rfl) ?_
 refine Zl rfl rfl rfl CellsOf.slice hS ps11 st21_1 (by kernel_rfl) rfl (fun w hS hB => ?_)
 refine Zg ?_
 refine Z4 ?_
 refine Zc hK47 ?_
 refine Zf ?_
 refine Zb 1 rfl ?_
 refine Za rfl rfl rfl (X8 rfl rfl) ?_
 refine Zb 1 rfl ?_
 refine Zg ?_
 exact X9 (n, (IntKind.wrap .i64 (v24 + 1)), l51, A53, c54, l61, A63, c64, l69, A71, c72, l76, A78, c79) (by repeat (first | exact Sub.nil | refine Sub.cons rfl ?_)) ⟨(hS.sub (List.Sublist.cons _ (List.Sublist.cons _ (List.Sublist.cons _ (List.Sublist.cons _ (List.Sublist.cons_cons _ (List.Sublist.cons_cons _ (List.Sublist.cons_cons _ (List.Sublist.cons_cons _ (List.Sublist.cons_cons _ (List.Sublist.cons_cons _ (List.Sublist.cons_cons _ (List.Sublist.cons_cons _ List.Sublist.slnil))))))))))))), k55, k65, k73, k80, H⟩ (Nat.lt_succ_self _)
theorem Zak (x0 : List En) (A0_ : OA) (c0_ : Nat) (w0 : World) (s0_ : SlI w0 V3 A0_ c0_ x0) {r : List En} (H : Y9 x0 = some r) : Calls Tryz.prog 102 #[.slice A0_ x0.length c0_] w0 fun e w' => ∃ (A0 : OA) (c0 : Nat), e = .returned (.slice A0 r.length c0) ∧ (r.length ≤ c0 ∧ c0 ≤ maxLen) ∧ St0 All w0 w' [.row (.slice A0 r.length c0) 53 3 r.length (Yf V3 r)] := by
 unfold Y9 at H
 obtain ⟨rfl, hfew⟩ := Zf6 H
 cases A0_ with
 | none =>
  obtain rfl : r = [] := by
   cases r with
   | nil => rfl
   | cons e l => obtain ⟨b, o, h, _⟩ := s0_.rd 0 _ rfl; cases h
  refine Yh Tryz.func102 rfl Tryz.ntmps102 rfl ?_
  have hS := St0.start All w0
  refine Zd (fun K hK1 => ?_)
  refine Zf ?_
  refine Zb 1 rfl ?_
  refine Zg ?_
  refine Zc hK1 ?_
  refine Zd (fun K hK2 => ?_)
  refine Zd (fun K hK3 => ?_)
  refine Zf ?_
  refine Zb 1 rfl ?_
  refine Za rfl rfl rfl (Zd6 (e := 53) (by kernel_rfl) rfl rfl) ?_
  refine Zg ?_
  refine Zc hK3 ?_
  refine Zu rfl rfl ?_
  refine Zd (fun K hK4 => ?_)
  refine Zf ?_
  refine Zb 1 rfl ?_
  refine Zg ?_
  refine Zc hK4 ?_
  refine Zk ?_
  refine Zj ?_
  refine Zm rfl (RV.tmp rfl RV.nil) rfl ?_
  have hS := hS.nilRow 53 3
  replace hS := hS.cut 1
  exact ⟨none, 0, rfl, ⟨Nat.le_refl _, Nat.zero_le _⟩, hS⟩
 | some a0 =>
  refine Yh Tryz.func102 rfl Tryz.ntmps102 rfl ?_
  have hS := St0.start All w0
  have H : (Zfg ([] ++ r)).bind (fun z => some z) = some r := by rw [List.nil_append, H]; rfl
  refine Zd (fun K hK5 => ?_)
  refine Zf ?_
  refine Zb 1 rfl ?_
  refine Zg ?_
  refine Zc hK5 ?_
  refine Zd (fun K hK6 => ?_)
  refine Zd (fun K hK7 => ?_)
  refine Zf ?_
  refine Zb 1 rfl ?_
  refine Za rfl rfl rfl (Zd6 (e := 53) (by kernel_rfl) rfl rfl) ?_
  refine Zg ?_
  refine Zc hK7 ?_
  refine Yg rfl rfl ?_
  refine Zs ?_
  refine Zc hK6 ?_
  refine Zd (fun K hK8 => ?_)
  refine Zf ?_
  refine Zbj Xq rfl rfl hS (fun b9 w hS hB => ?_)
  refine Zb 1 rfl ?_
  obtain ⟨l11, hf12, H⟩ := bind_some H
  refine J1 (ys := r) Vj oc_enE em_24 (by decide) rfl rfl rfl rfl hS (fun _ => ps0) (hS.rd0 s0_.rd) hf12 (fun A13 c14 w k15 hS => ?_)
  refine Zb 1 rfl ?_
  refine Zg ?_
  refine Zc hK8 ?_
  refine Zk ?_
  refine Zm rfl (RV.tmp rfl RV.nil) rfl ?_
  obtain rfl := QJ H
  have hS := hS.front 0 rfl
  replace hS := hS.cut 1
  exact ⟨A13, c14, rfl, k15, hS⟩
theorem c_tuple_Own (x0 : Tu) (A0_ : OA) (c0_ : Nat) (w0 : World) (s0_ : SlI w0 V3 A0_ c0_ x0.log) {r : Tu} (H : Zgo x0 = some r) : Calls Tryz.prog 89 #[.agg #[.int .i64 x0.snap.index, .int .i64 x0.snap.term, .int .i64 x0.snap.sum, .int .i64 x0.snap.level, .bool x0.snap.final, .slice A0_ x0.log.length c0_, .int .i64 x0.term, .int .i64 x0.vote]] w0 fun e w' => ∃ (A0 : OA) (c0 : Nat), e = .returned (.agg #[.int .i64 r.snap.index, .int .i64 r.snap.term, .int .i64 r.snap.sum, .int .i64 r.snap.level, .bool r.snap.final, .slice A0 r.log.length c0, .int .i64 r.term, .int .i64 r.vote]) ∧ (r.log.length ≤ c0 ∧ c0 ≤ maxLen) ∧ St0 All w0 w' [.row (.slice A0 r.log.length c0) 53 3 r.log.length (Yf V3 r.log)] := by
 unfold Zgo at H
 refine Yh Tryz.func89 rfl Tryz.ntmps89 rfl ?_
 have hS := St0.start All w0
 refine Zd (fun K hK1 => ?_)
 refine Zf ?_
 refine Z7 rfl rfl rfl CellsOf.agg hS (fun b2 w hS hB => ?_)
 refine Yd rfl rfl Zeq hS (fun b4 w hS hB => ?_)
 refine Zg ?_
 refine Zc hK1 ?_
 refine Zd (fun K hK6 => ?_)
 refine Zf ?_
 refine Za rfl rfl rfl (Ze X7 rfl) ?_
 refine Za rfl rfl rfl (Zh Vm rfl (Zhe _) hS Y2 trivial Zcq) ?_
 obtain ⟨r7, hm8, H⟩ := bind_some H
 refine Zn rfl rfl rfl rfl (by kernel_rfl) rfl (Zak x0.log A0_ c0_ _ (Zhh s0_.k (hS.rd0 s0_.rd) (hS.blk0 s0_.blk)) hm8) ?_
 rintro e w ⟨A9, c10, rfl, k11, hN⟩; refine ⟨_, rfl, ?_⟩; obtain ⟨hB, hS⟩ := hS.jn hN
 refine Za rfl rfl rfl (Ze X7 rfl) ?_
 refine Zl rfl rfl rfl CellsOf.slice hS ps2 st5_1 (by kernel_rfl) rfl (fun w hS hB => ?_)
 refine Zg ?_
 refine Zc hK6 ?_
 refine Zd (fun K hK13 => ?_)
 refine Zf ?_
 refine Za rfl rfl rfl (Zi Yp rfl (Zhe _) hS Xi trivial Xe) ?_
 refine Zl rfl rfl rfl CellsOf.agg hS ps1 Zag (by kernel_rfl) rfl (fun w hS hB => ?_)
 refine Zg ?_
 refine Zc hK13 ?_
 refine Zk ?_
 refine Zm rfl (RV.cell rfl (Zt Yp hS Y2 Xe) RV.nil) rfl ?_
 obtain rfl := QJ H
 have hS := hS.front 0 rfl
 replace hS := hS.cut 1
 exact ⟨A9, c10, rfl, k11, hS⟩
theorem Zfy (x0 : List Bool) (A0_ : OA) (c0_ : Nat) (w0 : World) (s0_ : SlI w0 enO A0_ c0_ x0) {r : List Bool} (H : Ja x0 = some r) : Calls Tryz.prog 90 #[.slice A0_ x0.length c0_] w0 fun e w' => ∃ (A0 : OA) (c0 : Nat), e = .returned (.slice A0 r.length c0) ∧ (r.length ≤ c0 ∧ c0 ≤ maxLen) ∧ St0 All w0 w' [.row (.slice A0 r.length c0) 4 1 r.length (Yf enO r)] := by
 unfold Ja at H
 obtain ⟨rfl, hfew⟩ := Zf6 H
 cases A0_ with
 | none =>
  obtain rfl : r = [] := by
   cases r with
   | nil => rfl
   | cons e l => obtain ⟨b, o, h, _⟩ := s0_.rd 0 _ rfl; cases h
  refine Yh Tryz.func90 rfl Tryz.ntmps90 rfl ?_
  have hS := St0.start All w0
  refine Zd (fun K hK1 => ?_)
  refine Zf ?_
  refine Zb 1 rfl ?_
  refine Zg ?_
  refine Zc hK1 ?_
  refine Zd (fun K hK2 => ?_)
  refine Zd (fun K hK3 => ?_)
  refine Zf ?_
  refine Zb 1 rfl ?_
  refine Za rfl rfl rfl (Zd6 (e := 4) (by kernel_rfl) rfl rfl) ?_
  refine Zg ?_
  refine Zc hK3 ?_
  refine Zu rfl rfl ?_
  refine Zd (fun K hK4 => ?_)
  refine Zf ?_
  refine Zb 1 rfl ?_
  refine Zg ?_
  refine Zc hK4 ?_
  refine Zk ?_
  refine Zj ?_
  refine Zm rfl (RV.tmp rfl RV.nil) rfl ?_
  have hS := hS.nilRow 4 1
  replace hS := hS.cut 1
  exact ⟨none, 0, rfl, ⟨Nat.le_refl _, Nat.zero_le _⟩, hS⟩
 | some a0 =>
  refine Yh Tryz.func90 rfl Tryz.ntmps90 rfl ?_
  have hS := St0.start All w0
  have H : (Zfg ([] ++ r)).bind (fun z => some z) = some r := by rw [List.nil_append, H]; rfl
  refine Zd (fun K hK5 => ?_)
  refine Zf ?_
  refine Zb 1 rfl ?_
  refine Zg ?_
  refine Zc hK5 ?_
  refine Zd (fun K hK6 => ?_)
  refine Zd (fun K hK7 => ?_)
  refine Zf ?_
  refine Zb 1 rfl ?_
  refine Za rfl rfl rfl (Zd6 (e := 4) (by kernel_rfl) rfl rfl) ?_
  refine Zg ?_
  refine Zc hK7 ?_
  refine Yg rfl rfl ?_
  refine Zs ?_
  refine Zc hK6 ?_
  refine Zd (fun K hK8 => ?_)
  refine Zf ?_
  refine Zbj Zbs rfl rfl hS (fun b9 w hS hB => ?_)
  refine Zb 1 rfl ?_
  obtain ⟨l11, hf12, H⟩ := bind_some H
  refine J1 (ys := r) V5 oc_enO em_27 (by decide) rfl rfl rfl rfl hS (fun _ => ps0) (hS.rd0 s0_.rd) hf12 (fun A13 c14 w k15 hS => ?_)
  refine Zb 1 rfl ?_
  refine Zg ?_
  refine Zc hK8 ?_
  refine Zk ?_
  refine Zm rfl (RV.tmp rfl RV.nil) rfl ?_
  obtain rfl := QJ H
  have hS := hS.front 0 rfl
  replace hS := hS.cut 1
  exact ⟨A13, c14, rfl, k15, hS⟩
theorem Za9 (x0 : List Int) (A0_ : OA) (c0_ : Nat) (w0 : World) (s0_ : SlI w0 X2 A0_ c0_ x0) {r : List Int} (H : Vb x0 = some r) : Calls Tryz.prog 91 #[.slice A0_ x0.length c0_] w0 fun e w' => ∃ (A0 : OA) (c0 : Nat), e = .returned (.slice A0 r.length c0) ∧ (r.length ≤ c0 ∧ c0 ≤ maxLen) ∧ St0 All w0 w' [.row (.slice A0 r.length c0) 3 1 r.length (Yf X2 r)] := by
 unfold Vb at H
 obtain ⟨rfl, hfew⟩ := Zf6 H
 cases A0_ with
 | none =>
  obtain rfl : r = [] := by
   cases r with
   | nil => rfl
   | cons e l => obtain ⟨b, o, h, _⟩ := s0_.rd 0 _ rfl; cases h
  refine Yh Tryz.func91 rfl Tryz.ntmps91 rfl ?_
  have hS := St0.start All w0
  refine Zd (fun K hK1 => ?_)
  refine Zf ?_
  refine Zb 1 rfl ?_
  refine Zg ?_
  refine Zc hK1 ?_
  refine Zd (fun K hK2 => ?_)
  refine Zd (fun K hK3 => ?_)
  refine Zf ?_
  refine Zb 1 rfl ?_
  refine Za rfl rfl rfl (Zd6 (e := 3) (by kernel_rfl) rfl rfl) ?_
  refine Zg ?_
  refine Zc hK3 ?_
  refine Zu rfl rfl ?_
  refine Zd (fun K hK4 => ?_)
  refine Zf ?_
  refine Zb 1 rfl ?_
  refine Zg ?_
  refine Zc hK4 ?_
  refine Zk ?_
  refine Zj ?_
  refine Zm rfl (RV.tmp rfl RV.nil) rfl ?_
  have hS := hS.nilRow 3 1
  replace hS := hS.cut 1
  exact ⟨none, 0, rfl, ⟨Nat.le_refl _, Nat.zero_le _⟩, hS⟩
 | some a0 =>
  refine Yh Tryz.func91 rfl Tryz.ntmps91 rfl ?_
  have hS := St0.start All w0
  have H : (Zfg ([] ++ r)).bind (fun z => some z) = some r := by rw [List.nil_append, H]; rfl
  refine Zd (fun K hK5 => ?_)
  refine Zf ?_
  refine Zb 1 rfl ?_
  refine Zg ?_
  refine Zc hK5 ?_
  refine Zd (fun K hK6 => ?_)
  refine Zd (fun K hK7 => ?_)
  refine Zf ?_
  refine Zb 1 rfl ?_
  refine Za rfl rfl rfl (Zd6 (e := 3) (by kernel_rfl) rfl rfl) ?_
  refine Zg ?_
  refine Zc hK7 ?_
  refine Yg rfl rfl ?_
  refine Zs ?_
  refine Zc hK6 ?_
  refine Zd (fun K hK8 => ?_)
  refine Zf ?_
  refine Zbj Vh rfl rfl hS (fun b9 w hS hB => ?_)
  refine Zb 1 rfl ?_
  obtain ⟨l11, hf12, H⟩ := bind_some H
  refine J1 (ys := r) Y6 oc_enI em_28 (by decide) rfl rfl rfl rfl hS (fun _ => ps0) (hS.rd0 s0_.rd) hf12 (fun A13 c14 w k15 hS => ?_)
  refine Zb 1 rfl ?_
  refine Zg ?_
  refine Zc hK8 ?_
  refine Zk ?_
  refine Zm rfl (RV.tmp rfl RV.nil) rfl ?_
  obtain rfl := QJ H
  have hS := hS.front 0 rfl
  replace hS := hS.cut 1
  exact ⟨A13, c14, rfl, k15, hS⟩
theorem Zd8 (x0 : Co) (A0_ : OA) (c0_ : Nat) (A1_ : OA) (c1_ : Nat) (A2_ : OA) (c2_ : Nat) (A3_ : OA) (c3_ : Nat) (A4_ : OA) (c4_ : Nat) (w0 : World) (s0_ : SlI w0 V3 A0_ c0_ x0.tuple.log) (s1_ : SlI w0 enO A1_ c1_ x0.votes) (s2_ : SlI w0 X2 A2_ c2_ x0.next) (s3_ : SlI w0 X2 A3_ c3_ x0.mtch) (s4_ : SlI w0 X2 A4_ c4_ x0.caps) {r : Co} (H : Zbb x0 = some r) : Calls Tryz.prog 49 #[.agg #[.int .i64 x0.id, .int .i64 x0.n, .int .u8 x0.role, .int .i64 x0.binary, .int .i64 x0.tuple.snap.index, .int .i64 x0.tuple.snap.term, .int .i64 x0.tuple.snap.sum, .int .i64 x0.tuple.snap.level, .bool x0.tuple.snap.final, .slice A0_ x0.tuple.log.length c0_, .int .i64 x0.tuple.term, .int .i64 x0.tuple.vote, .int .i64 x0.commit, .int .i64 x0.applied.index, .int .i64 x0.applied.term, .int .i64 x0.applied.sum, .int .i64 x0.applied.level, .bool x0.applied.final, .slice A1_ x0.votes.length c1_, .slice A2_ x0.next.length c2_, .slice A3_ x0.mtch.length c3_, .slice A4_ x0.caps.length c4_]] w0 fun e w' => ∃ (A0 : OA) (c0 : Nat) (A1 : OA) (c1 : Nat) (A2 : OA) (c2 : Nat) (A3 : OA) (c3 : Nat) (A4 : OA) (c4 : Nat), e = .returned (.agg #[.int .i64 r.id, .int .i64 r.n, .int .u8 r.role, .int .i64 r.binary, .int .i64 r.tuple.snap.index, .int .i64 r.tuple.snap.term, .int .i64 r.tuple.snap.sum, .int .i64 r.tuple.snap.level, .bool r.tuple.snap.final, .slice A0 r.tuple.log.length c0, .int .i64 r.tuple.term, .int .i64 r.tuple.vote, .int .i64 r.commit, .int .i64 r.applied.index, .int .i64 r.applied.term, .int .i64 r.applied.sum, .int .i64 r.applied.level, .bool r.applied.final, .slice A1 r.votes.length c1, .slice A2 r.next.length c2, .slice A3 r.mtch.length c3, .slice A4 r.caps.length c4]) ∧ (r.tuple.log.length ≤ c0 ∧ c0 ≤ maxLen) ∧ (r.votes.length ≤ c1 ∧ c1 ≤ maxLen) ∧ (r.next.length ≤ c2 ∧ c2 ≤ maxLen) ∧ (r.mtch.length ≤ c3 ∧ c3 ≤ maxLen) ∧ (r.caps.length ≤ c4 ∧ c4 ≤ maxLen) ∧ St0 All w0 w' [.row (.slice A0 r.tuple.log.length c0) 53 3 r.tuple.log.length (Yf V3 r.tuple.log), .row (.slice A1 r.votes.length c1) 4 1 r.votes.length (Yf enO r.votes), .row (.slice A2 r.next.length c2) 3 1 r.next.length (Yf X2 r.next), .row (.slice A3 r.mtch.length c3) 3 1 r.mtch.length (Yf X2 r.mtch), .row (.slice A4 r.caps.length c4) 3 1 r.caps.length (Yf X2 r.caps)] := by
 unfold Zbb at H
 refine Yh Tryz.func49 rfl Tryz.ntmps49 rfl ?_
 have hS := St0.start All w0
 refine Zd (fun K hK1 => ?_)
 refine Zf ?_
 refine Z7 rfl rfl rfl CellsOf.agg hS (fun b2 w hS hB => ?_)
 refine Yd rfl rfl Zbx hS (fun b4 w hS hB => ?_)
 refine Zg ?_
 refine Zc hK1 ?_
 refine Zd (fun K hK6 => ?_)
 refine Zf ?_
 refine Za rfl rfl rfl (Ze Yq rfl) ?_
 refine Za rfl rfl rfl (Zi Yp rfl (Zhe _) hS Y2 trivial Zbt) ?_
 obtain ⟨r7, hm8, H⟩ := bind_some H
 refine Zn rfl rfl rfl rfl (by kernel_rfl) rfl (c_tuple_Own x0.tuple A0_ c0_ _ (Zhh s0_.k (hS.rd0 s0_.rd) (hS.blk0 s0_.blk)) hm8) ?_
 rintro e w ⟨A9, c10, rfl, k11, hN⟩; refine ⟨_, rfl, ?_⟩; obtain ⟨hB, hS⟩ := hS.jn hN
 refine Za rfl rfl rfl (Ze Yq rfl) ?_
 refine Zl rfl rfl rfl CellsOf.agg hS ps2 st4_8 (by kernel_rfl) rfl (fun w hS hB => ?_)
 refine Zg ?_
 refine Zc hK6 ?_
 refine Zd (fun K hK13 => ?_)
 refine Yn 20 [13, 15, 17, 19] (fun i b => (i = 13 → b ≠ b2) ∧ (i = 15 → b ≠ b2) ∧ (i = 17 → b ≠ b2) ∧ (i = 19 → b ≠ b2)) ⟨by kernel_rfl, by kernel_rfl⟩ hS (fun w hS hB => ?_)
 refine Zr [true, true, false, true, true, false, true, true, false, true, true] (by decide +kernel) PFC.h ?_
 refine LtK.put rfl rfl rfl (Ze Vd rfl) ?_
 refine LtK.put rfl rfl rfl (Zh Zc1 rfl (Zhf _) hS Xi trivial Zba) ?_
 refine LtK.put rfl rfl rfl (Ze Zce rfl) ?_
 refine LtK.put rfl rfl rfl (Zh Vy rfl (Zhf _) hS Xi trivial Zfm) ?_
 refine LtK.put rfl rfl rfl (Ze Zbf rfl) ?_
 refine LtK.put rfl rfl rfl (Zh Vy rfl (Zhf _) hS Xi trivial Zec) ?_
 refine LtK.put rfl rfl rfl (Ze V8 rfl) ?_
 refine LtK.put rfl rfl rfl (Zh Vy rfl (Zhf _) hS Xi trivial Zc7) ?_
 refine LtK.nil ?_
 refine Z5 [false, false, true] 2 ⟨by decide, by kernel_rfl, by kernel_rfl⟩ rfl rfl ?_
 try dsimp only [Zw]
 obtain ⟨r14, hm15, H⟩ := bind_some H
 refine Zn rfl rfl rfl rfl (by kernel_rfl) rfl (Zfy x0.votes A1_ c1_ _ (Zhh s1_.k (hS.rd0 s1_.rd) (hS.blk0 s1_.blk)) hm15) ?_
 rintro e w ⟨A16, c17, rfl, k18, hN⟩; refine ⟨_, rfl, ?_⟩; obtain ⟨hB, hS⟩ := hS.jn hN
 refine Zg ?_
 refine Z6 hB ?_
 refine Zr [false, false, false, false, false, false, false, false, false, false, false, false, true] (by decide +kernel) PFC.h ?_
 refine LtK.put rfl rfl rfl (Ze Vd rfl) ?_
 refine LtK.nil ?_
 refine Z5 [false, false, false, false, false, true] 5 ⟨by decide, by kernel_rfl, by kernel_rfl⟩ rfl rfl ?_
 try dsimp only [Zw]
 obtain ⟨r20, hm21, H⟩ := bind_some H
 refine Zn rfl rfl rfl rfl (by kernel_rfl) rfl (Za9 x0.next A2_ c2_ _ (Zhh s2_.k (hS.rd0 s2_.rd) (hS.blk0 s2_.blk)) hm21) ?_
 rintro e w ⟨A22, c23, rfl, k24, hN⟩; refine ⟨_, rfl, ?_⟩; obtain ⟨hB, hS⟩ := hS.jn hN
 refine Zg ?_
 refine Z6 hB ?_
 refine Z5 [false, false, false, false, false, false, false, false, true] 8 ⟨by decide, by kernel_rfl, by kernel_rfl⟩ rfl rfl ?_
 try dsimp only [Zw]
 obtain ⟨r26, hm27, H⟩ := bind_some H
 refine Zn rfl rfl rfl rfl (by kernel_rfl) rfl (Za9 x0.mtch A3_ c3_ _ (Zhh s3_.k (hS.rd0 s3_.rd) (hS.blk0 s3_.blk)) hm27) ?_
 rintro e w ⟨A28, c29, rfl, k30, hN⟩; refine ⟨_, rfl, ?_⟩; obtain ⟨hB, hS⟩ := hS.jn hN
 refine Zg ?_
 refine Z6 hB ?_
 refine Z5 [false, false, false, false, false, false, false, false, false, false, false, true] 11 ⟨by decide, by kernel_rfl, by kernel_rfl⟩ rfl rfl ?_
 try dsimp only [Zw]
 obtain ⟨r32, hm33, H⟩ := bind_some H
 refine Zn rfl rfl rfl rfl (by kernel_rfl) rfl (Za9 x0.caps A4_ c4_ _ (Zhh s4_.k (hS.rd0 s4_.rd) (hS.blk0 s4_.blk)) hm33) ?_
 rintro e w ⟨A34, c35, rfl, k36, hN⟩; refine ⟨_, rfl, ?_⟩; obtain ⟨hB, hS⟩ := hS.jn hN
 refine Zg ?_
 refine Z6 hB ?_
 refine Yk [false, false, false, false, false, false, false, false, false, false, false, false, false, true] 13 ⟨by decide, by kernel_rfl, by kernel_rfl⟩ rfl rfl ?_
 try dsimp only [Zw]
 refine Zl rfl rfl rfl CellsOf.slice hS ps6 st18_1 (by kernel_rfl) rfl (fun w hS hB => ?_)
 refine Zg ?_
 refine Yb (hB.sub (fun _ _ h => by simpa using h)) ?_
 refine Zr [false, false, false, false, false, false, false, false, false, false, false, false, false, false, true] (by decide +kernel) PFC.h ?_
 refine LtK.put rfl rfl rfl (Ze Zce rfl) ?_
 refine LtK.nil ?_
 refine Yk [false, false, false, false, false, false, false, false, false, false, false, false, false, false, false, true] 15 ⟨by decide, by kernel_rfl, by kernel_rfl⟩ rfl rfl ?_
 try dsimp only [Zw]
 refine Zl rfl rfl rfl CellsOf.slice hS ps6 st19_1 (by kernel_rfl) rfl (fun w hS hB => ?_)
 refine Zg ?_
 refine Yb (hB.sub (fun _ _ h => by simpa using h)) ?_
 refine Zr [false, false, false, false, false, false, false, false, false, false, false, false, false, false, false, false, true] (by decide +kernel) PFC.h ?_
 refine LtK.put rfl rfl rfl (Ze Zbf rfl) ?_
 refine LtK.nil ?_
 refine Yk [false, false, false, false, false, false, false, false, false, false, false, false, false, false, false, false, false, true] 17 ⟨by decide, by kernel_rfl, by kernel_rfl⟩ rfl rfl ?_
 try dsimp only [Zw]
 refine Zl rfl rfl rfl CellsOf.slice hS ps6 st20_1 (by kernel_rfl) rfl (fun w hS hB => ?_)
 refine Zg ?_
 refine Yb (hB.sub (fun _ _ h => by simpa using h)) ?_
 refine Zr [false, false, false, false, false, false, false, false, false, false, false, false, false, false, false, false, false, false, true] (by decide +kernel) PFC.h ?_
 refine LtK.put rfl rfl rfl (Ze V8 rfl) ?_
 refine LtK.nil ?_
 refine Yk [false, false, false, false, false, false, false, false, false, false, false, false, false, false, false, false, false, false, false, true] 19 ⟨by decide, by kernel_rfl, by kernel_rfl⟩ rfl rfl ?_
 try dsimp only [Zw]
 refine Zl rfl rfl rfl CellsOf.slice hS ps6 st21_1 (by kernel_rfl) rfl (fun w hS hB => ?_)
 refine Zg ?_
 refine Yb (hB.sub (fun _ _ h => by simpa using h)) ?_
 refine Ye (by kernel_rfl) ?_
 refine Zc hK13 ?_
 refine Zd (fun K hK38 => ?_)
 refine Zf ?_
 refine Za rfl rfl rfl (Zi Zx rfl (Zhe _) hS Jy trivial Zv) ?_
 refine Zl rfl rfl rfl CellsOf.agg hS ps5 Z8 (by kernel_rfl) rfl (fun w hS hB => ?_)
 refine Zg ?_
 refine Zc hK38 ?_
 refine Zk ?_
 refine Zm rfl (RV.cell rfl (Zt Zx hS hs5 Zv) RV.nil) rfl ?_
 obtain rfl := QJ H
 have hS := hS.front 0 rfl
 have hS := hS.front 1 rfl
 have hS := hS.front 2 rfl
 have hS := hS.front 3 rfl
 have hS := hS.front 4 rfl
 replace hS := hS.cut 5
 exact ⟨A9, c10, A16, c17, A22, c23, A28, c29, A34, c35, rfl, k11, k18, k24, k30, k36, hS⟩
theorem Zfz (x0 : Tu) (A0_ : OA) (c0_ : Nat) (w0 : World) (s0_ : SlI w0 V3 A0_ c0_ x0.log) {r : Int} (H : Zbh x0 = some r) : Calls Tryz.prog 67 #[.agg #[.int .i64 x0.snap.index, .int .i64 x0.snap.term, .int .i64 x0.snap.sum, .int .i64 x0.snap.level, .bool x0.snap.final, .slice A0_ x0.log.length c0_, .int .i64 x0.term, .int .i64 x0.vote]] w0 fun e w' => e = .returned (.int .i64 r) ∧ St0 All w0 w' [] := by
 unfold Zbh at H
 refine Yh Tryz.func67 rfl Tryz.ntmps67 rfl ?_
 have hS := St0.start All w0
 refine Zd (fun K hK1 => ?_)
 refine Zf ?_
 refine Z7 rfl rfl rfl CellsOf.agg hS (fun b2 w hS hB => ?_)
 refine Zb 1 rfl ?_
 refine Zg ?_
 refine Zc hK1 ?_
 refine Zd (fun K hK4 => ?_)
 refine Zf ?_
 refine Za rfl rfl rfl (Ze Xy rfl) ?_
 refine Za rfl rfl rfl (Ze Yl rfl) ?_
 refine Za rfl rfl rfl (Zh Z3 rfl (Zhe _) hS hs0 trivial Yx) ?_
 refine Za rfl rfl rfl (Ze X7 rfl) ?_
 refine Za rfl rfl rfl (Zh Vm rfl (Zhe _) hS hs0 trivial Zcq) ?_
 refine Za rfl rfl rfl (Yz Xq rfl) ?_
 refine Za rfl rfl rfl (X8 rfl rfl) ?_
 refine Zb 1 rfl ?_
 refine Zg ?_
 refine Zc hK4 ?_
 refine Zk ?_
 refine Zm rfl (RV.tmp rfl RV.nil) rfl ?_
 obtain rfl := QJ H
 replace hS := hS.cut 0
 exact ⟨rfl, hS⟩
theorem Zau (x0 : Int) (x1 : Int) (x2 : Int) (w0 : World) {r : Bool} (H : Vr x0 x1 x2 = some r) : Calls Tryz.prog 93 #[.int .i64 x0, .int .i64 x1, .int .i64 x2] w0 fun e w' => e = .returned (.bool r) ∧ St0 All w0 w' [] := by
 unfold Vr at H
 refine Zaj Tryz.func93 rfl Tryz.ntmps93 rfl ?_
 have hS := St0.start All w0
 refine Zd (fun K hK1 => ?_)
 refine Zf ?_
 refine Zb 1 rfl ?_
 refine Zg ?_
 refine Zc hK1 ?_
 refine Zd (fun K hK2 => ?_)
 refine Zf ?_
 refine Zb 2 rfl ?_
 refine Za rfl rfl rfl (Zcz rfl rfl) ?_
 refine Zb 1 rfl ?_
 refine Zq 10 rfl (fun hb => ?_) (fun hb => ?_)
 rotate_left
 ·replace H := Zp H hb
  refine Zb 5 rfl ?_
  refine Zg ?_
  refine Zc hK2 ?_
  refine Zk ?_
  refine Zm rfl (RV.tmp rfl RV.nil) rfl ?_
  obtain rfl := QJ H
  replace hS := hS.cut 0
  exact ⟨rfl, hS⟩
 replace H := Zo H hb
 refine Zb 2 rfl ?_
 refine Za rfl rfl rfl (Zdj rfl rfl) ?_
 refine Zb 2 rfl ?_
 refine Zg ?_
 refine Zc hK2 ?_
 refine Zk ?_
 refine Zm rfl (RV.tmp rfl RV.nil) rfl ?_
 obtain rfl := QJ H
 replace hS := hS.cut 0
 exact ⟨rfl, hS⟩
theorem c_entry_First (w0 : World) {r : St} (H : Ze3 = some r) : Calls Tryz.prog 142 #[] w0 fun e w' => e = .returned (.agg #[.int .i64 r.index, .int .i64 r.term, .int .i64 r.sum, .int .i64 r.level, .bool r.final]) ∧ St0 All w0 w' [] := by
 unfold Ze3 at H
 refine gw_enter0 Tryz.func142 rfl Tryz.ntmps142 rfl ?_
 have hS := St0.start All w0
 refine Zd (fun K hK1 => ?_)
 refine Zf ?_
 refine Yd rfl rfl zc_23 hS (fun b2 w hS hB => ?_)
 refine Zg ?_
 refine Zc hK1 ?_
 refine Zd (fun K hK4 => ?_)
 refine Zf ?_
 refine Za rfl rfl rfl (Xn (cells := [.int .i64 0, .int .i64 0, .int .i64 0, .int .i64 1, .bool false]) rfl (by kernel_rfl)) ?_
 refine Zl rfl rfl rfl CellsOf.agg hS ps0 Zeo (by kernel_rfl) rfl (fun w hS hB => ?_)
 refine Zg ?_
 refine Zc hK4 ?_
 refine Zk ?_
 refine Zm rfl (RV.cell rfl (Zt Y3 hS hs0 Jh) RV.nil) rfl ?_
 obtain rfl := QJ H
 replace hS := hS.cut 0
 exact ⟨rfl, hS⟩
theorem Jd (x0 : Int) (w0 : World) {r : Bool} (H : X4 x0 = some r) : Calls Tryz.prog 143 #[.int .i64 x0] w0 fun e w' => e = .returned (.bool r) ∧ St0 All w0 w' [] := by
 unfold X4 at H
 refine Yh Tryz.func143 rfl Tryz.ntmps143 rfl ?_
 have hS := St0.start All w0
 refine Zd (fun K hK1 => ?_)
 refine Zf ?_
 refine Zb 1 rfl ?_
 refine Zg ?_
 refine Zc hK1 ?_
 refine Zd (fun K hK2 => ?_)
 refine Zf ?_
 refine Zb 1 rfl ?_
 refine Za rfl rfl rfl (Zcz rfl rfl) ?_
 refine Zb 1 rfl ?_
 refine Zq 5 rfl (fun hb => ?_) (fun hb => ?_)
 rotate_left
 ·replace H := Zp H hb
  refine Zb 4 rfl ?_
  refine Zg ?_
  refine Zc hK2 ?_
  refine Zk ?_
  refine Zm rfl (RV.tmp rfl RV.nil) rfl ?_
  obtain rfl := QJ H
  replace hS := hS.cut 0
  exact ⟨rfl, hS⟩
 replace H := Zo H hb
 refine Zb 1 rfl ?_
 refine Za rfl rfl rfl (Zdj rfl rfl) ?_
 refine Zb 2 rfl ?_
 refine Zg ?_
 refine Zc hK2 ?_
 refine Zk ?_
 refine Zm rfl (RV.tmp rfl RV.nil) rfl ?_
 obtain rfl := QJ H
 replace hS := hS.cut 0
 exact ⟨rfl, hS⟩
theorem Zdc (x0 : St) (w0 : World) {r : Bool} (H : Zaa x0 = some r) : Calls Tryz.prog 132 #[.agg #[.int .i64 x0.index, .int .i64 x0.term, .int .i64 x0.sum, .int .i64 x0.level, .bool x0.final]] w0 fun e w' => e = .returned (.bool r) ∧ St0 All w0 w' [] := by
 unfold Zaa at H
 refine Yh Tryz.func132 rfl Tryz.ntmps132 rfl ?_
 have hS := St0.start All w0
 refine Zd (fun K hK1 => ?_)
 refine Zf ?_
 refine Z7 rfl rfl rfl CellsOf.agg hS (fun b2 w hS hB => ?_)
 refine Zb 1 rfl ?_
 refine Zg ?_
 refine Zc hK1 ?_
 refine Zd (fun K hK4 => ?_)
 refine Yc ?_
 refine Zd (fun K hK5 => ?_)
 refine Zf ?_
 refine Za rfl rfl rfl (Ze Yl rfl) ?_
 refine Za rfl rfl rfl (Zh Z3 rfl (Zhe _) hS hs0 trivial Yx) ?_
 refine Za rfl rfl rfl (Yr rfl rfl) ?_
 refine Zb 1 rfl ?_
 refine Zg ?_
 refine Zc hK5 ?_
 refine Z1 rfl (fun hb => ?_) (fun hb => ?_)
 ·replace H := Zo H hb
  refine Zd (fun K hK6 => ?_)
  refine Yn 4 [] (fun _ _ => True) ⟨by kernel_rfl, by kernel_rfl⟩ hS (fun w hS hB => ?_)
  refine Zr [true] (by decide +kernel) PFC.h ?_
  refine LtK.put rfl rfl rfl (Zi Y3 rfl (Zhf _) hS hs0 trivial Jh) ?_
  refine LtK.nil ?_
  refine Z5 [false, true] 1 ⟨by decide, by kernel_rfl, by kernel_rfl⟩ rfl rfl ?_
  try dsimp only [Zw]
  obtain ⟨r7, hm8, H⟩ := bind_some H
  refine Zn rfl rfl rfl rfl (by kernel_rfl) rfl (c_entry_First _ hm8) ?_
  rintro e w ⟨rfl, hN⟩; refine ⟨_, rfl, ?_⟩; obtain ⟨hB, hS⟩ := hS.jn hN
  refine Zg ?_
  refine Z6 hB ?_
  refine Zr [false, false, true, true] (by decide +kernel) PFC.h ?_
  refine LtK.put rfl rfl rfl (Zal (by kernel_rfl) rfl rfl (Za8 _ _ _ _ _ _ _ _ _ _)) ?_
  refine LtK.put rfl rfl rfl (Z2 rfl) ?_
  refine LtK.nil ?_
  refine Ye (by kernel_rfl) ?_
  refine Zc hK6 ?_
  refine Zk ?_
  refine Zz ?_
  refine Zj ?_
  refine Zm rfl (RV.tmp rfl RV.nil) rfl ?_
  obtain rfl := QJ H
  replace hS := hS.cut 0
  exact ⟨rfl, hS⟩
 replace H := Zp H hb
 refine Zd (fun K hK9 => ?_)
 refine Zf ?_
 refine Za rfl rfl rfl (Ze fo_23_4 rfl) ?_
 refine Za rfl rfl rfl (Zh sc_4 rfl (Zhe _) hS hs0 trivial Zg7) ?_
 refine Zb 1 rfl ?_
 refine Zg ?_
 refine Zc hK9 ?_
 refine Z1 rfl (fun hb => ?_) (fun hb => ?_)
 ·replace H := Zo H hb
  refine Zd (fun K hK10 => ?_)
  refine Zf ?_
  refine Za rfl rfl rfl (Ze Ze1 rfl) ?_
  refine Za rfl rfl rfl (Zh Z3 rfl (Zhe _) hS hs0 trivial Jb) ?_
  refine Za rfl rfl rfl (Yr rfl rfl) ?_
  refine Zb 1 rfl ?_
  refine Zq 16 rfl (fun hb => ?_) (fun hb => ?_)
  rotate_left
  ·replace H := Zp H hb
   refine Zb 20 rfl ?_
   refine Zg ?_
   refine Zc hK10 ?_
   refine Zk ?_
   refine Zz ?_
   refine Zj ?_
   refine Zm rfl (RV.tmp rfl RV.nil) rfl ?_
   obtain rfl := QJ H
   replace hS := hS.cut 0
   exact ⟨rfl, hS⟩
  replace H := Zo H hb
  refine Za rfl rfl rfl (Ze Yl rfl) ?_
  refine Za rfl rfl rfl (Zh Z3 rfl (Zhe _) hS hs0 trivial Yx) ?_
  obtain ⟨r11, hm12, H⟩ := bind_some H
  refine Zn rfl rfl rfl rfl (by kernel_rfl) rfl (Jd x0.index _ hm12) ?_
  rintro e w ⟨rfl, hN⟩; refine ⟨_, rfl, ?_⟩; obtain ⟨hB, hS⟩ := hS.jn hN
  refine Zb 2 rfl ?_
  refine Zq 21 rfl (fun hb => ?_) (fun hb => ?_)
  rotate_left
  ·replace H := Zp H hb
   refine Zb 15 rfl ?_
   refine Zg ?_
   refine Zc hK10 ?_
   refine Zk ?_
   refine Zz ?_
   refine Zj ?_
   refine Zm rfl (RV.tmp rfl RV.nil) rfl ?_
   obtain rfl := QJ H
   replace hS := hS.cut 0
   exact ⟨rfl, hS⟩
  replace H := Zo H hb
  refine Za rfl rfl rfl (Ze Zdi rfl) ?_
  refine Za rfl rfl rfl (Zh Z3 rfl (Zhe _) hS hs0 trivial Xu) ?_
  refine Za rfl rfl rfl (Y7 rfl rfl) ?_
  refine Zb 2 rfl ?_
  refine Zq 26 rfl (fun hb => ?_) (fun hb => ?_)
  rotate_left
  ·replace H := Zp H hb
   refine Zb 10 rfl ?_
   refine Zg ?_
   refine Zc hK10 ?_
   refine Zk ?_
   refine Zz ?_
   refine Zj ?_
   refine Zm rfl (RV.tmp rfl RV.nil) rfl ?_
   obtain rfl := QJ H
   replace hS := hS.cut 0
   exact ⟨rfl, hS⟩
  replace H := Zo H hb
  refine Za rfl rfl rfl (Ze Zdi rfl) ?_
  refine Za rfl rfl rfl (Zh Z3 rfl (Zhe _) hS hs0 trivial Xu) ?_
  obtain ⟨r13, hm14, H⟩ := bind_some H
  refine Zn rfl rfl rfl rfl (by kernel_rfl) rfl (Jd x0.term _ hm14) ?_
  rintro e w ⟨rfl, hN⟩; refine ⟨_, rfl, ?_⟩; obtain ⟨hB, hS⟩ := hS.jn hN
  refine Zb 2 rfl ?_
  refine Zq 31 rfl (fun hb => ?_) (fun hb => ?_)
  rotate_left
  ·replace H := Zp H hb
   refine Zb 5 rfl ?_
   refine Zg ?_
   refine Zc hK10 ?_
   refine Zk ?_
   refine Zz ?_
   refine Zj ?_
   refine Zm rfl (RV.tmp rfl RV.nil) rfl ?_
   obtain rfl := QJ H
   replace hS := hS.cut 0
   exact ⟨rfl, hS⟩
  replace H := Zo H hb
  refine Za rfl rfl rfl (Ze fo_23_2 rfl) ?_
  refine Za rfl rfl rfl (Zh Z3 rfl (Zhe _) hS hs0 trivial Jt) ?_
  obtain ⟨r15, hm16, H⟩ := bind_some H
  refine Zn rfl rfl rfl rfl (by kernel_rfl) rfl (Jd x0.sum _ hm16) ?_
  rintro e w ⟨rfl, hN⟩; refine ⟨_, rfl, ?_⟩; obtain ⟨hB, hS⟩ := hS.jn hN
  refine Zb 2 rfl ?_
  refine Zg ?_
  refine Zc hK10 ?_
  refine Zk ?_
  refine Zz ?_
  refine Zj ?_
  refine Zm rfl (RV.tmp rfl RV.nil) rfl ?_
  obtain rfl := QJ H
  replace hS := hS.cut 0
  exact ⟨rfl, hS⟩
 replace H := Zp H hb
 refine Zs ?_
 refine Z4 ?_
 refine Zc hK4 ?_
 refine Zd (fun K hK17 => ?_)
 refine Zf ?_
 refine Za rfl rfl rfl (Ze Ze1 rfl) ?_
 refine Za rfl rfl rfl (Zh Z3 rfl (Zhe _) hS hs0 trivial Jb) ?_
 refine Za rfl rfl rfl (Yr rfl rfl) ?_
 refine Zb 1 rfl ?_
 refine Zq 39 rfl (fun hb => ?_) (fun hb => ?_)
 ·replace H := Zo H hb
  refine Zb 5 rfl ?_
  refine Za rfl rfl rfl (Ze Yl rfl) ?_
  refine Za rfl rfl rfl (Zh Z3 rfl (Zhe _) hS hs0 trivial Yx) ?_
  obtain ⟨r18, hm19, H⟩ := bind_some H
  refine Zn rfl rfl rfl rfl (by kernel_rfl) rfl (Jd x0.index _ hm19) ?_
  rintro e w ⟨rfl, hN⟩; refine ⟨_, rfl, ?_⟩; obtain ⟨hB, hS⟩ := hS.jn hN
  refine Zb 2 rfl ?_
  refine Zq 49 rfl (fun hb => ?_) (fun hb => ?_)
  rotate_left
  ·replace H := Zp H hb
   refine Zb 15 rfl ?_
   refine Zg ?_
   refine Zc hK17 ?_
   refine Zk ?_
   refine Zm rfl (RV.tmp rfl RV.nil) rfl ?_
   obtain rfl := QJ H
   replace hS := hS.cut 0
   exact ⟨rfl, hS⟩
  replace H := Zo H hb
  refine Za rfl rfl rfl (Ze Zdi rfl) ?_
  refine Za rfl rfl rfl (Zh Z3 rfl (Zhe _) hS hs0 trivial Xu) ?_
  refine Za rfl rfl rfl (Y7 rfl rfl) ?_
  refine Zb 2 rfl ?_
  refine Zq 54 rfl (fun hb => ?_) (fun hb => ?_)
  rotate_left
  ·replace H := Zp H hb
   refine Zb 10 rfl ?_
   refine Zg ?_
   refine Zc hK17 ?_
   refine Zk ?_
   refine Zm rfl (RV.tmp rfl RV.nil) rfl ?_
   obtain rfl := QJ H
   replace hS := hS.cut 0
   exact ⟨rfl, hS⟩
  replace H := Zo H hb
  refine Za rfl rfl rfl (Ze Zdi rfl) ?_
  refine Za rfl rfl rfl (Zh Z3 rfl (Zhe _) hS hs0 trivial Xu) ?_
  obtain ⟨r20, hm21, H⟩ := bind_some H
  refine Zn rfl rfl rfl rfl (by kernel_rfl) rfl (Jd x0.term _ hm21) ?_
  rintro e w ⟨rfl, hN⟩; refine ⟨_, rfl, ?_⟩; obtain ⟨hB, hS⟩ := hS.jn hN
  refine Zb 2 rfl ?_
  refine Zq 59 rfl (fun hb => ?_) (fun hb => ?_)
  rotate_left
  ·replace H := Zp H hb
   refine Zb 5 rfl ?_
   refine Zg ?_
   refine Zc hK17 ?_
   refine Zk ?_
   refine Zm rfl (RV.tmp rfl RV.nil) rfl ?_
   obtain rfl := QJ H
   replace hS := hS.cut 0
   exact ⟨rfl, hS⟩
  replace H := Zo H hb
  refine Za rfl rfl rfl (Ze fo_23_2 rfl) ?_
  refine Za rfl rfl rfl (Zh Z3 rfl (Zhe _) hS hs0 trivial Jt) ?_
  obtain ⟨r22, hm23, H⟩ := bind_some H
  refine Zn rfl rfl rfl rfl (by kernel_rfl) rfl (Jd x0.sum _ hm23) ?_
  rintro e w ⟨rfl, hN⟩; refine ⟨_, rfl, ?_⟩; obtain ⟨hB, hS⟩ := hS.jn hN
  refine Zb 2 rfl ?_
  refine Zg ?_
  refine Zc hK17 ?_
  refine Zk ?_
  refine Zm rfl (RV.tmp rfl RV.nil) rfl ?_
  obtain rfl := QJ H
  replace hS := hS.cut 0
  exact ⟨rfl, hS⟩
 replace H := Zp H hb
 refine Za rfl rfl rfl (Ze Ze1 rfl) ?_
 refine Za rfl rfl rfl (Zh Z3 rfl (Zhe _) hS hs0 trivial Jb) ?_
 refine Za rfl rfl rfl (Yr rfl rfl) ?_
 refine Zb 2 rfl ?_
 refine Zq 44 rfl (fun hb => ?_) (fun hb => ?_)
 rotate_left
 ·replace H := Zp H hb
  refine Zb 20 rfl ?_
  refine Zg ?_
  refine Zc hK17 ?_
  refine Zk ?_
  refine Zm rfl (RV.tmp rfl RV.nil) rfl ?_
  obtain rfl := QJ H
  replace hS := hS.cut 0
  exact ⟨rfl, hS⟩
 replace H := Zo H hb
 refine Za rfl rfl rfl (Ze Yl rfl) ?_
 refine Za rfl rfl rfl (Zh Z3 rfl (Zhe _) hS hs0 trivial Yx) ?_
 obtain ⟨r24, hm25, H⟩ := bind_some H
 refine Zn rfl rfl rfl rfl (by kernel_rfl) rfl (Jd x0.index _ hm25) ?_
 rintro e w ⟨rfl, hN⟩; refine ⟨_, rfl, ?_⟩; obtain ⟨hB, hS⟩ := hS.jn hN
 refine Zb 2 rfl ?_
 refine Zq 49 rfl (fun hb => ?_) (fun hb => ?_)
 rotate_left
 ·replace H := Zp H hb
  refine Zb 15 rfl ?_
  refine Zg ?_
  refine Zc hK17 ?_
  refine Zk ?_
  refine Zm rfl (RV.tmp rfl RV.nil) rfl ?_
  obtain rfl := QJ H
  replace hS := hS.cut 0
  exact ⟨rfl, hS⟩
 replace H := Zo H hb
 refine Za rfl rfl rfl (Ze Zdi rfl) ?_
 refine Za rfl rfl rfl (Zh Z3 rfl (Zhe _) hS hs0 trivial Xu) ?_
 refine Za rfl rfl rfl (Y7 rfl rfl) ?_
 refine Zb 2 rfl ?_
 refine Zq 54 rfl (fun hb => ?_) (fun hb => ?_)
 rotate_left
 ·replace H := Zp H hb
  refine Zb 10 rfl ?_
  refine Zg ?_
  refine Zc hK17 ?_
  refine Zk ?_
  refine Zm rfl (RV.tmp rfl RV.nil) rfl ?_
  obtain rfl := QJ H
  replace hS := hS.cut 0
  exact ⟨rfl, hS⟩
 replace H := Zo H hb
 refine Za rfl rfl rfl (Ze Zdi rfl) ?_
 refine Za rfl rfl rfl (Zh Z3 rfl (Zhe _) hS hs0 trivial Xu) ?_
 obtain ⟨r26, hm27, H⟩ := bind_some H
 refine Zn rfl rfl rfl rfl (by kernel_rfl) rfl (Jd x0.term _ hm27) ?_
 rintro e w ⟨rfl, hN⟩; refine ⟨_, rfl, ?_⟩; obtain ⟨hB, hS⟩ := hS.jn hN
 refine Zb 2 rfl ?_
 refine Zq 59 rfl (fun hb => ?_) (fun hb => ?_)
 rotate_left
 ·replace H := Zp H hb
  refine Zb 5 rfl ?_
  refine Zg ?_
  refine Zc hK17 ?_
  refine Zk ?_
  refine Zm rfl (RV.tmp rfl RV.nil) rfl ?_
  obtain rfl := QJ H
  replace hS := hS.cut 0
  exact ⟨rfl, hS⟩
 replace H := Zo H hb
 refine Za rfl rfl rfl (Ze fo_23_2 rfl) ?_
 refine Za rfl rfl rfl (Zh Z3 rfl (Zhe _) hS hs0 trivial Jt) ?_
 obtain ⟨r28, hm29, H⟩ := bind_some H
 refine Zn rfl rfl rfl rfl (by kernel_rfl) rfl (Jd x0.sum _ hm29) ?_
 rintro e w ⟨rfl, hN⟩; refine ⟨_, rfl, ?_⟩; obtain ⟨hB, hS⟩ := hS.jn hN
 refine Zb 2 rfl ?_
 refine Zg ?_
 refine Zc hK17 ?_
 refine Zk ?_
 refine Zm rfl (RV.tmp rfl RV.nil) rfl ?_
 obtain rfl := QJ H
 replace hS := hS.cut 0
 exact ⟨rfl, hS⟩
theorem Zga (x0 : List Int) (x1 : Int) (x2 : Int) (x3 : Int) (A0_ : OA) (c0_ : Nat) (w0 : World) (s0_ : SlI w0 X2 A0_ c0_ x0) {r : Bool} (H : Zb4 x0 x1 x2 x3 = some r) : Calls Tryz.prog 98 #[.slice A0_ x0.length c0_, .int .i64 x1, .int .i64 x2, .int .i64 x3] w0 fun e w' => e = .returned (.bool r) ∧ St0 All w0 w' [] := by
 unfold Zb4 at H
 refine gw_enter4 Tryz.func98 rfl Tryz.ntmps98 rfl ?_
 have hS := St0.start All w0
 refine Zd (fun K hK1 => ?_)
 refine Zf ?_
 refine Z7 rfl rfl rfl CellsOf.int hS (fun b2 w hS hB => ?_)
 refine Z7 rfl rfl rfl CellsOf.int hS (fun b4 w hS hB => ?_)
 refine Zb 1 rfl ?_
 refine Zg ?_
 refine Zc hK1 ?_
 refine Zd (fun K hK6 => ?_)
 refine Zf ?_
 refine Zb 1 rfl ?_
 refine Za rfl rfl rfl (Yz Vh rfl) ?_
 refine Zb 1 rfl ?_
 refine Za rfl rfl rfl (Yr rfl rfl) ?_
 refine Zb 1 rfl ?_
 refine Zq 13 rfl (fun hb => ?_) (fun hb => ?_)
 rotate_left
 ·replace H := Zp H hb
  refine Zb 6 rfl ?_
  refine Zg ?_
  refine Zc hK6 ?_
  refine Zk ?_
  refine Zm rfl (RV.tmp rfl RV.nil) rfl ?_
  obtain rfl := QJ H
  replace hS := hS.cut 0
  exact ⟨rfl, hS⟩
 replace H := Zo H hb
 refine Zb 1 rfl ?_
 refine Za rfl rfl rfl (Vn rfl rfl) ?_
 refine Zcm rfl rfl rfl rfl (by kernel_rfl) rfl ?_
 show Calls _ _ #[_, _] _ _
 refine Ys Tryz.func128 rfl Tryz.ntmps128 rfl ?_
 refine Zd (fun K hK7 => ?_)
 refine Zf ?_
 refine Zb 1 rfl ?_
 refine Zg ?_
 refine Zc hK7 ?_
 refine Zd (fun K hK8 => ?_)
 refine Zf ?_
 refine Zb 2 rfl ?_
 refine Zcm rfl rfl rfl rfl (by kernel_rfl) rfl ?_
 show Calls _ _ #[_, _] _ _
 refine Ys Tryz.func115 rfl Tryz.ntmps115 rfl ?_
 refine Zd (fun K hK9 => ?_)
 refine Zf ?_
 refine Zb 1 rfl ?_
 refine Zg ?_
 refine Zc hK9 ?_
 refine Zd (fun K hK10 => ?_)
 refine Zd (fun K hK11 => ?_)
 refine Zf ?_
 refine Zb 1 rfl ?_
 refine Za rfl rfl rfl (Yz Vh rfl) ?_
 refine Zb 1 rfl ?_
 refine Zg ?_
 refine Zc hK11 ?_
 refine Yc ?_
 refine V7 (X := Nat × Int × Int) (fun x => (0, .slice A0_ x0.length c0_) :: (1, .func (.func 129) #[] #[.pointer (some ⟨b2, 0, none⟩), .pointer (some ⟨b4, 0, none⟩)]) :: (4, .int .i64 x.2.1) :: (7, .int .i64 (x0.length : Int)) :: (8, .int .i64 x.2.2) :: []) (fun x w => St0 All w0 w (.box b4 [.int .i64 x3] 3 :: .box b2 [.int .i64 x2] 3 :: []) ∧ Zbl x0 x2 x3 x.1 x.2.1 x.2.2 = some r) (fun x => x.1) (Xw, 0, 0) (by repeat (first | exact Sub.nil | refine Sub.cons rfl ?_)) ⟨hS, H⟩ ?_
 rintro ⟨n, v12, v13⟩ w ⟨hS, H⟩
 dsimp only at hS H ⊢
 obtain _ | n := n
 ·have H0 : none = some r := H
  cases H0
 rw [Zbl] at H
 refine Zd (fun K hK14 => ?_)
 refine Zf ?_
 refine Za rfl rfl rfl (Xk rfl rfl) ?_
 refine Zg ?_
 refine Zc hK14 ?_
 refine Zd (fun K hK15 => ?_)
 refine Z1 rfl (fun hb => ?_) (fun hb => ?_)
 rotate_left
 ·replace H := Zp H hb
  refine X0 ?_
  refine Z9 ?_
  refine Z9 ?_
  refine Yy ?_
  refine Zc hK10 ?_
  refine Zd (fun K hK27 => ?_)
  refine Zf ?_
  refine Zb 1 rfl ?_
  refine Zg ?_
  refine Zc hK27 ?_
  refine Zk ?_
  refine Zm rfl (RV.tmp rfl RV.nil) rfl ?_
  refine ⟨_, rfl, ?_⟩
  refine Za rfl rfl rfl (Zcz rfl rfl) ?_
  refine Zb 1 rfl ?_
  refine Zg ?_
  refine Zc hK8 ?_
  refine Zk ?_
  refine Zm rfl (RV.tmp rfl RV.nil) rfl ?_
  refine ⟨_, rfl, ?_⟩
  refine Za rfl rfl rfl (Yo rfl) ?_
  refine Zb 2 rfl ?_
  refine Zg ?_
  refine Zc hK6 ?_
  refine Zk ?_
  refine Zm rfl (RV.tmp rfl RV.nil) rfl ?_
  obtain rfl := QJ H
  replace hS := hS.cut 0
  exact ⟨rfl, hS⟩
 replace H := Zo H hb
 refine Zs ?_
 refine Zc hK15 ?_
 refine Zd (fun K hK16 => ?_)
 refine Yc ?_
 refine Zd (fun K hK17 => ?_)
 refine Zf ?_
 refine Zb 2 rfl ?_
 refine Zg ?_
 refine Zc hK17 ?_
 refine Zd (fun K hK18 => ?_)
 refine Zf ?_
 refine Zb 3 rfl ?_
 obtain ⟨e19, hi21, H⟩ := bind_some H
 obtain ⟨j20, hi21a, hi21b, hi21c⟩ := Y0 hi21
 refine Za rfl rfl rfl (Xh Vh rfl rfl hi21a hi21c (Rd.el (hS.rd0 s0_.rd) Y6 hi21b)) ?_
 refine Za rfl rfl rfl (Zap Z3 rfl (Zhe _) (Rd.el (hS.rd0 s0_.rd) Y6 hi21b) rfl) ?_
 refine Zcm rfl rfl rfl rfl (by kernel_rfl) rfl ?_
 show Calls _ _ #[_, _, _] _ _
 refine Zaj Tryz.func129 rfl Tryz.ntmps129 rfl ?_
 refine Zd (fun K hK22 => ?_)
 refine Zf ?_
 refine Zb 1 rfl ?_
 refine Zg ?_
 refine Zc hK22 ?_
 refine Zd (fun K hK23 => ?_)
 refine Zf ?_
 refine Zb 1 rfl ?_
 refine Za rfl rfl rfl (Zh Z3 rfl (Zhe _) hS Y2 trivial Yx) ?_
 refine Za rfl rfl rfl (Zh Z3 rfl (Zhe _) hS hs0 trivial Yx) ?_
 obtain ⟨r24, hm25, H⟩ := bind_some H
 refine Zn rfl rfl rfl rfl (by kernel_rfl) rfl (Zau e19 x2 x3 _ hm25) ?_
 rintro e w ⟨rfl, hN⟩; refine ⟨_, rfl, ?_⟩; obtain ⟨hB, hS⟩ := hS.jn hN
 refine Za rfl rfl rfl (Yo rfl) ?_
 refine Zb 1 rfl ?_
 refine Zg ?_
 refine Zc hK23 ?_
 refine Zk ?_
 refine Zm rfl (RV.tmp rfl RV.nil) rfl ?_
 refine ⟨_, rfl, ?_⟩
 refine Zg ?_
 refine Zc hK18 ?_
 refine Z1 rfl (fun hb => ?_) (fun hb => ?_)
 rotate_left
 ·replace H := Zp H hb
  refine Zs ?_
  refine Z4 ?_
  refine Zc hK16 ?_
  refine Zf ?_
  refine Za rfl rfl rfl (X8 rfl rfl) ?_
  refine Zb 1 rfl ?_
  refine Zg ?_
  exact X9 (n, v12, (IntKind.wrap .i64 (v13 + 1))) (by repeat (first | exact Sub.nil | refine Sub.cons rfl ?_)) ⟨hS, H⟩ (Nat.lt_succ_self _)
 replace H := Zo H hb
 refine Zd (fun K hK26 => ?_)
 refine Zf ?_
 refine Zb 2 rfl ?_
 refine Zg ?_
 refine Zc hK26 ?_
 refine Zk ?_
 refine Zz ?_
 refine Zj ?_
 refine Zj ?_
 refine Zz ?_
 refine Zj ?_
 refine Zm rfl (RV.tmp rfl RV.nil) rfl ?_
 refine ⟨_, rfl, ?_⟩
 refine Za rfl rfl rfl (Zcz rfl rfl) ?_
 refine Zb 1 rfl ?_
 refine Zg ?_
 refine Zc hK8 ?_
 refine Zk ?_
 refine Zm rfl (RV.tmp rfl RV.nil) rfl ?_
 refine ⟨_, rfl, ?_⟩
 refine Za rfl rfl rfl (Yo rfl) ?_
 refine Zb 2 rfl ?_
 refine Zg ?_
 refine Zc hK6 ?_
 refine Zk ?_
 refine Zm rfl (RV.tmp rfl RV.nil) rfl ?_
 obtain rfl := QJ H
 replace hS := hS.cut 0
 exact ⟨rfl, hS⟩
theorem Zd9 (x0 : Co) (A0_ : OA) (c0_ : Nat) (A1_ : OA) (c1_ : Nat) (A2_ : OA) (c2_ : Nat) (A3_ : OA) (c3_ : Nat) (A4_ : OA) (c4_ : Nat) (w0 : World) (s0_ : SlI w0 V3 A0_ c0_ x0.tuple.log) (s1_ : SlI w0 enO A1_ c1_ x0.votes) (s2_ : SlI w0 X2 A2_ c2_ x0.next) (s3_ : SlI w0 X2 A3_ c3_ x0.mtch) (s4_ : SlI w0 X2 A4_ c4_ x0.caps) {r : Bool} (H : Za1 x0 = some r) : Calls Tryz.prog 50 #[.agg #[.int .i64 x0.id, .int .i64 x0.n, .int .u8 x0.role, .int .i64 x0.binary, .int .i64 x0.tuple.snap.index, .int .i64 x0.tuple.snap.term, .int .i64 x0.tuple.snap.sum, .int .i64 x0.tuple.snap.level, .bool x0.tuple.snap.final, .slice A0_ x0.tuple.log.length c0_, .int .i64 x0.tuple.term, .int .i64 x0.tuple.vote, .int .i64 x0.commit, .int .i64 x0.applied.index, .int .i64 x0.applied.term, .int .i64 x0.applied.sum, .int .i64 x0.applied.level, .bool x0.applied.final, .slice A1_ x0.votes.length c1_, .slice A2_ x0.next.length c2_, .slice A3_ x0.mtch.length c3_, .slice A4_ x0.caps.length c4_]] w0 fun e w' => e = .returned (.bool r) ∧ St0 All w0 w' [] := by
 unfold Za1 at H
 refine Yh Tryz.func50 rfl Tryz.ntmps50 rfl ?_
 have hS := St0.start All w0
 refine Zd (fun K hK1 => ?_)
 refine Zf ?_
 refine Z7 rfl rfl rfl CellsOf.agg hS (fun b2 w hS hB => ?_)
 refine Zb 1 rfl ?_
 refine Zg ?_
 refine Zc hK1 ?_
 refine Zd (fun K hK4 => ?_)
 refine Zf ?_
 refine Za rfl rfl rfl (Ze Yq rfl) ?_
 refine Za rfl rfl rfl (Zi Yp rfl (Zhe _) hS hs0 trivial Zbt) ?_
 obtain ⟨r5, hm6, H⟩ := bind_some H
 refine Zn rfl rfl rfl rfl (by kernel_rfl) rfl (Zfz x0.tuple A0_ c0_ _ (Zhh s0_.k (hS.rd0 s0_.rd) (hS.blk0 s0_.blk)) hm6) ?_
 rintro e w ⟨rfl, hN⟩; refine ⟨_, rfl, ?_⟩; obtain ⟨hB, hS⟩ := hS.jn hN
 refine Yd rfl rfl zc_3 hS (fun b7 w hS hB => ?_)
 refine Zl rfl rfl rfl CellsOf.int hS ps0 Zeb (by kernel_rfl) rfl (fun w hS hB => ?_)
 refine Zg ?_
 refine Zc hK4 ?_
 refine Zd (fun K hK9 => ?_)
 refine Zd (fun K hK10 => ?_)
 refine Zf ?_
 refine Za rfl rfl rfl (Vn rfl rfl) ?_
 refine Za rfl rfl rfl (Vn rfl rfl) ?_
 refine Za rfl rfl rfl (Vn rfl rfl) ?_
 refine Za rfl rfl rfl (Vn rfl rfl) ?_
 refine Za rfl rfl rfl (Vn rfl rfl) ?_
 refine Za rfl rfl rfl (Vn rfl rfl) ?_
 refine Za rfl rfl rfl (Xn (cells := [.func (.func 92) #[] #[.pointer (some ⟨b2, 0, none⟩)], .func (.func 94) #[] #[.pointer (some ⟨b2, 0, none⟩)], .func (.func 96) #[] #[.pointer (some ⟨b2, 0, none⟩)], .func (.func 97) #[] #[.pointer (some ⟨b2, 0, none⟩), .pointer (some ⟨b7, 0, none⟩)], .func (.func 99) #[] #[.pointer (some ⟨b2, 0, none⟩)], .func (.func 100) #[] #[.pointer (some ⟨b2, 0, none⟩)]]) rfl (by kernel_rfl)) ?_
 refine Zb 1 rfl ?_
 refine Zg ?_
 refine Zc hK10 ?_
 refine Yc ?_
 refine Zgc 60 ?_
 refine Zd (fun K hK11 => ?_)
 refine Zf ?_
 refine Za rfl rfl rfl (Xk rfl rfl) ?_
 refine Zg ?_
 refine Zc hK11 ?_
 refine Zd (fun K hK12 => ?_)
 refine Zu rfl rfl ?_
 refine Zs ?_
 refine Zc hK12 ?_
 refine Zd (fun K hK13 => ?_)
 refine Yc ?_
 refine Zd (fun K hK14 => ?_)
 refine Zf ?_
 refine Za rfl rfl rfl (Zhc (n := 6) (e := 34) (j := 0) (by kernel_rfl) (by kernel_rfl) (by kernel_rfl) rfl rfl rfl (by decide) rfl) ?_
 refine Zb 1 rfl ?_
 refine Zg ?_
 refine Zc hK14 ?_
 refine Zd (fun K hK15 => ?_)
 refine Zf ?_
 refine Zb 1 rfl ?_
 refine Zcm rfl rfl rfl rfl (by kernel_rfl) rfl ?_
 show Calls _ _ #[_] _ _
 refine Yh Tryz.func92 rfl Tryz.ntmps92 rfl ?_
 refine Zd (fun K hK16 => ?_)
 refine Zf ?_
 refine Zb 1 rfl ?_
 refine Zg ?_
 refine Zc hK16 ?_
 refine Zd (fun K hK17 => ?_)
 refine Zf ?_
 refine Za rfl rfl rfl (Ze Vf rfl) ?_
 refine Za rfl rfl rfl (Zh Z3 rfl (Zhe _) hS Y2 trivial Xu) ?_
 obtain ⟨r18, hm19, H⟩ := bind_some H
 refine Zn rfl rfl rfl rfl (by kernel_rfl) rfl (Zau x0.n 1 5 _ hm19) ?_
 rintro e w ⟨rfl, hN⟩; refine ⟨_, rfl, ?_⟩; obtain ⟨hB, hS⟩ := hS.jn hN
 refine Zb 1 rfl ?_
 refine Zq 5 rfl (fun hb => ?_) (fun hb => ?_)
 rotate_left
 ·replace H := Zp H hb
  refine Zb 7 rfl ?_
  refine Zg ?_
  refine Zc hK17 ?_
  refine Zk ?_
  refine Zm rfl (RV.tmp rfl RV.nil) rfl ?_
  refine ⟨_, rfl, ?_⟩
  refine Za rfl rfl rfl (Yo rfl) ?_
  refine Zg ?_
  refine Zc hK15 ?_
  refine Zu rfl rfl ?_
  refine Zd (fun K hK94 => ?_)
  refine Zf ?_
  refine Zb 1 rfl ?_
  refine Zg ?_
  refine Zc hK94 ?_
  refine Zk ?_
  refine Zz ?_
  refine Zj ?_
  refine Zj ?_
  refine Zz ?_
  refine Zj ?_
  refine Zm rfl (RV.tmp rfl RV.nil) rfl ?_
  obtain rfl := QJ H
  replace hS := hS.cut 0
  exact ⟨rfl, hS⟩
 replace H := Zo H hb
 refine Za rfl rfl rfl (Ze Vo rfl) ?_
 refine Za rfl rfl rfl (Zh Z3 rfl (Zhe _) hS Y2 trivial Yx) ?_
 refine Za rfl rfl rfl (Ze Vf rfl) ?_
 refine Za rfl rfl rfl (Zh Z3 rfl (Zhe _) hS Y2 trivial Xu) ?_
 obtain ⟨r20, hm21, H⟩ := bind_some H
 refine Zn rfl rfl rfl rfl (by kernel_rfl) rfl (Zau x0.id 1 x0.n _ hm21) ?_
 rintro e w ⟨rfl, hN⟩; refine ⟨_, rfl, ?_⟩; obtain ⟨hB, hS⟩ := hS.jn hN
 refine Zb 2 rfl ?_
 refine Zg ?_
 refine Zc hK17 ?_
 refine Zk ?_
 refine Zm rfl (RV.tmp rfl RV.nil) rfl ?_
 refine ⟨_, rfl, ?_⟩
 refine Za rfl rfl rfl (Yo rfl) ?_
 refine Zg ?_
 refine Zc hK15 ?_
 refine Z1 rfl (fun hb => ?_) (fun hb => ?_)
 ·replace H := Zo H hb
  refine Zd (fun K hK22 => ?_)
  refine Zf ?_
  refine Zb 1 rfl ?_
  refine Zg ?_
  refine Zc hK22 ?_
  refine Zk ?_
  refine Zz ?_
  refine Zj ?_
  refine Zj ?_
  refine Zz ?_
  refine Zj ?_
  refine Zm rfl (RV.tmp rfl RV.nil) rfl ?_
  obtain rfl := QJ H
  replace hS := hS.cut 0
  exact ⟨rfl, hS⟩
 replace H := Zp H hb
 refine Zs ?_
 refine Z4 ?_
 refine Zc hK13 ?_
 refine Zf ?_
 refine Za rfl rfl rfl (X8 rfl rfl) ?_
 refine Zb 1 rfl ?_
 refine Zg ?_
 refine Zfx ?_
 refine Zd (fun K hK23 => ?_)
 refine Zf ?_
 refine Za rfl rfl rfl (Xk rfl rfl) ?_
 refine Zg ?_
 refine Zc hK23 ?_
 refine Zd (fun K hK24 => ?_)
 refine Zu rfl rfl ?_
 refine Zs ?_
 refine Zc hK24 ?_
 refine Zd (fun K hK25 => ?_)
 refine Yc ?_
 refine Zd (fun K hK26 => ?_)
 refine Zf ?_
 refine Za rfl rfl rfl (Zhc (n := 6) (e := 34) (j := 1) (by kernel_rfl) (by kernel_rfl) (by kernel_rfl) rfl rfl rfl (by decide) rfl) ?_
 refine Zb 1 rfl ?_
 refine Zg ?_
 refine Zc hK26 ?_
 refine Zd (fun K hK27 => ?_)
 refine Zf ?_
 refine Zb 1 rfl ?_
 refine Zcm rfl rfl rfl rfl (by kernel_rfl) rfl ?_
 show Calls _ _ #[_] _ _
 refine Yh Tryz.func94 rfl Tryz.ntmps94 rfl ?_
 refine Zd (fun K hK28 => ?_)
 refine Zf ?_
 refine Zb 1 rfl ?_
 refine Zg ?_
 refine Zc hK28 ?_
 refine Zd (fun K hK29 => ?_)
 refine Zf ?_
 refine Za rfl rfl rfl (Ze Vv rfl) ?_
 refine Za rfl rfl rfl (Zh Zas rfl (Zhe _) hS Y2 trivial Jt) ?_
 refine Za rfl rfl rfl (Zdj rfl rfl) ?_
 refine Zb 1 rfl ?_
 refine Zq 5 rfl (fun hb => ?_) (fun hb => ?_)
 rotate_left
 ·replace H := Zp H hb
  refine Zb 10 rfl ?_
  refine Zg ?_
  refine Zc hK29 ?_
  refine Zk ?_
  refine Zm rfl (RV.tmp rfl RV.nil) rfl ?_
  refine ⟨_, rfl, ?_⟩
  refine Za rfl rfl rfl (Yo rfl) ?_
  refine Zg ?_
  refine Zc hK27 ?_
  refine Zu rfl rfl ?_
  refine Zd (fun K hK93 => ?_)
  refine Zf ?_
  refine Zb 1 rfl ?_
  refine Zg ?_
  refine Zc hK93 ?_
  refine Zk ?_
  refine Zz ?_
  refine Zj ?_
  refine Zj ?_
  refine Zz ?_
  refine Zj ?_
  refine Zm rfl (RV.tmp rfl RV.nil) rfl ?_
  obtain rfl := QJ H
  replace hS := hS.cut 0
  exact ⟨rfl, hS⟩
 replace H := Zo H hb
 refine Za rfl rfl rfl (Ze Zdy rfl) ?_
 refine Za rfl rfl rfl (Zh Z3 rfl (Zhe _) hS Y2 trivial Jb) ?_
 obtain ⟨r30, hm31, H⟩ := bind_some H
 refine Zn rfl rfl rfl rfl (by kernel_rfl) rfl (Zau x0.binary 1 2 _ hm31) ?_
 rintro e w ⟨rfl, hN⟩; refine ⟨_, rfl, ?_⟩; obtain ⟨hB, hS⟩ := hS.jn hN
 refine Zb 2 rfl ?_
 refine Zq 10 rfl (fun hb => ?_) (fun hb => ?_)
 rotate_left
 ·replace H := Zp H hb
  refine Zb 5 rfl ?_
  refine Zg ?_
  refine Zc hK29 ?_
  refine Zk ?_
  refine Zm rfl (RV.tmp rfl RV.nil) rfl ?_
  refine ⟨_, rfl, ?_⟩
  refine Za rfl rfl rfl (Yo rfl) ?_
  refine Zg ?_
  refine Zc hK27 ?_
  refine Zu rfl rfl ?_
  refine Zd (fun K hK92 => ?_)
  refine Zf ?_
  refine Zb 1 rfl ?_
  refine Zg ?_
  refine Zc hK92 ?_
  refine Zk ?_
  refine Zz ?_
  refine Zj ?_
  refine Zj ?_
  refine Zz ?_
  refine Zj ?_
  refine Zm rfl (RV.tmp rfl RV.nil) rfl ?_
  obtain rfl := QJ H
  replace hS := hS.cut 0
  exact ⟨rfl, hS⟩
 replace H := Zo H hb
 refine Za rfl rfl rfl (Ze Yq rfl) ?_
 refine Za rfl rfl rfl (Zi Yp rfl (Zhe _) hS Y2 trivial Zbt) ?_
 obtain ⟨r32, hm33, H⟩ := bind_some H
 refine Zn rfl rfl rfl rfl (by kernel_rfl) rfl (c_tuple_Right x0.tuple A0_ c0_ _ (Zhh s0_.k (hS.rd0 s0_.rd) (hS.blk0 s0_.blk)) hm33) ?_
 rintro e w ⟨rfl, hN⟩; refine ⟨_, rfl, ?_⟩; obtain ⟨hB, hS⟩ := hS.jn hN
 refine Zb 2 rfl ?_
 refine Zg ?_
 refine Zc hK29 ?_
 refine Zk ?_
 refine Zm rfl (RV.tmp rfl RV.nil) rfl ?_
 refine ⟨_, rfl, ?_⟩
 refine Za rfl rfl rfl (Yo rfl) ?_
 refine Zg ?_
 refine Zc hK27 ?_
 refine Z1 rfl (fun hb => ?_) (fun hb => ?_)
 ·replace H := Zo H hb
  refine Zd (fun K hK34 => ?_)
  refine Zf ?_
  refine Zb 1 rfl ?_
  refine Zg ?_
  refine Zc hK34 ?_
  refine Zk ?_
  refine Zz ?_
  refine Zj ?_
  refine Zj ?_
  refine Zz ?_
  refine Zj ?_
  refine Zm rfl (RV.tmp rfl RV.nil) rfl ?_
  obtain rfl := QJ H
  replace hS := hS.cut 0
  exact ⟨rfl, hS⟩
 replace H := Zp H hb
 refine Zs ?_
 refine Z4 ?_
 refine Zc hK25 ?_
 refine Zf ?_
 refine Za rfl rfl rfl (X8 rfl rfl) ?_
 refine Zb 1 rfl ?_
 refine Zg ?_
 refine Zfx ?_
 refine Zd (fun K hK35 => ?_)
 refine Zf ?_
 refine Za rfl rfl rfl (Xk rfl rfl) ?_
 refine Zg ?_
 refine Zc hK35 ?_
 refine Zd (fun K hK36 => ?_)
 refine Zu rfl rfl ?_
 refine Zs ?_
 refine Zc hK36 ?_
 refine Zd (fun K hK37 => ?_)
 refine Yc ?_
 refine Zd (fun K hK38 => ?_)
 refine Zf ?_
 refine Za rfl rfl rfl (Zhc (n := 6) (e := 34) (j := 2) (by kernel_rfl) (by kernel_rfl) (by kernel_rfl) rfl rfl rfl (by decide) rfl) ?_
 refine Zb 1 rfl ?_
 refine Zg ?_
 refine Zc hK38 ?_
 refine Zd (fun K hK39 => ?_)
 refine Zf ?_
 refine Zb 1 rfl ?_
 refine Zcm rfl rfl rfl rfl (by kernel_rfl) rfl ?_
 show Calls _ _ #[_] _ _
 refine Yh Tryz.func96 rfl Tryz.ntmps96 rfl ?_
 refine Zd (fun K hK40 => ?_)
 refine Zf ?_
 refine Zb 1 rfl ?_
 refine Zg ?_
 refine Zc hK40 ?_
 refine Zd (fun K hK41 => ?_)
 refine Zf ?_
 refine Za rfl rfl rfl (Ze Yq rfl) ?_
 refine Za rfl rfl rfl (Zi Yp rfl (Zhe _) hS Y2 trivial Zbt) ?_
 refine Za rfl rfl rfl (Ze fo_30_5 rfl) ?_
 refine Za rfl rfl rfl (Zh Z3 rfl (Zhe _) hS Y2 trivial sg12_1) ?_
 obtain ⟨r42, hm43, H⟩ := bind_some H
 refine Zn rfl rfl rfl rfl (by kernel_rfl) rfl (c_tuple_State x0.tuple x0.commit A0_ c0_ _ (Zhh s0_.k (hS.rd0 s0_.rd) (hS.blk0 s0_.blk)) hm43) ?_
 rintro e w ⟨rfl, hN⟩; refine ⟨_, rfl, ?_⟩; obtain ⟨hB, hS⟩ := hS.jn hN
 refine Zb 1 rfl ?_
 refine Za rfl rfl rfl (Z0 rfl rfl) ?_
 refine Za rfl rfl rfl (Z0 rfl rfl) ?_
 refine Yd rfl rfl zc_23 hS (fun b44 w hS hB => ?_)
 refine Zl rfl rfl rfl CellsOf.agg hS ps0 Zeo (by kernel_rfl) rfl (fun w hS hB => ?_)
 refine Zb 1 rfl ?_
 refine Zg ?_
 refine Zc hK41 ?_
 refine Zd (fun K hK46 => ?_)
 refine Zf ?_
 refine Zb 2 rfl ?_
 refine Zq 13 rfl (fun hb => ?_) (fun hb => ?_)
 rotate_left
 ·replace H := Zp H hb
  refine Zb 6 rfl ?_
  refine Zg ?_
  refine Zc hK46 ?_
  refine Zk ?_
  refine Zm rfl (RV.tmp rfl RV.nil) rfl ?_
  refine ⟨_, rfl, ?_⟩
  refine Za rfl rfl rfl (Yo rfl) ?_
  refine Zg ?_
  refine Zc hK39 ?_
  refine Zu rfl rfl ?_
  refine Zd (fun K hK91 => ?_)
  refine Zf ?_
  refine Zb 1 rfl ?_
  refine Zg ?_
  refine Zc hK91 ?_
  refine Zk ?_
  refine Zz ?_
  refine Zj ?_
  refine Zj ?_
  refine Zz ?_
  refine Zj ?_
  refine Zm rfl (RV.tmp rfl RV.nil) rfl ?_
  obtain rfl := QJ H
  replace hS := hS.cut 0
  exact ⟨rfl, hS⟩
 replace H := Zo H hb
 refine Za rfl rfl rfl (Zi Y3 rfl (Zhe _) hS hs0 trivial Jh) ?_
 refine Za rfl rfl rfl (Ze fo_30_6 rfl) ?_
 refine Za rfl rfl rfl (Zi Y3 rfl (Zhe _) hS Xi trivial sg13_5) ?_
 refine Za rfl rfl rfl (Zal (by kernel_rfl) rfl rfl (Za8 _ _ _ _ _ _ _ _ _ _)) ?_
 refine Zb 2 rfl ?_
 refine Zg ?_
 refine Zc hK46 ?_
 refine Zk ?_
 refine Zm rfl (RV.tmp rfl RV.nil) rfl ?_
 refine ⟨_, rfl, ?_⟩
 refine Za rfl rfl rfl (Yo rfl) ?_
 refine Zg ?_
 refine Zc hK39 ?_
 refine Z1 rfl (fun hb => ?_) (fun hb => ?_)
 ·replace H := Zo H hb
  refine Zd (fun K hK47 => ?_)
  refine Zf ?_
  refine Zb 1 rfl ?_
  refine Zg ?_
  refine Zc hK47 ?_
  refine Zk ?_
  refine Zz ?_
  refine Zj ?_
  refine Zj ?_
  refine Zz ?_
  refine Zj ?_
  refine Zm rfl (RV.tmp rfl RV.nil) rfl ?_
  obtain rfl := QJ H
  replace hS := hS.cut 0
  exact ⟨rfl, hS⟩
 replace H := Zp H hb
 refine Zs ?_
 refine Z4 ?_
 refine Zc hK37 ?_
 refine Zf ?_
 refine Za rfl rfl rfl (X8 rfl rfl) ?_
 refine Zb 1 rfl ?_
 refine Zg ?_
 refine Zfx ?_
 refine Zd (fun K hK48 => ?_)
 refine Zf ?_
 refine Za rfl rfl rfl (Xk rfl rfl) ?_
 refine Zg ?_
 refine Zc hK48 ?_
 refine Zd (fun K hK49 => ?_)
 refine Zu rfl rfl ?_
 refine Zs ?_
 refine Zc hK49 ?_
 refine Zd (fun K hK50 => ?_)
 refine Yc ?_
 refine Zd (fun K hK51 => ?_)
 refine Zf ?_
 refine Za rfl rfl rfl (Zhc (n := 6) (e := 34) (j := 3) (by kernel_rfl) (by kernel_rfl) (by kernel_rfl) rfl rfl rfl (by decide) rfl) ?_
 refine Zb 1 rfl ?_
 refine Zg ?_
 refine Zc hK51 ?_
 refine Zd (fun K hK52 => ?_)
 refine Zf ?_
 refine Zb 1 rfl ?_
 refine Zcm rfl rfl rfl rfl (by kernel_rfl) rfl ?_
 show Calls _ _ #[_, _] _ _
 refine Ys Tryz.func97 rfl Tryz.ntmps97 rfl ?_
 refine Zd (fun K hK53 => ?_)
 refine Zf ?_
 refine Zb 1 rfl ?_
 refine Zg ?_
 refine Zc hK53 ?_
 refine Zd (fun K hK54 => ?_)
 refine Zf ?_
 refine Za rfl rfl rfl (Ze Vd rfl) ?_
 refine Za rfl rfl rfl (Zh Zc1 rfl (Zhe _) hS Xi trivial Zba) ?_
 refine Za rfl rfl rfl (Yz Zbs rfl) ?_
 refine Za rfl rfl rfl (Ze Vf rfl) ?_
 refine Za rfl rfl rfl (Zh Z3 rfl (Zhe _) hS Xi trivial Xu) ?_
 refine Za rfl rfl rfl (Yr rfl rfl) ?_
 refine Zb 1 rfl ?_
 refine Zq 9 rfl (fun hb => ?_) (fun hb => ?_)
 rotate_left
 ·replace H := Zp H hb
  refine Zb 17 rfl ?_
  refine Zg ?_
  refine Zc hK54 ?_
  refine Zk ?_
  refine Zm rfl (RV.tmp rfl RV.nil) rfl ?_
  refine ⟨_, rfl, ?_⟩
  refine Za rfl rfl rfl (Yo rfl) ?_
  refine Zg ?_
  refine Zc hK52 ?_
  refine Zu rfl rfl ?_
  refine Zd (fun K hK90 => ?_)
  refine Zf ?_
  refine Zb 1 rfl ?_
  refine Zg ?_
  refine Zc hK90 ?_
  refine Zk ?_
  refine Zz ?_
  refine Zj ?_
  refine Zj ?_
  refine Zz ?_
  refine Zj ?_
  refine Zm rfl (RV.tmp rfl RV.nil) rfl ?_
  obtain rfl := QJ H
  replace hS := hS.cut 0
  exact ⟨rfl, hS⟩
 replace H := Zo H hb
 refine Za rfl rfl rfl (Ze Zce rfl) ?_
 refine Za rfl rfl rfl (Zh Vy rfl (Zhe _) hS Xi trivial Zfm) ?_
 refine Za rfl rfl rfl (Ze Vf rfl) ?_
 refine Za rfl rfl rfl (Zh Z3 rfl (Zhe _) hS Xi trivial Xu) ?_
 refine Za rfl rfl rfl (Zh Z3 rfl (Zhe _) hS Y2 trivial Yx) ?_
 refine Za rfl rfl rfl (X8 rfl rfl) ?_
 obtain ⟨r55, hm56, H⟩ := bind_some H
 refine Zn rfl rfl rfl rfl (by kernel_rfl) rfl (Zga x0.next x0.n 1 (IntKind.wrap .i64 (r5 + 1)) A2_ c2_ _ (Zhh s2_.k (hS.rd0 s2_.rd) (hS.blk0 s2_.blk)) hm56) ?_
 rintro e w ⟨rfl, hN⟩; refine ⟨_, rfl, ?_⟩; obtain ⟨hB, hS⟩ := hS.jn hN
 refine Zb 2 rfl ?_
 refine Zq 18 rfl (fun hb => ?_) (fun hb => ?_)
 rotate_left
 ·replace H := Zp H hb
  refine Zb 8 rfl ?_
  refine Zg ?_
  refine Zc hK54 ?_
  refine Zk ?_
  refine Zm rfl (RV.tmp rfl RV.nil) rfl ?_
  refine ⟨_, rfl, ?_⟩
  refine Za rfl rfl rfl (Yo rfl) ?_
  refine Zg ?_
  refine Zc hK52 ?_
  refine Zu rfl rfl ?_
  refine Zd (fun K hK89 => ?_)
  refine Zf ?_
  refine Zb 1 rfl ?_
  refine Zg ?_
  refine Zc hK89 ?_
  refine Zk ?_
  refine Zz ?_
  refine Zj ?_
  refine Zj ?_
  refine Zz ?_
  refine Zj ?_
  refine Zm rfl (RV.tmp rfl RV.nil) rfl ?_
  obtain rfl := QJ H
  replace hS := hS.cut 0
  exact ⟨rfl, hS⟩
 replace H := Zo H hb
 refine Za rfl rfl rfl (Ze Zbf rfl) ?_
 refine Za rfl rfl rfl (Zh Vy rfl (Zhe _) hS Xi trivial Zec) ?_
 refine Za rfl rfl rfl (Ze Vf rfl) ?_
 refine Za rfl rfl rfl (Zh Z3 rfl (Zhe _) hS Xi trivial Xu) ?_
 refine Za rfl rfl rfl (Zh Z3 rfl (Zhe _) hS Y2 trivial Yx) ?_
 obtain ⟨r57, hm58, H⟩ := bind_some H
 refine Zn rfl rfl rfl rfl (by kernel_rfl) rfl (Zga x0.mtch x0.n 0 r5 A3_ c3_ _ (Zhh s3_.k (hS.rd0 s3_.rd) (hS.blk0 s3_.blk)) hm58) ?_
 rintro e w ⟨rfl, hN⟩; refine ⟨_, rfl, ?_⟩; obtain ⟨hB, hS⟩ := hS.jn hN
 refine Zb 2 rfl ?_
 refine Zg ?_
 refine Zc hK54 ?_
 refine Zk ?_
 refine Zm rfl (RV.tmp rfl RV.nil) rfl ?_
 refine ⟨_, rfl, ?_⟩
 refine Za rfl rfl rfl (Yo rfl) ?_
 refine Zg ?_
 refine Zc hK52 ?_
 refine Z1 rfl (fun hb => ?_) (fun hb => ?_)
 ·replace H := Zo H hb
  refine Zd (fun K hK59 => ?_)
  refine Zf ?_
  refine Zb 1 rfl ?_
  refine Zg ?_
  refine Zc hK59 ?_
  refine Zk ?_
  refine Zz ?_
  refine Zj ?_
  refine Zj ?_
  refine Zz ?_
  refine Zj ?_
  refine Zm rfl (RV.tmp rfl RV.nil) rfl ?_
  obtain rfl := QJ H
  replace hS := hS.cut 0
  exact ⟨rfl, hS⟩
 replace H := Zp H hb
 refine Zs ?_
 refine Z4 ?_
 refine Zc hK50 ?_
 refine Zf ?_
 refine Za rfl rfl rfl (X8 rfl rfl) ?_
 refine Zb 1 rfl ?_
 refine Zg ?_
 refine Zfx ?_
 refine Zd (fun K hK60 => ?_)
 refine Zf ?_
 refine Za rfl rfl rfl (Xk rfl rfl) ?_
 refine Zg ?_
 refine Zc hK60 ?_
 refine Zd (fun K hK61 => ?_)
 refine Zu rfl rfl ?_
 refine Zs ?_
 refine Zc hK61 ?_
 refine Zd (fun K hK62 => ?_)
 refine Yc ?_
 refine Zd (fun K hK63 => ?_)
 refine Zf ?_
 refine Za rfl rfl rfl (Zhc (n := 6) (e := 34) (j := 4) (by kernel_rfl) (by kernel_rfl) (by kernel_rfl) rfl rfl rfl (by decide) rfl) ?_
 refine Zb 1 rfl ?_
 refine Zg ?_
 refine Zc hK63 ?_
 refine Zd (fun K hK64 => ?_)
 refine Zf ?_
 refine Zb 1 rfl ?_
 refine Zcm rfl rfl rfl rfl (by kernel_rfl) rfl ?_
 show Calls _ _ #[_] _ _
 refine Yh Tryz.func99 rfl Tryz.ntmps99 rfl ?_
 refine Zd (fun K hK65 => ?_)
 refine Zf ?_
 refine Zb 1 rfl ?_
 refine Zg ?_
 refine Zc hK65 ?_
 refine Zd (fun K hK66 => ?_)
 refine Yn 18 [] (fun _ _ => True) ⟨by kernel_rfl, by kernel_rfl⟩ hS (fun w hS hB => ?_)
 refine Zr [true, true, true, true] (by decide +kernel) PFC.h ?_
 refine LtK.put rfl rfl rfl (Ze V8 rfl) ?_
 refine LtK.put rfl rfl rfl (Zh Vy rfl (Zhf _) hS Xi trivial Zc7) ?_
 refine LtK.put rfl rfl rfl (Ze Vf rfl) ?_
 refine LtK.put rfl rfl rfl (Zh Z3 rfl (Zhf _) hS Xi trivial Xu) ?_
 refine LtK.nil ?_
 refine Z5 [false, false, false, false, true] 4 ⟨by decide, by kernel_rfl, by kernel_rfl⟩ rfl rfl ?_
 try dsimp only [Zw]
 obtain ⟨r67, hm68, H⟩ := bind_some H
 refine Zn rfl rfl rfl rfl (by kernel_rfl) rfl (Zga x0.caps x0.n 0 2 A4_ c4_ _ (Zhh s4_.k (hS.rd0 s4_.rd) (hS.blk0 s4_.blk)) hm68) ?_
 rintro e w ⟨rfl, hN⟩; refine ⟨_, rfl, ?_⟩; obtain ⟨hB, hS⟩ := hS.jn hN
 refine Zg ?_
 refine Z6 hB ?_
 refine Zr [false, false, false, false, false, true] (by decide +kernel) PFC.h ?_
 refine LtK.put rfl rfl rfl (Zy rfl) ?_
 refine LtK.nil ?_
 refine Zc3 7 rfl (fun hb => ?_) (fun hb => ?_)
 rotate_left
 ·replace H := Zp H hb
  refine Zr [false, false, false, false, false, false, true, true, true, true, true, true, true, true, true, true, true, true] (by decide +kernel) PFC.h ?_
  refine LtK.skip rfl rfl rfl ?_
  refine LtK.skip rfl rfl rfl ?_
  refine LtK.skip rfl rfl rfl ?_
  refine LtK.skip rfl rfl rfl ?_
  refine LtK.skip rfl rfl rfl ?_
  refine LtK.skip rfl rfl rfl ?_
  refine LtK.skip rfl rfl rfl ?_
  refine LtK.skip rfl rfl rfl ?_
  refine LtK.skip rfl rfl rfl ?_
  refine LtK.skip rfl rfl rfl ?_
  refine LtK.put rfl rfl rfl (Xd rfl rfl rfl) ?_
  refine LtK.put rfl rfl rfl (Z2 rfl) ?_
  refine LtK.nil ?_
  refine Ye (by kernel_rfl) ?_
  refine Zc hK66 ?_
  refine Zk ?_
  refine Zm rfl (RV.tmp rfl RV.nil) rfl ?_
  refine ⟨_, rfl, ?_⟩
  refine Za rfl rfl rfl (Yo rfl) ?_
  refine Zg ?_
  refine Zc hK64 ?_
  refine Zu rfl rfl ?_
  refine Zd (fun K hK88 => ?_)
  refine Zf ?_
  refine Zb 1 rfl ?_
  refine Zg ?_
  refine Zc hK88 ?_
  refine Zk ?_
  refine Zz ?_
  refine Zj ?_
  refine Zj ?_
  refine Zz ?_
  refine Zj ?_
  refine Zm rfl (RV.tmp rfl RV.nil) rfl ?_
  obtain rfl := QJ H
  replace hS := hS.cut 0
  exact ⟨rfl, hS⟩
 replace H := Zo H hb
 refine Zr [false, false, false, false, false, false, true, true, true, true, true, true, true, true, true, true, true, true] (by decide +kernel) PFC.h ?_
 refine LtK.put rfl rfl rfl (Ze V8 rfl) ?_
 refine LtK.put rfl rfl rfl (Zh Vy rfl (Zhf _) hS Xi trivial Zc7) ?_
 refine LtK.put rfl rfl rfl (Ze Vo rfl) ?_
 refine LtK.put rfl rfl rfl (Zh Z3 rfl (Zhf _) hS Xi trivial Yx) ?_
 refine LtK.put rfl rfl rfl (Zcn rfl rfl) ?_
 obtain ⟨e69, hi71, H⟩ := bind_some H
 obtain ⟨j70, hi71a, hi71b, hi71c⟩ := Y0 hi71
 refine LtK.put rfl rfl rfl (Xh Vh rfl rfl hi71a hi71c (Rd.el (hS.rd0 s4_.rd) Y6 hi71b)) ?_
 refine LtK.put rfl rfl rfl (Zap Z3 rfl (Zhf _) (Rd.el (hS.rd0 s4_.rd) Y6 hi71b) rfl) ?_
 refine LtK.put rfl rfl rfl (Ze Zdy rfl) ?_
 refine LtK.put rfl rfl rfl (Zh Z3 rfl (Zhf _) hS Xi trivial Jb) ?_
 refine LtK.put rfl rfl rfl (Yr rfl rfl) ?_
 refine LtK.put rfl rfl rfl (Xf rfl rfl rfl) ?_
 refine LtK.put rfl rfl rfl (Z2 rfl) ?_
 refine LtK.nil ?_
 refine Ye (by kernel_rfl) ?_
 refine Zc hK66 ?_
 refine Zk ?_
 refine Zm rfl (RV.tmp rfl RV.nil) rfl ?_
 refine ⟨_, rfl, ?_⟩
 refine Za rfl rfl rfl (Yo rfl) ?_
 refine Zg ?_
 refine Zc hK64 ?_
 refine Z1 rfl (fun hb => ?_) (fun hb => ?_)
 ·replace H := Zo H hb
  refine Zd (fun K hK72 => ?_)
  refine Zf ?_
  refine Zb 1 rfl ?_
  refine Zg ?_
  refine Zc hK72 ?_
  refine Zk ?_
  refine Zz ?_
  refine Zj ?_
  refine Zj ?_
  refine Zz ?_
  refine Zj ?_
  refine Zm rfl (RV.tmp rfl RV.nil) rfl ?_
  obtain rfl := QJ H
  replace hS := hS.cut 0
  exact ⟨rfl, hS⟩
 replace H := Zp H hb
 refine Zs ?_
 refine Z4 ?_
 refine Zc hK62 ?_
 refine Zf ?_
 refine Za rfl rfl rfl (X8 rfl rfl) ?_
 refine Zb 1 rfl ?_
 refine Zg ?_
 refine Zfx ?_
 refine Zd (fun K hK73 => ?_)
 refine Zf ?_
 refine Za rfl rfl rfl (Xk rfl rfl) ?_
 refine Zg ?_
 refine Zc hK73 ?_
 refine Zd (fun K hK74 => ?_)
 refine Zu rfl rfl ?_
 refine Zs ?_
 refine Zc hK74 ?_
 refine Zd (fun K hK75 => ?_)
 refine Yc ?_
 refine Zd (fun K hK76 => ?_)
 refine Zf ?_
 refine Za rfl rfl rfl (Zhc (n := 6) (e := 34) (j := 5) (by kernel_rfl) (by kernel_rfl) (by kernel_rfl) rfl rfl rfl (by decide) rfl) ?_
 refine Zb 1 rfl ?_
 refine Zg ?_
 refine Zc hK76 ?_
 refine Zd (fun K hK77 => ?_)
 refine Zf ?_
 refine Zb 1 rfl ?_
 refine Zcm rfl rfl rfl rfl (by kernel_rfl) rfl ?_
 show Calls _ _ #[_] _ _
 refine Yh Tryz.func100 rfl Tryz.ntmps100 rfl ?_
 refine Zd (fun K hK78 => ?_)
 refine Zf ?_
 refine Zb 1 rfl ?_
 refine Zg ?_
 refine Zc hK78 ?_
 refine Zd (fun K hK79 => ?_)
 refine Zf ?_
 refine Za rfl rfl rfl (Ze Vv rfl) ?_
 refine Za rfl rfl rfl (Zh Zas rfl (Zhe _) hS Xi trivial Jt) ?_
 refine Za rfl rfl rfl (Yr rfl rfl) ?_
 refine Zb 1 rfl ?_
 refine Zq 5 rfl (fun hb => ?_) (fun hb => ?_)
 ·replace H := Zo H hb
  refine Zb 14 rfl ?_
  refine Zg ?_
  refine Zc hK79 ?_
  refine Zk ?_
  refine Zm rfl (RV.tmp rfl RV.nil) rfl ?_
  refine ⟨_, rfl, ?_⟩
  refine Za rfl rfl rfl (Yo rfl) ?_
  refine Zg ?_
  refine Zc hK77 ?_
  refine Yg rfl rfl ?_
  refine Zs ?_
  refine Z4 ?_
  refine Zc hK75 ?_
  refine Zf ?_
  refine Za rfl rfl rfl (X8 rfl rfl) ?_
  refine Zb 1 rfl ?_
  refine Zg ?_
  refine Zfx ?_
  refine Zd (fun K hK80 => ?_)
  refine Zf ?_
  refine Za rfl rfl rfl (Xk rfl rfl) ?_
  refine Zg ?_
  refine Zc hK80 ?_
  refine Zd (fun K hK81 => ?_)
  refine Yg rfl rfl ?_
  refine X0 ?_
  refine Z9 ?_
  refine Z9 ?_
  refine Yy ?_
  refine Zc hK9 ?_
  refine Zd (fun K hK82 => ?_)
  refine Zf ?_
  refine Zb 1 rfl ?_
  refine Zg ?_
  refine Zc hK82 ?_
  refine Zk ?_
  refine Zm rfl (RV.tmp rfl RV.nil) rfl ?_
  obtain rfl := QJ H
  replace hS := hS.cut 0
  exact ⟨rfl, hS⟩
 replace H := Zp H hb
 refine Za rfl rfl rfl (Ze Yq rfl) ?_
 refine Za rfl rfl rfl (Ze Xl rfl) ?_
 refine Za rfl rfl rfl (Zh Z3 rfl (Zhe _) hS Xi trivial Vz) ?_
 refine Za rfl rfl rfl (Y7 rfl rfl) ?_
 refine Zb 1 rfl ?_
 refine Zq 10 rfl (fun hb => ?_) (fun hb => ?_)
 rotate_left
 ·replace H := Zp H hb
  refine Zb 9 rfl ?_
  refine Zg ?_
  refine Zc hK79 ?_
  refine Zk ?_
  refine Zm rfl (RV.tmp rfl RV.nil) rfl ?_
  refine ⟨_, rfl, ?_⟩
  refine Za rfl rfl rfl (Yo rfl) ?_
  refine Zg ?_
  refine Zc hK77 ?_
  refine Zu rfl rfl ?_
  refine Zd (fun K hK87 => ?_)
  refine Zf ?_
  refine Zb 1 rfl ?_
  refine Zg ?_
  refine Zc hK87 ?_
  refine Zk ?_
  refine Zz ?_
  refine Zj ?_
  refine Zj ?_
  refine Zz ?_
  refine Zj ?_
  refine Zm rfl (RV.tmp rfl RV.nil) rfl ?_
  obtain rfl := QJ H
  replace hS := hS.cut 0
  exact ⟨rfl, hS⟩
 replace H := Zo H hb
 refine Za rfl rfl rfl (Ze Yq rfl) ?_
 refine Za rfl rfl rfl (Ze Vp rfl) ?_
 refine Za rfl rfl rfl (Zh Z3 rfl (Zhe _) hS Xi trivial sg11_1) ?_
 refine Za rfl rfl rfl (Ze Vo rfl) ?_
 refine Za rfl rfl rfl (Zh Z3 rfl (Zhe _) hS Xi trivial Yx) ?_
 refine Za rfl rfl rfl (Yr rfl rfl) ?_
 refine Zb 3 rfl ?_
 refine Zg ?_
 refine Zc hK79 ?_
 refine Zk ?_
 refine Zm rfl (RV.tmp rfl RV.nil) rfl ?_
 refine ⟨_, rfl, ?_⟩
 refine Za rfl rfl rfl (Yo rfl) ?_
 refine Zg ?_
 refine Zc hK77 ?_
 refine Z1 rfl (fun hb => ?_) (fun hb => ?_)
 ·replace H := Zo H hb
  refine Zd (fun K hK83 => ?_)
  refine Zf ?_
  refine Zb 1 rfl ?_
  refine Zg ?_
  refine Zc hK83 ?_
  refine Zk ?_
  refine Zz ?_
  refine Zj ?_
  refine Zj ?_
  refine Zz ?_
  refine Zj ?_
  refine Zm rfl (RV.tmp rfl RV.nil) rfl ?_
  obtain rfl := QJ H
  replace hS := hS.cut 0
  exact ⟨rfl, hS⟩
 replace H := Zp H hb
 refine Zs ?_
 refine Z4 ?_
 refine Zc hK75 ?_
 refine Zf ?_
 refine Za rfl rfl rfl (X8 rfl rfl) ?_
 refine Zb 1 rfl ?_
 refine Zg ?_
 refine Zfx ?_
 refine Zd (fun K hK84 => ?_)
 refine Zf ?_
 refine Za rfl rfl rfl (Xk rfl rfl) ?_
 refine Zg ?_
 refine Zc hK84 ?_
 refine Zd (fun K hK85 => ?_)
 refine Yg rfl rfl ?_
 refine X0 ?_
 refine Z9 ?_
 refine Z9 ?_
 refine Yy ?_
 refine Zc hK9 ?_
 refine Zd (fun K hK86 => ?_)
 refine Zf ?_
 refine Zb 1 rfl ?_
 refine Zg ?_
 refine Zc hK86 ?_
 refine Zk ?_
 refine Zm rfl (RV.tmp rfl RV.nil) rfl ?_
 obtain rfl := QJ H
 replace hS := hS.cut 0
 exact ⟨rfl, hS⟩
theorem c_elect_votes (x0 : List Bool) (A0_ : OA) (c0_ : Nat) (w0 : World) (s0_ : SlI w0 enO A0_ c0_ x0) : Calls Tryz.prog 69 #[.slice A0_ x0.length c0_] w0 fun e w' => ∃ (b0_ : Nat), e = .returned (.func (.func 112) #[] #[.pointer (some ⟨b0_, 0, none⟩)]) ∧ St0 All w0 w' [.box b0_ [.slice A0_ x0.length c0_] 27] := by
 refine Yh Tryz.func69 rfl Tryz.ntmps69 rfl ?_
 have hS := St0.start All w0
 refine Zd (fun K hK1 => ?_)
 refine Zf ?_
 refine Z7 rfl rfl rfl CellsOf.slice hS (fun b2 w hS hB => ?_)
 refine Zb 1 rfl ?_
 refine Zg ?_
 refine Zc hK1 ?_
 refine Zd (fun K hK4 => ?_)
 refine Zf ?_
 refine Za rfl rfl rfl (Vn rfl rfl) ?_
 refine Zb 1 rfl ?_
 refine Zg ?_
 refine Zc hK4 ?_
 refine Zk ?_
 refine Zm rfl (RV.tmp rfl RV.nil) rfl ?_
 exact ⟨b2, rfl, hS.sub (List.Sublist.cons_cons _ List.Sublist.slnil)⟩
theorem Zc9 (x0 : List Bool) (A0_ : OA) (c0_ : Nat) (w0 : World) (s0_ : SlI w0 enO A0_ c0_ x0) {r : Bool} (H : Zav x0 = some r) : Calls Tryz.prog 21 #[.slice A0_ x0.length c0_] w0 fun e w' => e = .returned (.bool r) ∧ St0 All w0 w' [] := by
 unfold Zav at H
 refine Yh Tryz.func21 rfl Tryz.ntmps21 rfl ?_
 have hS := St0.start All w0
 refine Zd (fun K hK1 => ?_)
 refine Zf ?_
 refine Zb 1 rfl ?_
 refine Zg ?_
 refine Zc hK1 ?_
 refine Zd (fun K hK2 => ?_)
 refine Zf ?_
 refine Yd rfl rfl zc_3 hS (fun b3 w hS hB => ?_)
 refine Zl rfl rfl rfl CellsOf.int hS ps0 Zeb (by kernel_rfl) rfl (fun w hS hB => ?_)
 refine Zg ?_
 refine Zc hK2 ?_
 refine Zd (fun K hK5 => ?_)
 refine Zd (fun K hK6 => ?_)
 refine Zf ?_
 refine Zb 1 rfl ?_
 have hM7 := hS
 refine Zn rfl rfl rfl rfl (by kernel_rfl) rfl (c_elect_votes x0 A0_ c0_ _ (Zhh s0_.k (hS.rd0 s0_.rd) (hS.blk0 s0_.blk))) ?_
 rintro e w ⟨b9, rfl, hN8⟩; refine ⟨_, rfl, ?_⟩; have hB := hN8.pure; have hS := hS.join hN8
 refine Zg ?_
 refine Zc hK6 ?_
 refine Yc ?_
 obtain ⟨xs13, hx14, H⟩ := bind_some H
 refine wpC_range (w0 := w0) (X := Int) rfl (by kernel_rfl) (it_votes x0 _ _ _ s0_ hM7.pure b9 hN8 hx14) ⟨hM7.size, hN8.size⟩ (fun _ => rfl) (by kernel_rfl) (fun k x => .box b3 [.int .i64 x] 3 :: []) (fun k x => Jn x0 (xs13.drop k) x = some r) (fun _ _ => []) (fun _ _ => False) (fun _ => False) 0 ⟨hS.sub (List.Sublist.cons _ (List.Sublist.cons_cons _ List.Sublist.slnil)), fun e he k hk => .inl (hM7.rng e he k hk).1⟩ H ?_ ?_ (fun _ _ _ h _ => h.elim) (fun _ _ h _ => h.elim)
 ·rintro lo k e11 v12 A hke H hzB hRB hS
  dsimp only at hRB H ⊢
  rw [drop_of_get hke, Jn] at H
  dsimp only [List.zip, List.zipWith, List.foldl]
  refine Zs ?_
  refine QH_asg hS ?_
  rintro A2 hS hBase hE
  dsimp only [List.cons_append, List.nil_append] at hS
  refine Yc ?_
  refine Zby (by repeat (first | exact NL.round | exact NL.false | exact NL.body (by intro _ h; simp at h) | apply NL.then | apply NL.inBlock | apply NL.jump)) (by kernel_rfl) ?_
  refine Za rfl rfl rfl (Zh Z3 rfl (Zhe _) hS hs0 trivial Yx) ?_
  refine Za rfl rfl rfl (X8 rfl rfl) ?_
  refine Zl rfl rfl rfl CellsOf.int hS ps0 Zeb (by kernel_rfl) rfl (fun w hS hB => ?_)
  refine Zg ?_
  refine Z4 ?_
  exact QH_round hBase hE hS (IntKind.wrap .i64 (v12 + 1)) (List.Sublist.cons_cons _ List.Sublist.slnil) H
 ·rintro v12 A H hS
  dsimp only at hS H ⊢
  rw [List.drop_length, Jn] at H
  refine Z4 ?_
  refine Zc hK5 ?_
  refine Zd (fun K hK16 => ?_)
  refine Zf ?_
  refine Za rfl rfl rfl (Zh Z3 rfl (Zhe _) hS Y2 trivial Yx) ?_
  refine Za rfl rfl rfl (yx_mul rfl rfl) ?_
  refine Zb 1 rfl ?_
  refine Za rfl rfl rfl (Yz Zbs rfl) ?_
  refine Za rfl rfl rfl (Y7 rfl rfl) ?_
  refine Zb 1 rfl ?_
  refine Zg ?_
  refine Zc hK16 ?_
  refine Zk ?_
  refine QH_shut (.inl rfl) hS ps0 (fun w hS => ?_)
  replace hS := hS.sub (List.Sublist.cons _ (List.Sublist.cons_cons _ List.Sublist.slnil))
  refine Zm rfl (RV.tmp rfl RV.nil) rfl ?_
  obtain rfl := QJ H
  replace hS := hS.cut 0
  exact ⟨rfl, hS⟩
theorem Zf0 (x0 : Co) (A0_ : OA) (c0_ : Nat) (A1_ : OA) (c1_ : Nat) (A2_ : OA) (c2_ : Nat) (A3_ : OA) (c3_ : Nat) (A4_ : OA) (c4_ : Nat) (w0 : World) (s0_ : SlI w0 V3 A0_ c0_ x0.tuple.log) (s1_ : SlI w0 enO A1_ c1_ x0.votes) (s2_ : SlI w0 X2 A2_ c2_ x0.next) (s3_ : SlI w0 X2 A3_ c3_ x0.mtch) (s4_ : SlI w0 X2 A4_ c4_ x0.caps) {r : Co} (H : Vi x0 = some r) : Calls Tryz.prog 19 #[.agg #[.int .i64 x0.id, .int .i64 x0.n, .int .u8 x0.role, .int .i64 x0.binary, .int .i64 x0.tuple.snap.index, .int .i64 x0.tuple.snap.term, .int .i64 x0.tuple.snap.sum, .int .i64 x0.tuple.snap.level, .bool x0.tuple.snap.final, .slice A0_ x0.tuple.log.length c0_, .int .i64 x0.tuple.term, .int .i64 x0.tuple.vote, .int .i64 x0.commit, .int .i64 x0.applied.index, .int .i64 x0.applied.term, .int .i64 x0.applied.sum, .int .i64 x0.applied.level, .bool x0.applied.final, .slice A1_ x0.votes.length c1_, .slice A2_ x0.next.length c2_, .slice A3_ x0.mtch.length c3_, .slice A4_ x0.caps.length c4_]] w0 fun e w' => ∃ (A0 : OA) (c0 : Nat) (A1 : OA) (c1 : Nat) (A2 : OA) (c2 : Nat) (A3 : OA) (c3 : Nat) (A4 : OA) (c4 : Nat), e = .returned (.agg #[.int .i64 r.id, .int .i64 r.n, .int .u8 r.role, .int .i64 r.binary, .int .i64 r.tuple.snap.index, .int .i64 r.tuple.snap.term, .int .i64 r.tuple.snap.sum, .int .i64 r.tuple.snap.level, .bool r.tuple.snap.final, .slice A0 r.tuple.log.length c0, .int .i64 r.tuple.term, .int .i64 r.tuple.vote, .int .i64 r.commit, .int .i64 r.applied.index, .int .i64 r.applied.term, .int .i64 r.applied.sum, .int .i64 r.applied.level, .bool r.applied.final, .slice A1 r.votes.length c1, .slice A2 r.next.length c2, .slice A3 r.mtch.length c3, .slice A4 r.caps.length c4]) ∧ (r.tuple.log.length ≤ c0 ∧ c0 ≤ maxLen) ∧ (r.votes.length ≤ c1 ∧ c1 ≤ maxLen) ∧ (r.next.length ≤ c2 ∧ c2 ≤ maxLen) ∧ (r.mtch.length ≤ c3 ∧ c3 ≤ maxLen) ∧ (r.caps.length ≤ c4 ∧ c4 ≤ maxLen) ∧ St0 All w0 w' [.rd A0 (Yf V3 r.tuple.log), .row (.slice A1 r.votes.length c1) 4 1 r.votes.length (Yf enO r.votes), .row (.slice A2 r.next.length c2) 3 1 r.next.length (Yf X2 r.next), .row (.slice A3 r.mtch.length c3) 3 1 r.mtch.length (Yf X2 r.mtch), .row (.slice A4 r.caps.length c4) 3 1 r.caps.length (Yf X2 r.caps)] := by
 unfold Vi at H
 refine Yh Tryz.func19 rfl Tryz.ntmps19 rfl ?_
 have hS := St0.start All w0
 refine Zd (fun K hK1 => ?_)
 refine Zf ?_
 refine Z7 rfl rfl rfl CellsOf.agg hS (fun b2 w hS hB => ?_)
 refine Yd rfl rfl Zbx hS (fun b4 w hS hB => ?_)
 refine Zg ?_
 refine Zc hK1 ?_
 refine Zd (fun K hK6 => ?_)
 refine Zf ?_
 refine Za rfl rfl rfl (Zi Zx rfl (Zhe _) hS Y2 trivial Zv) ?_
 obtain ⟨r7, hm8, H⟩ := bind_some H
 refine Zn rfl rfl rfl rfl (by kernel_rfl) rfl (Zd8 x0 A0_ c0_ A1_ c1_ A2_ c2_ A3_ c3_ A4_ c4_ _ (Zhh s0_.k (hS.rd0 s0_.rd) (hS.blk0 s0_.blk)) (Zhh s1_.k (hS.rd0 s1_.rd) (hS.blk0 s1_.blk)) (Zhh s2_.k (hS.rd0 s2_.rd) (hS.blk0 s2_.blk)) (Zhh s3_.k (hS.rd0 s3_.rd) (hS.blk0 s3_.blk)) (Zhh s4_.k (hS.rd0 s4_.rd) (hS.blk0 s4_.blk)) hm8) ?_
 rintro e w ⟨A9, c10, A13, c14, A17, c18, A21, c22, A25, c26, rfl, k11, k15, k19, k23, k27, hN⟩; refine ⟨_, rfl, ?_⟩; obtain ⟨hB, hS⟩ := hS.jn hN
 refine Zl rfl rfl rfl CellsOf.agg hS ps6 Z8 (by kernel_rfl) rfl (fun w hS hB => ?_)
 refine Zg ?_
 refine Zc hK6 ?_
 refine Zd (fun K hK29 => ?_)
 refine Zd (fun K hK30 => ?_)
 refine Zf ?_
 refine Za rfl rfl rfl (Ze Vv rfl) ?_
 refine Za rfl rfl rfl (Zh Zas rfl (Zhe _) hS Jy trivial Jt) ?_
 refine Za rfl rfl rfl (Xm rfl rfl) ?_
 refine Zb 1 rfl ?_
 refine Zq 12 rfl (fun hb => ?_) (fun hb => ?_)
 ·replace H := Zo H hb
  refine Zb 4 rfl ?_
  refine Zg ?_
  refine Zc hK30 ?_
  refine Zu rfl rfl ?_
  refine Zd (fun K hK31 => ?_)
  refine Zf ?_
  refine Za rfl rfl rfl (Zi Zx rfl (Zhe _) hS Jy trivial Zv) ?_
  refine Zl rfl rfl rfl CellsOf.agg hS ps5 Z8 (by kernel_rfl) rfl (fun w hS hB => ?_)
  refine Zg ?_
  refine Zc hK31 ?_
  refine Zk ?_
  refine Zj ?_
  refine Zm rfl (RV.cell rfl (Zt Zx hS hs5 Zv) RV.nil) rfl ?_
  obtain rfl := QJ H
  have hS := hS.front 4 rfl
  have hS := hS.front 4 rfl
  have hS := hS.front 4 rfl
  have hS := hS.front 4 rfl
  have hS := hS.front 4 rfl
  replace hS := hS.weak Weak.rowRd
  replace hS := hS.cut 5
  exact ⟨A9, c10, A13, c14, A17, c18, A21, c22, A25, c26, rfl, k11, k15, k19, k23, k27, hS⟩
 replace H := Zp H hb
 refine Za rfl rfl rfl (Zi Zx rfl (Zhe _) hS Jy trivial Zv) ?_
 obtain ⟨r32, hm33, H⟩ := bind_some H
 refine Zn rfl rfl rfl rfl (by kernel_rfl) rfl (Zd9 r7 A9 c10 A13 c14 A17 c18 A21 c22 A25 c26 _ (Zhh k11 (hS.row_rd hs0) (hS.row_blk hs0)) (Zhh k15 (hS.row_rd Y2) (hS.row_blk Y2)) (Zhh k19 (hS.row_rd Xi) (hS.row_blk Xi)) (Zhh k23 (hS.row_rd hs3) (hS.row_blk hs3)) (Zhh k27 (hS.row_rd Jq) (hS.row_blk Jq)) hm33) ?_
 rintro e w ⟨rfl, hN⟩; refine ⟨_, rfl, ?_⟩; obtain ⟨hB, hS⟩ := hS.jn hN
 refine Za rfl rfl rfl (Yo rfl) ?_
 refine Zb 1 rfl ?_
 refine Zg ?_
 refine Zc hK30 ?_
 refine Z1 rfl (fun hb => ?_) (fun hb => ?_)
 ·replace H := Zo H hb
  refine Zd (fun K hK34 => ?_)
  refine Zf ?_
  refine Za rfl rfl rfl (Zi Zx rfl (Zhe _) hS Jy trivial Zv) ?_
  refine Zl rfl rfl rfl CellsOf.agg hS ps5 Z8 (by kernel_rfl) rfl (fun w hS hB => ?_)
  refine Zg ?_
  refine Zc hK34 ?_
  refine Zk ?_
  refine Zj ?_
  refine Zm rfl (RV.cell rfl (Zt Zx hS hs5 Zv) RV.nil) rfl ?_
  obtain rfl := QJ H
  have hS := hS.front 4 rfl
  have hS := hS.front 4 rfl
  have hS := hS.front 4 rfl
  have hS := hS.front 4 rfl
  have hS := hS.front 4 rfl
  replace hS := hS.weak Weak.rowRd
  replace hS := hS.cut 5
  exact ⟨A9, c10, A13, c14, A17, c18, A21, c22, A25, c26, rfl, k11, k15, k19, k23, k27, hS⟩
 replace H := Zp H hb
 refine Zs ?_
 refine Zc hK29 ?_
 refine Zd (fun K hK35 => ?_)
 refine Zf ?_
 refine Za rfl rfl rfl (Ze Yq rfl) ?_
 refine Za rfl rfl rfl (Zi Yp rfl (Zhe _) hS Jy trivial Zbt) ?_
 refine Za rfl rfl rfl (Ze Yq rfl) ?_
 refine Za rfl rfl rfl (Ze Xl rfl) ?_
 refine Za rfl rfl rfl (Zh Z3 rfl (Zhe _) hS Jy trivial Vz) ?_
 refine Za rfl rfl rfl (Xn (cells := [.int .i64 r7.tuple.term, .int .i64 0, .int .i64 0]) rfl (by kernel_rfl)) ?_
 refine Ym (ps := [(0, .tmp 24)]) [.int .i64 r7.tuple.term, .int .i64 0, .int .i64 0] Xq zc_53 rfl rfl rfl rfl rfl (by kernel_rfl) hS (fun b36 w hS hB => ?_)
 obtain ⟨r38, hm39, H⟩ := bind_some H
 refine Zn rfl rfl rfl rfl (by kernel_rfl) rfl (c_tuple_Append r7.tuple ([(⟨r7.tuple.term, 0, 0⟩ : En)] : List En) A9 c10 (some ⟨b36, 0, none⟩) 1 _ (Zhh k11 (hS.row_rd Y2) (hS.row_blk Y2)) (Zhh ⟨Nat.le_refl 1, by decide⟩ (hS.box_rd hs0) (hS.box_blk hs0)) hm39) ?_
 rintro e w ⟨A40, c41, rfl, k42, hN⟩; refine ⟨_, rfl, ?_⟩; obtain ⟨hB, hS⟩ := hS.jn hN
 refine Zb 1 rfl ?_
 refine Za rfl rfl rfl (Z0 rfl rfl) ?_
 refine Za rfl rfl rfl (Z0 rfl rfl) ?_
 refine Yd rfl rfl Zeq hS (fun b44 w hS hB => ?_)
 refine Zl rfl rfl rfl CellsOf.agg hS ps0 Zag (by kernel_rfl) rfl (fun w hS hB => ?_)
 refine Zb 1 rfl ?_
 refine Zg ?_
 refine Zc hK35 ?_
 refine Zd (fun K hK46 => ?_)
 refine Zd (fun K hK47 => ?_)
 refine Zf ?_
 refine Zb 1 rfl ?_
 refine Za rfl rfl rfl (Xm rfl rfl) ?_
 refine Zg ?_
 refine Zc hK47 ?_
 refine Z1 rfl (fun hb => ?_) (fun hb => ?_)
 ·replace H := Zo H hb
  refine Zd (fun K hK48 => ?_)
  refine Zf ?_
  refine Za rfl rfl rfl (Ze Vv rfl) ?_
  refine Zl rfl rfl rfl CellsOf.int hS ps9 Zgz (by kernel_rfl) rfl (fun w hS hB => ?_)
  refine Zg ?_
  refine Zc hK48 ?_
  refine Zd (fun K hK49 => ?_)
  refine Zf ?_
  refine Za rfl rfl rfl (Zi Zx rfl (Zhe _) hS hs9 trivial Zv) ?_
  refine Zl rfl rfl rfl CellsOf.agg hS ps8 Z8 (by kernel_rfl) rfl (fun w hS hB => ?_)
  refine Zg ?_
  refine Zc hK49 ?_
  refine Zk ?_
  refine Zj ?_
  refine Zm rfl (RV.cell rfl (Zt Zx hS hs8 Zv) RV.nil) rfl ?_
  obtain rfl := QJ H
  have hS := hS.front 7 rfl
  have hS := hS.front 7 rfl
  have hS := hS.front 7 rfl
  have hS := hS.front 7 rfl
  have hS := hS.front 7 rfl
  replace hS := hS.weak Weak.rowRd
  replace hS := hS.cut 5
  exact ⟨A9, c10, A13, c14, A17, c18, A21, c22, A25, c26, rfl, k11, k15, k19, k23, k27, hS⟩
 replace H := Zp H hb
 refine Zs ?_
 refine Zc hK46 ?_
 refine Zd (fun K hK50 => ?_)
 refine Zf ?_
 refine Za rfl rfl rfl (Zi Yp rfl (Zhe _) hS hs0 trivial Xe) ?_
 refine Za rfl rfl rfl (Ze Yq rfl) ?_
 refine Zl rfl rfl rfl CellsOf.agg hS ps9 st4_8 (by kernel_rfl) rfl (fun w hS hB => ?_)
 refine Za rfl rfl rfl (Ze Vv rfl) ?_
 refine Zl rfl rfl rfl CellsOf.int hS ps9 Zgz (by kernel_rfl) rfl (fun w hS hB => ?_)
 refine Zg ?_
 refine Zc hK50 ?_
 refine Zd (fun K hK51 => ?_)
 refine Zf ?_
 refine Za rfl rfl rfl (Zi Yp rfl (Zhe _) hS hs0 trivial Xe) ?_
 obtain ⟨r52, hm53, H⟩ := bind_some H
 refine Zn rfl rfl rfl rfl (by kernel_rfl) rfl (Zfz r38.1 A40 c41 _ (Zhh k42 (hS.rd Y2) (hS.rd_blk Y2)) hm53) ?_
 rintro e w ⟨rfl, hN⟩; refine ⟨_, rfl, ?_⟩; obtain ⟨hB, hS⟩ := hS.jn hN
 refine Zb 1 rfl ?_
 refine Zg ?_
 refine Zc hK51 ?_
 refine Zd (fun K hK54 => ?_)
 refine Zd (fun K hK55 => ?_)
 refine Zf ?_
 refine Za rfl rfl rfl (Ze Vf rfl) ?_
 refine Za rfl rfl rfl (Zh Z3 rfl (Zhe _) hS hs9 trivial Xu) ?_
 refine Zb 1 rfl ?_
 refine Zg ?_
 refine Zc hK55 ?_
 refine Yc ?_
 refine V7 (X := Nat × Int × List Int × List Int) (fun x => (1, .pointer (some ⟨b2, 0, none⟩)) :: (2, .pointer (some ⟨b4, 0, none⟩)) :: (5, .int .i64 r52) :: (39, .int .i64 r7.n) :: (40, .int .i64 x.2.1) :: []) (fun x w => St0 All w0 w (.box b44 [.int .i64 r38.1.snap.index, .int .i64 r38.1.snap.term, .int .i64 r38.1.snap.sum, .int .i64 r38.1.snap.level, .bool r38.1.snap.final, .slice A40 r38.1.log.length c41, .int .i64 r38.1.term, .int .i64 r38.1.vote] 26 :: .rd A40 (Yf V3 r38.1.log) :: .box b36 [.int .i64 r7.tuple.term, .int .i64 0, .int .i64 0] 53 :: .row (.slice A9 r7.tuple.log.length c10) 53 3 r7.tuple.log.length (Yf V3 r7.tuple.log) :: .row (.slice A13 r7.votes.length c14) 4 1 r7.votes.length (Yf enO r7.votes) :: .row (.slice A17 r7.next.length c18) 3 1 r7.next.length (Yf X2 x.2.2.1) :: .row (.slice A21 r7.mtch.length c22) 3 1 r7.mtch.length (Yf X2 x.2.2.2) :: .row (.slice A25 r7.caps.length c26) 3 1 r7.caps.length (Yf X2 r7.caps) :: .box b4 [.int .i64 0, .int .i64 0, .int .u8 0, .int .i64 0, .int .i64 0, .int .i64 0, .int .i64 0, .int .i64 0, .bool false, .slice none 0 0, .int .i64 0, .int .i64 0, .int .i64 0, .int .i64 0, .int .i64 0, .int .i64 0, .int .i64 0, .bool false, .slice none 0 0, .slice none 0 0, .slice none 0 0, .slice none 0 0] 30 :: .box b2 [.int .i64 r7.id, .int .i64 r7.n, .int .u8 2, .int .i64 r7.binary, .int .i64 r38.1.snap.index, .int .i64 r38.1.snap.term, .int .i64 r38.1.snap.sum, .int .i64 r38.1.snap.level, .bool r38.1.snap.final, .slice A40 r38.1.log.length c41, .int .i64 r38.1.term, .int .i64 r38.1.vote, .int .i64 r7.commit, .int .i64 r7.applied.index, .int .i64 r7.applied.term, .int .i64 r7.applied.sum, .int .i64 r7.applied.level, .bool r7.applied.final, .slice A13 r7.votes.length c14, .slice A17 r7.next.length c18, .slice A21 r7.mtch.length c22, .slice A25 r7.caps.length c26] 30 :: []) ∧ (x.2.2.1.length ≤ c18 ∧ c18 ≤ maxLen) ∧ (x.2.2.1.length = r7.next.length) ∧ (x.2.2.2.length ≤ c22 ∧ c22 ≤ maxLen) ∧ (x.2.2.2.length = r7.mtch.length) ∧ Zao r7 r38 r52 x.1 x.2.1 x.2.2.1 x.2.2.2 = some r) (fun x => x.1) (Xw, 0, r7.next, r7.mtch) (by repeat (first | exact Sub.nil | refine Sub.cons rfl ?_)) ⟨hS, k19, rfl, k23, rfl, H⟩ ?_
 rintro ⟨n, v56, v57, v60⟩ w ⟨hS, k58, hl59, k61, hl62, H⟩
 dsimp only at hS k58 hl59 k61 hl62 H ⊢
 obtain _ | n := n
 ·have H0 : none = some r := H
  cases H0
 rw [Zao] at H
 refine Zd (fun K hK63 => ?_)
 refine Zf ?_
 refine Za rfl rfl rfl (Xk rfl rfl) ?_
 refine Zg ?_
 refine Zc hK63 ?_
 refine Zd (fun K hK64 => ?_)
 refine Z1 rfl (fun hb => ?_) (fun hb => ?_)
 rotate_left
 ·replace H := Zp H hb
  refine X0 ?_
  refine Z9 ?_
  refine Z9 ?_
  refine Yy ?_
  refine Zc hK54 ?_
  refine Zd (fun K hK73 => ?_)
  refine Zf ?_
  refine Za rfl rfl rfl (Ze Zbf rfl) ?_
  refine Za rfl rfl rfl (Zh Vy rfl (Zhe _) hS hs9 trivial Zec) ?_
  refine Za rfl rfl rfl (Ze Vo rfl) ?_
  refine Za rfl rfl rfl (Zh Z3 rfl (Zhe _) hS hs9 trivial Yx) ?_
  refine Za rfl rfl rfl (Zcn rfl rfl) ?_
  refine Zb 1 rfl ?_
  obtain ⟨e74, hi76, H⟩ := bind_some H
  obtain ⟨j75, hi76a, hi76b, hi76c⟩ := Y0 hi76
  refine Za rfl rfl rfl (Xh Vh rfl rfl hi76a (Nat.lt_of_lt_of_eq hi76c hl62) (Rd.el (hS.row_rd Jy) Y6 hi76b)) ?_
  refine Zcd (a' := r52) (zs := (Vw v60 (IntKind.wrap .i64 (r7.id - 1)) r52)) Y6 rfl rfl rfl CellsOf.int hS ps6 (Rd.el (hS.row_rd Jy) Y6 hi76b) hi76a hi76b rfl Zeb (by kernel_rfl) rfl (fun w hS => ?_)
  refine Zg ?_
  refine Zc hK73 ?_
  refine Zd (fun K hK77 => ?_)
  refine Zf ?_
  refine Za rfl rfl rfl (Zi Zx rfl (Zhe _) hS hs9 trivial Zv) ?_
  refine Zl rfl rfl rfl CellsOf.agg hS ps8 Z8 (by kernel_rfl) rfl (fun w hS hB => ?_)
  refine Zg ?_
  refine Zc hK77 ?_
  refine Zk ?_
  refine Zm rfl (RV.cell rfl (Zt Zx hS hs8 Zv) RV.nil) rfl ?_
  obtain rfl := QJ H
  have hS := hS.front 7 rfl
  have hS := hS.front 7 rfl
  have hS := hS.front 7 rfl
  have hS := hS.front 7 rfl
  have hS := hS.front 5 rfl
  replace hS := hS.cut 5
  exact ⟨A40, c41, A13, c14, A17, c18, A21, c22, A25, c26, by rw [hl59, (Y8 hl62)]; rfl, k42, k15, k58, (Za7 k61), k27, hS.eqv (by rw [hl59, (Y8 hl62)]; rfl)⟩
 replace H := Zo H hb
 refine Zs ?_
 refine Zc hK64 ?_
 refine Zd (fun K hK65 => ?_)
 refine Yc ?_
 refine Zd (fun K hK66 => ?_)
 refine Zf ?_
 refine Zb 2 rfl ?_
 refine Zg ?_
 refine Zc hK66 ?_
 refine Yn 12 [9, 11] (fun i b => (i = 9 → b = b44 ∨ b = b36 ∨ b = b4 ∨ b = b2) ∧ (i = 11 → b = b44 ∨ b = b36 ∨ b = b4 ∨ b = b2)) ⟨by kernel_rfl, by kernel_rfl⟩ hS (fun w hS hB => ?_)
 refine Zr [true, true, true, false, false, false, true, true, true] (by decide +kernel) PFC.h ?_
 refine LtK.put rfl rfl rfl (Ze Zce rfl) ?_
 refine LtK.put rfl rfl rfl (Zh Vy rfl (Zhf _) hS hs9 trivial Zfm) ?_
 refine LtK.put rfl rfl rfl (Zy rfl) ?_
 refine LtK.put rfl rfl rfl (Zy rfl) ?_
 refine LtK.put rfl rfl rfl (X8 rfl rfl) ?_
 obtain ⟨e67, hi69, H⟩ := bind_some H
 obtain ⟨j68, hi69a, hi69b, hi69c⟩ := Y0 hi69
 refine LtK.put rfl rfl rfl (Xh Vh rfl rfl hi69a (Nat.lt_of_lt_of_eq hi69c hl59) (Rd.el (hS.row_rd hs5) Y6 hi69b)) ?_
 refine LtK.nil ?_
 refine Y1 [false, false, false, true, true, true] [9] (fun b => (b = b44 ∨ b = b36 ∨ b = b4 ∨ b = b2)) (by decide +kernel) (by intro j hj b hb; simp only [List.mem_cons, List.not_mem_nil, or_false] at hj; (try rcases hj with rfl | rfl | rfl | rfl | rfl) <;> first | (simp [hb]; done) | simp_all) PFC.h ?_
 refine LtK.put rfl rfl rfl (Ze Zbf rfl) ?_
 refine LtK.put rfl rfl rfl (Zh Vy rfl (Zhg _ _) hS hs9 (.inr (.inr (.inr (rfl)))) Zec) ?_
 refine LtK.put rfl rfl rfl (Zy rfl) ?_
 refine LtK.nil ?_
 refine Yk [false, false, false, false, false, false, false, false, false, true] 9 ⟨by decide, by kernel_rfl, by kernel_rfl⟩ rfl rfl ?_
 try dsimp only [Zw]
 refine Ze8 (a' := (IntKind.wrap .i64 (r52 + 1))) (zs := (Vw v57 v56 (IntKind.wrap .i64 (r52 + 1)))) Y6 rfl rfl rfl CellsOf.int hS ps5 (Rd.el (hS.row_rd hs5) Y6 hi69b) hi69a hi69b rfl Zeb (by kernel_rfl) rfl (fun w hS hB => ?_)
 refine Zg ?_
 refine Yb (hB.sub (fun b _ h => by have h0 : b = b44 ∨ b = b36 ∨ b = b4 ∨ b = b2 := (by simpa using h); rcases h0 with h0 | h0 | h0 | h0; (rw [h0]; exact hS.neRow 0 5 rfl rfl); (rw [h0]; exact hS.neRow 2 5 rfl rfl); (rw [h0]; exact hS.neRow 8 5 rfl rfl); (rw [h0]; exact hS.neRow 9 5 rfl rfl))) ?_
 refine Zr [false, false, false, false, false, false, false, false, false, false, true] (by decide +kernel) PFC.h ?_
 obtain ⟨e70, hi72, H⟩ := bind_some H
 obtain ⟨j71, hi72a, hi72b, hi72c⟩ := Y0 hi72
 refine LtK.put rfl rfl rfl (Xh Vh rfl rfl hi72a (Nat.lt_of_lt_of_eq hi72c hl62) (Rd.el (hS.row_rd Jy) Y6 hi72b)) ?_
 refine LtK.nil ?_
 refine Yk [false, false, false, false, false, false, false, false, false, false, false, true] 11 ⟨by decide, by kernel_rfl, by kernel_rfl⟩ rfl rfl ?_
 try dsimp only [Zw]
 refine Ze8 (a' := 0) (zs := (Vw v60 v56 0)) Y6 rfl rfl rfl CellsOf.int hS ps6 (Rd.el (hS.row_rd Jy) Y6 hi72b) hi72a hi72b rfl Zeb (by kernel_rfl) rfl (fun w hS hB => ?_)
 refine Zg ?_
 refine Yb (hB.sub (fun b _ h => by have h0 : b = b44 ∨ b = b36 ∨ b = b4 ∨ b = b2 := (by simpa using h); rcases h0 with h0 | h0 | h0 | h0; (rw [h0]; exact hS.neRow 0 6 rfl rfl); (rw [h0]; exact hS.neRow 2 6 rfl rfl); (rw [h0]; exact hS.neRow 8 6 rfl rfl); (rw [h0]; exact hS.neRow 9 6 rfl rfl))) ?_
 refine Ye (by kernel_rfl) ?_
 refine Z4 ?_
 refine Zc hK65 ?_
 refine Zf ?_
 refine Za rfl rfl rfl (X8 rfl rfl) ?_
 refine Zb 1 rfl ?_
 refine Zg ?_
 exact X9 (n, (IntKind.wrap .i64 (v56 + 1)), (Vw v57 v56 (IntKind.wrap .i64 (r52 + 1))), (Vw v60 v56 0)) (by repeat (first | exact Sub.nil | refine Sub.cons rfl ?_)) ⟨hS, (Za7 k58), (Y8 hl59), (Za7 k61), (Y8 hl62), H⟩ (Nat.lt_succ_self _)
theorem c_tuple_At (x0 : Tu) (x1 : Int) (A0_ : OA) (c0_ : Nat) (w0 : World) (s0_ : SlI w0 V3 A0_ c0_ x0.log) {r : En × Bool} (H : m_tuple_At x0 x1 = some r) : Calls Tryz.prog 113 #[.agg #[.int .i64 x0.snap.index, .int .i64 x0.snap.term, .int .i64 x0.snap.sum, .int .i64 x0.snap.level, .bool x0.snap.final, .slice A0_ x0.log.length c0_, .int .i64 x0.term, .int .i64 x0.vote], .int .i64 x1] w0 fun e w' => e = .returned (.tuple #[.agg #[.int .i64 r.1.term, .int .i64 r.1.kind, .int .i64 r.1.value], .bool r.2]) ∧ St0 All w0 w' [] := by
 unfold m_tuple_At at H
 refine Ys Tryz.func113 rfl Tryz.ntmps113 rfl ?_
 have hS := St0.start All w0
 refine Zd (fun K hK1 => ?_)
 refine Zf ?_
 refine Z7 rfl rfl rfl CellsOf.agg hS (fun b2 w hS hB => ?_)
 refine Yd rfl rfl zc_53 hS (fun b4 w hS hB => ?_)
 refine Zb 1 rfl ?_
 refine Zg ?_
 refine Zc hK1 ?_
 refine Zd (fun K hK6 => ?_)
 refine Zd (fun K hK7 => ?_)
 refine Zf ?_
 refine Zb 1 rfl ?_
 refine Za rfl rfl rfl (Ze Xy rfl) ?_
 refine Za rfl rfl rfl (Ze Yl rfl) ?_
 refine Za rfl rfl rfl (Zh Z3 rfl (Zhe _) hS Y2 trivial Yx) ?_
 refine Za rfl rfl rfl (Zdj rfl rfl) ?_
 refine Zb 1 rfl ?_
 refine Zq 11 rfl (fun hb => ?_) (fun hb => ?_)
 ·replace H := Zo H hb
  refine Zb 5 rfl ?_
  refine Zg ?_
  refine Zc hK7 ?_
  refine Zu rfl rfl ?_
  refine Zd (fun K hK8 => ?_)
  refine Zf ?_
  refine Za rfl rfl rfl (Zi Zbw rfl (Zhe _) hS hs0 trivial Zep) ?_
  refine Zl rfl rfl rfl CellsOf.agg hS ps0 st0_3 (by kernel_rfl) rfl (fun w hS hB => ?_)
  refine Zb 1 rfl ?_
  refine Zg ?_
  refine Zc hK8 ?_
  refine Zk ?_
  refine Zj ?_
  refine Zm rfl (RV.cell rfl (Zt Zbw hS hs0 Zep) (RV.tmp rfl RV.nil)) rfl ?_
  obtain rfl := QJ H
  replace hS := hS.cut 0
  exact ⟨rfl, hS⟩
 replace H := Zp H hb
 refine Zb 1 rfl ?_
 refine Za rfl rfl rfl (Zi Yp rfl (Zhe _) hS Y2 trivial Xe) ?_
 obtain ⟨r9, hm10, H⟩ := bind_some H
 refine Zn rfl rfl rfl rfl (by kernel_rfl) rfl (Zfz x0 A0_ c0_ _ (Zhh s0_.k (hS.rd0 s0_.rd) (hS.blk0 s0_.blk)) hm10) ?_
 rintro e w ⟨rfl, hN⟩; refine ⟨_, rfl, ?_⟩; obtain ⟨hB, hS⟩ := hS.jn hN
 refine Za rfl rfl rfl (Y7 rfl rfl) ?_
 refine Zb 1 rfl ?_
 refine Zg ?_
 refine Zc hK7 ?_
 refine Z1 rfl (fun hb => ?_) (fun hb => ?_)
 ·replace H := Zo H hb
  refine Zd (fun K hK11 => ?_)
  refine Zf ?_
  refine Za rfl rfl rfl (Zi Zbw rfl (Zhe _) hS hs0 trivial Zep) ?_
  refine Zl rfl rfl rfl CellsOf.agg hS ps0 st0_3 (by kernel_rfl) rfl (fun w hS hB => ?_)
  refine Zb 1 rfl ?_
  refine Zg ?_
  refine Zc hK11 ?_
  refine Zk ?_
  refine Zj ?_
  refine Zm rfl (RV.cell rfl (Zt Zbw hS hs0 Zep) (RV.tmp rfl RV.nil)) rfl ?_
  obtain rfl := QJ H
  replace hS := hS.cut 0
  exact ⟨rfl, hS⟩
 replace H := Zp H hb
 refine Zs ?_
 refine Zc hK6 ?_
 refine Zd (fun K hK12 => ?_)
 refine Zf ?_
 refine Za rfl rfl rfl (Ze X7 rfl) ?_
 refine Za rfl rfl rfl (Zh Vm rfl (Zhe _) hS Y2 trivial Zcq) ?_
 refine Zb 1 rfl ?_
 refine Za rfl rfl rfl (Ze Xy rfl) ?_
 refine Za rfl rfl rfl (Ze Yl rfl) ?_
 refine Za rfl rfl rfl (Zh Z3 rfl (Zhe _) hS Y2 trivial Yx) ?_
 refine Za rfl rfl rfl (Zcn rfl rfl) ?_
 refine Za rfl rfl rfl (Zcn rfl rfl) ?_
 obtain ⟨e13, hi15, H⟩ := bind_some H
 obtain ⟨j14, hi15a, hi15b, hi15c⟩ := Y0 hi15
 refine Za rfl rfl rfl (Xh Xq rfl rfl hi15a hi15c (Rd.el (hS.rd0 s0_.rd) Vj hi15b)) ?_
 refine Za rfl rfl rfl (Zdz Zbw rfl (Zhe _) (Rd.el (hS.rd0 s0_.rd) Vj hi15b) Zep) ?_
 refine Zl rfl rfl rfl CellsOf.agg hS ps0 st0_3 (by kernel_rfl) rfl (fun w hS hB => ?_)
 refine Zb 1 rfl ?_
 refine Zg ?_
 refine Zc hK12 ?_
 refine Zk ?_
 refine Zm rfl (RV.cell rfl (Zt Zbw hS hs0 Zep) (RV.tmp rfl RV.nil)) rfl ?_
 obtain rfl := QJ H
 replace hS := hS.cut 0
 exact ⟨rfl, hS⟩
theorem c_tuple_TermAt (x0 : Tu) (x1 : Int) (A0_ : OA) (c0_ : Nat) (w0 : World) (s0_ : SlI w0 V3 A0_ c0_ x0.log) {r : Int × Bool} (H : Zcx x0 x1 = some r) : Calls Tryz.prog 70 #[.agg #[.int .i64 x0.snap.index, .int .i64 x0.snap.term, .int .i64 x0.snap.sum, .int .i64 x0.snap.level, .bool x0.snap.final, .slice A0_ x0.log.length c0_, .int .i64 x0.term, .int .i64 x0.vote], .int .i64 x1] w0 fun e w' => e = .returned (.tuple #[.int .i64 r.1, .bool r.2]) ∧ St0 All w0 w' [] := by
 unfold Zcx at H
 refine Ys Tryz.func70 rfl Tryz.ntmps70 rfl ?_
 have hS := St0.start All w0
 refine Zd (fun K hK1 => ?_)
 refine Zf ?_
 refine Z7 rfl rfl rfl CellsOf.agg hS (fun b2 w hS hB => ?_)
 refine Zb 2 rfl ?_
 refine Zg ?_
 refine Zc hK1 ?_
 refine Zd (fun K hK4 => ?_)
 refine Zd (fun K hK5 => ?_)
 refine Zf ?_
 refine Zb 1 rfl ?_
 refine Za rfl rfl rfl (Ze Xy rfl) ?_
 refine Za rfl rfl rfl (Ze Yl rfl) ?_
 refine Za rfl rfl rfl (Zh Z3 rfl (Zhe _) hS hs0 trivial Yx) ?_
 refine Za rfl rfl rfl (Yr rfl rfl) ?_
 refine Zg ?_
 refine Zc hK5 ?_
 refine Z1 rfl (fun hb => ?_) (fun hb => ?_)
 ·replace H := Zo H hb
  refine Zd (fun K hK6 => ?_)
  refine Zf ?_
  refine Za rfl rfl rfl (Ze Xy rfl) ?_
  refine Za rfl rfl rfl (Ze Zdi rfl) ?_
  refine Za rfl rfl rfl (Zh Z3 rfl (Zhe _) hS hs0 trivial Xu) ?_
  refine Zb 2 rfl ?_
  refine Zg ?_
  refine Zc hK6 ?_
  refine Zk ?_
  refine Zj ?_
  refine Zm rfl (RV.tmp rfl (RV.tmp rfl RV.nil)) rfl ?_
  obtain rfl := QJ H
  replace hS := hS.cut 0
  exact ⟨rfl, hS⟩
 replace H := Zp H hb
 refine Zs ?_
 refine Zc hK4 ?_
 refine Zd (fun K hK7 => ?_)
 refine Zf ?_
 refine Za rfl rfl rfl (Zi Yp rfl (Zhe _) hS hs0 trivial Xe) ?_
 refine Zb 1 rfl ?_
 obtain ⟨r8, hm9, H⟩ := bind_some H
 refine Zn rfl rfl rfl rfl (by kernel_rfl) rfl (c_tuple_At x0 x1 A0_ c0_ _ (Zhh s0_.k (hS.rd0 s0_.rd) (hS.blk0 s0_.blk)) hm9) ?_
 rintro e w ⟨rfl, hN⟩; refine ⟨_, rfl, ?_⟩; obtain ⟨hB, hS⟩ := hS.jn hN
 refine Zb 1 rfl ?_
 refine Za rfl rfl rfl (Z0 rfl rfl) ?_
 refine Za rfl rfl rfl (Z0 rfl rfl) ?_
 refine Yd rfl rfl zc_53 hS (fun b10 w hS hB => ?_)
 refine Zl rfl rfl rfl CellsOf.agg hS ps0 st0_3 (by kernel_rfl) rfl (fun w hS hB => ?_)
 refine Zb 1 rfl ?_
 refine Zg ?_
 refine Zc hK7 ?_
 refine Zd (fun K hK12 => ?_)
 refine Zf ?_
 refine Za rfl rfl rfl (Ze Zcp rfl) ?_
 refine Za rfl rfl rfl (Zh Z3 rfl (Zhe _) hS hs0 trivial Yx) ?_
 refine Zb 3 rfl ?_
 refine Zg ?_
 refine Zc hK12 ?_
 refine Zk ?_
 refine Zm rfl (RV.tmp rfl (RV.tmp rfl RV.nil)) rfl ?_
 obtain rfl := QJ H
 replace hS := hS.cut 0
 exact ⟨rfl, hS⟩
theorem c_elect_end (x0 : Co) (A0_ : OA) (c0_ : Nat) (A1_ : OA) (c1_ : Nat) (A2_ : OA) (c2_ : Nat) (A3_ : OA) (c3_ : Nat) (A4_ : OA) (c4_ : Nat) (w0 : World) (s0_ : SlI w0 V3 A0_ c0_ x0.tuple.log) (s1_ : SlI w0 enO A1_ c1_ x0.votes) (s2_ : SlI w0 X2 A2_ c2_ x0.next) (s3_ : SlI w0 X2 A3_ c3_ x0.mtch) (s4_ : SlI w0 X2 A4_ c4_ x0.caps) {r : Int × Int} (H : Zcw x0 = some r) : Calls Tryz.prog 52 #[.agg #[.int .i64 x0.id, .int .i64 x0.n, .int .u8 x0.role, .int .i64 x0.binary, .int .i64 x0.tuple.snap.index, .int .i64 x0.tuple.snap.term, .int .i64 x0.tuple.snap.sum, .int .i64 x0.tuple.snap.level, .bool x0.tuple.snap.final, .slice A0_ x0.tuple.log.length c0_, .int .i64 x0.tuple.term, .int .i64 x0.tuple.vote, .int .i64 x0.commit, .int .i64 x0.applied.index, .int .i64 x0.applied.term, .int .i64 x0.applied.sum, .int .i64 x0.applied.level, .bool x0.applied.final, .slice A1_ x0.votes.length c1_, .slice A2_ x0.next.length c2_, .slice A3_ x0.mtch.length c3_, .slice A4_ x0.caps.length c4_]] w0 fun e w' => e = .returned (.tuple #[.int .i64 r.1, .int .i64 r.2]) ∧ St0 All w0 w' [] := by
 unfold Zcw at H
 refine Yh Tryz.func52 rfl Tryz.ntmps52 rfl ?_
 have hS := St0.start All w0
 refine Zd (fun K hK1 => ?_)
 refine Zf ?_
 refine Z7 rfl rfl rfl CellsOf.agg hS (fun b2 w hS hB => ?_)
 refine Zb 2 rfl ?_
 refine Zg ?_
 refine Zc hK1 ?_
 refine Zd (fun K hK4 => ?_)
 refine Zf ?_
 refine Za rfl rfl rfl (Ze Yq rfl) ?_
 refine Za rfl rfl rfl (Zi Yp rfl (Zhe _) hS hs0 trivial Zbt) ?_
 obtain ⟨r5, hm6, H⟩ := bind_some H
 refine Zn rfl rfl rfl rfl (by kernel_rfl) rfl (Zfz x0.tuple A0_ c0_ _ (Zhh s0_.k (hS.rd0 s0_.rd) (hS.blk0 s0_.blk)) hm6) ?_
 rintro e w ⟨rfl, hN⟩; refine ⟨_, rfl, ?_⟩; obtain ⟨hB, hS⟩ := hS.jn hN
 refine Zb 1 rfl ?_
 refine Zg ?_
 refine Zc hK4 ?_
 refine Zd (fun K hK7 => ?_)
 refine Zf ?_
 refine Za rfl rfl rfl (Ze Yq rfl) ?_
 refine Za rfl rfl rfl (Zi Yp rfl (Zhe _) hS hs0 trivial Zbt) ?_
 refine Zb 1 rfl ?_
 obtain ⟨r8, hm9, H⟩ := bind_some H
 refine Zn rfl rfl rfl rfl (by kernel_rfl) rfl (c_tuple_TermAt x0.tuple r5 A0_ c0_ _ (Zhh s0_.k (hS.rd0 s0_.rd) (hS.blk0 s0_.blk)) hm9) ?_
 rintro e w ⟨rfl, hN⟩; refine ⟨_, rfl, ?_⟩; obtain ⟨hB, hS⟩ := hS.jn hN
 refine Zb 1 rfl ?_
 refine Za rfl rfl rfl (Z0 rfl rfl) ?_
 refine Za rfl rfl rfl (Z0 rfl rfl) ?_
 refine Zb 1 rfl ?_
 refine Zg ?_
 refine Zc hK7 ?_
 refine Zd (fun K hK10 => ?_)
 refine Zf ?_
 refine Zb 4 rfl ?_
 refine Zg ?_
 refine Zc hK10 ?_
 refine Zk ?_
 refine Zm rfl (RV.tmp rfl (RV.tmp rfl RV.nil)) rfl ?_
 obtain rfl := QJ H
 replace hS := hS.cut 0
 exact ⟨rfl, hS⟩
theorem c_msg_others (x0 : Co) (A0_ : OA) (c0_ : Nat) (A1_ : OA) (c1_ : Nat) (A2_ : OA) (c2_ : Nat) (A3_ : OA) (c3_ : Nat) (A4_ : OA) (c4_ : Nat) (w0 : World) (s0_ : SlI w0 V3 A0_ c0_ x0.tuple.log) (s1_ : SlI w0 enO A1_ c1_ x0.votes) (s2_ : SlI w0 X2 A2_ c2_ x0.next) (s3_ : SlI w0 X2 A3_ c3_ x0.mtch) (s4_ : SlI w0 X2 A4_ c4_ x0.caps) : Calls Tryz.prog 101 #[.agg #[.int .i64 x0.id, .int .i64 x0.n, .int .u8 x0.role, .int .i64 x0.binary, .int .i64 x0.tuple.snap.index, .int .i64 x0.tuple.snap.term, .int .i64 x0.tuple.snap.sum, .int .i64 x0.tuple.snap.level, .bool x0.tuple.snap.final, .slice A0_ x0.tuple.log.length c0_, .int .i64 x0.tuple.term, .int .i64 x0.tuple.vote, .int .i64 x0.commit, .int .i64 x0.applied.index, .int .i64 x0.applied.term, .int .i64 x0.applied.sum, .int .i64 x0.applied.level, .bool x0.applied.final, .slice A1_ x0.votes.length c1_, .slice A2_ x0.next.length c2_, .slice A3_ x0.mtch.length c3_, .slice A4_ x0.caps.length c4_]] w0 fun e w' => ∃ (b0_ : Nat), e = .returned (.func (.func 130) #[] #[.pointer (some ⟨b0_, 0, none⟩)]) ∧ St0 All w0 w' [.box b0_ [.int .i64 x0.id, .int .i64 x0.n, .int .u8 x0.role, .int .i64 x0.binary, .int .i64 x0.tuple.snap.index, .int .i64 x0.tuple.snap.term, .int .i64 x0.tuple.snap.sum, .int .i64 x0.tuple.snap.level, .bool x0.tuple.snap.final, .slice A0_ x0.tuple.log.length c0_, .int .i64 x0.tuple.term, .int .i64 x0.tuple.vote, .int .i64 x0.commit, .int .i64 x0.applied.index, .int .i64 x0.applied.term, .int .i64 x0.applied.sum, .int .i64 x0.applied.level, .bool x0.applied.final, .slice A1_ x0.votes.length c1_, .slice A2_ x0.next.length c2_, .slice A3_ x0.mtch.length c3_, .slice A4_ x0.caps.length c4_] 30] := by
 refine Yh Tryz.func101 rfl Tryz.ntmps101 rfl ?_
 have hS := St0.start All w0
 refine Zd (fun K hK1 => ?_)
 refine Zf ?_
 refine Z7 rfl rfl rfl CellsOf.agg hS (fun b2 w hS hB => ?_)
 refine Zb 1 rfl ?_
 refine Zg ?_
 refine Zc hK1 ?_
 refine Zd (fun K hK4 => ?_)
 refine Zf ?_
 refine Za rfl rfl rfl (Vn rfl rfl) ?_
 refine Zb 1 rfl ?_
 refine Zg ?_
 refine Zc hK4 ?_
 refine Zk ?_
 refine Zm rfl (RV.tmp rfl RV.nil) rfl ?_
 exact ⟨b2, rfl, hS.sub (List.Sublist.cons_cons _ List.Sublist.slnil)⟩
theorem c_msg_Others (x0 : Co) (x1 : Ms) (A0_ : OA) (c0_ : Nat) (A1_ : OA) (c1_ : Nat) (A2_ : OA) (c2_ : Nat) (A3_ : OA) (c3_ : Nat) (A4_ : OA) (c4_ : Nat) (A5_ : OA) (c5_ : Nat) (w0 : World) (s0_ : SlI w0 V3 A0_ c0_ x0.tuple.log) (s1_ : SlI w0 enO A1_ c1_ x0.votes) (s2_ : SlI w0 X2 A2_ c2_ x0.next) (s3_ : SlI w0 X2 A3_ c3_ x0.mtch) (s4_ : SlI w0 X2 A4_ c4_ x0.caps) (s5_ : SlI w0 V3 A5_ c5_ x1.entries) {r : List Ms} (H : Zb0 x0 x1 = some r) : Calls Tryz.prog 53 #[.agg #[.int .i64 x0.id, .int .i64 x0.n, .int .u8 x0.role, .int .i64 x0.binary, .int .i64 x0.tuple.snap.index, .int .i64 x0.tuple.snap.term, .int .i64 x0.tuple.snap.sum, .int .i64 x0.tuple.snap.level, .bool x0.tuple.snap.final, .slice A0_ x0.tuple.log.length c0_, .int .i64 x0.tuple.term, .int .i64 x0.tuple.vote, .int .i64 x0.commit, .int .i64 x0.applied.index, .int .i64 x0.applied.term, .int .i64 x0.applied.sum, .int .i64 x0.applied.level, .bool x0.applied.final, .slice A1_ x0.votes.length c1_, .slice A2_ x0.next.length c2_, .slice A3_ x0.mtch.length c3_, .slice A4_ x0.caps.length c4_], .agg #[.int .u8 x1.kind, .int .i64 x1.frm, .int .i64 x1.dst, .int .i64 x1.term, .int .i64 x1.cap, .int .i64 x1.last, .int .i64 x1.lastTerm, .int .i64 x1.commit, .bool x1.okk, .slice A5_ x1.entries.length c5_, .int .i64 x1.snap.index, .int .i64 x1.snap.term, .int .i64 x1.snap.sum, .int .i64 x1.snap.level, .bool x1.snap.final]] w0 fun e w' => ∃ (A0 : OA) (c0 : Nat) (q0 : List Mq), e = .returned (.slice A0 r.length c0) ∧ (r.length ≤ c0 ∧ c0 ≤ maxLen) ∧ q0.map Mq.m = r ∧ (∀ y ∈ q0, okQ y) ∧ St0 All w0 w' [.rd A0 (Yf enQ q0), .rds (q0.map subQ)] := by
 unfold Zb0 at H
 refine Ys Tryz.func53 rfl Tryz.ntmps53 rfl ?_
 have hS := St0.start All w0
 refine Zd (fun K hK1 => ?_)
 refine Zf ?_
 refine Z7 rfl rfl rfl CellsOf.agg hS (fun b2 w hS hB => ?_)
 refine Z7 rfl rfl rfl CellsOf.agg hS (fun b4 w hS hB => ?_)
 refine Yd rfl rfl zc_35 hS (fun b6 w hS hB => ?_)
 refine Zg ?_
 refine Zc hK1 ?_
 refine Zd (fun K hK8 => ?_)
 refine Zd (fun K hK9 => ?_)
 refine Zf ?_
 refine Za rfl rfl rfl (Zi Zx rfl (Zhe _) hS Xi trivial Zv) ?_
 have hM10 := hS
 refine Zn rfl rfl rfl rfl (by kernel_rfl) rfl (c_msg_others x0 A0_ c0_ A1_ c1_ A2_ c2_ A3_ c3_ A4_ c4_ _ (Zhh s0_.k (hS.rd0 s0_.rd) (hS.blk0 s0_.blk)) (Zhh s1_.k (hS.rd0 s1_.rd) (hS.blk0 s1_.blk)) (Zhh s2_.k (hS.rd0 s2_.rd) (hS.blk0 s2_.blk)) (Zhh s3_.k (hS.rd0 s3_.rd) (hS.blk0 s3_.blk)) (Zhh s4_.k (hS.rd0 s4_.rd) (hS.blk0 s4_.blk))) ?_
 rintro e w ⟨b12, rfl, hN11⟩; refine ⟨_, rfl, ?_⟩; have hB := hN11.pure; have hS := hS.join hN11
 refine Zg ?_
 refine Zc hK9 ?_
 refine Yc ?_
 replace hS := hS.nilRds
 replace hS := hS.nilRow 32 15
 replace hM10 := hM10.nilRds
 replace hM10 := hM10.nilRow 32 15
 obtain ⟨xs24, hx25, H⟩ := bind_some H
 refine wpC_range (w0 := w0) (X := List Ms × OA × Nat × List Mq) rfl (by kernel_rfl) (it_others x0 _ _ _ hM10.pure b12 hN11 hx25) ⟨hM10.size, hN11.size⟩ (fun _ => rfl) (by kernel_rfl) (fun k x => .row (.slice x.2.1 x.1.length x.2.2.1) 32 15 x.1.length (Yf enQ x.2.2.2) :: .rds (x.2.2.2.map subQ) :: .box b6 [.slice x.2.1 x.1.length x.2.2.1] 35 :: .box b4 [.int .u8 x1.kind, .int .i64 x1.frm, .int .i64 x1.dst, .int .i64 x1.term, .int .i64 x1.cap, .int .i64 x1.last, .int .i64 x1.lastTerm, .int .i64 x1.commit, .bool x1.okk, .slice A5_ x1.entries.length c5_, .int .i64 x1.snap.index, .int .i64 x1.snap.term, .int .i64 x1.snap.sum, .int .i64 x1.snap.level, .bool x1.snap.final] 32 :: .box b2 [.int .i64 x0.id, .int .i64 x0.n, .int .u8 x0.role, .int .i64 x0.binary, .int .i64 x0.tuple.snap.index, .int .i64 x0.tuple.snap.term, .int .i64 x0.tuple.snap.sum, .int .i64 x0.tuple.snap.level, .bool x0.tuple.snap.final, .slice A0_ x0.tuple.log.length c0_, .int .i64 x0.tuple.term, .int .i64 x0.tuple.vote, .int .i64 x0.commit, .int .i64 x0.applied.index, .int .i64 x0.applied.term, .int .i64 x0.applied.sum, .int .i64 x0.applied.level, .bool x0.applied.final, .slice A1_ x0.votes.length c1_, .slice A2_ x0.next.length c2_, .slice A3_ x0.mtch.length c3_, .slice A4_ x0.caps.length c4_] 30 :: []) (fun k x => (x.1.length ≤ x.2.2.1 ∧ x.2.2.1 ≤ maxLen) ∧ (x.2.2.2.map Mq.m = x.1) ∧ (∀ y ∈ x.2.2.2, okQ y) ∧ Jm x0 x1 (xs24.drop k) x.1 = some r) (fun _ _ => []) (fun _ _ => False) (fun _ => False) ([], none, 0, ([] : List Mq)) ⟨hS.sub (List.Sublist.cons_cons _ (List.Sublist.cons_cons _ (List.Sublist.cons _ (List.Sublist.cons_cons _ (List.Sublist.cons_cons _ (List.Sublist.cons_cons _ List.Sublist.slnil)))))), fun e he k hk => .inl (hM10.rng e he k hk).1⟩ ⟨⟨Nat.le_refl _, Nat.zero_le _⟩, rfl, Yu, H⟩ ?_ ?_ (fun _ _ _ h _ => h.elim) (fun _ _ h _ => h.elim)
 ·rintro lo k e14 ⟨v15, A16, c17, q19⟩ A hke ⟨k18, hq20, okq21, H⟩ hzB hRB hS
  dsimp only at hRB k18 hq20 okq21 H ⊢
  rw [drop_of_get hke, Jm] at H
  dsimp only [List.zip, List.zipWith, List.foldl]
  refine Zby (by repeat (first | exact NL.round | exact NL.false | exact NL.body (by intro _ h; simp at h) | apply NL.then | apply NL.inBlock | apply NL.jump)) (by kernel_rfl) ?_
  refine Zb 1 rfl ?_
  refine Zg ?_
  refine QH_asg hS ?_
  rintro A2 hS hBase hE
  dsimp only [List.cons_append, List.nil_append] at hS
  refine Yc ?_
  refine Zd (fun K hK26 => ?_)
  refine Zby (by repeat (first | exact NL.round | exact NL.false | exact NL.body (by intro _ h; simp at h) | apply NL.then | apply NL.inBlock | apply NL.jump)) (by kernel_rfl) ?_
  refine Za rfl rfl rfl (Zi Va rfl (Zhe _) hS hs3 trivial Xg) ?_
  refine Yd rfl rfl Jf hS (fun b27 w hS hB => ?_)
  refine Zl rfl rfl rfl CellsOf.agg hS ps0 st0_15 (by kernel_rfl) rfl (fun w hS hB => ?_)
  refine Zg ?_
  refine Zc hK26 ?_
  refine Zd (fun K hK29 => ?_)
  refine wpC_drawR (by repeat (first | exact NL.round | exact NL.false | exact NL.body (by intro _ h; simp at h) | apply NL.then | apply NL.inBlock | apply NL.jump)) (by kernel_rfl) 21 [12, 14, 16, 18, 20] (fun i b => (i = 12 → b ≠ b27) ∧ (i = 14 → b ≠ b27) ∧ (i = 16 → b ≠ b27) ∧ (i = 18 → b ≠ b27) ∧ (i = 20 → b ≠ b27)) ⟨by kernel_rfl, by kernel_rfl⟩ hS (fun w hS hB => ?_)
  refine Zr [true, true, false, false, false, false, false, false, false, false, false, true] (by decide +kernel) PFC.h ?_
  refine LtK.put rfl rfl rfl (Ze Vo rfl) ?_
  refine LtK.put rfl rfl rfl (Zh Z3 rfl (Zhf _) hS hs5 trivial Yx) ?_
  refine LtK.put rfl rfl rfl (Ze Zaf rfl) ?_
  refine LtK.nil ?_
  refine Y1 [false, false, true, true, true, true, true, true, true, true] [12, 14, 16, 18] (fun b => b ≠ b27) (by decide +kernel) (by intro j hj b hb; simp only [List.mem_cons, List.not_mem_nil, or_false] at hj; (try rcases hj with rfl | rfl | rfl | rfl | rfl) <;> first | (simp [hb]; done) | simp_all) PFC.h ?_
  refine LtK.put rfl rfl rfl (Zy rfl) ?_
  refine LtK.put rfl rfl rfl (Ze Yq rfl) ?_
  refine LtK.put rfl rfl rfl (Ze Xl rfl) ?_
  refine LtK.put rfl rfl rfl (Zh Z3 rfl (Zhg _ _) hS hs5 (hS.ne 5 0 rfl rfl rfl) Vz) ?_
  refine LtK.put rfl rfl rfl (Ze Zdy rfl) ?_
  refine LtK.put rfl rfl rfl (Zh Z3 rfl (Zhg _ _) hS hs5 (hS.ne 5 0 rfl rfl rfl) Jb) ?_
  refine LtK.put rfl rfl rfl (Ze Zbg rfl) ?_
  refine LtK.put rfl rfl rfl (Zh Vm rfl (Zhg _ _) hS Jq (hS.ne 4 0 rfl rfl rfl) Zfr) ?_
  refine LtK.nil ?_
  refine Z5 [false, false, false, false, false, false, false, false, false, false, true] 10 ⟨by decide, by kernel_rfl, by kernel_rfl⟩ rfl rfl ?_
  try dsimp only [Zw]
  obtain ⟨r30, hm31, H⟩ := bind_some H
  refine Zn rfl rfl rfl rfl (by kernel_rfl) rfl (Zak x1.entries A5_ c5_ _ (Zhh s5_.k (hS.rdR hBase s5_.rd) (hS.blkR hBase s5_.blk)) hm31) ?_
  rintro e w ⟨A32, c33, rfl, k34, hN⟩; refine ⟨_, rfl, ?_⟩; obtain ⟨hB, hS⟩ := hS.jn hN
  refine Zg ?_
  refine Z6 hB ?_
  refine Yk [false, false, false, false, false, false, false, false, false, false, false, false, true] 12 ⟨by decide, by kernel_rfl, by kernel_rfl⟩ rfl rfl ?_
  try dsimp only [Zw]
  refine Zl rfl rfl rfl CellsOf.int hS ps1 st1_1 (by kernel_rfl) rfl (fun w hS hB => ?_)
  refine Zg ?_
  refine Yb (hB.sub (fun _ _ h => by simpa using h)) ?_
  refine Zr [false, false, false, false, false, false, false, false, false, false, false, false, false, true] (by decide +kernel) PFC.h ?_
  refine LtK.put rfl rfl rfl (Ze Zdd rfl) ?_
  refine LtK.nil ?_
  refine Yk [false, false, false, false, false, false, false, false, false, false, false, false, false, false, true] 14 ⟨by decide, by kernel_rfl, by kernel_rfl⟩ rfl rfl ?_
  try dsimp only [Zw]
  refine Zl rfl rfl rfl CellsOf.int hS ps1 Zgz (by kernel_rfl) rfl (fun w hS hB => ?_)
  refine Zg ?_
  refine Yb (hB.sub (fun _ _ h => by simpa using h)) ?_
  refine Zr [false, false, false, false, false, false, false, false, false, false, false, false, false, false, false, true] (by decide +kernel) PFC.h ?_
  refine LtK.put rfl rfl rfl (Ze Js rfl) ?_
  refine LtK.nil ?_
  refine Yk [false, false, false, false, false, false, false, false, false, false, false, false, false, false, false, false, true] 16 ⟨by decide, by kernel_rfl, by kernel_rfl⟩ rfl rfl ?_
  try dsimp only [Zw]
  refine Zl rfl rfl rfl CellsOf.int hS ps1 st3_1 (by kernel_rfl) rfl (fun w hS hB => ?_)
  refine Zg ?_
  refine Yb (hB.sub (fun _ _ h => by simpa using h)) ?_
  refine Zr [false, false, false, false, false, false, false, false, false, false, false, false, false, false, false, false, false, true] (by decide +kernel) PFC.h ?_
  refine LtK.put rfl rfl rfl (Ze Zfw rfl) ?_
  refine LtK.nil ?_
  refine Yk [false, false, false, false, false, false, false, false, false, false, false, false, false, false, false, false, false, false, true] 18 ⟨by decide, by kernel_rfl, by kernel_rfl⟩ rfl rfl ?_
  try dsimp only [Zw]
  refine Zl rfl rfl rfl CellsOf.int hS ps1 st4_1 (by kernel_rfl) rfl (fun w hS hB => ?_)
  refine Zg ?_
  refine Yb (hB.sub (fun _ _ h => by simpa using h)) ?_
  refine Zr [false, false, false, false, false, false, false, false, false, false, false, false, false, false, false, false, false, false, false, true] (by decide +kernel) PFC.h ?_
  refine LtK.put rfl rfl rfl (Ze Zbg rfl) ?_
  refine LtK.nil ?_
  refine Yk [false, false, false, false, false, false, false, false, false, false, false, false, false, false, false, false, false, false, false, false, true] 20 ⟨by decide, by kernel_rfl, by kernel_rfl⟩ rfl rfl ?_
  try dsimp only [Zw]
  refine Zl rfl rfl rfl CellsOf.slice hS ps1 st9_1 (by kernel_rfl) rfl (fun w hS hB => ?_)
  refine Zg ?_
  refine Yb (hB.sub (fun _ _ h => by simpa using h)) ?_
  refine Ye (by kernel_rfl) ?_
  refine Zc hK29 ?_
  refine Zby (by repeat (first | exact NL.round | exact NL.false | exact NL.body (by intro _ h; simp at h) | apply NL.then | apply NL.inBlock | apply NL.jump)) (by kernel_rfl) ?_
  refine Za rfl rfl rfl (Zh sc_35 rfl (Zhe _) hS Jq trivial Yx) ?_
  refine Za rfl rfl rfl (Zi Va rfl (Zhe _) hS Y2 trivial Xg) ?_
  refine Ym (ps := [(0, .tmp 28)]) [.int .u8 x1.kind, .int .i64 x0.id, .int .i64 e14, .int .i64 x0.tuple.term, .int .i64 x0.binary, .int .i64 x1.last, .int .i64 x1.lastTerm, .int .i64 x1.commit, .bool x1.okk, .slice A32 r30.length c33, .int .i64 x1.snap.index, .int .i64 x1.snap.term, .int .i64 x1.snap.sum, .int .i64 x1.snap.level, .bool x1.snap.final] Vk Jf rfl rfl rfl rfl rfl (by kernel_rfl) hS (fun b36 w hS hB => ?_)
  obtain ⟨l38, hf39, H⟩ := bind_some H
  refine wpX_appendQ (l := v15) (q := q19) (y := ⟨(⟨x1.kind, x0.id, e14, x0.tuple.term, x0.binary, x1.last, x1.lastTerm, x1.commit, x1.okk, r30, x1.snap⟩ : Ms), A32, c33⟩) em_35 (by decide) rfl rfl rfl rfl hS hq20 (fun _ => ps3) (hS.box_rd hs0) hf39 (fun A40 c41 w k42 hS hq43 hB => ?_)
  have okq44 := okq_snoc okq21 (show okQ ⟨(⟨x1.kind, x0.id, e14, x0.tuple.term, x0.binary, x1.last, x1.lastTerm, x1.commit, x1.okk, r30, x1.snap⟩ : Ms), A32, c33⟩ from k34)
  replace hS := hS.front 4 rfl
  replace hS := hS.front 2 rfl
  replace hS := hS.weak Weak.rowRd
  replace hS := hS.absorbQ ⟨(⟨x1.kind, x0.id, e14, x0.tuple.term, x0.binary, x1.last, x1.lastTerm, x1.commit, x1.okk, r30, x1.snap⟩ : Ms), A32, c33⟩
  replace hS := hS.front 3 rfl
  refine Zl rfl rfl rfl CellsOf.slice hS ps4 Zeb (by kernel_rfl) rfl (fun w hS hB => ?_)
  refine Zg ?_
  refine Z4 ?_
  exact QH_round hBase hE hS (l38, A40, c41, (q19 ++ [⟨(⟨x1.kind, x0.id, e14, x0.tuple.term, x0.binary, x1.last, x1.lastTerm, x1.commit, x1.okk, r30, x1.snap⟩ : Ms), A32, c33⟩])) (List.Sublist.cons_cons _ (List.Sublist.cons_cons _ (List.Sublist.cons _ (List.Sublist.cons _ (List.Sublist.cons_cons _ (List.Sublist.cons_cons _ (List.Sublist.cons_cons _ List.Sublist.slnil))))))) ⟨k42, hq43, okq44, H⟩
 ·rintro ⟨v15, A16, c17, q19⟩ A ⟨k18, hq20, okq21, H⟩ hS
  dsimp only at hS k18 hq20 okq21 H ⊢
  rw [List.drop_length, Jm] at H
  refine Z4 ?_
  refine Zc hK8 ?_
  refine Zd (fun K hK46 => ?_)
  refine Zf ?_
  refine Za rfl rfl rfl (Zh sc_35 rfl (Zhe _) hS hs3 trivial Yx) ?_
  refine Zl rfl rfl rfl CellsOf.slice hS ps3 Zeb (by kernel_rfl) rfl (fun w hS hB => ?_)
  refine Zg ?_
  refine Zc hK46 ?_
  refine Zk ?_
  refine QH_shut (.inl rfl) hS ps0 (fun w hS => ?_)
  replace hS := hS.sub (List.Sublist.cons _ (List.Sublist.cons_cons _ (List.Sublist.cons_cons _ (List.Sublist.cons_cons _ (List.Sublist.cons_cons _ (List.Sublist.cons_cons _ List.Sublist.slnil))))))
  refine Zm rfl (RV.cell rfl (load_box1 sc_35 hS Xi Yx) RV.nil) rfl ?_
  obtain rfl := QJ H
  have hS := hS.front 1 rfl
  replace hS := hS.front 1 rfl
  replace hS := hS.weak Weak.rowRd
  replace hS := hS.cut 2
  exact ⟨A16, c17, q19, rfl, k18, hq20, okq21, hS⟩
theorem Zfk (x0 : Co) (A0_ : OA) (c0_ : Nat) (A1_ : OA) (c1_ : Nat) (A2_ : OA) (c2_ : Nat) (A3_ : OA) (c3_ : Nat) (A4_ : OA) (c4_ : Nat) (w0 : World) (s0_ : SlI w0 V3 A0_ c0_ x0.tuple.log) (s1_ : SlI w0 enO A1_ c1_ x0.votes) (s2_ : SlI w0 X2 A2_ c2_ x0.next) (s3_ : SlI w0 X2 A3_ c3_ x0.mtch) (s4_ : SlI w0 X2 A4_ c4_ x0.caps) {r : Co × List Ms} (H : Ve x0 = some r) : Calls Tryz.prog 9 #[.agg #[.int .i64 x0.id, .int .i64 x0.n, .int .u8 x0.role, .int .i64 x0.binary, .int .i64 x0.tuple.snap.index, .int .i64 x0.tuple.snap.term, .int .i64 x0.tuple.snap.sum, .int .i64 x0.tuple.snap.level, .bool x0.tuple.snap.final, .slice A0_ x0.tuple.log.length c0_, .int .i64 x0.tuple.term, .int .i64 x0.tuple.vote, .int .i64 x0.commit, .int .i64 x0.applied.index, .int .i64 x0.applied.term, .int .i64 x0.applied.sum, .int .i64 x0.applied.level, .bool x0.applied.final, .slice A1_ x0.votes.length c1_, .slice A2_ x0.next.length c2_, .slice A3_ x0.mtch.length c3_, .slice A4_ x0.caps.length c4_]] w0 fun e w' => ∃ (A0 : OA) (c0 : Nat) (A1 : OA) (c1 : Nat) (A2 : OA) (c2 : Nat) (A3 : OA) (c3 : Nat) (A4 : OA) (c4 : Nat) (A5 : OA) (c5 : Nat) (q5 : List Mq), e = .returned (.tuple #[.agg #[.int .i64 r.1.id, .int .i64 r.1.n, .int .u8 r.1.role, .int .i64 r.1.binary, .int .i64 r.1.tuple.snap.index, .int .i64 r.1.tuple.snap.term, .int .i64 r.1.tuple.snap.sum, .int .i64 r.1.tuple.snap.level, .bool r.1.tuple.snap.final, .slice A0 r.1.tuple.log.length c0, .int .i64 r.1.tuple.term, .int .i64 r.1.tuple.vote, .int .i64 r.1.commit, .int .i64 r.1.applied.index, .int .i64 r.1.applied.term, .int .i64 r.1.applied.sum, .int .i64 r.1.applied.level, .bool r.1.applied.final, .slice A1 r.1.votes.length c1, .slice A2 r.1.next.length c2, .slice A3 r.1.mtch.length c3, .slice A4 r.1.caps.length c4], .slice A5 r.2.length c5]) ∧ (r.1.tuple.log.length ≤ c0 ∧ c0 ≤ maxLen) ∧ (r.1.votes.length ≤ c1 ∧ c1 ≤ maxLen) ∧ (r.1.next.length ≤ c2 ∧ c2 ≤ maxLen) ∧ (r.1.mtch.length ≤ c3 ∧ c3 ≤ maxLen) ∧ (r.1.caps.length ≤ c4 ∧ c4 ≤ maxLen) ∧ (r.2.length ≤ c5 ∧ c5 ≤ maxLen) ∧ q5.map Mq.m = r.2 ∧ (∀ y ∈ q5, okQ y) ∧ St0 All w0 w' [.rd A0 (Yf V3 r.1.tuple.log), .row (.slice A1 r.1.votes.length c1) 4 1 r.1.votes.length (Yf enO r.1.votes), .row (.slice A2 r.1.next.length c2) 3 1 r.1.next.length (Yf X2 r.1.next), .row (.slice A3 r.1.mtch.length c3) 3 1 r.1.mtch.length (Yf X2 r.1.mtch), .row (.slice A4 r.1.caps.length c4) 3 1 r.1.caps.length (Yf X2 r.1.caps), .rd A5 (Yf enQ q5), .rds (q5.map subQ)] := by
 unfold Ve at H
 refine Yh Tryz.func9 rfl Tryz.ntmps9 rfl ?_
 have hS := St0.start All w0
 refine Zd (fun K hK1 => ?_)
 refine Zf ?_
 refine Z7 rfl rfl rfl CellsOf.agg hS (fun b2 w hS hB => ?_)
 refine Yd rfl rfl Zbx hS (fun b4 w hS hB => ?_)
 refine Zb 1 rfl ?_
 refine Zg ?_
 refine Zc hK1 ?_
 refine Zd (fun K hK6 => ?_)
 refine Zf ?_
 refine Za rfl rfl rfl (Zi Zx rfl (Zhe _) hS Y2 trivial Zv) ?_
 obtain ⟨r7, hm8, H⟩ := bind_some H
 refine Zn rfl rfl rfl rfl (by kernel_rfl) rfl (Zd8 x0 A0_ c0_ A1_ c1_ A2_ c2_ A3_ c3_ A4_ c4_ _ (Zhh s0_.k (hS.rd0 s0_.rd) (hS.blk0 s0_.blk)) (Zhh s1_.k (hS.rd0 s1_.rd) (hS.blk0 s1_.blk)) (Zhh s2_.k (hS.rd0 s2_.rd) (hS.blk0 s2_.blk)) (Zhh s3_.k (hS.rd0 s3_.rd) (hS.blk0 s3_.blk)) (Zhh s4_.k (hS.rd0 s4_.rd) (hS.blk0 s4_.blk)) hm8) ?_
 rintro e w ⟨A9, c10, A13, c14, A17, c18, A21, c22, A25, c26, rfl, k11, k15, k19, k23, k27, hN⟩; refine ⟨_, rfl, ?_⟩; obtain ⟨hB, hS⟩ := hS.jn hN
 refine Zl rfl rfl rfl CellsOf.agg hS ps6 Z8 (by kernel_rfl) rfl (fun w hS hB => ?_)
 refine Zg ?_
 refine Zc hK6 ?_
 refine Zd (fun K hK29 => ?_)
 refine Zd (fun K hK30 => ?_)
 refine Zf ?_
 refine Za rfl rfl rfl (Zi Zx rfl (Zhe _) hS Jy trivial Zv) ?_
 obtain ⟨r31, hm32, H⟩ := bind_some H
 refine Zn rfl rfl rfl rfl (by kernel_rfl) rfl (Zd9 r7 A9 c10 A13 c14 A17 c18 A21 c22 A25 c26 _ (Zhh k11 (hS.row_rd hs0) (hS.row_blk hs0)) (Zhh k15 (hS.row_rd Y2) (hS.row_blk Y2)) (Zhh k19 (hS.row_rd Xi) (hS.row_blk Xi)) (Zhh k23 (hS.row_rd hs3) (hS.row_blk hs3)) (Zhh k27 (hS.row_rd Jq) (hS.row_blk Jq)) hm32) ?_
 rintro e w ⟨rfl, hN⟩; refine ⟨_, rfl, ?_⟩; obtain ⟨hB, hS⟩ := hS.jn hN
 refine Za rfl rfl rfl (Yo rfl) ?_
 refine Zb 1 rfl ?_
 refine Zq 11 rfl (fun hb => ?_) (fun hb => ?_)
 ·replace H := Zo H hb
  refine Zb 10 rfl ?_
  refine Zg ?_
  refine Zc hK30 ?_
  refine Zu rfl rfl ?_
  refine Zd (fun K hK33 => ?_)
  refine Zf ?_
  refine Za rfl rfl rfl (Zi Zx rfl (Zhe _) hS Jy trivial Zv) ?_
  refine Zl rfl rfl rfl CellsOf.agg hS ps5 Z8 (by kernel_rfl) rfl (fun w hS hB => ?_)
  refine Zb 1 rfl ?_
  refine Zg ?_
  refine Zc hK33 ?_
  refine Zk ?_
  refine Zj ?_
  refine Zm rfl (RV.cell rfl (Zt Zx hS hs5 Zv) (RV.tmp rfl RV.nil)) rfl ?_
  obtain rfl := QJ H
  have hS := hS.nilRds
  replace hS := hS.nilRd
  have hS := hS.front 6 rfl
  have hS := hS.front 6 rfl
  have hS := hS.front 6 rfl
  have hS := hS.front 6 rfl
  have hS := hS.front 6 rfl
  replace hS := hS.weak Weak.rowRd
  replace hS := hS.cut 7
  exact ⟨A9, c10, A13, c14, A17, c18, A21, c22, A25, c26, none, 0, ([] : List Mq), rfl, k11, k15, k19, k23, k27, ⟨Nat.le_refl _, Nat.zero_le _⟩, rfl, Yu, hS⟩
 replace H := Zp H hb
 refine Za rfl rfl rfl (Ze Vv rfl) ?_
 refine Za rfl rfl rfl (Zh Zas rfl (Zhe _) hS Jy trivial Jt) ?_
 refine Za rfl rfl rfl (Yr rfl rfl) ?_
 refine Zb 2 rfl ?_
 refine Zq 16 rfl (fun hb => ?_) (fun hb => ?_)
 ·replace H := Zo H hb
  refine Zb 5 rfl ?_
  refine Zg ?_
  refine Zc hK30 ?_
  refine Zu rfl rfl ?_
  refine Zd (fun K hK34 => ?_)
  refine Zf ?_
  refine Za rfl rfl rfl (Zi Zx rfl (Zhe _) hS Jy trivial Zv) ?_
  refine Zl rfl rfl rfl CellsOf.agg hS ps5 Z8 (by kernel_rfl) rfl (fun w hS hB => ?_)
  refine Zb 1 rfl ?_
  refine Zg ?_
  refine Zc hK34 ?_
  refine Zk ?_
  refine Zj ?_
  refine Zm rfl (RV.cell rfl (Zt Zx hS hs5 Zv) (RV.tmp rfl RV.nil)) rfl ?_
  obtain rfl := QJ H
  have hS := hS.nilRds
  replace hS := hS.nilRd
  have hS := hS.front 6 rfl
  have hS := hS.front 6 rfl
  have hS := hS.front 6 rfl
  have hS := hS.front 6 rfl
  have hS := hS.front 6 rfl
  replace hS := hS.weak Weak.rowRd
  replace hS := hS.cut 7
  exact ⟨A9, c10, A13, c14, A17, c18, A21, c22, A25, c26, none, 0, ([] : List Mq), rfl, k11, k15, k19, k23, k27, ⟨Nat.le_refl _, Nat.zero_le _⟩, rfl, Yu, hS⟩
 replace H := Zp H hb
 refine Za rfl rfl rfl (Ze Yq rfl) ?_
 refine Za rfl rfl rfl (Ze Xl rfl) ?_
 refine Za rfl rfl rfl (Zh Z3 rfl (Zhe _) hS Jy trivial Vz) ?_
 refine Za rfl rfl rfl (Yr rfl rfl) ?_
 refine Zb 1 rfl ?_
 refine Zg ?_
 refine Zc hK30 ?_
 refine Z1 rfl (fun hb => ?_) (fun hb => ?_)
 ·replace H := Zo H hb
  refine Zd (fun K hK35 => ?_)
  refine Zf ?_
  refine Za rfl rfl rfl (Zi Zx rfl (Zhe _) hS Jy trivial Zv) ?_
  refine Zl rfl rfl rfl CellsOf.agg hS ps5 Z8 (by kernel_rfl) rfl (fun w hS hB => ?_)
  refine Zb 1 rfl ?_
  refine Zg ?_
  refine Zc hK35 ?_
  refine Zk ?_
  refine Zj ?_
  refine Zm rfl (RV.cell rfl (Zt Zx hS hs5 Zv) (RV.tmp rfl RV.nil)) rfl ?_
  obtain rfl := QJ H
  have hS := hS.nilRds
  replace hS := hS.nilRd
  have hS := hS.front 6 rfl
  have hS := hS.front 6 rfl
  have hS := hS.front 6 rfl
  have hS := hS.front 6 rfl
  have hS := hS.front 6 rfl
  replace hS := hS.weak Weak.rowRd
  replace hS := hS.cut 7
  exact ⟨A9, c10, A13, c14, A17, c18, A21, c22, A25, c26, none, 0, ([] : List Mq), rfl, k11, k15, k19, k23, k27, ⟨Nat.le_refl _, Nat.zero_le _⟩, rfl, Yu, hS⟩
 replace H := Zp H hb
 refine Zs ?_
 refine Zc hK29 ?_
 refine Zd (fun K hK36 => ?_)
 refine Zf ?_
 refine Za rfl rfl rfl (Zi Zx rfl (Zhe _) hS Jy trivial Zv) ?_
 refine Za rfl rfl rfl (Ze Yq rfl) ?_
 refine Za rfl rfl rfl (Ze Xl rfl) ?_
 refine Za rfl rfl rfl (Zh Z3 rfl (Zhe _) hS Jy trivial Vz) ?_
 refine Za rfl rfl rfl (X8 rfl rfl) ?_
 refine Za rfl rfl rfl (Ze Vo rfl) ?_
 refine Za rfl rfl rfl (Zh Z3 rfl (Zhe _) hS Jy trivial Yx) ?_
 refine Za rfl rfl rfl (Ze Vo rfl) ?_
 refine Za rfl rfl rfl (Zh Z3 rfl (Zhe _) hS Jy trivial Yx) ?_
 refine Ym (ps := [(0, .tmp 31)]) [.int .i64 r7.id] Vh zc_3 rfl rfl rfl rfl rfl (by kernel_rfl) hS (fun b37 w hS hB => ?_)
 refine Zcm rfl rfl rfl rfl (by kernel_rfl) rfl ?_
 show Calls _ _ #[_, _, _, _, _] _ _
 refine Zha Tryz.func51 rfl Tryz.ntmps51 rfl ?_
 refine Zd (fun K hK39 => ?_)
 refine Zf ?_
 refine Z7 rfl rfl rfl CellsOf.agg hS (fun b40 w hS hB => ?_)
 refine Yd rfl rfl Zbx hS (fun b42 w hS hB => ?_)
 refine Zg ?_
 refine Zc hK39 ?_
 refine Zd (fun K hK44 => ?_)
 refine Zf ?_
 refine Za rfl rfl rfl (Ze Yq rfl) ?_
 refine Za rfl rfl rfl (Zi Yp rfl (Zhe _) hS Y2 trivial Zbt) ?_
 refine Zb 2 rfl ?_
 obtain ⟨r45, hm46, H⟩ := bind_some H
 refine Zn rfl rfl rfl rfl (by kernel_rfl) rfl (Zfu r7.tuple (IntKind.wrap .i64 (r7.tuple.term + 1)) r7.id A9 c10 _ (Zhh k11 (hS.row_rd hs3) (hS.row_blk hs3)) hm46) ?_
 rintro e w ⟨A47, c48, rfl, k49, hN⟩; refine ⟨_, rfl, ?_⟩; obtain ⟨hB, hS⟩ := hS.jn hN
 refine Zb 1 rfl ?_
 refine Za rfl rfl rfl (Z0 rfl rfl) ?_
 refine Za rfl rfl rfl (Z0 rfl rfl) ?_
 refine Za rfl rfl rfl (Ze Yq rfl) ?_
 refine Zl rfl rfl rfl CellsOf.agg hS ps2 st4_8 (by kernel_rfl) rfl (fun w hS hB => ?_)
 refine Zg ?_
 refine Zc hK44 ?_
 refine Zd (fun K hK51 => ?_)
 refine Yn 8 [5, 7] (fun i b => (i = 5 → b ≠ b40) ∧ (i = 7 → b ≠ b40)) ⟨by kernel_rfl, by kernel_rfl⟩ hS (fun w hS hB => ?_)
 refine Zr [true, true, true, false, true] (by decide +kernel) PFC.h ?_
 refine LtK.put rfl rfl rfl (Zy rfl) ?_
 refine LtK.put rfl rfl rfl (Ze Vf rfl) ?_
 refine LtK.put rfl rfl rfl (Zh Z3 rfl (Zhf _) hS Xi trivial Xu) ?_
 refine LtK.put rfl rfl rfl (Ze Vv rfl) ?_
 refine LtK.nil ?_
 refine Jv [3, 5] ⟨by decide, by kernel_rfl⟩ rfl (.call [false, false, false, true] 3 rfl rfl rfl ?_ (.put [false, false, false, false, false, true] 5 rfl rfl rfl ?_ .nil))
 ·try dsimp only [Zw]
  obtain ⟨l52, hm53, H⟩ := bind_some H
  refine Zg0 V5 em_27 rfl (by decide) rfl rfl rfl rfl hS hm53 (fun A54 c55 w k56 hS hB => ?_)
  refine Zg ?_
  refine Z6 hB ?_
  refine Yk [false, false, false, false, false, true] 5 ⟨by decide, by kernel_rfl, by kernel_rfl⟩ rfl rfl ?_
  try dsimp only [Zw]
  refine Zl rfl rfl rfl CellsOf.int hS ps3 Zgz (by kernel_rfl) rfl (fun w hS hB => ?_)
  refine Zg ?_
  refine Yb (hB.sub (fun _ _ h => by simpa using h)) ?_
  refine Zr [false, false, false, false, false, false, true] (by decide +kernel) PFC.h ?_
  refine LtK.put rfl rfl rfl (Ze Vd rfl) ?_
  refine LtK.nil ?_
  refine Yk [false, false, false, false, false, false, false, true] 7 ⟨by decide, by kernel_rfl, by kernel_rfl⟩ rfl rfl ?_
  try dsimp only [Zw]
  refine Zl rfl rfl rfl CellsOf.slice hS ps3 st18_1 (by kernel_rfl) rfl (fun w hS hB => ?_)
  refine Zg ?_
  refine Yb (hB.sub (fun _ _ h => by simpa using h)) ?_
  refine Ye (by kernel_rfl) ?_
  refine Zc hK51 ?_
  refine Zd (fun K hK58 => ?_)
  refine Zd (fun K hK59 => ?_)
  refine Zf ?_
  refine Zb 1 rfl ?_
  refine Za rfl rfl rfl (Yz Vh rfl) ?_
  refine Zb 1 rfl ?_
  refine Zg ?_
  refine Zc hK59 ?_
  refine Yc ?_
  refine Zgc 60 ?_
  refine Zd (fun K hK60 => ?_)
  refine Zf ?_
  refine Za rfl rfl rfl (Xk rfl rfl) ?_
  refine Zg ?_
  refine Zc hK60 ?_
  refine Zd (fun K hK61 => ?_)
  refine Zu rfl rfl ?_
  refine Zs ?_
  refine Zc hK61 ?_
  refine Zd (fun K hK62 => ?_)
  refine Yc ?_
  refine Zd (fun K hK63 => ?_)
  refine Zf ?_
  obtain ⟨e64, hi66, H⟩ := bind_some H
  obtain ⟨j65, hi66a, hi66b, hi66c⟩ := Y0 hi66
  refine Za rfl rfl rfl (Xh Vh rfl rfl hi66a hi66c (Rd.el (hS.box_rd Jq) Y6 hi66b)) ?_
  refine Za rfl rfl rfl (Zap Z3 rfl (Zhe _) (Rd.el (hS.box_rd Jq) Y6 hi66b) rfl) ?_
  refine Zb 1 rfl ?_
  refine Zg ?_
  refine Zc hK63 ?_
  refine Zf ?_
  refine Za rfl rfl rfl (Ze Vd rfl) ?_
  refine Za rfl rfl rfl (Zh Zc1 rfl (Zhe _) hS hs3 trivial Zba) ?_
  refine Zb 1 rfl ?_
  refine Za rfl rfl rfl (Zcn rfl rfl) ?_
  obtain ⟨e67, hi69, H⟩ := bind_some H
  obtain ⟨j68, hi69a, hi69b, hi69c⟩ := Y0 hi69
  refine Za rfl rfl rfl (Xh Zbs rfl rfl hi69a hi69c (Rd.el (hS.row_rd hs0) V5 hi69b)) ?_
  refine Zcd (a' := true) (zs := (Vw l52 (IntKind.wrap .i64 (e64 - 1)) true)) V5 rfl rfl rfl CellsOf.bool hS ps0 (Rd.el (hS.row_rd hs0) V5 hi69b) hi69a hi69b rfl Zeb (by kernel_rfl) rfl (fun w hS => ?_)
  refine Zg ?_
  refine Z4 ?_
  refine Zc hK62 ?_
  refine Zf ?_
  refine Za rfl rfl rfl (X8 rfl rfl) ?_
  refine Zb 1 rfl ?_
  refine Zg ?_
  refine Zfx ?_
  refine Zd (fun K hK70 => ?_)
  refine Zf ?_
  refine Za rfl rfl rfl (Xk rfl rfl) ?_
  refine Zg ?_
  refine Zc hK70 ?_
  refine Zd (fun K hK71 => ?_)
  refine Yg rfl rfl ?_
  refine X0 ?_
  refine Z9 ?_
  refine Z9 ?_
  refine Yy ?_
  refine Zc hK58 ?_
  refine Zd (fun K hK72 => ?_)
  refine Zf ?_
  refine Za rfl rfl rfl (Zi Zx rfl (Zhe _) hS hs3 trivial Zv) ?_
  refine Zl rfl rfl rfl CellsOf.agg hS ps2 Z8 (by kernel_rfl) rfl (fun w hS hB => ?_)
  refine Zg ?_
  refine Zc hK72 ?_
  refine Zk ?_
  refine Zm rfl (RV.cell rfl (Zt Zx hS Xi Zv) RV.nil) rfl ?_
  refine ⟨_, rfl, ?_⟩
  refine Zl rfl rfl rfl CellsOf.agg hS ps11 Z8 (by kernel_rfl) rfl (fun w hS hB => ?_)
  refine Zg ?_
  refine Zc hK36 ?_
  refine Zd (fun K hK73 => ?_)
  refine Zd (fun K hK74 => ?_)
  refine Zf ?_
  refine Za rfl rfl rfl (Ze Vd rfl) ?_
  refine Za rfl rfl rfl (Zh Zc1 rfl (Zhe _) hS Zbo trivial Zba) ?_
  obtain ⟨r75, hm76, H⟩ := bind_some H
  refine Zn rfl rfl rfl rfl (by kernel_rfl) (by rw [(Y8 rfl)]; rfl) (Zc9 (Vw l52 (IntKind.wrap .i64 (e64 - 1)) true) A54 c55 _ (Zhh (Za7 k56) (hS.row_rd hs0) (hS.row_blk hs0)) hm76) ?_
  rintro e w ⟨rfl, hN⟩; refine ⟨_, rfl, ?_⟩; obtain ⟨hB, hS⟩ := hS.jn hN
  refine Zg ?_
  refine Zc hK74 ?_
  refine Z1 rfl (fun hb => ?_) (fun hb => ?_)
  ·replace H := Zo H hb
   refine Zd (fun K hK77 => ?_)
   refine Zf ?_
   refine Za rfl rfl rfl (Zi Zx rfl (Zhe _) hS Zbo trivial Zv) ?_
   obtain ⟨r78, hm79, H⟩ := bind_some H
   refine Zn rfl rfl rfl rfl (by kernel_rfl) (by rw [(Y8 rfl)]; rfl) (Zf0 (⟨r7.id, r7.n, 1, r7.binary, r45.1, r7.commit, r7.applied, (Vw l52 (IntKind.wrap .i64 (e64 - 1)) true), r7.next, r7.mtch, r7.caps⟩ : Co) A47 c48 A54 c55 A17 c18 A21 c22 A25 c26 _ (Zhh k49 (hS.rd Y2) (hS.rd_blk Y2)) (Zhh (Za7 k56) (hS.row_rd hs0) (hS.row_blk hs0)) (Zhh k19 (hS.row_rd hs7) (hS.row_blk hs7)) (Zhh k23 (hS.row_rd hs8) (hS.row_blk hs8)) (Zhh k27 (hS.row_rd hs9) (hS.row_blk hs9)) hm79) ?_
   rintro e w ⟨A80, c81, A84, c85, A88, c89, A92, c93, A96, c97, rfl, k82, k86, k90, k94, k98, hN⟩; refine ⟨_, rfl, ?_⟩; obtain ⟨hB, hS⟩ := hS.jn hN
   refine Zl rfl rfl rfl CellsOf.agg hS ps15 Z8 (by kernel_rfl) rfl (fun w hS hB => ?_)
   refine Zb 1 rfl ?_
   refine Zg ?_
   refine Zc hK77 ?_
   refine Zk ?_
   refine Zj ?_
   refine Zm rfl (RV.cell rfl (Zt Zx hS hs15 Zv) (RV.tmp rfl RV.nil)) rfl ?_
   obtain rfl := QJ H
   have hS := hS.nilRds
   replace hS := hS.nilRd
   have hS := hS.front 6 rfl
   have hS := hS.front 6 rfl
   have hS := hS.front 6 rfl
   have hS := hS.front 6 rfl
   have hS := hS.front 6 rfl
   replace hS := hS.cut 7
   exact ⟨A80, c81, A84, c85, A88, c89, A92, c93, A96, c97, none, 0, ([] : List Mq), rfl, k82, k86, k90, k94, k98, ⟨Nat.le_refl _, Nat.zero_le _⟩, rfl, Yu, hS⟩
  replace H := Zp H hb
  refine Zs ?_
  refine Zc hK73 ?_
  refine Zd (fun K hK100 => ?_)
  refine Zf ?_
  refine Za rfl rfl rfl (Zi Zx rfl (Zhe _) hS Zbo trivial Zv) ?_
  obtain ⟨r101, hm102, H⟩ := bind_some H
  refine Zn rfl rfl rfl rfl (by kernel_rfl) (by rw [(Y8 rfl)]; rfl) (c_elect_end (⟨r7.id, r7.n, 1, r7.binary, r45.1, r7.commit, r7.applied, (Vw l52 (IntKind.wrap .i64 (e64 - 1)) true), r7.next, r7.mtch, r7.caps⟩ : Co) A47 c48 A54 c55 A17 c18 A21 c22 A25 c26 _ (Zhh k49 (hS.rd Y2) (hS.rd_blk Y2)) (Zhh (Za7 k56) (hS.row_rd hs0) (hS.row_blk hs0)) (Zhh k19 (hS.row_rd hs7) (hS.row_blk hs7)) (Zhh k23 (hS.row_rd hs8) (hS.row_blk hs8)) (Zhh k27 (hS.row_rd hs9) (hS.row_blk hs9)) hm102) ?_
  rintro e w ⟨rfl, hN⟩; refine ⟨_, rfl, ?_⟩; obtain ⟨hB, hS⟩ := hS.jn hN
  refine Zb 1 rfl ?_
  refine Za rfl rfl rfl (Z0 rfl rfl) ?_
  refine Za rfl rfl rfl (Z0 rfl rfl) ?_
  refine Zb 2 rfl ?_
  refine Zg ?_
  refine Zc hK100 ?_
  refine Zd (fun K hK103 => ?_)
  refine Yn 8 [6] (fun i b => (i = 6 → b ≠ b4)) ⟨by kernel_rfl, by kernel_rfl⟩ hS (fun w hS hB => ?_)
  refine Zr [true] (by decide +kernel) PFC.h ?_
  refine LtK.put rfl rfl rfl (Zi Zx rfl (Zhf _) hS Zbo trivial Zv) ?_
  refine LtK.nil ?_
  refine Y1 [false, true, true, true, true] [6] (fun b => b ≠ b4) (by decide +kernel) (by intro j hj b hb; simp only [List.mem_cons, List.not_mem_nil, or_false] at hj; (try rcases hj with rfl | rfl | rfl | rfl | rfl) <;> first | (simp [hb]; done) | simp_all) PFC.h ?_
  refine LtK.put rfl rfl rfl (Zi Zx rfl (Zhg _ _) hS Zbo (hS.ne 11 10 rfl rfl rfl) Zv) ?_
  refine LtK.put rfl rfl rfl (Zy rfl) ?_
  refine LtK.put rfl rfl rfl (Zy rfl) ?_
  refine LtK.put rfl rfl rfl (Xn (cells := [.int .u8 1, .int .i64 0, .int .i64 0, .int .i64 0, .int .i64 0, .int .i64 r101.1, .int .i64 r101.2, .int .i64 0, .bool false, .slice none 0 0, .int .i64 0, .int .i64 0, .int .i64 0, .int .i64 0, .bool false]) rfl (by kernel_rfl)) ?_
  refine LtK.nil ?_
  refine Z5 [false, false, false, false, false, true] 5 ⟨by decide, by kernel_rfl, by kernel_rfl⟩ rfl rfl ?_
  try dsimp only [Zw]
  obtain ⟨r104, hm105, H⟩ := bind_some H
  refine Zn rfl rfl rfl rfl (by kernel_rfl) (by rw [(Y8 rfl)]; rfl) (c_msg_Others (⟨r7.id, r7.n, 1, r7.binary, r45.1, r7.commit, r7.applied, (Vw l52 (IntKind.wrap .i64 (e64 - 1)) true), r7.next, r7.mtch, r7.caps⟩ : Co) (⟨1, 0, 0, 0, 0, r101.1, r101.2, 0, false, [], (⟨0, 0, 0, 0, false⟩ : St)⟩ : Ms) A47 c48 A54 c55 A17 c18 A21 c22 A25 c26 none 0 _ (Zhh k49 (hS.rd Y2) (hS.rd_blk Y2)) (Zhh (Za7 k56) (hS.row_rd hs0) (hS.row_blk hs0)) (Zhh k19 (hS.row_rd hs7) (hS.row_blk hs7)) (Zhh k23 (hS.row_rd hs8) (hS.row_blk hs8)) (Zhh k27 (hS.row_rd hs9) (hS.row_blk hs9)) (SlI.nil _ _) hm105) ?_
  rintro e w ⟨A106, c107, q110, rfl, k108, hq111, okq112, hN⟩; refine ⟨_, rfl, ?_⟩; obtain ⟨hB, hS⟩ := hS.jn hN
  refine Zg ?_
  refine Z6 hB ?_
  refine Yk [false, false, false, false, false, false, true] 6 ⟨by decide, by kernel_rfl, by kernel_rfl⟩ rfl rfl ?_
  try dsimp only [Zw]
  refine Zl rfl rfl rfl CellsOf.agg hS ps12 Z8 (by kernel_rfl) rfl (fun w hS hB => ?_)
  refine Zg ?_
  refine Yb (hB.sub (fun _ _ h => by simpa using h)) ?_
  refine Zr [false, false, false, false, false, false, false, true] (by decide +kernel) PFC.h ?_
  refine LtK.put rfl rfl rfl (Z2 rfl) ?_
  refine LtK.nil ?_
  refine Ye (by kernel_rfl) ?_
  refine Zc hK103 ?_
  refine Zk ?_
  refine Zm rfl (RV.cell rfl (Zt Zx hS Jc Zv) (RV.tmp rfl RV.nil)) rfl ?_
  obtain rfl := QJ H
  have hS := hS.front 1 rfl
  replace hS := hS.front 1 rfl
  have hS := hS.front 11 rfl
  have hS := hS.front 11 rfl
  have hS := hS.front 11 rfl
  have hS := hS.front 5 rfl
  have hS := hS.front 6 rfl
  replace hS := hS.cut 7
  exact ⟨A47, c48, A54, c55, A17, c18, A21, c22, A25, c26, A106, c107, q110, by rw [(Y8 rfl)]; rfl, k49, (Za7 k56), k19, k23, k27, k108, hq111, okq112, hS.eqv (by rw [(Y8 rfl)]; rfl)⟩
 ·try dsimp only [Zw]
  refine Zl rfl rfl rfl CellsOf.int hS ps2 Zgz (by kernel_rfl) rfl (fun w hS hB => ?_)
  refine Zg ?_
  refine Yb (hB.sub (fun _ _ h => by simpa using h)) ?_
  refine Z5 [false, false, false, true] 3 ⟨by decide, by kernel_rfl, by kernel_rfl⟩ rfl rfl ?_
  try dsimp only [Zw]
  obtain ⟨l52, hm53, H⟩ := bind_some H
  refine Zg0 V5 em_27 rfl (by decide) rfl rfl rfl rfl hS hm53 (fun A54 c55 w k56 hS hB => ?_)
  refine Zg ?_
  refine Z6 hB ?_
  refine Zr [false, false, false, false, false, false, true] (by decide +kernel) PFC.h ?_
  refine LtK.put rfl rfl rfl (Ze Vd rfl) ?_
  refine LtK.nil ?_
  refine Yk [false, false, false, false, false, false, false, true] 7 ⟨by decide, by kernel_rfl, by kernel_rfl⟩ rfl rfl ?_
  try dsimp only [Zw]
  refine Zl rfl rfl rfl CellsOf.slice hS ps3 st18_1 (by kernel_rfl) rfl (fun w hS hB => ?_)
  refine Zg ?_
  refine Yb (hB.sub (fun _ _ h => by simpa using h)) ?_
  refine Ye (by kernel_rfl) ?_
  refine Zc hK51 ?_
  refine Zd (fun K hK58 => ?_)
  refine Zd (fun K hK59 => ?_)
  refine Zf ?_
  refine Zb 1 rfl ?_
  refine Za rfl rfl rfl (Yz Vh rfl) ?_
  refine Zb 1 rfl ?_
  refine Zg ?_
  refine Zc hK59 ?_
  refine Yc ?_
  refine Zgc 60 ?_
  refine Zd (fun K hK60 => ?_)
  refine Zf ?_
  refine Za rfl rfl rfl (Xk rfl rfl) ?_
  refine Zg ?_
  refine Zc hK60 ?_
  refine Zd (fun K hK61 => ?_)
  refine Zu rfl rfl ?_
  refine Zs ?_
  refine Zc hK61 ?_
  refine Zd (fun K hK62 => ?_)
  refine Yc ?_
  refine Zd (fun K hK63 => ?_)
  refine Zf ?_
  obtain ⟨e64, hi66, H⟩ := bind_some H
  obtain ⟨j65, hi66a, hi66b, hi66c⟩ := Y0 hi66
  refine Za rfl rfl rfl (Xh Vh rfl rfl hi66a hi66c (Rd.el (hS.box_rd Jq) Y6 hi66b)) ?_
  refine Za rfl rfl rfl (Zap Z3 rfl (Zhe _) (Rd.el (hS.box_rd Jq) Y6 hi66b) rfl) ?_
  refine Zb 1 rfl ?_
  refine Zg ?_
  refine Zc hK63 ?_
  refine Zf ?_
  refine Za rfl rfl rfl (Ze Vd rfl) ?_
  refine Za rfl rfl rfl (Zh Zc1 rfl (Zhe _) hS hs3 trivial Zba) ?_
  refine Zb 1 rfl ?_
  refine Za rfl rfl rfl (Zcn rfl rfl) ?_
  obtain ⟨e67, hi69, H⟩ := bind_some H
  obtain ⟨j68, hi69a, hi69b, hi69c⟩ := Y0 hi69
  refine Za rfl rfl rfl (Xh Zbs rfl rfl hi69a hi69c (Rd.el (hS.row_rd hs0) V5 hi69b)) ?_
  refine Zcd (a' := true) (zs := (Vw l52 (IntKind.wrap .i64 (e64 - 1)) true)) V5 rfl rfl rfl CellsOf.bool hS ps0 (Rd.el (hS.row_rd hs0) V5 hi69b) hi69a hi69b rfl Zeb (by kernel_rfl) rfl (fun w hS => ?_)
  refine Zg ?_
  refine Z4 ?_
  refine Zc hK62 ?_
  refine Zf ?_
  refine Za rfl rfl rfl (X8 rfl rfl) ?_
  refine Zb 1 rfl ?_
  refine Zg ?_
  refine Zfx ?_
  refine Zd (fun K hK70 => ?_)
  refine Zf ?_
  refine Za rfl rfl rfl (Xk rfl rfl) ?_
  refine Zg ?_
  refine Zc hK70 ?_
  refine Zd (fun K hK71 => ?_)
  refine Yg rfl rfl ?_
  refine X0 ?_
  refine Z9 ?_
  refine Z9 ?_
  refine Yy ?_
  refine Zc hK58 ?_
  refine Zd (fun K hK72 => ?_)
  refine Zf ?_
  refine Za rfl rfl rfl (Zi Zx rfl (Zhe _) hS hs3 trivial Zv) ?_
  refine Zl rfl rfl rfl CellsOf.agg hS ps2 Z8 (by kernel_rfl) rfl (fun w hS hB => ?_)
  refine Zg ?_
  refine Zc hK72 ?_
  refine Zk ?_
  refine Zm rfl (RV.cell rfl (Zt Zx hS Xi Zv) RV.nil) rfl ?_
  refine ⟨_, rfl, ?_⟩
  refine Zl rfl rfl rfl CellsOf.agg hS ps11 Z8 (by kernel_rfl) rfl (fun w hS hB => ?_)
  refine Zg ?_
  refine Zc hK36 ?_
  refine Zd (fun K hK73 => ?_)
  refine Zd (fun K hK74 => ?_)
  refine Zf ?_
  refine Za rfl rfl rfl (Ze Vd rfl) ?_
  refine Za rfl rfl rfl (Zh Zc1 rfl (Zhe _) hS Zbo trivial Zba) ?_
  obtain ⟨r75, hm76, H⟩ := bind_some H
  refine Zn rfl rfl rfl rfl (by kernel_rfl) (by rw [(Y8 rfl)]; rfl) (Zc9 (Vw l52 (IntKind.wrap .i64 (e64 - 1)) true) A54 c55 _ (Zhh (Za7 k56) (hS.row_rd hs0) (hS.row_blk hs0)) hm76) ?_
  rintro e w ⟨rfl, hN⟩; refine ⟨_, rfl, ?_⟩; obtain ⟨hB, hS⟩ := hS.jn hN
  refine Zg ?_
  refine Zc hK74 ?_
  refine Z1 rfl (fun hb => ?_) (fun hb => ?_)
  ·replace H := Zo H hb
   refine Zd (fun K hK77 => ?_)
   refine Zf ?_
   refine Za rfl rfl rfl (Zi Zx rfl (Zhe _) hS Zbo trivial Zv) ?_
   obtain ⟨r78, hm79, H⟩ := bind_some H
   refine Zn rfl rfl rfl rfl (by kernel_rfl) (by rw [(Y8 rfl)]; rfl) (Zf0 (⟨r7.id, r7.n, 1, r7.binary, r45.1, r7.commit, r7.applied, (Vw l52 (IntKind.wrap .i64 (e64 - 1)) true), r7.next, r7.mtch, r7.caps⟩ : Co) A47 c48 A54 c55 A17 c18 A21 c22 A25 c26 _ (Zhh k49 (hS.rd Y2) (hS.rd_blk Y2)) (Zhh (Za7 k56) (hS.row_rd hs0) (hS.row_blk hs0)) (Zhh k19 (hS.row_rd hs7) (hS.row_blk hs7)) (Zhh k23 (hS.row_rd hs8) (hS.row_blk hs8)) (Zhh k27 (hS.row_rd hs9) (hS.row_blk hs9)) hm79) ?_
   rintro e w ⟨A80, c81, A84, c85, A88, c89, A92, c93, A96, c97, rfl, k82, k86, k90, k94, k98, hN⟩; refine ⟨_, rfl, ?_⟩; obtain ⟨hB, hS⟩ := hS.jn hN
   refine Zl rfl rfl rfl CellsOf.agg hS ps15 Z8 (by kernel_rfl) rfl (fun w hS hB => ?_)
   refine Zb 1 rfl ?_
   refine Zg ?_
   refine Zc hK77 ?_
   refine Zk ?_
   refine Zj ?_
   refine Zm rfl (RV.cell rfl (Zt Zx hS hs15 Zv) (RV.tmp rfl RV.nil)) rfl ?_
   obtain rfl := QJ H
   have hS := hS.nilRds
   replace hS := hS.nilRd
   have hS := hS.front 6 rfl
   have hS := hS.front 6 rfl
   have hS := hS.front 6 rfl
   have hS := hS.front 6 rfl
   have hS := hS.front 6 rfl
   replace hS := hS.cut 7
   exact ⟨A80, c81, A84, c85, A88, c89, A92, c93, A96, c97, none, 0, ([] : List Mq), rfl, k82, k86, k90, k94, k98, ⟨Nat.le_refl _, Nat.zero_le _⟩, rfl, Yu, hS⟩
  replace H := Zp H hb
  refine Zs ?_
  refine Zc hK73 ?_
  refine Zd (fun K hK100 => ?_)
  refine Zf ?_
  refine Za rfl rfl rfl (Zi Zx rfl (Zhe _) hS Zbo trivial Zv) ?_
  obtain ⟨r101, hm102, H⟩ := bind_some H
  refine Zn rfl rfl rfl rfl (by kernel_rfl) (by rw [(Y8 rfl)]; rfl) (c_elect_end (⟨r7.id, r7.n, 1, r7.binary, r45.1, r7.commit, r7.applied, (Vw l52 (IntKind.wrap .i64 (e64 - 1)) true), r7.next, r7.mtch, r7.caps⟩ : Co) A47 c48 A54 c55 A17 c18 A21 c22 A25 c26 _ (Zhh k49 (hS.rd Y2) (hS.rd_blk Y2)) (Zhh (Za7 k56) (hS.row_rd hs0) (hS.row_blk hs0)) (Zhh k19 (hS.row_rd hs7) (hS.row_blk hs7)) (Zhh k23 (hS.row_rd hs8) (hS.row_blk hs8)) (Zhh k27 (hS.row_rd hs9) (hS.row_blk hs9)) hm102) ?_
  rintro e w ⟨rfl, hN⟩; refine ⟨_, rfl, ?_⟩; obtain ⟨hB, hS⟩ := hS.jn hN
  refine Zb 1 rfl ?_
  refine Za rfl rfl rfl (Z0 rfl rfl) ?_
  refine Za rfl rfl rfl (Z0 rfl rfl) ?_
  refine Zb 2 rfl ?_
  refine Zg ?_
  refine Zc hK100 ?_
  refine Zd (fun K hK103 => ?_)
  refine Yn 8 [6] (fun i b => (i = 6 → b ≠ b4)) ⟨by kernel_rfl, by kernel_rfl⟩ hS (fun w hS hB => ?_)
  refine Zr [true] (by decide +kernel) PFC.h ?_
  refine LtK.put rfl rfl rfl (Zi Zx rfl (Zhf _) hS Zbo trivial Zv) ?_
  refine LtK.nil ?_
  refine Y1 [false, true, true, true, true] [6] (fun b => b ≠ b4) (by decide +kernel) (by intro j hj b hb; simp only [List.mem_cons, List.not_mem_nil, or_false] at hj; (try rcases hj with rfl | rfl | rfl | rfl | rfl) <;> first | (simp [hb]; done) | simp_all) PFC.h ?_
  refine LtK.put rfl rfl rfl (Zi Zx rfl (Zhg _ _) hS Zbo (hS.ne 11 10 rfl rfl rfl) Zv) ?_
  refine LtK.put rfl rfl rfl (Zy rfl) ?_
  refine LtK.put rfl rfl rfl (Zy rfl) ?_
  refine LtK.put rfl rfl rfl (Xn (cells := [.int .u8 1, .int .i64 0, .int .i64 0, .int .i64 0, .int .i64 0, .int .i64 r101.1, .int .i64 r101.2, .int .i64 0, .bool false, .slice none 0 0, .int .i64 0, .int .i64 0, .int .i64 0, .int .i64 0, .bool false]) rfl (by kernel_rfl)) ?_
  refine LtK.nil ?_
  refine Z5 [false, false, false, false, false, true] 5 ⟨by decide, by kernel_rfl, by kernel_rfl⟩ rfl rfl ?_
  try dsimp only [Zw]
  obtain ⟨r104, hm105, H⟩ := bind_some H
  refine Zn rfl rfl rfl rfl (by kernel_rfl) (by rw [(Y8 rfl)]; rfl) (c_msg_Others (⟨r7.id, r7.n, 1, r7.binary, r45.1, r7.commit, r7.applied, (Vw l52 (IntKind.wrap .i64 (e64 - 1)) true), r7.next, r7.mtch, r7.caps⟩ : Co) (⟨1, 0, 0, 0, 0, r101.1, r101.2, 0, false, [], (⟨0, 0, 0, 0, false⟩ : St)⟩ : Ms) A47 c48 A54 c55 A17 c18 A21 c22 A25 c26 none 0 _ (Zhh k49 (hS.rd Y2) (hS.rd_blk Y2)) (Zhh (Za7 k56) (hS.row_rd hs0) (hS.row_blk hs0)) (Zhh k19 (hS.row_rd hs7) (hS.row_blk hs7)) (Zhh k23 (hS.row_rd hs8) (hS.row_blk hs8)) (Zhh k27 (hS.row_rd hs9) (hS.row_blk hs9)) (SlI.nil _ _) hm105) ?_
  rintro e w ⟨A106, c107, q110, rfl, k108, hq111, okq112, hN⟩; refine ⟨_, rfl, ?_⟩; obtain ⟨hB, hS⟩ := hS.jn hN
  refine Zg ?_
  refine Z6 hB ?_
  refine Yk [false, false, false, false, false, false, true] 6 ⟨by decide, by kernel_rfl, by kernel_rfl⟩ rfl rfl ?_
  try dsimp only [Zw]
  refine Zl rfl rfl rfl CellsOf.agg hS ps12 Z8 (by kernel_rfl) rfl (fun w hS hB => ?_)
  refine Zg ?_
  refine Yb (hB.sub (fun _ _ h => by simpa using h)) ?_
  refine Zr [false, false, false, false, false, false, false, true] (by decide +kernel) PFC.h ?_
  refine LtK.put rfl rfl rfl (Z2 rfl) ?_
  refine LtK.nil ?_
  refine Ye (by kernel_rfl) ?_
  refine Zc hK103 ?_
  refine Zk ?_
  refine Zm rfl (RV.cell rfl (Zt Zx hS Jc Zv) (RV.tmp rfl RV.nil)) rfl ?_
  obtain rfl := QJ H
  have hS := hS.front 1 rfl
  replace hS := hS.front 1 rfl
  have hS := hS.front 11 rfl
  have hS := hS.front 11 rfl
  have hS := hS.front 11 rfl
  have hS := hS.front 5 rfl
  have hS := hS.front 6 rfl
  replace hS := hS.cut 7
  exact ⟨A47, c48, A54, c55, A17, c18, A21, c22, A25, c26, A106, c107, q110, by rw [(Y8 rfl)]; rfl, k49, (Za7 k56), k19, k23, k27, k108, hq111, okq112, hS.eqv (by rw [(Y8 rfl)]; rfl)⟩
theorem c_msg_entries (x0 : Ms) (A0_ : OA) (c0_ : Nat) (w0 : World) (s0_ : SlI w0 V3 A0_ c0_ x0.entries) {r : Bool} (H : Zdo x0 = some r) : Calls Tryz.prog 131 #[.agg #[.int .u8 x0.kind, .int .i64 x0.frm, .int .i64 x0.dst, .int .i64 x0.term, .int .i64 x0.cap, .int .i64 x0.last, .int .i64 x0.lastTerm, .int .i64 x0.commit, .bool x0.okk, .slice A0_ x0.entries.length c0_, .int .i64 x0.snap.index, .int .i64 x0.snap.term, .int .i64 x0.snap.sum, .int .i64 x0.snap.level, .bool x0.snap.final]] w0 fun e w' => e = .returned (.bool r) ∧ St0 All w0 w' [] := by
 unfold Zdo at H
 refine Yh Tryz.func131 rfl Tryz.ntmps131 rfl ?_
 have hS := St0.start All w0
 refine Zd (fun K hK1 => ?_)
 refine Zf ?_
 refine Z7 rfl rfl rfl CellsOf.agg hS (fun b2 w hS hB => ?_)
 refine Zb 1 rfl ?_
 refine Zg ?_
 refine Zc hK1 ?_
 refine Zd (fun K hK4 => ?_)
 refine Zf ?_
 refine Za rfl rfl rfl (Ze Ze2 rfl) ?_
 refine Za rfl rfl rfl (Zh Z3 rfl (Zhe _) hS hs0 trivial Ze9) ?_
 refine Zb 1 rfl ?_
 refine Zg ?_
 refine Zc hK4 ?_
 refine Zd (fun K hK5 => ?_)
 refine Zd (fun K hK6 => ?_)
 refine Zf ?_
 refine Za rfl rfl rfl (Ze Zbg rfl) ?_
 refine Za rfl rfl rfl (Zh Vm rfl (Zhe _) hS hs0 trivial Zfr) ?_
 refine Za rfl rfl rfl (Yz Xq rfl) ?_
 refine Zb 1 rfl ?_
 refine Zg ?_
 refine Zc hK6 ?_
 refine Yc ?_
 refine V7 (X := Nat × Bool × Int × Int) (fun x => (1, .pointer (some ⟨b2, 0, none⟩)) :: (2, .bool x.2.1) :: (3, .int .i64 x.2.2.1) :: (9, .slice A0_ x0.entries.length c0_) :: (10, .int .i64 (x0.entries.length : Int)) :: (11, .int .i64 x.2.2.2) :: []) (fun x w => St0 All w0 w (.box b2 [.int .u8 x0.kind, .int .i64 x0.frm, .int .i64 x0.dst, .int .i64 x0.term, .int .i64 x0.cap, .int .i64 x0.last, .int .i64 x0.lastTerm, .int .i64 x0.commit, .bool x0.okk, .slice A0_ x0.entries.length c0_, .int .i64 x0.snap.index, .int .i64 x0.snap.term, .int .i64 x0.snap.sum, .int .i64 x0.snap.level, .bool x0.snap.final] 32 :: []) ∧ J0 x0 x.1 x.2.1 x.2.2.1 x.2.2.2 = some r) (fun x => x.1) (Xw, false, x0.lastTerm, 0) (by repeat (first | exact Sub.nil | refine Sub.cons rfl ?_)) ⟨hS, H⟩ ?_
 rintro ⟨n, v7, v8, v9⟩ w ⟨hS, H⟩
 dsimp only at hS H ⊢
 obtain _ | n := n
 ·have H0 : none = some r := H
  cases H0
 rw [J0] at H
 refine Zd (fun K hK10 => ?_)
 refine Zf ?_
 refine Za rfl rfl rfl (Xk rfl rfl) ?_
 refine Zg ?_
 refine Zc hK10 ?_
 refine Zd (fun K hK11 => ?_)
 refine Z1 rfl (fun hb => ?_) (fun hb => ?_)
 rotate_left
 ·replace H := Zp H hb
  refine X0 ?_
  refine Z9 ?_
  refine Z9 ?_
  refine Yy ?_
  refine Zc hK5 ?_
  refine Zd (fun K hK27 => ?_)
  refine Zf ?_
  refine Za rfl rfl rfl (Ze Zbg rfl) ?_
  refine Za rfl rfl rfl (Zh Vm rfl (Zhe _) hS hs0 trivial Zfr) ?_
  refine Za rfl rfl rfl (Yz Xq rfl) ?_
  refine Za rfl rfl rfl (Zdj rfl rfl) ?_
  refine Zb 1 rfl ?_
  refine Zg ?_
  refine Zc hK27 ?_
  refine Zk ?_
  refine Zm rfl (RV.tmp rfl RV.nil) rfl ?_
  obtain rfl := QJ H
  replace hS := hS.cut 0
  exact ⟨rfl, hS⟩
 replace H := Zo H hb
 refine Zs ?_
 refine Zc hK11 ?_
 refine Zd (fun K hK12 => ?_)
 refine Yc ?_
 refine Zd (fun K hK13 => ?_)
 refine Zf ?_
 obtain ⟨e14, hi16, H⟩ := bind_some H
 obtain ⟨j15, hi16a, hi16b, hi16c⟩ := Y0 hi16
 refine Za rfl rfl rfl (Xh Xq rfl rfl hi16a hi16c (Rd.el (hS.rd0 s0_.rd) Vj hi16b)) ?_
 refine Za rfl rfl rfl (Zdz Zbw rfl (Zhe _) (Rd.el (hS.rd0 s0_.rd) Vj hi16b) Zep) ?_
 refine Yd rfl rfl zc_53 hS (fun b17 w hS hB => ?_)
 refine Zl rfl rfl rfl CellsOf.agg hS ps0 st0_3 (by kernel_rfl) rfl (fun w hS hB => ?_)
 refine Zg ?_
 refine Zc hK13 ?_
 refine Zd (fun K hK19 => ?_)
 refine Zd (fun K hK20 => ?_)
 refine Zf ?_
 refine Za rfl rfl rfl (Zi Zbw rfl (Zhe _) hS hs0 trivial Zep) ?_
 obtain ⟨r21, hm22, H⟩ := bind_some H
 refine Zn rfl rfl rfl rfl (by kernel_rfl) rfl (c_entry_Right e14 _ hm22) ?_
 rintro e w ⟨rfl, hN⟩; refine ⟨_, rfl, ?_⟩; obtain ⟨hB, hS⟩ := hS.jn hN
 refine Za rfl rfl rfl (Yo rfl) ?_
 refine Zb 1 rfl ?_
 refine Zq 18 rfl (fun hb => ?_) (fun hb => ?_)
 ·replace H := Zo H hb
  refine Zb 8 rfl ?_
  refine Zg ?_
  refine Zc hK20 ?_
  refine Zu rfl rfl ?_
  refine Zd (fun K hK23 => ?_)
  refine Zf ?_
  refine Zb 1 rfl ?_
  refine Zg ?_
  refine Zc hK23 ?_
  refine Zk ?_
  refine Zj ?_
  refine Zz ?_
  refine Zj ?_
  refine Zj ?_
  refine Zz ?_
  refine Zj ?_
  refine Zm rfl (RV.tmp rfl RV.nil) rfl ?_
  obtain rfl := QJ H
  replace hS := hS.cut 0
  exact ⟨rfl, hS⟩
 replace H := Zp H hb
 refine Za rfl rfl rfl (Ze Zcp rfl) ?_
 refine Za rfl rfl rfl (Zh Z3 rfl (Zhe _) hS hs0 trivial Yx) ?_
 refine Zb 1 rfl ?_
 refine Za rfl rfl rfl (Ze Js rfl) ?_
 refine Za rfl rfl rfl (Zh Z3 rfl (Zhe _) hS Y2 trivial Jb) ?_
 obtain ⟨r24, hm25, H⟩ := bind_some H
 refine Zn rfl rfl rfl rfl (by kernel_rfl) rfl (Zau e14.term v8 x0.term _ hm25) ?_
 rintro e w ⟨rfl, hN⟩; refine ⟨_, rfl, ?_⟩; obtain ⟨hB, hS⟩ := hS.jn hN
 refine Za rfl rfl rfl (Yo rfl) ?_
 refine Zb 1 rfl ?_
 refine Zg ?_
 refine Zc hK20 ?_
 refine Z1 rfl (fun hb => ?_) (fun hb => ?_)
 rotate_left
 ·replace H := Zp H hb
  refine Zs ?_
  refine Zc hK19 ?_
  refine Zf ?_
  refine Za rfl rfl rfl (Ze Zcp rfl) ?_
  refine Za rfl rfl rfl (Zh Z3 rfl (Zhe _) hS hs0 trivial Yx) ?_
  refine Zb 1 rfl ?_
  refine Zg ?_
  refine Z4 ?_
  refine Zc hK12 ?_
  refine Zf ?_
  refine Za rfl rfl rfl (X8 rfl rfl) ?_
  refine Zb 1 rfl ?_
  refine Zg ?_
  exact X9 (n, v7, e14.term, (IntKind.wrap .i64 (v9 + 1))) (by repeat (first | exact Sub.nil | refine Sub.cons rfl ?_)) ⟨(hS.sub (List.Sublist.cons _ (List.Sublist.cons_cons _ List.Sublist.slnil))), H⟩ (Nat.lt_succ_self _)
 replace H := Zo H hb
 refine Zd (fun K hK26 => ?_)
 refine Zf ?_
 refine Zb 1 rfl ?_
 refine Zg ?_
 refine Zc hK26 ?_
 refine Zk ?_
 refine Zj ?_
 refine Zz ?_
 refine Zj ?_
 refine Zj ?_
 refine Zz ?_
 refine Zj ?_
 refine Zm rfl (RV.tmp rfl RV.nil) rfl ?_
 obtain rfl := QJ H
 replace hS := hS.cut 0
 exact ⟨rfl, hS⟩
end Go.Proofs.YtamjlcaoieliaaaGreat
