/- Texts of one claim put together. -/
import Derived.Test.YtamjlcaoieliaaaGreatMr1
import Derived.Test.YtamjlcaoieliaaaGreatMr2
namespace Go.Proofs.YtamjlcaoieliaaaGreat
open Go Go.RowKit
set_option maxRecDepth 100000
set_option maxHeartbeats 4000000
theorem c_ref12_Great (x0 : Tu) (A0_ : OA) (c0_ : Nat) (w0 : World) (s0_ : SlI w0 Jj A0_ c0_ x0.log) {r : Bool} (H : Zc1 x0 = some r) : Calls Tryz.prog 46 #[.agg #[.int .i64 x0.snap.index, .int .i64 x0.snap.term, .int .i64 x0.snap.sum, .int .i64 x0.snap.level, .bool x0.snap.final, .slice A0_ x0.log.length c0_, .int .i64 x0.term, .int .i64 x0.vote]] w0 fun e w' => e = .returned (.bool r) ∧ St0 All w0 w' [] := by
 unfold Zc1 at H
 refine Yo Tryz.func46 rfl Tryz.ntmps46 rfl ?_
 have hS := St0.start All w0
 refine Ze (fun K hK1 => ?_)
 refine Zf ?_
 refine Yd rfl rfl rfl CellsOf.agg hS (fun b2 w hS hB => ?_)
 refine Zc 1 rfl ?_
 refine Zg ?_
 refine Zb hK1 ?_
 refine Ze (fun K hK4 => ?_)
 refine Zf ?_
 refine Za rfl rfl rfl (Zd X0 rfl) ?_
 refine Za rfl rfl rfl (Zh Xq rfl (Zgw _) hS hs0 trivial V7) ?_
 refine Za rfl rfl rfl (Yw Y4 rfl) ?_
 refine Za rfl rfl rfl (Y9 rfl rfl) ?_
 refine Zc 1 rfl ?_
 refine Zg ?_
 refine Zb hK4 ?_
 refine Zk ?_
 refine Zl rfl (RV.tmp rfl RV.nil) rfl ?_
 obtain rfl := QJ H
 replace hS := hS.cut 0
 exact ⟨rfl, hS⟩
theorem c_ref20_Great (x0 : Co) (A0_ : OA) (c0_ : Nat) (A1_ : OA) (c1_ : Nat) (A2_ : OA) (c2_ : Nat) (A3_ : OA) (c3_ : Nat) (A4_ : OA) (c4_ : Nat) (w0 : World) (s0_ : SlI w0 Jj A0_ c0_ x0.tuple.log) (s1_ : SlI w0 enO A1_ c1_ x0.votes) (s2_ : SlI w0 V1 A2_ c2_ x0.next) (s3_ : SlI w0 V1 A3_ c3_ x0.mtch) (s4_ : SlI w0 V1 A4_ c4_ x0.caps) {r : Bool} (H : Za3 x0 = some r) : Calls Tryz.prog 7 #[.agg #[.int .i64 x0.id, .int .i64 x0.n, .int .u8 x0.role, .int .i64 x0.binary, .int .i64 x0.tuple.snap.index, .int .i64 x0.tuple.snap.term, .int .i64 x0.tuple.snap.sum, .int .i64 x0.tuple.snap.level, .bool x0.tuple.snap.final, .slice A0_ x0.tuple.log.length c0_, .int .i64 x0.tuple.term, .int .i64 x0.tuple.vote, .int .i64 x0.commit, .int .i64 x0.applied.index, .int .i64 x0.applied.term, .int .i64 x0.applied.sum, .int .i64 x0.applied.level, .bool x0.applied.final, .slice A1_ x0.votes.length c1_, .slice A2_ x0.next.length c2_, .slice A3_ x0.mtch.length c3_, .slice A4_ x0.caps.length c4_]] w0 fun e w' => e = .returned (.bool r) ∧ St0 All w0 w' [] := by
 unfold Za3 at H
 refine Yo Tryz.func7 rfl Tryz.ntmps7 rfl ?_
 have hS := St0.start All w0
 refine Ze (fun K hK1 => ?_)
 refine Zf ?_
 refine Yd rfl rfl rfl CellsOf.agg hS (fun b2 w hS hB => ?_)
 refine Zc 1 rfl ?_
 refine Zg ?_
 refine Zb hK1 ?_
 refine Ze (fun K hK4 => ?_)
 refine Zf ?_
 refine Za rfl rfl rfl (Zd Yr rfl) ?_
 refine Za rfl rfl rfl (Zj Y7 rfl (Zgw _) hS hs0 trivial Zak) ?_
 obtain ⟨r5, hm6, H⟩ := bind_some H
 refine Zq rfl rfl rfl rfl (by kernel_rfl) rfl (c_ref12_Great x0.tuple A0_ c0_ _ (Zgz s0_.k (hS.rd0 s0_.rd) (hS.blk0 s0_.blk)) hm6) ?_
 rintro e w ⟨rfl, hN⟩; refine ⟨_, rfl, ?_⟩; obtain ⟨hB, hS⟩ := hS.jn hN
 refine Zc 1 rfl ?_
 refine Zs 6 rfl (fun hb => ?_) (fun hb => ?_)
 ·replace H := Zp H hb
  refine Zc 38 rfl ?_
  refine Zg ?_
  refine Zb hK4 ?_
  refine Zk ?_
  refine Zl rfl (RV.tmp rfl RV.nil) rfl ?_
  obtain rfl := QJ H
  replace hS := hS.cut 0
  exact ⟨rfl, hS⟩
 replace H := Zo H hb
 refine Za rfl rfl rfl (Zd Za9 rfl) ?_
 refine Za rfl rfl rfl (Zh sc_27 rfl (Zgw _) hS hs0 trivial Zfu) ?_
 refine Za rfl rfl rfl (Yw el_27 rfl) ?_
 refine Za rfl rfl rfl (Y9 rfl rfl) ?_
 refine Zc 2 rfl ?_
 refine Zs 12 rfl (fun hb => ?_) (fun hb => ?_)
 ·replace H := Zp H hb
  refine Zc 32 rfl ?_
  refine Zg ?_
  refine Zb hK4 ?_
  refine Zk ?_
  refine Zl rfl (RV.tmp rfl RV.nil) rfl ?_
  obtain rfl := QJ H
  replace hS := hS.cut 0
  exact ⟨rfl, hS⟩
 replace H := Zo H hb
 refine Za rfl rfl rfl (Zd Vo rfl) ?_
 refine Za rfl rfl rfl (Zh Xt rfl (Zgw _) hS hs0 trivial Jr) ?_
 refine Za rfl rfl rfl (Yw Xl rfl) ?_
 refine Za rfl rfl rfl (Y9 rfl rfl) ?_
 refine Zc 2 rfl ?_
 refine Zs 18 rfl (fun hb => ?_) (fun hb => ?_)
 ·replace H := Zp H hb
  refine Zc 26 rfl ?_
  refine Zg ?_
  refine Zb hK4 ?_
  refine Zk ?_
  refine Zl rfl (RV.tmp rfl RV.nil) rfl ?_
  obtain rfl := QJ H
  replace hS := hS.cut 0
  exact ⟨rfl, hS⟩
 replace H := Zo H hb
 refine Za rfl rfl rfl (Zd Vt rfl) ?_
 refine Za rfl rfl rfl (Zh Xt rfl (Zgw _) hS hs0 trivial Jz) ?_
 refine Za rfl rfl rfl (Yw Xl rfl) ?_
 refine Za rfl rfl rfl (Y9 rfl rfl) ?_
 refine Zc 2 rfl ?_
 refine Zs 24 rfl (fun hb => ?_) (fun hb => ?_)
 ·replace H := Zp H hb
  refine Zc 20 rfl ?_
  refine Zg ?_
  refine Zb hK4 ?_
  refine Zk ?_
  refine Zl rfl (RV.tmp rfl RV.nil) rfl ?_
  obtain rfl := QJ H
  replace hS := hS.cut 0
  exact ⟨rfl, hS⟩
 replace H := Zo H hb
 refine Za rfl rfl rfl (Zd Jn rfl) ?_
 refine Za rfl rfl rfl (Zh Xt rfl (Zgw _) hS hs0 trivial Zde) ?_
 refine Za rfl rfl rfl (Yw Xl rfl) ?_
 refine Za rfl rfl rfl (Y9 rfl rfl) ?_
 refine Zc 2 rfl ?_
 refine Zs 30 rfl (fun hb => ?_) (fun hb => ?_)
 ·replace H := Zp H hb
  refine Zc 14 rfl ?_
  refine Zg ?_
  refine Zb hK4 ?_
  refine Zk ?_
  refine Zl rfl (RV.tmp rfl RV.nil) rfl ?_
  obtain rfl := QJ H
  replace hS := hS.cut 0
  exact ⟨rfl, hS⟩
 replace H := Zo H hb
 refine Za rfl rfl rfl (Zd Yr rfl) ?_
 refine Za rfl rfl rfl (Zd Xj rfl) ?_
 refine Za rfl rfl rfl (Zd Yj rfl) ?_
 refine Za rfl rfl rfl (Zh Zw rfl (Zgw _) hS hs0 trivial Zew) ?_
 refine Za rfl rfl rfl (Y9 rfl rfl) ?_
 refine Zc 2 rfl ?_
 refine Zs 37 rfl (fun hb => ?_) (fun hb => ?_)
 ·replace H := Zp H hb
  refine Zc 7 rfl ?_
  refine Zg ?_
  refine Zb hK4 ?_
  refine Zk ?_
  refine Zl rfl (RV.tmp rfl RV.nil) rfl ?_
  obtain rfl := QJ H
  replace hS := hS.cut 0
  exact ⟨rfl, hS⟩
 replace H := Zo H hb
 refine Za rfl rfl rfl (Zd Yr rfl) ?_
 refine Za rfl rfl rfl (Zd Xj rfl) ?_
 refine Za rfl rfl rfl (Zd Yj rfl) ?_
 refine Za rfl rfl rfl (Zh Zw rfl (Zgw _) hS hs0 trivial Zew) ?_
 refine Za rfl rfl rfl (Xe rfl rfl) ?_
 refine Zc 2 rfl ?_
 refine Zg ?_
 refine Zb hK4 ?_
 refine Zk ?_
 refine Zl rfl (RV.tmp rfl RV.nil) rfl ?_
 obtain rfl := QJ H
 replace hS := hS.cut 0
 exact ⟨rfl, hS⟩
theorem Zcz (w0 : World) {r : St} (H : Zaj = some r) : Calls Tryz.prog 88 #[] w0 fun e w' => e = .returned (.agg #[.int .i64 r.index, .int .i64 r.term, .int .i64 r.sum, .int .i64 r.level, .bool r.final]) ∧ St0 All w0 w' [] := by
 unfold Zaj at H
 refine gw_enter0 Tryz.func88 rfl Tryz.ntmps88 rfl ?_
 have hS := St0.start All w0
 refine Ze (fun K hK1 => ?_)
 refine Zf ?_
 refine Yh rfl rfl zc_23 hS (fun b2 w hS hB => ?_)
 refine Zg ?_
 refine Zb hK1 ?_
 refine Ze (fun K hK4 => ?_)
 refine Zf ?_
 refine Za rfl rfl rfl (X1 (cells := [.int .i64 0, .int .i64 0, .int .i64 0, .int .i64 1, .bool false]) rfl (by kernel_rfl)) ?_
 refine Zm rfl rfl rfl CellsOf.agg hS ps0 Zd4 (by kernel_rfl) rfl (fun w hS hB => ?_)
 refine Zg ?_
 refine Zb hK4 ?_
 refine Zk ?_
 refine Zl rfl (RV.cell rfl (Z0 Y3 hS hs0 Je) RV.nil) rfl ?_
 obtain rfl := QJ H
 replace hS := hS.cut 0
 exact ⟨rfl, hS⟩
theorem c_ref12_First (w0 : World) {r : Tu} (H : Zgh = some r) : Calls Tryz.prog 48 #[] w0 fun e w' => ∃ (A0 : OA) (c0 : Nat), e = .returned (.agg #[.int .i64 r.snap.index, .int .i64 r.snap.term, .int .i64 r.snap.sum, .int .i64 r.snap.level, .bool r.snap.final, .slice A0 r.log.length c0, .int .i64 r.term, .int .i64 r.vote]) ∧ (r.log.length ≤ c0 ∧ c0 ≤ maxLen) ∧ St0 All w0 w' [.rd A0 (Yl Jj r.log)] := by
 unfold Zgh at H
 refine gw_enter0 Tryz.func48 rfl Tryz.ntmps48 rfl ?_
 have hS := St0.start All w0
 refine Ze (fun K hK1 => ?_)
 refine Zf ?_
 refine Yh rfl rfl zc_26 hS (fun b2 w hS hB => ?_)
 refine Zg ?_
 refine Zb hK1 ?_
 refine Ze (fun K hK4 => ?_)
 refine Zf ?_
 obtain ⟨r5, hm6, H⟩ := bind_some H
 refine Zq rfl rfl rfl rfl (by kernel_rfl) rfl (Zcz _ hm6) ?_
 rintro e w ⟨rfl, hN⟩; refine ⟨_, rfl, ?_⟩; obtain ⟨hB, hS⟩ := hS.jn hN
 refine Za rfl rfl rfl (X1 (cells := [.int .i64 r5.index, .int .i64 r5.term, .int .i64 r5.sum, .int .i64 r5.level, .bool r5.final, .slice none 0 0, .int .i64 0, .int .i64 0]) rfl (by kernel_rfl)) ?_
 refine Zm rfl rfl rfl CellsOf.agg hS ps0 st0_8 (by kernel_rfl) rfl (fun w hS hB => ?_)
 refine Zg ?_
 refine Zb hK4 ?_
 refine Zk ?_
 refine Zl rfl (RV.cell rfl (Z0 Y7 hS hs0 Zbr) RV.nil) rfl ?_
 obtain rfl := QJ H
 have hS := hS.nilRd
 replace hS := hS.cut 1
 exact ⟨none, 0, rfl, ⟨Nat.le_refl _, Nat.zero_le _⟩, hS⟩
theorem c_ref12_Own (x0 : Tu) (A0_ : OA) (c0_ : Nat) (w0 : World) (s0_ : SlI w0 Jj A0_ c0_ x0.log) {r : Tu} (H : Zdl x0 = some r) : Calls Tryz.prog 84 #[.agg #[.int .i64 x0.snap.index, .int .i64 x0.snap.term, .int .i64 x0.snap.sum, .int .i64 x0.snap.level, .bool x0.snap.final, .slice A0_ x0.log.length c0_, .int .i64 x0.term, .int .i64 x0.vote]] w0 fun e w' => ∃ (A0 : OA) (c0 : Nat), e = .returned (.agg #[.int .i64 r.snap.index, .int .i64 r.snap.term, .int .i64 r.snap.sum, .int .i64 r.snap.level, .bool r.snap.final, .slice A0 r.log.length c0, .int .i64 r.term, .int .i64 r.vote]) ∧ (r.log.length ≤ c0 ∧ c0 ≤ maxLen) ∧ St0 All w0 w' [.row (.slice A0 r.log.length c0) 53 3 r.log.length (Yl Jj r.log)] := by
 unfold Zdl at H
 refine Yo Tryz.func84 rfl Tryz.ntmps84 rfl ?_
 have hS := St0.start All w0
 refine Ze (fun K hK1 => ?_)
 refine Zf ?_
 refine Yd rfl rfl rfl CellsOf.agg hS (fun b2 w hS hB => ?_)
 refine Yh rfl rfl zc_26 hS (fun b4 w hS hB => ?_)
 refine Zg ?_
 refine Zb hK1 ?_
 refine Ze (fun K hK6 => ?_)
 refine Zf ?_
 refine Zbp Y4 rfl rfl hS (fun b7 w hS hB => ?_)
 refine Za rfl rfl rfl (Zd X0 rfl) ?_
 refine Za rfl rfl rfl (Zh Xq rfl (Zgw _) hS Vf trivial V7) ?_
 obtain ⟨l9, hf10, H⟩ := bind_some H
 refine Jt (ys := x0.log) X6 oc_enE em_24 (by decide) rfl rfl rfl rfl hS (fun _ => ps0) (hS.rd0 s0_.rd) hf10 (fun A11 c12 w k13 hS => ?_)
 refine Za rfl rfl rfl (Zd X0 rfl) ?_
 refine Zm rfl rfl rfl CellsOf.slice hS ps2 st5_1 (by kernel_rfl) rfl (fun w hS hB => ?_)
 refine Zg ?_
 refine Zb hK6 ?_
 refine Ze (fun K hK14 => ?_)
 refine Zf ?_
 refine Za rfl rfl rfl (Zj Y7 rfl (Zgw _) hS Vf trivial Zbr) ?_
 refine Zm rfl rfl rfl CellsOf.agg hS ps1 st0_8 (by kernel_rfl) rfl (fun w hS hB => ?_)
 refine Zg ?_
 refine Zb hK14 ?_
 refine Zk ?_
 refine Zl rfl (RV.cell rfl (Z0 Y7 hS Xw Zbr) RV.nil) rfl ?_
 obtain rfl := QJ H
 have hS := hS.front 0 rfl
 replace hS := hS.cut 1
 exact ⟨A11, c12, rfl, k13, hS⟩
theorem Zck (x0 : Tu) (A0_ : OA) (c0_ : Nat) (w0 : World) (s0_ : SlI w0 Jj A0_ c0_ x0.log) {r : Int} (H : Jw x0 = some r) : Calls Tryz.prog 43 #[.agg #[.int .i64 x0.snap.index, .int .i64 x0.snap.term, .int .i64 x0.snap.sum, .int .i64 x0.snap.level, .bool x0.snap.final, .slice A0_ x0.log.length c0_, .int .i64 x0.term, .int .i64 x0.vote]] w0 fun e w' => e = .returned (.int .i64 r) ∧ St0 All w0 w' [] := by
 unfold Jw at H
 refine Yo Tryz.func43 rfl Tryz.ntmps43 rfl ?_
 have hS := St0.start All w0
 refine Ze (fun K hK1 => ?_)
 refine Zf ?_
 refine Yd rfl rfl rfl CellsOf.agg hS (fun b2 w hS hB => ?_)
 refine Zc 1 rfl ?_
 refine Zg ?_
 refine Zb hK1 ?_
 refine Ze (fun K hK4 => ?_)
 refine Zf ?_
 refine Za rfl rfl rfl (Zd Xj rfl) ?_
 refine Za rfl rfl rfl (Zd Yj rfl) ?_
 refine Za rfl rfl rfl (Zh Zw rfl (Zgw _) hS hs0 trivial Y8) ?_
 refine Za rfl rfl rfl (Zd X0 rfl) ?_
 refine Za rfl rfl rfl (Zh Xq rfl (Zgw _) hS hs0 trivial V7) ?_
 refine Za rfl rfl rfl (Yw Y4 rfl) ?_
 refine Za rfl rfl rfl (Xc rfl rfl) ?_
 refine Zc 1 rfl ?_
 refine Zg ?_
 refine Zb hK4 ?_
 refine Zk ?_
 refine Zl rfl (RV.tmp rfl RV.nil) rfl ?_
 obtain rfl := QJ H
 replace hS := hS.cut 0
 exact ⟨rfl, hS⟩
theorem c_ref20_New (x0 : Int) (x1 : Int) (x2 : Int) (x3 : Tu) (A0_ : OA) (c0_ : Nat) (w0 : World) (s0_ : SlI w0 Jj A0_ c0_ x3.log) {r : Co} (H : Zf6 x0 x1 x2 x3 = some r) : Calls Tryz.prog 47 #[.int .i64 x0, .int .i64 x1, .int .i64 x2, .agg #[.int .i64 x3.snap.index, .int .i64 x3.snap.term, .int .i64 x3.snap.sum, .int .i64 x3.snap.level, .bool x3.snap.final, .slice A0_ x3.log.length c0_, .int .i64 x3.term, .int .i64 x3.vote]] w0 fun e w' => ∃ (A0 : OA) (c0 : Nat) (A1 : OA) (c1 : Nat) (A2 : OA) (c2 : Nat) (A3 : OA) (c3 : Nat) (A4 : OA) (c4 : Nat), e = .returned (.agg #[.int .i64 r.id, .int .i64 r.n, .int .u8 r.role, .int .i64 r.binary, .int .i64 r.tuple.snap.index, .int .i64 r.tuple.snap.term, .int .i64 r.tuple.snap.sum, .int .i64 r.tuple.snap.level, .bool r.tuple.snap.final, .slice A0 r.tuple.log.length c0, .int .i64 r.tuple.term, .int .i64 r.tuple.vote, .int .i64 r.commit, .int .i64 r.applied.index, .int .i64 r.applied.term, .int .i64 r.applied.sum, .int .i64 r.applied.level, .bool r.applied.final, .slice A1 r.votes.length c1, .slice A2 r.next.length c2, .slice A3 r.mtch.length c3, .slice A4 r.caps.length c4]) ∧ (r.tuple.log.length ≤ c0 ∧ c0 ≤ maxLen) ∧ (r.votes.length ≤ c1 ∧ c1 ≤ maxLen) ∧ (r.next.length ≤ c2 ∧ c2 ≤ maxLen) ∧ (r.mtch.length ≤ c3 ∧ c3 ≤ maxLen) ∧ (r.caps.length ≤ c4 ∧ c4 ≤ maxLen) ∧ St0 All w0 w' [.row (.slice A0 r.tuple.log.length c0) 53 3 r.tuple.log.length (Yl Jj r.tuple.log), .row (.slice A1 r.votes.length c1) 4 1 r.votes.length (Yl enO r.votes), .row (.slice A2 r.next.length c2) 3 1 r.next.length (Yl V1 r.next), .row (.slice A3 r.mtch.length c3) 3 1 r.mtch.length (Yl V1 r.mtch), .row (.slice A4 r.caps.length c4) 3 1 r.caps.length (Yl V1 r.caps)] := by
 unfold Zf6 at H
 refine gw_enter4 Tryz.func47 rfl Tryz.ntmps47 rfl ?_
 have hS := St0.start All w0
 refine Ze (fun K hK1 => ?_)
 refine Zf ?_
 refine Yd rfl rfl rfl CellsOf.agg hS (fun b2 w hS hB => ?_)
 refine Yh rfl rfl Zd5 hS (fun b4 w hS hB => ?_)
 refine Zg ?_
 refine Zb hK1 ?_
 refine Ze (fun K hK6 => ?_)
 refine Ze (fun K hK7 => ?_)
 refine Zf ?_
 refine Zc 1 rfl ?_
 refine Za rfl rfl rfl (Xe rfl rfl) ?_
 refine Zc 1 rfl ?_
 refine Zs 13 rfl (fun hb => ?_) (fun hb => ?_)
 ·replace H := Zp H hb
  refine Zc 12 rfl ?_
  refine Zg ?_
  refine Zb hK7 ?_
  refine Zt rfl rfl ?_
  refine Ze (fun K hK8 => ?_)
  refine Zf ?_
  refine Za rfl rfl rfl (X1 (cells := [.int .i64 0, .int .i64 0, .int .u8 0, .int .i64 0, .int .i64 0, .int .i64 0, .int .i64 0, .int .i64 0, .bool false, .slice none 0 0, .int .i64 0, .int .i64 0, .int .i64 0, .int .i64 0, .int .i64 0, .int .i64 0, .int .i64 0, .bool false, .slice none 0 0, .slice none 0 0, .slice none 0 0, .slice none 0 0]) rfl (by kernel_rfl)) ?_
  refine Zm rfl rfl rfl CellsOf.agg hS ps0 Yz (by kernel_rfl) rfl (fun w hS hB => ?_)
  refine Zg ?_
  refine Zb hK8 ?_
  refine Zk ?_
  refine Zi ?_
  refine Zl rfl (RV.cell rfl (Z0 Ye hS hs0 Z3) RV.nil) rfl ?_
  obtain rfl := QJ H
  have hS := hS.nilRow 3 1
  have hS := hS.nilRow 3 1
  have hS := hS.nilRow 3 1
  have hS := hS.nilRow 4 1
  have hS := hS.nilRow 53 3
  replace hS := hS.cut 5
  exact ⟨none, 0, none, 0, none, 0, none, 0, none, 0, rfl, ⟨Nat.le_refl _, Nat.zero_le _⟩, ⟨Nat.le_refl _, Nat.zero_le _⟩, ⟨Nat.le_refl _, Nat.zero_le _⟩, ⟨Nat.le_refl _, Nat.zero_le _⟩, ⟨Nat.le_refl _, Nat.zero_le _⟩, hS⟩
 replace H := Zo H hb
 refine Zc 1 rfl ?_
 refine Za rfl rfl rfl (Y9 rfl rfl) ?_
 refine Zc 2 rfl ?_
 refine Zs 17 rfl (fun hb => ?_) (fun hb => ?_)
 ·replace H := Zp H hb
  refine Zc 8 rfl ?_
  refine Zg ?_
  refine Zb hK7 ?_
  refine Zt rfl rfl ?_
  refine Ze (fun K hK9 => ?_)
  refine Zf ?_
  refine Za rfl rfl rfl (X1 (cells := [.int .i64 0, .int .i64 0, .int .u8 0, .int .i64 0, .int .i64 0, .int .i64 0, .int .i64 0, .int .i64 0, .bool false, .slice none 0 0, .int .i64 0, .int .i64 0, .int .i64 0, .int .i64 0, .int .i64 0, .int .i64 0, .int .i64 0, .bool false, .slice none 0 0, .slice none 0 0, .slice none 0 0, .slice none 0 0]) rfl (by kernel_rfl)) ?_
  refine Zm rfl rfl rfl CellsOf.agg hS ps0 Yz (by kernel_rfl) rfl (fun w hS hB => ?_)
  refine Zg ?_
  refine Zb hK9 ?_
  refine Zk ?_
  refine Zi ?_
  refine Zl rfl (RV.cell rfl (Z0 Ye hS hs0 Z3) RV.nil) rfl ?_
  obtain rfl := QJ H
  have hS := hS.nilRow 3 1
  have hS := hS.nilRow 3 1
  have hS := hS.nilRow 3 1
  have hS := hS.nilRow 4 1
  have hS := hS.nilRow 53 3
  replace hS := hS.cut 5
  exact ⟨none, 0, none, 0, none, 0, none, 0, none, 0, rfl, ⟨Nat.le_refl _, Nat.zero_le _⟩, ⟨Nat.le_refl _, Nat.zero_le _⟩, ⟨Nat.le_refl _, Nat.zero_le _⟩, ⟨Nat.le_refl _, Nat.zero_le _⟩, ⟨Nat.le_refl _, Nat.zero_le _⟩, hS⟩
 replace H := Zo H hb
 refine Zc 1 rfl ?_
 refine Za rfl rfl rfl (Xe rfl rfl) ?_
 refine Zc 2 rfl ?_
 refine Zs 21 rfl (fun hb => ?_) (fun hb => ?_)
 ·replace H := Zp H hb
  refine Zc 4 rfl ?_
  refine Zg ?_
  refine Zb hK7 ?_
  refine Zt rfl rfl ?_
  refine Ze (fun K hK10 => ?_)
  refine Zf ?_
  refine Za rfl rfl rfl (X1 (cells := [.int .i64 0, .int .i64 0, .int .u8 0, .int .i64 0, .int .i64 0, .int .i64 0, .int .i64 0, .int .i64 0, .bool false, .slice none 0 0, .int .i64 0, .int .i64 0, .int .i64 0, .int .i64 0, .int .i64 0, .int .i64 0, .int .i64 0, .bool false, .slice none 0 0, .slice none 0 0, .slice none 0 0, .slice none 0 0]) rfl (by kernel_rfl)) ?_
  refine Zm rfl rfl rfl CellsOf.agg hS ps0 Yz (by kernel_rfl) rfl (fun w hS hB => ?_)
  refine Zg ?_
  refine Zb hK10 ?_
  refine Zk ?_
  refine Zi ?_
  refine Zl rfl (RV.cell rfl (Z0 Ye hS hs0 Z3) RV.nil) rfl ?_
  obtain rfl := QJ H
  have hS := hS.nilRow 3 1
  have hS := hS.nilRow 3 1
  have hS := hS.nilRow 3 1
  have hS := hS.nilRow 4 1
  have hS := hS.nilRow 53 3
  replace hS := hS.cut 5
  exact ⟨none, 0, none, 0, none, 0, none, 0, none, 0, rfl, ⟨Nat.le_refl _, Nat.zero_le _⟩, ⟨Nat.le_refl _, Nat.zero_le _⟩, ⟨Nat.le_refl _, Nat.zero_le _⟩, ⟨Nat.le_refl _, Nat.zero_le _⟩, ⟨Nat.le_refl _, Nat.zero_le _⟩, hS⟩
 replace H := Zo H hb
 refine Zc 2 rfl ?_
 refine Za rfl rfl rfl (Y9 rfl rfl) ?_
 refine Zc 1 rfl ?_
 refine Zg ?_
 refine Zb hK7 ?_
 refine Zz rfl (fun hb => ?_) (fun hb => ?_)
 ·replace H := Zp H hb
  refine Ze (fun K hK11 => ?_)
  refine Zf ?_
  refine Za rfl rfl rfl (X1 (cells := [.int .i64 0, .int .i64 0, .int .u8 0, .int .i64 0, .int .i64 0, .int .i64 0, .int .i64 0, .int .i64 0, .bool false, .slice none 0 0, .int .i64 0, .int .i64 0, .int .i64 0, .int .i64 0, .int .i64 0, .int .i64 0, .int .i64 0, .bool false, .slice none 0 0, .slice none 0 0, .slice none 0 0, .slice none 0 0]) rfl (by kernel_rfl)) ?_
  refine Zm rfl rfl rfl CellsOf.agg hS ps0 Yz (by kernel_rfl) rfl (fun w hS hB => ?_)
  refine Zg ?_
  refine Zb hK11 ?_
  refine Zk ?_
  refine Zi ?_
  refine Zl rfl (RV.cell rfl (Z0 Ye hS hs0 Z3) RV.nil) rfl ?_
  obtain rfl := QJ H
  have hS := hS.nilRow 3 1
  have hS := hS.nilRow 3 1
  have hS := hS.nilRow 3 1
  have hS := hS.nilRow 4 1
  have hS := hS.nilRow 53 3
  replace hS := hS.cut 5
  exact ⟨none, 0, none, 0, none, 0, none, 0, none, 0, rfl, ⟨Nat.le_refl _, Nat.zero_le _⟩, ⟨Nat.le_refl _, Nat.zero_le _⟩, ⟨Nat.le_refl _, Nat.zero_le _⟩, ⟨Nat.le_refl _, Nat.zero_le _⟩, ⟨Nat.le_refl _, Nat.zero_le _⟩, hS⟩
 replace H := Zo H hb
 refine Zr ?_
 refine Zb hK6 ?_
 refine Ze (fun K hK12 => ?_)
 refine Yi 13 [12] (fun i b => (i = 12 → b = b4 ∨ b = b2)) ⟨by kernel_rfl, by kernel_rfl⟩ hS (fun w hS hB => ?_)
 refine wpRF_start [⟨11, 9, 30, [.int .i64 0, .int .i64 0, .int .u8 0, .int .i64 0, .int .i64 0, .int .i64 0, .int .i64 0, .int .i64 0, .bool false, .slice none 0 0, .int .i64 0, .int .i64 0, .int .i64 0, .int .i64 0, .int .i64 0, .int .i64 0, .int .i64 0, .bool false, .slice none 0 0, .slice none 0 0, .slice none 0 0, .slice none 0 0]⟩] (.cons rfl Zd5 rfl rfl rfl .nil) hS (fun hok => ?_)
 dsimp only [List.cons_append, List.nil_append]
 refine Zb9 [true, true, true, true, false, true, true, true, true, true] [] (fun _ => True) (by decide +kernel) (fun _ h => by cases h) PFC.h (fun X Y tk ht w hS => ?_)
 refine LtK.put rfl rfl rfl (Zu rfl) ?_
 refine LtK.put rfl rfl rfl (Zu rfl) ?_
 refine LtK.put rfl rfl rfl (Zu rfl) ?_
 refine LtK.put rfl rfl rfl (Zj Y7 rfl (Zgy _ _) hS Xw trivial Zbr) ?_
 refine LtK.put rfl rfl rfl (Zd Xj rfl) ?_
 refine LtK.put rfl rfl rfl (Zd Yj rfl) ?_
 refine LtK.put rfl rfl rfl (Zh Zw rfl (Zgy _ _) hS Xw trivial Y8) ?_
 refine LtK.put rfl rfl rfl (Zd Xj rfl) ?_
 refine LtK.put rfl rfl rfl (Zj Y3 rfl (Zgy _ _) hS Xw trivial Je) ?_
 refine LtK_F' ht hS (by repeat (first | exact App.nil | apply App.cons)) (by repeat (first | exact App.nil | apply App.cons)) ?_
 dsimp only [List.cons_append, List.nil_append]
 refine Zgv [false, false, false, false, true] 4 hok ⟨by decide, by decide +kernel, by decide, by decide⟩ rfl rfl (fun _ => rfl) (fun _ => rfl) rfl (hend_of (by decide +kernel)) (fun X Y tk ht w hS => ?_)
 try dsimp only [Zy]
 obtain ⟨r13, hm14, H⟩ := bind_some H
 refine Zq rfl rfl rfl rfl (by kernel_rfl) rfl (c_ref12_Own x3 A0_ c0_ _ (Zgz s0_.k (hS.rd0 s0_.rd) (hS.blk0 s0_.blk)) hm14) ?_
 rintro e w ⟨A15, c16, rfl, k17, hN⟩; refine ⟨_, rfl, ?_⟩; obtain ⟨hB, hS⟩ := hS.jn hN
 refine Zg ?_
 refine Zgp ht hS hB (by repeat (first | exact App.nil | apply App.cons)) (by repeat (first | exact App.nil | apply App.cons)) ?_
 dsimp only [List.cons_append, List.nil_append]
 refine Zb9 [false, false, false, false, false, false, false, false, false, false, true] [] (fun _ => True) (by decide +kernel) (fun _ h => by cases h) PFC.h (fun X Y tk ht w hS => ?_)
 refine LtK.put rfl rfl rfl (X1 (cells := [.int .i64 x0, .int .i64 x1, .int .u8 0, .int .i64 x2, .int .i64 r13.snap.index, .int .i64 r13.snap.term, .int .i64 r13.snap.sum, .int .i64 r13.snap.level, .bool r13.snap.final, .slice A15 r13.log.length c16, .int .i64 r13.term, .int .i64 r13.vote, .int .i64 x3.snap.index, .int .i64 x3.snap.index, .int .i64 x3.snap.term, .int .i64 x3.snap.sum, .int .i64 x3.snap.level, .bool x3.snap.final, .slice none 0 0, .slice none 0 0, .slice none 0 0, .slice none 0 0]) rfl (by kernel_rfl)) ?_
 refine LtK_F' ht hS (by repeat (first | exact App.nil | apply App.cons)) (by repeat (first | exact App.nil | apply App.cons)) ?_
 dsimp only [List.cons_append, List.nil_append]
 refine wpRF_done hok (by decide) (by decide +kernel) (fun _ => rfl) (fun _ => rfl) rfl (fun tk htk w hS => ?_)
 obtain ⟨b19, tkb19, rfl, htk21⟩ := tk_cons htk
 obtain rfl := tk_nil htk21
 dsimp only [tkH, tkL, List.map] at hS ⊢
 refine Yu [false, false, false, false, false, false, false, false, false, false, false, false, true] 12 ⟨by decide, by kernel_rfl, by kernel_rfl⟩ rfl rfl ?_
 try dsimp only [Zy]
 refine Zm rfl rfl rfl CellsOf.agg hS ps3 Yz (by kernel_rfl) rfl (fun w hS hB => ?_)
 refine Zg ?_
 refine Yk (hB.sub (fun b _ h => by have h0 : b = b4 ∨ b = b2 := (by simpa using h); rcases h0 with h0 | h0; (rw [h0]; exact hS.ne 1 3 rfl rfl rfl); (rw [h0]; exact hS.ne 2 3 rfl rfl rfl))) ?_
 refine Z4 (by kernel_rfl) ?_
 refine Zb hK12 ?_
 refine Ze (fun K hK22 => ?_)
 refine Ze (fun K hK23 => ?_)
 refine Zf ?_
 refine Zc 1 rfl ?_
 refine Zg ?_
 refine Zb hK23 ?_
 refine Yf ?_
 replace hS := hS.nilRow 4 1
 replace hS := hS.nilRow 3 1
 replace hS := hS.nilRow 3 1
 replace hS := hS.nilRow 3 1
 refine Vz (X := Nat × Int × List Bool × OA × Nat × List Int × OA × Nat × List Int × OA × Nat × List Int × OA × Nat) (fun x => (0, .int .i64 x0) :: (1, .int .i64 x1) :: (2, .int .i64 x2) :: (7, .pointer (some ⟨b2, 0, none⟩)) :: (8, .pointer (some ⟨b4, 0, none⟩)) :: (9, .pointer (some ⟨b19, 0, none⟩)) :: (10, .int .i64 x.2.1) :: []) (fun x w => St0 All w0 w (.row (.slice x.2.2.2.2.2.2.2.2.2.2.2.2.1 x.2.2.2.2.2.2.2.2.2.2.2.1.length x.2.2.2.2.2.2.2.2.2.2.2.2.2) 3 1 x.2.2.2.2.2.2.2.2.2.2.2.1.length (Yl V1 x.2.2.2.2.2.2.2.2.2.2.2.1) :: .row (.slice x.2.2.2.2.2.2.2.2.2.1 x.2.2.2.2.2.2.2.2.1.length x.2.2.2.2.2.2.2.2.2.2.1) 3 1 x.2.2.2.2.2.2.2.2.1.length (Yl V1 x.2.2.2.2.2.2.2.2.1) :: .row (.slice x.2.2.2.2.2.2.1 x.2.2.2.2.2.1.length x.2.2.2.2.2.2.2.1) 3 1 x.2.2.2.2.2.1.length (Yl V1 x.2.2.2.2.2.1) :: .row (.slice x.2.2.2.1 x.2.2.1.length x.2.2.2.2.1) 4 1 x.2.2.1.length (Yl enO x.2.2.1) :: .row (.slice A15 r13.log.length c16) 53 3 r13.log.length (Yl Jj r13.log) :: .box b4 [.int .i64 0, .int .i64 0, .int .u8 0, .int .i64 0, .int .i64 0, .int .i64 0, .int .i64 0, .int .i64 0, .bool false, .slice none 0 0, .int .i64 0, .int .i64 0, .int .i64 0, .int .i64 0, .int .i64 0, .int .i64 0, .int .i64 0, .bool false, .slice none 0 0, .slice none 0 0, .slice none 0 0, .slice none 0 0] 30 :: .box b2 [.int .i64 x3.snap.index, .int .i64 x3.snap.term, .int .i64 x3.snap.sum, .int .i64 x3.snap.level, .bool x3.snap.final, .slice A0_ x3.log.length c0_, .int .i64 x3.term, .int .i64 x3.vote] 26 :: .box b19 [.int .i64 x0, .int .i64 x1, .int .u8 0, .int .i64 x2, .int .i64 r13.snap.index, .int .i64 r13.snap.term, .int .i64 r13.snap.sum, .int .i64 r13.snap.level, .bool r13.snap.final, .slice A15 r13.log.length c16, .int .i64 r13.term, .int .i64 r13.vote, .int .i64 x3.snap.index, .int .i64 x3.snap.index, .int .i64 x3.snap.term, .int .i64 x3.snap.sum, .int .i64 x3.snap.level, .bool x3.snap.final, .slice x.2.2.2.1 x.2.2.1.length x.2.2.2.2.1, .slice x.2.2.2.2.2.2.1 x.2.2.2.2.2.1.length x.2.2.2.2.2.2.2.1, .slice x.2.2.2.2.2.2.2.2.2.1 x.2.2.2.2.2.2.2.2.1.length x.2.2.2.2.2.2.2.2.2.2.1, .slice x.2.2.2.2.2.2.2.2.2.2.2.2.1 x.2.2.2.2.2.2.2.2.2.2.2.1.length x.2.2.2.2.2.2.2.2.2.2.2.2.2] 30 :: []) ∧ (x.2.2.1.length ≤ x.2.2.2.2.1 ∧ x.2.2.2.2.1 ≤ maxLen) ∧ (x.2.2.2.2.2.1.length ≤ x.2.2.2.2.2.2.2.1 ∧ x.2.2.2.2.2.2.2.1 ≤ maxLen) ∧ (x.2.2.2.2.2.2.2.2.1.length ≤ x.2.2.2.2.2.2.2.2.2.2.1 ∧ x.2.2.2.2.2.2.2.2.2.2.1 ≤ maxLen) ∧ (x.2.2.2.2.2.2.2.2.2.2.2.1.length ≤ x.2.2.2.2.2.2.2.2.2.2.2.2.2 ∧ x.2.2.2.2.2.2.2.2.2.2.2.2.2 ≤ maxLen) ∧ Zd0 x0 x1 x2 x3 r13 x.1 x.2.1 x.2.2.1 x.2.2.2.2.2.1 x.2.2.2.2.2.2.2.2.1 x.2.2.2.2.2.2.2.2.2.2.2.1 = some r) (fun x => x.1) (Xo, 1, [], none, 0, [], none, 0, [], none, 0, [], none, 0) (by repeat (first | exact Sub.nil | refine Sub.cons rfl ?_)) ⟨hS, ⟨Nat.le_refl _, Nat.zero_le _⟩, ⟨Nat.le_refl _, Nat.zero_le _⟩, ⟨Nat.le_refl _, Nat.zero_le _⟩, ⟨Nat.le_refl _, Nat.zero_le _⟩, H⟩ ?_
 rintro ⟨n, v24, v25, A26, c27, v30, A31, c32, v35, A36, c37, v40, A41, c42⟩ w ⟨hS, k28, k33, k38, k43, H⟩
 dsimp only at hS k28 k33 k38 k43 H ⊢
 obtain _ | n := n
 ·have H0 : none = some r := H
  cases H0
 rw [Zd0] at H
 refine Ze (fun K hK45 => ?_)
 refine Ze (fun K hK46 => ?_)
 refine Zf ?_
 refine Zc 2 rfl ?_
 refine Za rfl rfl rfl (Zbn rfl rfl) ?_
 refine Zg ?_
 refine Zb hK46 ?_
 refine Zz rfl (fun hb => ?_) (fun hb => ?_)
 rotate_left
 ·replace H := Zo H hb
  refine Vl ?_
  refine Yb ?_
  refine Yb ?_
  refine Y6 ?_
  refine Zb hK22 ?_
  refine Ze (fun K hK81 => ?_)
  refine Zf ?_
  refine Za rfl rfl rfl (Zd Jn rfl) ?_
  refine Za rfl rfl rfl (Zh Xt rfl (Zgw _) hS hs7 trivial Zde) ?_
  refine Zc 1 rfl ?_
  refine Za rfl rfl rfl (Za6 rfl rfl) ?_
  refine Zc 1 rfl ?_
  obtain ⟨e82, hi84, H⟩ := bind_some H
  obtain ⟨j83, hi84a, hi84b, hi84c⟩ := Ym hi84
  refine Za rfl rfl rfl (Y1 Xl rfl rfl hi84a hi84c (Rd.el (hS.row_rd hs0) Z9 hi84b)) ?_
  refine wpX_storeR (a' := x2) (zs := (Zeb v40 (IntKind.wrap .i64 (x0 - 1)) x2)) Z9 rfl rfl rfl CellsOf.int hS ps0 (Rd.el (hS.row_rd hs0) Z9 hi84b) hi84a hi84b rfl st0_1 (by kernel_rfl) rfl (fun w hS => ?_)
  have hi85b := setI_at (a := x2) hi84a hi84b
  have hi85a := hi84a
  refine Zg ?_
  refine Zb hK81 ?_
  refine Ze (fun K hK86 => ?_)
  refine Zf ?_
  refine Za rfl rfl rfl (Zj Ye rfl (Zgw _) hS hs7 trivial Z3) ?_
  refine Zm rfl rfl rfl CellsOf.agg hS ps5 Yz (by kernel_rfl) rfl (fun w hS hB => ?_)
  refine Zg ?_
  refine Zb hK86 ?_
  refine Zk ?_
  refine Zl rfl (RV.cell rfl (Z0 Ye hS hs5 Z3) RV.nil) rfl ?_
  obtain rfl := QJ H
  have hS := hS.front 0 rfl
  have hS := hS.front 1 rfl
  have hS := hS.front 2 rfl
  have hS := hS.front 3 rfl
  have hS := hS.front 4 rfl
  replace hS := hS.cut 5
  exact ⟨A15, c16, A26, c27, A31, c32, A36, c37, A41, c42, by (repeat rw [(Zb4 rfl)]); rfl, k17, k28, k33, k38, (k_set k43), hS.eqv (by (repeat rw [(Zb4 rfl)]); rfl)⟩
 replace H := Zp H hb
 refine Zr ?_
 refine Zb hK45 ?_
 refine Ze (fun K hK47 => ?_)
 refine Yf ?_
 refine Ze (fun K hK48 => ?_)
 refine Zf ?_
 refine Za rfl rfl rfl (Zd Za9 rfl) ?_
 refine Za rfl rfl rfl (Zh sc_27 rfl (Zgw _) hS hs7 trivial Zfu) ?_
 refine Y0 (ps := [(0, .const (.bool false))]) [.bool false] el_27 zc_4 rfl rfl rfl rfl rfl (by kernel_rfl) hS (fun b49 w hS hB => ?_)
 obtain ⟨l51, hf52, H⟩ := bind_some H
 refine Jt (ys := ([false] : List Bool)) he_enO oc_enO em_27 (by decide) rfl rfl rfl rfl hS (fun _ => ps4) (hS.box_rd hs0) hf52 (fun A53 c54 w k55 hS => ?_)
 refine Za rfl rfl rfl (Zd Za9 rfl) ?_
 refine Zm rfl rfl rfl CellsOf.slice hS ps8 st18_1 (by kernel_rfl) rfl (fun w hS hB => ?_)
 refine Zg ?_
 refine Zb hK48 ?_
 refine Ze (fun K hK56 => ?_)
 refine Yi 9 [6, 8] (fun i b => (i = 6 → False) ∧ (i = 8 → b ≠ b19)) ⟨by kernel_rfl, by kernel_rfl⟩ hS (fun w hS hB => ?_)
 refine Xa [true] [6] (fun _ => False) (by decide +kernel) (by intro j hj b hb; simp only [List.mem_cons, List.not_mem_nil, or_false] at hj; (try rcases hj with rfl | rfl | rfl | rfl | rfl) <;> first | (simp [hb]; done) | simp_all) PFC.h ?_
 refine LtK.put rfl rfl rfl (Zd Vo rfl) ?_
 refine LtK.nil ?_
 refine Zn [false, true] (by decide +kernel) PFC.h ?_
 refine LtK.put rfl rfl rfl (Zh Xt rfl (Zgx _) hS hs8 trivial Jr) ?_
 refine LtK.nil ?_
 refine Z6 [false, false, true] 2 ⟨by decide, by kernel_rfl, by kernel_rfl⟩ rfl rfl ?_
 try dsimp only [Zy]
 refine Za rfl rfl rfl (Zj Y7 rfl (Zgw _) hS hs7 trivial Zbr) ?_
 refine Zg ?_
 refine Z8 (Below.refl _ _) ?_
 refine Z6 [false, false, false, true] 3 ⟨by decide, by kernel_rfl, by kernel_rfl⟩ rfl rfl ?_
 try dsimp only [Zy]
 obtain ⟨r57, hm58, H⟩ := bind_some H
 refine Zq rfl rfl rfl rfl (by kernel_rfl) rfl (Zck x3 A0_ c0_ _ (Zgz s0_.k (hS.rd0 s0_.rd) (hS.blk0 s0_.blk)) hm58) ?_
 rintro e w ⟨rfl, hN⟩; refine ⟨_, rfl, ?_⟩; obtain ⟨hB, hS⟩ := hS.jn hN
 refine Zg ?_
 refine Z8 hB ?_
 refine Xa [false, false, false, false, true] [6] (fun _ => False) (by decide +kernel) (by intro j hj b hb; simp only [List.mem_cons, List.not_mem_nil, or_false] at hj; (try rcases hj with rfl | rfl | rfl | rfl | rfl) <;> first | (simp [hb]; done) | simp_all) PFC.h ?_
 refine LtK.put rfl rfl rfl (Xc rfl rfl) ?_
 refine LtK.nil ?_
 refine Z6 [false, false, false, false, false, true] 5 ⟨by decide, by kernel_rfl, by kernel_rfl⟩ rfl rfl ?_
 try dsimp only [Zy]
 refine Y0 (ps := [(0, .tmp 52)]) [.int .i64 (IntKind.wrap .i64 (r57 + 1))] Xl zc_3 rfl rfl rfl rfl rfl (by kernel_rfl) hS (fun b59 w hS hB => ?_)
 refine Zg ?_
 refine Z8 hB ?_
 refine Yu [false, false, false, false, false, false, true] 6 ⟨by decide, by kernel_rfl, by kernel_rfl⟩ rfl rfl ?_
 try dsimp only [Zy]
 obtain ⟨l61, hf62, H⟩ := bind_some H
 refine wpX_append2 (ys := ([(IntKind.wrap .i64 (r57 + 1))] : List Int)) Z9 oc_enI em_28 (by decide) rfl rfl rfl rfl hS (fun _ => ps4) (hS.box_rd hs0) hf62 (fun A63 c64 w k65 hS hB => ?_)
 refine Zg ?_
 refine Yk (hB.sub (fun _ _ h => by simp at h)) ?_
 refine Zn [false, false, false, false, false, false, false, true] (by decide +kernel) PFC.h ?_
 refine LtK.put rfl rfl rfl (Zd Vo rfl) ?_
 refine LtK.nil ?_
 refine Yu [false, false, false, false, false, false, false, false, true] 8 ⟨by decide, by kernel_rfl, by kernel_rfl⟩ rfl rfl ?_
 try dsimp only [Zy]
 refine Zm rfl rfl rfl CellsOf.slice hS ps9 st19_1 (by kernel_rfl) rfl (fun w hS hB => ?_)
 refine Zg ?_
 refine Yk (hB.sub (fun _ _ h => by simpa using h)) ?_
 refine Z4 (by kernel_rfl) ?_
 refine Zb hK56 ?_
 refine Ze (fun K hK66 => ?_)
 refine Zf ?_
 refine Za rfl rfl rfl (Zd Vt rfl) ?_
 refine Za rfl rfl rfl (Zh Xt rfl (Zgw _) hS hs9 trivial Jz) ?_
 refine Y0 (ps := [(0, .const (.int .i64 0))]) [.int .i64 0] Xl zc_3 rfl rfl rfl rfl rfl (by kernel_rfl) hS (fun b67 w hS hB => ?_)
 obtain ⟨l69, hf70, H⟩ := bind_some H
 refine Jt (ys := ([0] : List Int)) Z9 oc_enI em_28 (by decide) rfl rfl rfl rfl hS (fun _ => ps4) (hS.box_rd hs0) hf70 (fun A71 c72 w k73 hS => ?_)
 refine Za rfl rfl rfl (Zd Vt rfl) ?_
 refine Zm rfl rfl rfl CellsOf.slice hS ps10 st20_1 (by kernel_rfl) rfl (fun w hS hB => ?_)
 refine Zg ?_
 refine Zb hK66 ?_
 refine Zf ?_
 refine Za rfl rfl rfl (Zd Jn rfl) ?_
 refine Za rfl rfl rfl (Zh Xt rfl (Zgw _) hS Zex trivial Zde) ?_
 refine Y0 (ps := [(0, .const (.int .i64 0))]) [.int .i64 0] Xl zc_3 rfl rfl rfl rfl rfl (by kernel_rfl) hS (fun b74 w hS hB => ?_)
 obtain ⟨l76, hf77, H⟩ := bind_some H
 refine Jt (ys := ([0] : List Int)) Z9 oc_enI em_28 (by decide) rfl rfl rfl rfl hS (fun _ => ps4) (hS.box_rd hs0) hf77 (fun A78 c79 w k80 hS => ?_)
 refine Za rfl rfl rfl (Zd Jn rfl) ?_
 refine Zm rfl rfl rfl CellsOf.slice hS ps11 st21_1 (by kernel_rfl) rfl (fun w hS hB => ?_)
 refine Zg ?_
 refine Z1 ?_
 refine Zb hK47 ?_
 refine Zf ?_
 refine Zc 1 rfl ?_
 refine Za rfl rfl rfl (Xc rfl rfl) ?_
 refine Zc 1 rfl ?_
 refine Zg ?_
 exact X3 (n, (IntKind.wrap .i64 (v24 + 1)), l51, A53, c54, l61, A63, c64, l69, A71, c72, l76, A78, c79) (by repeat (first | exact Sub.nil | refine Sub.cons rfl ?_)) ⟨(hS.sub (List.Sublist.cons _ (List.Sublist.cons _ (List.Sublist.cons _ (List.Sublist.cons _ (List.Sublist.cons_cons _ (List.Sublist.cons_cons _ (List.Sublist.cons_cons _ (List.Sublist.cons_cons _ (List.Sublist.cons_cons _ (List.Sublist.cons_cons _ (List.Sublist.cons_cons _ (List.Sublist.cons_cons _ List.Sublist.slnil))))))))))))), k55, k65, k73, k80, H⟩ (Nat.lt_succ_self _)
theorem Zcm (x0 : List En) (A0_ : OA) (c0_ : Nat) (w0 : World) (s0_ : SlI w0 Jj A0_ c0_ x0) {r : List En} (H : Ve x0 = some r) : Calls Tryz.prog 102 #[.slice A0_ x0.length c0_] w0 fun e w' => ∃ (A0 : OA) (c0 : Nat), e = .returned (.slice A0 r.length c0) ∧ (r.length ≤ c0 ∧ c0 ≤ maxLen) ∧ St0 All w0 w' [.row (.slice A0 r.length c0) 53 3 r.length (Yl Jj r)] := by
 unfold Ve at H
 obtain ⟨rfl, hfew⟩ := Zd9 H
 cases A0_ with
 | none =>
  obtain rfl : r = [] := by
   cases r with
   | nil => rfl
   | cons e l => obtain ⟨b, o, h, _⟩ := s0_.rd 0 _ rfl; cases h
  refine Yo Tryz.func102 rfl Tryz.ntmps102 rfl ?_
  have hS := St0.start All w0
  refine Ze (fun K hK1 => ?_)
  refine Zf ?_
  refine Zc 1 rfl ?_
  refine Zg ?_
  refine Zb hK1 ?_
  refine Ze (fun K hK2 => ?_)
  refine Ze (fun K hK3 => ?_)
  refine Zf ?_
  refine Zc 1 rfl ?_
  refine Za rfl rfl rfl (Zdm (e := 53) (by kernel_rfl) rfl rfl) ?_
  refine Zg ?_
  refine Zb hK3 ?_
  refine Zt rfl rfl ?_
  refine Ze (fun K hK4 => ?_)
  refine Zf ?_
  refine Zc 1 rfl ?_
  refine Zg ?_
  refine Zb hK4 ?_
  refine Zk ?_
  refine Zi ?_
  refine Zl rfl (RV.tmp rfl RV.nil) rfl ?_
  have hS := hS.nilRow 53 3
  replace hS := hS.cut 1
  exact ⟨none, 0, rfl, ⟨Nat.le_refl _, Nat.zero_le _⟩, hS⟩
 | some a0 =>
  refine Yo Tryz.func102 rfl Tryz.ntmps102 rfl ?_
  have hS := St0.start All w0
  have H : (Zes ([] ++ r)).bind (fun z => some z) = some r := by rw [List.nil_append, H]; rfl
  refine Ze (fun K hK5 => ?_)
  refine Zf ?_
  refine Zc 1 rfl ?_
  refine Zg ?_
  refine Zb hK5 ?_
  refine Ze (fun K hK6 => ?_)
  refine Ze (fun K hK7 => ?_)
  refine Zf ?_
  refine Zc 1 rfl ?_
  refine Za rfl rfl rfl (Zdm (e := 53) (by kernel_rfl) rfl rfl) ?_
  refine Zg ?_
  refine Zb hK7 ?_
  refine Yp rfl rfl ?_
  refine Zr ?_
  refine Zb hK6 ?_
  refine Ze (fun K hK8 => ?_)
  refine Zf ?_
  refine Zbp Y4 rfl rfl hS (fun b9 w hS hB => ?_)
  refine Zc 1 rfl ?_
  obtain ⟨l11, hf12, H⟩ := bind_some H
  refine Jt (ys := r) X6 oc_enE em_24 (by decide) rfl rfl rfl rfl hS (fun _ => ps0) (hS.rd0 s0_.rd) hf12 (fun A13 c14 w k15 hS => ?_)
  refine Zc 1 rfl ?_
  refine Zg ?_
  refine Zb hK8 ?_
  refine Zk ?_
  refine Zl rfl (RV.tmp rfl RV.nil) rfl ?_
  obtain rfl := QJ H
  have hS := hS.front 0 rfl
  replace hS := hS.cut 1
  exact ⟨A13, c14, rfl, k15, hS⟩
theorem c_tuple_Own (x0 : Tu) (A0_ : OA) (c0_ : Nat) (w0 : World) (s0_ : SlI w0 Jj A0_ c0_ x0.log) {r : Tu} (H : Zgd x0 = some r) : Calls Tryz.prog 89 #[.agg #[.int .i64 x0.snap.index, .int .i64 x0.snap.term, .int .i64 x0.snap.sum, .int .i64 x0.snap.level, .bool x0.snap.final, .slice A0_ x0.log.length c0_, .int .i64 x0.term, .int .i64 x0.vote]] w0 fun e w' => ∃ (A0 : OA) (c0 : Nat), e = .returned (.agg #[.int .i64 r.snap.index, .int .i64 r.snap.term, .int .i64 r.snap.sum, .int .i64 r.snap.level, .bool r.snap.final, .slice A0 r.log.length c0, .int .i64 r.term, .int .i64 r.vote]) ∧ (r.log.length ≤ c0 ∧ c0 ≤ maxLen) ∧ St0 All w0 w' [.row (.slice A0 r.log.length c0) 53 3 r.log.length (Yl Jj r.log)] := by
 unfold Zgd at H
 refine Yo Tryz.func89 rfl Tryz.ntmps89 rfl ?_
 have hS := St0.start All w0
 refine Ze (fun K hK1 => ?_)
 refine Zf ?_
 refine Yd rfl rfl rfl CellsOf.agg hS (fun b2 w hS hB => ?_)
 refine Yh rfl rfl zc_26 hS (fun b4 w hS hB => ?_)
 refine Zg ?_
 refine Zb hK1 ?_
 refine Ze (fun K hK6 => ?_)
 refine Zf ?_
 refine Za rfl rfl rfl (Zd X0 rfl) ?_
 refine Za rfl rfl rfl (Zh Xq rfl (Zgw _) hS Xw trivial V7) ?_
 obtain ⟨r7, hm8, H⟩ := bind_some H
 refine Zq rfl rfl rfl rfl (by kernel_rfl) rfl (Zcm x0.log A0_ c0_ _ (Zgz s0_.k (hS.rd0 s0_.rd) (hS.blk0 s0_.blk)) hm8) ?_
 rintro e w ⟨A9, c10, rfl, k11, hN⟩; refine ⟨_, rfl, ?_⟩; obtain ⟨hB, hS⟩ := hS.jn hN
 refine Za rfl rfl rfl (Zd X0 rfl) ?_
 refine Zm rfl rfl rfl CellsOf.slice hS ps2 st5_1 (by kernel_rfl) rfl (fun w hS hB => ?_)
 refine Zg ?_
 refine Zb hK6 ?_
 refine Ze (fun K hK13 => ?_)
 refine Zf ?_
 refine Za rfl rfl rfl (Zj Y7 rfl (Zgw _) hS Vf trivial Zbr) ?_
 refine Zm rfl rfl rfl CellsOf.agg hS ps1 st0_8 (by kernel_rfl) rfl (fun w hS hB => ?_)
 refine Zg ?_
 refine Zb hK13 ?_
 refine Zk ?_
 refine Zl rfl (RV.cell rfl (Z0 Y7 hS Xw Zbr) RV.nil) rfl ?_
 obtain rfl := QJ H
 have hS := hS.front 0 rfl
 replace hS := hS.cut 1
 exact ⟨A9, c10, rfl, k11, hS⟩
theorem Zfb (x0 : List Bool) (A0_ : OA) (c0_ : Nat) (w0 : World) (s0_ : SlI w0 enO A0_ c0_ x0) {r : List Bool} (H : V9 x0 = some r) : Calls Tryz.prog 90 #[.slice A0_ x0.length c0_] w0 fun e w' => ∃ (A0 : OA) (c0 : Nat), e = .returned (.slice A0 r.length c0) ∧ (r.length ≤ c0 ∧ c0 ≤ maxLen) ∧ St0 All w0 w' [.row (.slice A0 r.length c0) 4 1 r.length (Yl enO r)] := by
 unfold V9 at H
 obtain ⟨rfl, hfew⟩ := Zd9 H
 cases A0_ with
 | none =>
  obtain rfl : r = [] := by
   cases r with
   | nil => rfl
   | cons e l => obtain ⟨b, o, h, _⟩ := s0_.rd 0 _ rfl; cases h
  refine Yo Tryz.func90 rfl Tryz.ntmps90 rfl ?_
  have hS := St0.start All w0
  refine Ze (fun K hK1 => ?_)
  refine Zf ?_
  refine Zc 1 rfl ?_
  refine Zg ?_
  refine Zb hK1 ?_
  refine Ze (fun K hK2 => ?_)
  refine Ze (fun K hK3 => ?_)
  refine Zf ?_
  refine Zc 1 rfl ?_
  refine Za rfl rfl rfl (Zdm (e := 4) (by kernel_rfl) rfl rfl) ?_
  refine Zg ?_
  refine Zb hK3 ?_
  refine Zt rfl rfl ?_
  refine Ze (fun K hK4 => ?_)
  refine Zf ?_
  refine Zc 1 rfl ?_
  refine Zg ?_
  refine Zb hK4 ?_
  refine Zk ?_
  refine Zi ?_
  refine Zl rfl (RV.tmp rfl RV.nil) rfl ?_
  have hS := hS.nilRow 4 1
  replace hS := hS.cut 1
  exact ⟨none, 0, rfl, ⟨Nat.le_refl _, Nat.zero_le _⟩, hS⟩
 | some a0 =>
  refine Yo Tryz.func90 rfl Tryz.ntmps90 rfl ?_
  have hS := St0.start All w0
  have H : (Zes ([] ++ r)).bind (fun z => some z) = some r := by rw [List.nil_append, H]; rfl
  refine Ze (fun K hK5 => ?_)
  refine Zf ?_
  refine Zc 1 rfl ?_
  refine Zg ?_
  refine Zb hK5 ?_
  refine Ze (fun K hK6 => ?_)
  refine Ze (fun K hK7 => ?_)
  refine Zf ?_
  refine Zc 1 rfl ?_
  refine Za rfl rfl rfl (Zdm (e := 4) (by kernel_rfl) rfl rfl) ?_
  refine Zg ?_
  refine Zb hK7 ?_
  refine Yp rfl rfl ?_
  refine Zr ?_
  refine Zb hK6 ?_
  refine Ze (fun K hK8 => ?_)
  refine Zf ?_
  refine Zbp el_27 rfl rfl hS (fun b9 w hS hB => ?_)
  refine Zc 1 rfl ?_
  obtain ⟨l11, hf12, H⟩ := bind_some H
  refine Jt (ys := r) he_enO oc_enO em_27 (by decide) rfl rfl rfl rfl hS (fun _ => ps0) (hS.rd0 s0_.rd) hf12 (fun A13 c14 w k15 hS => ?_)
  refine Zc 1 rfl ?_
  refine Zg ?_
  refine Zb hK8 ?_
  refine Zk ?_
  refine Zl rfl (RV.tmp rfl RV.nil) rfl ?_
  obtain rfl := QJ H
  have hS := hS.front 0 rfl
  replace hS := hS.cut 1
  exact ⟨A13, c14, rfl, k15, hS⟩
theorem Zas (x0 : List Int) (A0_ : OA) (c0_ : Nat) (w0 : World) (s0_ : SlI w0 V1 A0_ c0_ x0) {r : List Int} (H : Vn x0 = some r) : Calls Tryz.prog 91 #[.slice A0_ x0.length c0_] w0 fun e w' => ∃ (A0 : OA) (c0 : Nat), e = .returned (.slice A0 r.length c0) ∧ (r.length ≤ c0 ∧ c0 ≤ maxLen) ∧ St0 All w0 w' [.row (.slice A0 r.length c0) 3 1 r.length (Yl V1 r)] := by
 unfold Vn at H
 obtain ⟨rfl, hfew⟩ := Zd9 H
 cases A0_ with
 | none =>
  obtain rfl : r = [] := by
   cases r with
   | nil => rfl
   | cons e l => obtain ⟨b, o, h, _⟩ := s0_.rd 0 _ rfl; cases h
  refine Yo Tryz.func91 rfl Tryz.ntmps91 rfl ?_
  have hS := St0.start All w0
  refine Ze (fun K hK1 => ?_)
  refine Zf ?_
  refine Zc 1 rfl ?_
  refine Zg ?_
  refine Zb hK1 ?_
  refine Ze (fun K hK2 => ?_)
  refine Ze (fun K hK3 => ?_)
  refine Zf ?_
  refine Zc 1 rfl ?_
  refine Za rfl rfl rfl (Zdm (e := 3) (by kernel_rfl) rfl rfl) ?_
  refine Zg ?_
  refine Zb hK3 ?_
  refine Zt rfl rfl ?_
  refine Ze (fun K hK4 => ?_)
  refine Zf ?_
  refine Zc 1 rfl ?_
  refine Zg ?_
  refine Zb hK4 ?_
  refine Zk ?_
  refine Zi ?_
  refine Zl rfl (RV.tmp rfl RV.nil) rfl ?_
  have hS := hS.nilRow 3 1
  replace hS := hS.cut 1
  exact ⟨none, 0, rfl, ⟨Nat.le_refl _, Nat.zero_le _⟩, hS⟩
 | some a0 =>
  refine Yo Tryz.func91 rfl Tryz.ntmps91 rfl ?_
  have hS := St0.start All w0
  have H : (Zes ([] ++ r)).bind (fun z => some z) = some r := by rw [List.nil_append, H]; rfl
  refine Ze (fun K hK5 => ?_)
  refine Zf ?_
  refine Zc 1 rfl ?_
  refine Zg ?_
  refine Zb hK5 ?_
  refine Ze (fun K hK6 => ?_)
  refine Ze (fun K hK7 => ?_)
  refine Zf ?_
  refine Zc 1 rfl ?_
  refine Za rfl rfl rfl (Zdm (e := 3) (by kernel_rfl) rfl rfl) ?_
  refine Zg ?_
  refine Zb hK7 ?_
  refine Yp rfl rfl ?_
  refine Zr ?_
  refine Zb hK6 ?_
  refine Ze (fun K hK8 => ?_)
  refine Zf ?_
  refine Zbp Xl rfl rfl hS (fun b9 w hS hB => ?_)
  refine Zc 1 rfl ?_
  obtain ⟨l11, hf12, H⟩ := bind_some H
  refine Jt (ys := r) Z9 oc_enI em_28 (by decide) rfl rfl rfl rfl hS (fun _ => ps0) (hS.rd0 s0_.rd) hf12 (fun A13 c14 w k15 hS => ?_)
  refine Zc 1 rfl ?_
  refine Zg ?_
  refine Zb hK8 ?_
  refine Zk ?_
  refine Zl rfl (RV.tmp rfl RV.nil) rfl ?_
  obtain rfl := QJ H
  have hS := hS.front 0 rfl
  replace hS := hS.cut 1
  exact ⟨A13, c14, rfl, k15, hS⟩
theorem Zed (x0 : Co) (A0_ : OA) (c0_ : Nat) (A1_ : OA) (c1_ : Nat) (A2_ : OA) (c2_ : Nat) (A3_ : OA) (c3_ : Nat) (A4_ : OA) (c4_ : Nat) (w0 : World) (s0_ : SlI w0 Jj A0_ c0_ x0.tuple.log) (s1_ : SlI w0 enO A1_ c1_ x0.votes) (s2_ : SlI w0 V1 A2_ c2_ x0.next) (s3_ : SlI w0 V1 A3_ c3_ x0.mtch) (s4_ : SlI w0 V1 A4_ c4_ x0.caps) {r : Co} (H : Zbe x0 = some r) : Calls Tryz.prog 49 #[.agg #[.int .i64 x0.id, .int .i64 x0.n, .int .u8 x0.role, .int .i64 x0.binary, .int .i64 x0.tuple.snap.index, .int .i64 x0.tuple.snap.term, .int .i64 x0.tuple.snap.sum, .int .i64 x0.tuple.snap.level, .bool x0.tuple.snap.final, .slice A0_ x0.tuple.log.length c0_, .int .i64 x0.tuple.term, .int .i64 x0.tuple.vote, .int .i64 x0.commit, .int .i64 x0.applied.index, .int .i64 x0.applied.term, .int .i64 x0.applied.sum, .int .i64 x0.applied.level, .bool x0.applied.final, .slice A1_ x0.votes.length c1_, .slice A2_ x0.next.length c2_, .slice A3_ x0.mtch.length c3_, .slice A4_ x0.caps.length c4_]] w0 fun e w' => ∃ (A0 : OA) (c0 : Nat) (A1 : OA) (c1 : Nat) (A2 : OA) (c2 : Nat) (A3 : OA) (c3 : Nat) (A4 : OA) (c4 : Nat), e = .returned (.agg #[.int .i64 r.id, .int .i64 r.n, .int .u8 r.role, .int .i64 r.binary, .int .i64 r.tuple.snap.index, .int .i64 r.tuple.snap.term, .int .i64 r.tuple.snap.sum, .int .i64 r.tuple.snap.level, .bool r.tuple.snap.final, .slice A0 r.tuple.log.length c0, .int .i64 r.tuple.term, .int .i64 r.tuple.vote, .int .i64 r.commit, .int .i64 r.applied.index, .int .i64 r.applied.term, .int .i64 r.applied.sum, .int .i64 r.applied.level, .bool r.applied.final, .slice A1 r.votes.length c1, .slice A2 r.next.length c2, .slice A3 r.mtch.length c3, .slice A4 r.caps.length c4]) ∧ (r.tuple.log.length ≤ c0 ∧ c0 ≤ maxLen) ∧ (r.votes.length ≤ c1 ∧ c1 ≤ maxLen) ∧ (r.next.length ≤ c2 ∧ c2 ≤ maxLen) ∧ (r.mtch.length ≤ c3 ∧ c3 ≤ maxLen) ∧ (r.caps.length ≤ c4 ∧ c4 ≤ maxLen) ∧ St0 All w0 w' [.row (.slice A0 r.tuple.log.length c0) 53 3 r.tuple.log.length (Yl Jj r.tuple.log), .row (.slice A1 r.votes.length c1) 4 1 r.votes.length (Yl enO r.votes), .row (.slice A2 r.next.length c2) 3 1 r.next.length (Yl V1 r.next), .row (.slice A3 r.mtch.length c3) 3 1 r.mtch.length (Yl V1 r.mtch), .row (.slice A4 r.caps.length c4) 3 1 r.caps.length (Yl V1 r.caps)] := by
 unfold Zbe at H
 refine Yo Tryz.func49 rfl Tryz.ntmps49 rfl ?_
 have hS := St0.start All w0
 refine Ze (fun K hK1 => ?_)
 refine Zf ?_
 refine Yd rfl rfl rfl CellsOf.agg hS (fun b2 w hS hB => ?_)
 refine Yh rfl rfl Zd5 hS (fun b4 w hS hB => ?_)
 refine Zg ?_
 refine Zb hK1 ?_
 refine Ze (fun K hK6 => ?_)
 refine Zf ?_
 refine Za rfl rfl rfl (Zd Yr rfl) ?_
 refine Za rfl rfl rfl (Zj Y7 rfl (Zgw _) hS Xw trivial Zak) ?_
 obtain ⟨r7, hm8, H⟩ := bind_some H
 refine Zq rfl rfl rfl rfl (by kernel_rfl) rfl (c_tuple_Own x0.tuple A0_ c0_ _ (Zgz s0_.k (hS.rd0 s0_.rd) (hS.blk0 s0_.blk)) hm8) ?_
 rintro e w ⟨A9, c10, rfl, k11, hN⟩; refine ⟨_, rfl, ?_⟩; obtain ⟨hB, hS⟩ := hS.jn hN
 refine Za rfl rfl rfl (Zd Yr rfl) ?_
 refine Zm rfl rfl rfl CellsOf.agg hS ps2 st4_8 (by kernel_rfl) rfl (fun w hS hB => ?_)
 refine Zg ?_
 refine Zb hK6 ?_
 refine Ze (fun K hK13 => ?_)
 refine Yi 20 [13, 15, 17, 19] (fun i b => (i = 13 → b ≠ b2) ∧ (i = 15 → b ≠ b2) ∧ (i = 17 → b ≠ b2) ∧ (i = 19 → b ≠ b2)) ⟨by kernel_rfl, by kernel_rfl⟩ hS (fun w hS hB => ?_)
 refine Zn [true, true, false, true, true, false, true, true, false, true, true] (by decide +kernel) PFC.h ?_
 refine LtK.put rfl rfl rfl (Zd Za9 rfl) ?_
 refine LtK.put rfl rfl rfl (Zh sc_27 rfl (Zgx _) hS Vf trivial Zfu) ?_
 refine LtK.put rfl rfl rfl (Zd Vo rfl) ?_
 refine LtK.put rfl rfl rfl (Zh Xt rfl (Zgx _) hS Vf trivial Jr) ?_
 refine LtK.put rfl rfl rfl (Zd Vt rfl) ?_
 refine LtK.put rfl rfl rfl (Zh Xt rfl (Zgx _) hS Vf trivial Jz) ?_
 refine LtK.put rfl rfl rfl (Zd Jn rfl) ?_
 refine LtK.put rfl rfl rfl (Zh Xt rfl (Zgx _) hS Vf trivial Zde) ?_
 refine LtK.nil ?_
 refine Z6 [false, false, true] 2 ⟨by decide, by kernel_rfl, by kernel_rfl⟩ rfl rfl ?_
 try dsimp only [Zy]
 obtain ⟨r14, hm15, H⟩ := bind_some H
 refine Zq rfl rfl rfl rfl (by kernel_rfl) rfl (Zfb x0.votes A1_ c1_ _ (Zgz s1_.k (hS.rd0 s1_.rd) (hS.blk0 s1_.blk)) hm15) ?_
 rintro e w ⟨A16, c17, rfl, k18, hN⟩; refine ⟨_, rfl, ?_⟩; obtain ⟨hB, hS⟩ := hS.jn hN
 refine Zg ?_
 refine Z8 hB ?_
 refine Zn [false, false, false, false, false, false, false, false, false, false, false, false, true] (by decide +kernel) PFC.h ?_
 refine LtK.put rfl rfl rfl (Zd Za9 rfl) ?_
 refine LtK.nil ?_
 refine Z6 [false, false, false, false, false, true] 5 ⟨by decide, by kernel_rfl, by kernel_rfl⟩ rfl rfl ?_
 try dsimp only [Zy]
 obtain ⟨r20, hm21, H⟩ := bind_some H
 refine Zq rfl rfl rfl rfl (by kernel_rfl) rfl (Zas x0.next A2_ c2_ _ (Zgz s2_.k (hS.rd0 s2_.rd) (hS.blk0 s2_.blk)) hm21) ?_
 rintro e w ⟨A22, c23, rfl, k24, hN⟩; refine ⟨_, rfl, ?_⟩; obtain ⟨hB, hS⟩ := hS.jn hN
 refine Zg ?_
 refine Z8 hB ?_
 refine Z6 [false, false, false, false, false, false, false, false, true] 8 ⟨by decide, by kernel_rfl, by kernel_rfl⟩ rfl rfl ?_
 try dsimp only [Zy]
 obtain ⟨r26, hm27, H⟩ := bind_some H
 refine Zq rfl rfl rfl rfl (by kernel_rfl) rfl (Zas x0.mtch A3_ c3_ _ (Zgz s3_.k (hS.rd0 s3_.rd) (hS.blk0 s3_.blk)) hm27) ?_
 rintro e w ⟨A28, c29, rfl, k30, hN⟩; refine ⟨_, rfl, ?_⟩; obtain ⟨hB, hS⟩ := hS.jn hN
 refine Zg ?_
 refine Z8 hB ?_
 refine Z6 [false, false, false, false, false, false, false, false, false, false, false, true] 11 ⟨by decide, by kernel_rfl, by kernel_rfl⟩ rfl rfl ?_
 try dsimp only [Zy]
 obtain ⟨r32, hm33, H⟩ := bind_some H
 refine Zq rfl rfl rfl rfl (by kernel_rfl) rfl (Zas x0.caps A4_ c4_ _ (Zgz s4_.k (hS.rd0 s4_.rd) (hS.blk0 s4_.blk)) hm33) ?_
 rintro e w ⟨A34, c35, rfl, k36, hN⟩; refine ⟨_, rfl, ?_⟩; obtain ⟨hB, hS⟩ := hS.jn hN
 refine Zg ?_
 refine Z8 hB ?_
 refine Yu [false, false, false, false, false, false, false, false, false, false, false, false, false, true] 13 ⟨by decide, by kernel_rfl, by kernel_rfl⟩ rfl rfl ?_
 try dsimp only [Zy]
 refine Zm rfl rfl rfl CellsOf.slice hS ps6 st18_1 (by kernel_rfl) rfl (fun w hS hB => ?_)
 refine Zg ?_
 refine Yk (hB.sub (fun _ _ h => by simpa using h)) ?_
 refine Zn [false, false, false, false, false, false, false, false, false, false, false, false, false, false, true] (by decide +kernel) PFC.h ?_
 refine LtK.put rfl rfl rfl (Zd Vo rfl) ?_
 refine LtK.nil ?_
 refine Yu [false, false, false, false, false, false, false, false, false, false, false, false, false, false, false, true] 15 ⟨by decide, by kernel_rfl, by kernel_rfl⟩ rfl rfl ?_
 try dsimp only [Zy]
 refine Zm rfl rfl rfl CellsOf.slice hS ps6 st19_1 (by kernel_rfl) rfl (fun w hS hB => ?_)
 refine Zg ?_
 refine Yk (hB.sub (fun _ _ h => by simpa using h)) ?_
 refine Zn [false, false, false, false, false, false, false, false, false, false, false, false, false, false, false, false, true] (by decide +kernel) PFC.h ?_
 refine LtK.put rfl rfl rfl (Zd Vt rfl) ?_
 refine LtK.nil ?_
 refine Yu [false, false, false, false, false, false, false, false, false, false, false, false, false, false, false, false, false, true] 17 ⟨by decide, by kernel_rfl, by kernel_rfl⟩ rfl rfl ?_
 try dsimp only [Zy]
 refine Zm rfl rfl rfl CellsOf.slice hS ps6 st20_1 (by kernel_rfl) rfl (fun w hS hB => ?_)
 refine Zg ?_
 refine Yk (hB.sub (fun _ _ h => by simpa using h)) ?_
 refine Zn [false, false, false, false, false, false, false, false, false, false, false, false, false, false, false, false, false, false, true] (by decide +kernel) PFC.h ?_
 refine LtK.put rfl rfl rfl (Zd Jn rfl) ?_
 refine LtK.nil ?_
 refine Yu [false, false, false, false, false, false, false, false, false, false, false, false, false, false, false, false, false, false, false, true] 19 ⟨by decide, by kernel_rfl, by kernel_rfl⟩ rfl rfl ?_
 try dsimp only [Zy]
 refine Zm rfl rfl rfl CellsOf.slice hS ps6 st21_1 (by kernel_rfl) rfl (fun w hS hB => ?_)
 refine Zg ?_
 refine Yk (hB.sub (fun _ _ h => by simpa using h)) ?_
 refine Z4 (by kernel_rfl) ?_
 refine Zb hK13 ?_
 refine Ze (fun K hK38 => ?_)
 refine Zf ?_
 refine Za rfl rfl rfl (Zj Ye rfl (Zgw _) hS hs6 trivial Z3) ?_
 refine Zm rfl rfl rfl CellsOf.agg hS ps5 Yz (by kernel_rfl) rfl (fun w hS hB => ?_)
 refine Zg ?_
 refine Zb hK38 ?_
 refine Zk ?_
 refine Zl rfl (RV.cell rfl (Z0 Ye hS hs5 Z3) RV.nil) rfl ?_
 obtain rfl := QJ H
 have hS := hS.front 0 rfl
 have hS := hS.front 1 rfl
 have hS := hS.front 2 rfl
 have hS := hS.front 3 rfl
 have hS := hS.front 4 rfl
 replace hS := hS.cut 5
 exact ⟨A9, c10, A16, c17, A22, c23, A28, c29, A34, c35, rfl, k11, k18, k24, k30, k36, hS⟩
theorem Zdw (x0 : Tu) (A0_ : OA) (c0_ : Nat) (w0 : World) (s0_ : SlI w0 Jj A0_ c0_ x0.log) {r : Int} (H : Zae x0 = some r) : Calls Tryz.prog 67 #[.agg #[.int .i64 x0.snap.index, .int .i64 x0.snap.term, .int .i64 x0.snap.sum, .int .i64 x0.snap.level, .bool x0.snap.final, .slice A0_ x0.log.length c0_, .int .i64 x0.term, .int .i64 x0.vote]] w0 fun e w' => e = .returned (.int .i64 r) ∧ St0 All w0 w' [] := by
 unfold Zae at H
 refine Yo Tryz.func67 rfl Tryz.ntmps67 rfl ?_
 have hS := St0.start All w0
 refine Ze (fun K hK1 => ?_)
 refine Zf ?_
 refine Yd rfl rfl rfl CellsOf.agg hS (fun b2 w hS hB => ?_)
 refine Zc 1 rfl ?_
 refine Zg ?_
 refine Zb hK1 ?_
 refine Ze (fun K hK4 => ?_)
 refine Zf ?_
 refine Za rfl rfl rfl (Zd Xj rfl) ?_
 refine Za rfl rfl rfl (Zd Yj rfl) ?_
 refine Za rfl rfl rfl (Zh Zw rfl (Zgw _) hS hs0 trivial Y8) ?_
 refine Za rfl rfl rfl (Zd X0 rfl) ?_
 refine Za rfl rfl rfl (Zh Xq rfl (Zgw _) hS hs0 trivial V7) ?_
 refine Za rfl rfl rfl (Yw Y4 rfl) ?_
 refine Za rfl rfl rfl (Xc rfl rfl) ?_
 refine Zc 1 rfl ?_
 refine Zg ?_
 refine Zb hK4 ?_
 refine Zk ?_
 refine Zl rfl (RV.tmp rfl RV.nil) rfl ?_
 obtain rfl := QJ H
 replace hS := hS.cut 0
 exact ⟨rfl, hS⟩
theorem Zaf (x0 : Int) (x1 : Int) (x2 : Int) (w0 : World) {r : Bool} (H : Vx x0 x1 x2 = some r) : Calls Tryz.prog 93 #[.int .i64 x0, .int .i64 x1, .int .i64 x2] w0 fun e w' => e = .returned (.bool r) ∧ St0 All w0 w' [] := by
 unfold Vx at H
 refine Zcj Tryz.func93 rfl Tryz.ntmps93 rfl ?_
 have hS := St0.start All w0
 refine Ze (fun K hK1 => ?_)
 refine Zf ?_
 refine Zc 1 rfl ?_
 refine Zg ?_
 refine Zb hK1 ?_
 refine Ze (fun K hK2 => ?_)
 refine Zf ?_
 refine Zc 2 rfl ?_
 refine Za rfl rfl rfl (Zcu rfl rfl) ?_
 refine Zc 1 rfl ?_
 refine Zs 10 rfl (fun hb => ?_) (fun hb => ?_)
 rotate_left
 ·replace H := Zo H hb
  refine Zc 5 rfl ?_
  refine Zg ?_
  refine Zb hK2 ?_
  refine Zk ?_
  refine Zl rfl (RV.tmp rfl RV.nil) rfl ?_
  obtain rfl := QJ H
  replace hS := hS.cut 0
  exact ⟨rfl, hS⟩
 replace H := Zp H hb
 refine Zc 2 rfl ?_
 refine Za rfl rfl rfl (Zbn rfl rfl) ?_
 refine Zc 2 rfl ?_
 refine Zg ?_
 refine Zb hK2 ?_
 refine Zk ?_
 refine Zl rfl (RV.tmp rfl RV.nil) rfl ?_
 obtain rfl := QJ H
 replace hS := hS.cut 0
 exact ⟨rfl, hS⟩
theorem c_entry_First (w0 : World) {r : St} (H : Zen = some r) : Calls Tryz.prog 142 #[] w0 fun e w' => e = .returned (.agg #[.int .i64 r.index, .int .i64 r.term, .int .i64 r.sum, .int .i64 r.level, .bool r.final]) ∧ St0 All w0 w' [] := by
 unfold Zen at H
 refine gw_enter0 Tryz.func142 rfl Tryz.ntmps142 rfl ?_
 have hS := St0.start All w0
 refine Ze (fun K hK1 => ?_)
 refine Zf ?_
 refine Yh rfl rfl zc_23 hS (fun b2 w hS hB => ?_)
 refine Zg ?_
 refine Zb hK1 ?_
 refine Ze (fun K hK4 => ?_)
 refine Zf ?_
 refine Za rfl rfl rfl (X1 (cells := [.int .i64 0, .int .i64 0, .int .i64 0, .int .i64 1, .bool false]) rfl (by kernel_rfl)) ?_
 refine Zm rfl rfl rfl CellsOf.agg hS ps0 Zd4 (by kernel_rfl) rfl (fun w hS hB => ?_)
 refine Zg ?_
 refine Zb hK4 ?_
 refine Zk ?_
 refine Zl rfl (RV.cell rfl (Z0 Y3 hS hs0 Je) RV.nil) rfl ?_
 obtain rfl := QJ H
 replace hS := hS.cut 0
 exact ⟨rfl, hS⟩
theorem Jf (x0 : Int) (w0 : World) {r : Bool} (H : Vh x0 = some r) : Calls Tryz.prog 143 #[.int .i64 x0] w0 fun e w' => e = .returned (.bool r) ∧ St0 All w0 w' [] := by
 unfold Vh at H
 refine Yo Tryz.func143 rfl Tryz.ntmps143 rfl ?_
 have hS := St0.start All w0
 refine Ze (fun K hK1 => ?_)
 refine Zf ?_
 refine Zc 1 rfl ?_
 refine Zg ?_
 refine Zb hK1 ?_
 refine Ze (fun K hK2 => ?_)
 refine Zf ?_
 refine Zc 1 rfl ?_
 refine Za rfl rfl rfl (Zcu rfl rfl) ?_
 refine Zc 1 rfl ?_
 refine Zs 5 rfl (fun hb => ?_) (fun hb => ?_)
 rotate_left
 ·replace H := Zo H hb
  refine Zc 4 rfl ?_
  refine Zg ?_
  refine Zb hK2 ?_
  refine Zk ?_
  refine Zl rfl (RV.tmp rfl RV.nil) rfl ?_
  obtain rfl := QJ H
  replace hS := hS.cut 0
  exact ⟨rfl, hS⟩
 replace H := Zp H hb
 refine Zc 1 rfl ?_
 refine Za rfl rfl rfl (Zbn rfl rfl) ?_
 refine Zc 2 rfl ?_
 refine Zg ?_
 refine Zb hK2 ?_
 refine Zk ?_
 refine Zl rfl (RV.tmp rfl RV.nil) rfl ?_
 obtain rfl := QJ H
 replace hS := hS.cut 0
 exact ⟨rfl, hS⟩
theorem Zch (x0 : St) (w0 : World) {r : Bool} (H : Jy x0 = some r) : Calls Tryz.prog 132 #[.agg #[.int .i64 x0.index, .int .i64 x0.term, .int .i64 x0.sum, .int .i64 x0.level, .bool x0.final]] w0 fun e w' => e = .returned (.bool r) ∧ St0 All w0 w' [] := by
 unfold Jy at H
 refine Yo Tryz.func132 rfl Tryz.ntmps132 rfl ?_
 have hS := St0.start All w0
 refine Ze (fun K hK1 => ?_)
 refine Zf ?_
 refine Yd rfl rfl rfl CellsOf.agg hS (fun b2 w hS hB => ?_)
 refine Zc 1 rfl ?_
 refine Zg ?_
 refine Zb hK1 ?_
 refine Ze (fun K hK4 => ?_)
 refine Yf ?_
 refine Ze (fun K hK5 => ?_)
 refine Zf ?_
 refine Za rfl rfl rfl (Zd Yj rfl) ?_
 refine Za rfl rfl rfl (Zh Zw rfl (Zgw _) hS hs0 trivial Y8) ?_
 refine Za rfl rfl rfl (Y5 rfl rfl) ?_
 refine Zc 1 rfl ?_
 refine Zg ?_
 refine Zb hK5 ?_
 refine Zz rfl (fun hb => ?_) (fun hb => ?_)
 ·replace H := Zp H hb
  refine Ze (fun K hK6 => ?_)
  refine Yi 4 [] (fun _ _ => True) ⟨by kernel_rfl, by kernel_rfl⟩ hS (fun w hS hB => ?_)
  refine Zn [true] (by decide +kernel) PFC.h ?_
  refine LtK.put rfl rfl rfl (Zj Y3 rfl (Zgx _) hS hs0 trivial Je) ?_
  refine LtK.nil ?_
  refine Z6 [false, true] 1 ⟨by decide, by kernel_rfl, by kernel_rfl⟩ rfl rfl ?_
  try dsimp only [Zy]
  obtain ⟨r7, hm8, H⟩ := bind_some H
  refine Zq rfl rfl rfl rfl (by kernel_rfl) rfl (c_entry_First _ hm8) ?_
  rintro e w ⟨rfl, hN⟩; refine ⟨_, rfl, ?_⟩; obtain ⟨hB, hS⟩ := hS.jn hN
  refine Zg ?_
  refine Z8 hB ?_
  refine Zn [false, false, true, true] (by decide +kernel) PFC.h ?_
  refine LtK.put rfl rfl rfl (J6 (by kernel_rfl) rfl rfl (Zap _ _ _ _ _ _ _ _ _ _)) ?_
  refine LtK.put rfl rfl rfl (Zx rfl) ?_
  refine LtK.nil ?_
  refine Z4 (by kernel_rfl) ?_
  refine Zb hK6 ?_
  refine Zk ?_
  refine Zv ?_
  refine Zi ?_
  refine Zl rfl (RV.tmp rfl RV.nil) rfl ?_
  obtain rfl := QJ H
  replace hS := hS.cut 0
  exact ⟨rfl, hS⟩
 replace H := Zo H hb
 refine Ze (fun K hK9 => ?_)
 refine Zf ?_
 refine Za rfl rfl rfl (Zd fo_23_4 rfl) ?_
 refine Za rfl rfl rfl (Zh sc_4 rfl (Zgw _) hS hs0 trivial Zew) ?_
 refine Zc 1 rfl ?_
 refine Zg ?_
 refine Zb hK9 ?_
 refine Zz rfl (fun hb => ?_) (fun hb => ?_)
 ·replace H := Zp H hb
  refine Ze (fun K hK10 => ?_)
  refine Zf ?_
  refine Za rfl rfl rfl (Zd Zem rfl) ?_
  refine Za rfl rfl rfl (Zh Zw rfl (Zgw _) hS hs0 trivial Zan) ?_
  refine Za rfl rfl rfl (Y5 rfl rfl) ?_
  refine Zc 1 rfl ?_
  refine Zs 16 rfl (fun hb => ?_) (fun hb => ?_)
  rotate_left
  ·replace H := Zo H hb
   refine Zc 20 rfl ?_
   refine Zg ?_
   refine Zb hK10 ?_
   refine Zk ?_
   refine Zv ?_
   refine Zi ?_
   refine Zl rfl (RV.tmp rfl RV.nil) rfl ?_
   obtain rfl := QJ H
   replace hS := hS.cut 0
   exact ⟨rfl, hS⟩
  replace H := Zp H hb
  refine Za rfl rfl rfl (Zd Yj rfl) ?_
  refine Za rfl rfl rfl (Zh Zw rfl (Zgw _) hS hs0 trivial Y8) ?_
  obtain ⟨r11, hm12, H⟩ := bind_some H
  refine Zq rfl rfl rfl rfl (by kernel_rfl) rfl (Jf x0.index _ hm12) ?_
  rintro e w ⟨rfl, hN⟩; refine ⟨_, rfl, ?_⟩; obtain ⟨hB, hS⟩ := hS.jn hN
  refine Zc 2 rfl ?_
  refine Zs 21 rfl (fun hb => ?_) (fun hb => ?_)
  rotate_left
  ·replace H := Zo H hb
   refine Zc 15 rfl ?_
   refine Zg ?_
   refine Zb hK10 ?_
   refine Zk ?_
   refine Zv ?_
   refine Zi ?_
   refine Zl rfl (RV.tmp rfl RV.nil) rfl ?_
   obtain rfl := QJ H
   replace hS := hS.cut 0
   exact ⟨rfl, hS⟩
  replace H := Zp H hb
  refine Za rfl rfl rfl (Zd Zc7 rfl) ?_
  refine Za rfl rfl rfl (Zh Zw rfl (Zgw _) hS hs0 trivial Vp) ?_
  refine Za rfl rfl rfl (Y9 rfl rfl) ?_
  refine Zc 2 rfl ?_
  refine Zs 26 rfl (fun hb => ?_) (fun hb => ?_)
  rotate_left
  ·replace H := Zo H hb
   refine Zc 10 rfl ?_
   refine Zg ?_
   refine Zb hK10 ?_
   refine Zk ?_
   refine Zv ?_
   refine Zi ?_
   refine Zl rfl (RV.tmp rfl RV.nil) rfl ?_
   obtain rfl := QJ H
   replace hS := hS.cut 0
   exact ⟨rfl, hS⟩
  replace H := Zp H hb
  refine Za rfl rfl rfl (Zd Zc7 rfl) ?_
  refine Za rfl rfl rfl (Zh Zw rfl (Zgw _) hS hs0 trivial Vp) ?_
  obtain ⟨r13, hm14, H⟩ := bind_some H
  refine Zq rfl rfl rfl rfl (by kernel_rfl) rfl (Jf x0.term _ hm14) ?_
  rintro e w ⟨rfl, hN⟩; refine ⟨_, rfl, ?_⟩; obtain ⟨hB, hS⟩ := hS.jn hN
  refine Zc 2 rfl ?_
  refine Zs 31 rfl (fun hb => ?_) (fun hb => ?_)
  rotate_left
  ·replace H := Zo H hb
   refine Zc 5 rfl ?_
   refine Zg ?_
   refine Zb hK10 ?_
   refine Zk ?_
   refine Zv ?_
   refine Zi ?_
   refine Zl rfl (RV.tmp rfl RV.nil) rfl ?_
   obtain rfl := QJ H
   replace hS := hS.cut 0
   exact ⟨rfl, hS⟩
  replace H := Zp H hb
  refine Za rfl rfl rfl (Zd fo_23_2 rfl) ?_
  refine Za rfl rfl rfl (Zh Zw rfl (Zgw _) hS hs0 trivial Zav) ?_
  obtain ⟨r15, hm16, H⟩ := bind_some H
  refine Zq rfl rfl rfl rfl (by kernel_rfl) rfl (Jf x0.sum _ hm16) ?_
  rintro e w ⟨rfl, hN⟩; refine ⟨_, rfl, ?_⟩; obtain ⟨hB, hS⟩ := hS.jn hN
  refine Zc 2 rfl ?_
  refine Zg ?_
  refine Zb hK10 ?_
  refine Zk ?_
  refine Zv ?_
  refine Zi ?_
  refine Zl rfl (RV.tmp rfl RV.nil) rfl ?_
  obtain rfl := QJ H
  replace hS := hS.cut 0
  exact ⟨rfl, hS⟩
 replace H := Zo H hb
 refine Zr ?_
 refine Z1 ?_
 refine Zb hK4 ?_
 refine Ze (fun K hK17 => ?_)
 refine Zf ?_
 refine Za rfl rfl rfl (Zd Zem rfl) ?_
 refine Za rfl rfl rfl (Zh Zw rfl (Zgw _) hS hs0 trivial Zan) ?_
 refine Za rfl rfl rfl (Y5 rfl rfl) ?_
 refine Zc 1 rfl ?_
 refine Zs 39 rfl (fun hb => ?_) (fun hb => ?_)
 ·replace H := Zp H hb
  refine Zc 5 rfl ?_
  refine Za rfl rfl rfl (Zd Yj rfl) ?_
  refine Za rfl rfl rfl (Zh Zw rfl (Zgw _) hS hs0 trivial Y8) ?_
  obtain ⟨r18, hm19, H⟩ := bind_some H
  refine Zq rfl rfl rfl rfl (by kernel_rfl) rfl (Jf x0.index _ hm19) ?_
  rintro e w ⟨rfl, hN⟩; refine ⟨_, rfl, ?_⟩; obtain ⟨hB, hS⟩ := hS.jn hN
  refine Zc 2 rfl ?_
  refine Zs 49 rfl (fun hb => ?_) (fun hb => ?_)
  rotate_left
  ·replace H := Zo H hb
   refine Zc 15 rfl ?_
   refine Zg ?_
   refine Zb hK17 ?_
   refine Zk ?_
   refine Zl rfl (RV.tmp rfl RV.nil) rfl ?_
   obtain rfl := QJ H
   replace hS := hS.cut 0
   exact ⟨rfl, hS⟩
  replace H := Zp H hb
  refine Za rfl rfl rfl (Zd Zc7 rfl) ?_
  refine Za rfl rfl rfl (Zh Zw rfl (Zgw _) hS hs0 trivial Vp) ?_
  refine Za rfl rfl rfl (Y9 rfl rfl) ?_
  refine Zc 2 rfl ?_
  refine Zs 54 rfl (fun hb => ?_) (fun hb => ?_)
  rotate_left
  ·replace H := Zo H hb
   refine Zc 10 rfl ?_
   refine Zg ?_
   refine Zb hK17 ?_
   refine Zk ?_
   refine Zl rfl (RV.tmp rfl RV.nil) rfl ?_
   obtain rfl := QJ H
   replace hS := hS.cut 0
   exact ⟨rfl, hS⟩
  replace H := Zp H hb
  refine Za rfl rfl rfl (Zd Zc7 rfl) ?_
  refine Za rfl rfl rfl (Zh Zw rfl (Zgw _) hS hs0 trivial Vp) ?_
  obtain ⟨r20, hm21, H⟩ := bind_some H
  refine Zq rfl rfl rfl rfl (by kernel_rfl) rfl (Jf x0.term _ hm21) ?_
  rintro e w ⟨rfl, hN⟩; refine ⟨_, rfl, ?_⟩; obtain ⟨hB, hS⟩ := hS.jn hN
  refine Zc 2 rfl ?_
  refine Zs 59 rfl (fun hb => ?_) (fun hb => ?_)
  rotate_left
  ·replace H := Zo H hb
   refine Zc 5 rfl ?_
   refine Zg ?_
   refine Zb hK17 ?_
   refine Zk ?_
   refine Zl rfl (RV.tmp rfl RV.nil) rfl ?_
   obtain rfl := QJ H
   replace hS := hS.cut 0
   exact ⟨rfl, hS⟩
  replace H := Zp H hb
  refine Za rfl rfl rfl (Zd fo_23_2 rfl) ?_
  refine Za rfl rfl rfl (Zh Zw rfl (Zgw _) hS hs0 trivial Zav) ?_
  obtain ⟨r22, hm23, H⟩ := bind_some H
  refine Zq rfl rfl rfl rfl (by kernel_rfl) rfl (Jf x0.sum _ hm23) ?_
  rintro e w ⟨rfl, hN⟩; refine ⟨_, rfl, ?_⟩; obtain ⟨hB, hS⟩ := hS.jn hN
  refine Zc 2 rfl ?_
  refine Zg ?_
  refine Zb hK17 ?_
  refine Zk ?_
  refine Zl rfl (RV.tmp rfl RV.nil) rfl ?_
  obtain rfl := QJ H
  replace hS := hS.cut 0
  exact ⟨rfl, hS⟩
 replace H := Zo H hb
 refine Za rfl rfl rfl (Zd Zem rfl) ?_
 refine Za rfl rfl rfl (Zh Zw rfl (Zgw _) hS hs0 trivial Zan) ?_
 refine Za rfl rfl rfl (Y5 rfl rfl) ?_
 refine Zc 2 rfl ?_
 refine Zs 44 rfl (fun hb => ?_) (fun hb => ?_)
 rotate_left
 ·replace H := Zo H hb
  refine Zc 20 rfl ?_
  refine Zg ?_
  refine Zb hK17 ?_
  refine Zk ?_
  refine Zl rfl (RV.tmp rfl RV.nil) rfl ?_
  obtain rfl := QJ H
  replace hS := hS.cut 0
  exact ⟨rfl, hS⟩
 replace H := Zp H hb
 refine Za rfl rfl rfl (Zd Yj rfl) ?_
 refine Za rfl rfl rfl (Zh Zw rfl (Zgw _) hS hs0 trivial Y8) ?_
 obtain ⟨r24, hm25, H⟩ := bind_some H
 refine Zq rfl rfl rfl rfl (by kernel_rfl) rfl (Jf x0.index _ hm25) ?_
 rintro e w ⟨rfl, hN⟩; refine ⟨_, rfl, ?_⟩; obtain ⟨hB, hS⟩ := hS.jn hN
 refine Zc 2 rfl ?_
 refine Zs 49 rfl (fun hb => ?_) (fun hb => ?_)
 rotate_left
 ·replace H := Zo H hb
  refine Zc 15 rfl ?_
  refine Zg ?_
  refine Zb hK17 ?_
  refine Zk ?_
  refine Zl rfl (RV.tmp rfl RV.nil) rfl ?_
  obtain rfl := QJ H
  replace hS := hS.cut 0
  exact ⟨rfl, hS⟩
 replace H := Zp H hb
 refine Za rfl rfl rfl (Zd Zc7 rfl) ?_
 refine Za rfl rfl rfl (Zh Zw rfl (Zgw _) hS hs0 trivial Vp) ?_
 refine Za rfl rfl rfl (Y9 rfl rfl) ?_
 refine Zc 2 rfl ?_
 refine Zs 54 rfl (fun hb => ?_) (fun hb => ?_)
 rotate_left
 ·replace H := Zo H hb
  refine Zc 10 rfl ?_
  refine Zg ?_
  refine Zb hK17 ?_
  refine Zk ?_
  refine Zl rfl (RV.tmp rfl RV.nil) rfl ?_
  obtain rfl := QJ H
  replace hS := hS.cut 0
  exact ⟨rfl, hS⟩
 replace H := Zp H hb
 refine Za rfl rfl rfl (Zd Zc7 rfl) ?_
 refine Za rfl rfl rfl (Zh Zw rfl (Zgw _) hS hs0 trivial Vp) ?_
 obtain ⟨r26, hm27, H⟩ := bind_some H
 refine Zq rfl rfl rfl rfl (by kernel_rfl) rfl (Jf x0.term _ hm27) ?_
 rintro e w ⟨rfl, hN⟩; refine ⟨_, rfl, ?_⟩; obtain ⟨hB, hS⟩ := hS.jn hN
 refine Zc 2 rfl ?_
 refine Zs 59 rfl (fun hb => ?_) (fun hb => ?_)
 rotate_left
 ·replace H := Zo H hb
  refine Zc 5 rfl ?_
  refine Zg ?_
  refine Zb hK17 ?_
  refine Zk ?_
  refine Zl rfl (RV.tmp rfl RV.nil) rfl ?_
  obtain rfl := QJ H
  replace hS := hS.cut 0
  exact ⟨rfl, hS⟩
 replace H := Zp H hb
 refine Za rfl rfl rfl (Zd fo_23_2 rfl) ?_
 refine Za rfl rfl rfl (Zh Zw rfl (Zgw _) hS hs0 trivial Zav) ?_
 obtain ⟨r28, hm29, H⟩ := bind_some H
 refine Zq rfl rfl rfl rfl (by kernel_rfl) rfl (Jf x0.sum _ hm29) ?_
 rintro e w ⟨rfl, hN⟩; refine ⟨_, rfl, ?_⟩; obtain ⟨hB, hS⟩ := hS.jn hN
 refine Zc 2 rfl ?_
 refine Zg ?_
 refine Zb hK17 ?_
 refine Zk ?_
 refine Zl rfl (RV.tmp rfl RV.nil) rfl ?_
 obtain rfl := QJ H
 replace hS := hS.cut 0
 exact ⟨rfl, hS⟩
theorem Zft (x0 : List Int) (x1 : Int) (x2 : Int) (x3 : Int) (A0_ : OA) (c0_ : Nat) (w0 : World) (s0_ : SlI w0 V1 A0_ c0_ x0) {r : Bool} (H : Zbk x0 x1 x2 x3 = some r) : Calls Tryz.prog 98 #[.slice A0_ x0.length c0_, .int .i64 x1, .int .i64 x2, .int .i64 x3] w0 fun e w' => e = .returned (.bool r) ∧ St0 All w0 w' [] := by
 unfold Zbk at H
 refine gw_enter4 Tryz.func98 rfl Tryz.ntmps98 rfl ?_
 have hS := St0.start All w0
 refine Ze (fun K hK1 => ?_)
 refine Zf ?_
 refine Yd rfl rfl rfl CellsOf.int hS (fun b2 w hS hB => ?_)
 refine Yd rfl rfl rfl CellsOf.int hS (fun b4 w hS hB => ?_)
 refine Zc 1 rfl ?_
 refine Zg ?_
 refine Zb hK1 ?_
 refine Ze (fun K hK6 => ?_)
 refine Zf ?_
 refine Zc 1 rfl ?_
 refine Za rfl rfl rfl (Yw Xl rfl) ?_
 refine Zc 1 rfl ?_
 refine Za rfl rfl rfl (Y5 rfl rfl) ?_
 refine Zc 1 rfl ?_
 refine Zs 13 rfl (fun hb => ?_) (fun hb => ?_)
 rotate_left
 ·replace H := Zo H hb
  refine Zc 6 rfl ?_
  refine Zg ?_
  refine Zb hK6 ?_
  refine Zk ?_
  refine Zl rfl (RV.tmp rfl RV.nil) rfl ?_
  obtain rfl := QJ H
  replace hS := hS.cut 0
  exact ⟨rfl, hS⟩
 replace H := Zp H hb
 refine Zc 1 rfl ?_
 refine Za rfl rfl rfl (X8 rfl rfl) ?_
 refine Zbw rfl rfl rfl rfl (by kernel_rfl) rfl ?_
 show Calls _ _ #[_, _] _ _
 refine Yt Tryz.func128 rfl Tryz.ntmps128 rfl ?_
 refine Ze (fun K hK7 => ?_)
 refine Zf ?_
 refine Zc 1 rfl ?_
 refine Zg ?_
 refine Zb hK7 ?_
 refine Ze (fun K hK8 => ?_)
 refine Zf ?_
 refine Zc 2 rfl ?_
 refine Zbw rfl rfl rfl rfl (by kernel_rfl) rfl ?_
 show Calls _ _ #[_, _] _ _
 refine Yt Tryz.func115 rfl Tryz.ntmps115 rfl ?_
 refine Ze (fun K hK9 => ?_)
 refine Zf ?_
 refine Zc 1 rfl ?_
 refine Zg ?_
 refine Zb hK9 ?_
 refine Ze (fun K hK10 => ?_)
 refine Ze (fun K hK11 => ?_)
 refine Zf ?_
 refine Zc 1 rfl ?_
 refine Za rfl rfl rfl (Yw Xl rfl) ?_
 refine Zc 1 rfl ?_
 refine Zg ?_
 refine Zb hK11 ?_
 refine Yf ?_
 refine Vz (X := Nat × Int × Int) (fun x => (0, .slice A0_ x0.length c0_) :: (1, .func (.func 129) #[] #[.pointer (some ⟨b2, 0, none⟩), .pointer (some ⟨b4, 0, none⟩)]) :: (4, .int .i64 x.2.1) :: (7, .int .i64 (x0.length : Int)) :: (8, .int .i64 x.2.2) :: []) (fun x w => St0 All w0 w (.box b4 [.int .i64 x3] 3 :: .box b2 [.int .i64 x2] 3 :: []) ∧ Za5 x0 x2 x3 x.1 x.2.1 x.2.2 = some r) (fun x => x.1) (Xo, 0, 0) (by repeat (first | exact Sub.nil | refine Sub.cons rfl ?_)) ⟨hS, H⟩ ?_
 rintro ⟨n, v12, v13⟩ w ⟨hS, H⟩
 dsimp only at hS H ⊢
 obtain _ | n := n
 ·have H0 : none = some r := H
  cases H0
 rw [Za5] at H
 refine Ze (fun K hK14 => ?_)
 refine Zf ?_
 refine Za rfl rfl rfl (Xe rfl rfl) ?_
 refine Zg ?_
 refine Zb hK14 ?_
 refine Ze (fun K hK15 => ?_)
 refine Zz rfl (fun hb => ?_) (fun hb => ?_)
 rotate_left
 ·replace H := Zo H hb
  refine Vl ?_
  refine Yb ?_
  refine Yb ?_
  refine Y6 ?_
  refine Zb hK10 ?_
  refine Ze (fun K hK27 => ?_)
  refine Zf ?_
  refine Zc 1 rfl ?_
  refine Zg ?_
  refine Zb hK27 ?_
  refine Zk ?_
  refine Zl rfl (RV.tmp rfl RV.nil) rfl ?_
  refine ⟨_, rfl, ?_⟩
  refine Za rfl rfl rfl (Zcu rfl rfl) ?_
  refine Zc 1 rfl ?_
  refine Zg ?_
  refine Zb hK8 ?_
  refine Zk ?_
  refine Zl rfl (RV.tmp rfl RV.nil) rfl ?_
  refine ⟨_, rfl, ?_⟩
  refine Za rfl rfl rfl (Yy rfl) ?_
  refine Zc 2 rfl ?_
  refine Zg ?_
  refine Zb hK6 ?_
  refine Zk ?_
  refine Zl rfl (RV.tmp rfl RV.nil) rfl ?_
  obtain rfl := QJ H
  replace hS := hS.cut 0
  exact ⟨rfl, hS⟩
 replace H := Zp H hb
 refine Zr ?_
 refine Zb hK15 ?_
 refine Ze (fun K hK16 => ?_)
 refine Yf ?_
 refine Ze (fun K hK17 => ?_)
 refine Zf ?_
 refine Zc 2 rfl ?_
 refine Zg ?_
 refine Zb hK17 ?_
 refine Ze (fun K hK18 => ?_)
 refine Zf ?_
 refine Zc 3 rfl ?_
 obtain ⟨e19, hi21, H⟩ := bind_some H
 obtain ⟨j20, hi21a, hi21b, hi21c⟩ := Ym hi21
 refine Za rfl rfl rfl (Y1 Xl rfl rfl hi21a hi21c (Rd.el (hS.rd0 s0_.rd) Z9 hi21b)) ?_
 refine Za rfl rfl rfl (Xn Zw rfl (Zgw _) (Rd.el (hS.rd0 s0_.rd) Z9 hi21b) rfl) ?_
 refine Zbw rfl rfl rfl rfl (by kernel_rfl) rfl ?_
 show Calls _ _ #[_, _, _] _ _
 refine Zcj Tryz.func129 rfl Tryz.ntmps129 rfl ?_
 refine Ze (fun K hK22 => ?_)
 refine Zf ?_
 refine Zc 1 rfl ?_
 refine Zg ?_
 refine Zb hK22 ?_
 refine Ze (fun K hK23 => ?_)
 refine Zf ?_
 refine Zc 1 rfl ?_
 refine Za rfl rfl rfl (Zh Zw rfl (Zgw _) hS Xw trivial Y8) ?_
 refine Za rfl rfl rfl (Zh Zw rfl (Zgw _) hS hs0 trivial Y8) ?_
 obtain ⟨r24, hm25, H⟩ := bind_some H
 refine Zq rfl rfl rfl rfl (by kernel_rfl) rfl (Zaf e19 x2 x3 _ hm25) ?_
 rintro e w ⟨rfl, hN⟩; refine ⟨_, rfl, ?_⟩; obtain ⟨hB, hS⟩ := hS.jn hN
 refine Za rfl rfl rfl (Yy rfl) ?_
 refine Zc 1 rfl ?_
 refine Zg ?_
 refine Zb hK23 ?_
 refine Zk ?_
 refine Zl rfl (RV.tmp rfl RV.nil) rfl ?_
 refine ⟨_, rfl, ?_⟩
 refine Zg ?_
 refine Zb hK18 ?_
 refine Zz rfl (fun hb => ?_) (fun hb => ?_)
 rotate_left
 ·replace H := Zo H hb
  refine Zr ?_
  refine Z1 ?_
  refine Zb hK16 ?_
  refine Zf ?_
  refine Za rfl rfl rfl (Xc rfl rfl) ?_
  refine Zc 1 rfl ?_
  refine Zg ?_
  exact X3 (n, v12, (IntKind.wrap .i64 (v13 + 1))) (by repeat (first | exact Sub.nil | refine Sub.cons rfl ?_)) ⟨hS, H⟩ (Nat.lt_succ_self _)
 replace H := Zp H hb
 refine Ze (fun K hK26 => ?_)
 refine Zf ?_
 refine Zc 2 rfl ?_
 refine Zg ?_
 refine Zb hK26 ?_
 refine Zk ?_
 refine Zv ?_
 refine Zi ?_
 refine Zi ?_
 refine Zv ?_
 refine Zi ?_
 refine Zl rfl (RV.tmp rfl RV.nil) rfl ?_
 refine ⟨_, rfl, ?_⟩
 refine Za rfl rfl rfl (Zcu rfl rfl) ?_
 refine Zc 1 rfl ?_
 refine Zg ?_
 refine Zb hK8 ?_
 refine Zk ?_
 refine Zl rfl (RV.tmp rfl RV.nil) rfl ?_
 refine ⟨_, rfl, ?_⟩
 refine Za rfl rfl rfl (Yy rfl) ?_
 refine Zc 2 rfl ?_
 refine Zg ?_
 refine Zb hK6 ?_
 refine Zk ?_
 refine Zl rfl (RV.tmp rfl RV.nil) rfl ?_
 obtain rfl := QJ H
 replace hS := hS.cut 0
 exact ⟨rfl, hS⟩
theorem Zf1 (x0 : Co) (A0_ : OA) (c0_ : Nat) (A1_ : OA) (c1_ : Nat) (A2_ : OA) (c2_ : Nat) (A3_ : OA) (c3_ : Nat) (A4_ : OA) (c4_ : Nat) (w0 : World) (s0_ : SlI w0 Jj A0_ c0_ x0.tuple.log) (s1_ : SlI w0 enO A1_ c1_ x0.votes) (s2_ : SlI w0 V1 A2_ c2_ x0.next) (s3_ : SlI w0 V1 A3_ c3_ x0.mtch) (s4_ : SlI w0 V1 A4_ c4_ x0.caps) {r : Bool} (H : Zbh x0 = some r) : Calls Tryz.prog 50 #[.agg #[.int .i64 x0.id, .int .i64 x0.n, .int .u8 x0.role, .int .i64 x0.binary, .int .i64 x0.tuple.snap.index, .int .i64 x0.tuple.snap.term, .int .i64 x0.tuple.snap.sum, .int .i64 x0.tuple.snap.level, .bool x0.tuple.snap.final, .slice A0_ x0.tuple.log.length c0_, .int .i64 x0.tuple.term, .int .i64 x0.tuple.vote, .int .i64 x0.commit, .int .i64 x0.applied.index, .int .i64 x0.applied.term, .int .i64 x0.applied.sum, .int .i64 x0.applied.level, .bool x0.applied.final, .slice A1_ x0.votes.length c1_, .slice A2_ x0.next.length c2_, .slice A3_ x0.mtch.length c3_, .slice A4_ x0.caps.length c4_]] w0 fun e w' => e = .returned (.bool r) ∧ St0 All w0 w' [] := by
 unfold Zbh at H
 refine Yo Tryz.func50 rfl Tryz.ntmps50 rfl ?_
 have hS := St0.start All w0
 refine Ze (fun K hK1 => ?_)
 refine Zf ?_
 refine Yd rfl rfl rfl CellsOf.agg hS (fun b2 w hS hB => ?_)
 refine Zc 1 rfl ?_
 refine Zg ?_
 refine Zb hK1 ?_
 refine Ze (fun K hK4 => ?_)
 refine Zf ?_
 refine Za rfl rfl rfl (Zd Yr rfl) ?_
 refine Za rfl rfl rfl (Zj Y7 rfl (Zgw _) hS hs0 trivial Zak) ?_
 obtain ⟨r5, hm6, H⟩ := bind_some H
 refine Zq rfl rfl rfl rfl (by kernel_rfl) rfl (Zdw x0.tuple A0_ c0_ _ (Zgz s0_.k (hS.rd0 s0_.rd) (hS.blk0 s0_.blk)) hm6) ?_
 rintro e w ⟨rfl, hN⟩; refine ⟨_, rfl, ?_⟩; obtain ⟨hB, hS⟩ := hS.jn hN
 refine Yh rfl rfl zc_3 hS (fun b7 w hS hB => ?_)
 refine Zm rfl rfl rfl CellsOf.int hS ps0 st0_1 (by kernel_rfl) rfl (fun w hS hB => ?_)
 refine Zg ?_
 refine Zb hK4 ?_
 refine Ze (fun K hK9 => ?_)
 refine Ze (fun K hK10 => ?_)
 refine Zf ?_
 refine Za rfl rfl rfl (X8 rfl rfl) ?_
 refine Za rfl rfl rfl (X8 rfl rfl) ?_
 refine Za rfl rfl rfl (X8 rfl rfl) ?_
 refine Za rfl rfl rfl (X8 rfl rfl) ?_
 refine Za rfl rfl rfl (X8 rfl rfl) ?_
 refine Za rfl rfl rfl (X8 rfl rfl) ?_
 refine Za rfl rfl rfl (X1 (cells := [.func (.func 92) #[] #[.pointer (some ⟨b2, 0, none⟩)], .func (.func 94) #[] #[.pointer (some ⟨b2, 0, none⟩)], .func (.func 96) #[] #[.pointer (some ⟨b2, 0, none⟩)], .func (.func 97) #[] #[.pointer (some ⟨b2, 0, none⟩), .pointer (some ⟨b7, 0, none⟩)], .func (.func 99) #[] #[.pointer (some ⟨b2, 0, none⟩)], .func (.func 100) #[] #[.pointer (some ⟨b2, 0, none⟩)]]) rfl (by kernel_rfl)) ?_
 refine Zc 1 rfl ?_
 refine Zg ?_
 refine Zb hK10 ?_
 refine Yf ?_
 refine wpC_rounds 60 ?_
 refine Ze (fun K hK11 => ?_)
 refine Zf ?_
 refine Za rfl rfl rfl (Xe rfl rfl) ?_
 refine Zg ?_
 refine Zb hK11 ?_
 refine Ze (fun K hK12 => ?_)
 refine Zt rfl rfl ?_
 refine Zr ?_
 refine Zb hK12 ?_
 refine Ze (fun K hK13 => ?_)
 refine Yf ?_
 refine Ze (fun K hK14 => ?_)
 refine Zf ?_
 refine Za rfl rfl rfl (Zgk (n := 6) (e := 34) (j := 0) (by kernel_rfl) (by kernel_rfl) (by kernel_rfl) rfl rfl rfl (by decide) rfl) ?_
 refine Zc 1 rfl ?_
 refine Zg ?_
 refine Zb hK14 ?_
 refine Ze (fun K hK15 => ?_)
 refine Zf ?_
 refine Zc 1 rfl ?_
 refine Zbw rfl rfl rfl rfl (by kernel_rfl) rfl ?_
 show Calls _ _ #[_] _ _
 refine Yo Tryz.func92 rfl Tryz.ntmps92 rfl ?_
 refine Ze (fun K hK16 => ?_)
 refine Zf ?_
 refine Zc 1 rfl ?_
 refine Zg ?_
 refine Zb hK16 ?_
 refine Ze (fun K hK17 => ?_)
 refine Zf ?_
 refine Za rfl rfl rfl (Zd Ja rfl) ?_
 refine Za rfl rfl rfl (Zh Zw rfl (Zgw _) hS Xw trivial Vp) ?_
 obtain ⟨r18, hm19, H⟩ := bind_some H
 refine Zq rfl rfl rfl rfl (by kernel_rfl) rfl (Zaf x0.n 1 5 _ hm19) ?_
 rintro e w ⟨rfl, hN⟩; refine ⟨_, rfl, ?_⟩; obtain ⟨hB, hS⟩ := hS.jn hN
 refine Zc 1 rfl ?_
 refine Zs 5 rfl (fun hb => ?_) (fun hb => ?_)
 rotate_left
 ·replace H := Zo H hb
  refine Zc 7 rfl ?_
  refine Zg ?_
  refine Zb hK17 ?_
  refine Zk ?_
  refine Zl rfl (RV.tmp rfl RV.nil) rfl ?_
  refine ⟨_, rfl, ?_⟩
  refine Za rfl rfl rfl (Yy rfl) ?_
  refine Zg ?_
  refine Zb hK15 ?_
  refine Zt rfl rfl ?_
  refine Ze (fun K hK94 => ?_)
  refine Zf ?_
  refine Zc 1 rfl ?_
  refine Zg ?_
  refine Zb hK94 ?_
  refine Zk ?_
  refine Zv ?_
  refine Zi ?_
  refine Zi ?_
  refine Zv ?_
  refine Zi ?_
  refine Zl rfl (RV.tmp rfl RV.nil) rfl ?_
  obtain rfl := QJ H
  replace hS := hS.cut 0
  exact ⟨rfl, hS⟩
 replace H := Zp H hb
 refine Za rfl rfl rfl (Zd Zbb rfl) ?_
 refine Za rfl rfl rfl (Zh Zw rfl (Zgw _) hS Xw trivial Y8) ?_
 refine Za rfl rfl rfl (Zd Ja rfl) ?_
 refine Za rfl rfl rfl (Zh Zw rfl (Zgw _) hS Xw trivial Vp) ?_
 obtain ⟨r20, hm21, H⟩ := bind_some H
 refine Zq rfl rfl rfl rfl (by kernel_rfl) rfl (Zaf x0.id 1 x0.n _ hm21) ?_
 rintro e w ⟨rfl, hN⟩; refine ⟨_, rfl, ?_⟩; obtain ⟨hB, hS⟩ := hS.jn hN
 refine Zc 2 rfl ?_
 refine Zg ?_
 refine Zb hK17 ?_
 refine Zk ?_
 refine Zl rfl (RV.tmp rfl RV.nil) rfl ?_
 refine ⟨_, rfl, ?_⟩
 refine Za rfl rfl rfl (Yy rfl) ?_
 refine Zg ?_
 refine Zb hK15 ?_
 refine Zz rfl (fun hb => ?_) (fun hb => ?_)
 ·replace H := Zp H hb
  refine Ze (fun K hK22 => ?_)
  refine Zf ?_
  refine Zc 1 rfl ?_
  refine Zg ?_
  refine Zb hK22 ?_
  refine Zk ?_
  refine Zv ?_
  refine Zi ?_
  refine Zi ?_
  refine Zv ?_
  refine Zi ?_
  refine Zl rfl (RV.tmp rfl RV.nil) rfl ?_
  obtain rfl := QJ H
  replace hS := hS.cut 0
  exact ⟨rfl, hS⟩
 replace H := Zo H hb
 refine Zr ?_
 refine Z1 ?_
 refine Zb hK13 ?_
 refine Zf ?_
 refine Za rfl rfl rfl (Xc rfl rfl) ?_
 refine Zc 1 rfl ?_
 refine Zg ?_
 refine QH_more ?_
 refine Ze (fun K hK23 => ?_)
 refine Zf ?_
 refine Za rfl rfl rfl (Xe rfl rfl) ?_
 refine Zg ?_
 refine Zb hK23 ?_
 refine Ze (fun K hK24 => ?_)
 refine Zt rfl rfl ?_
 refine Zr ?_
 refine Zb hK24 ?_
 refine Ze (fun K hK25 => ?_)
 refine Yf ?_
 refine Ze (fun K hK26 => ?_)
 refine Zf ?_
 refine Za rfl rfl rfl (Zgk (n := 6) (e := 34) (j := 1) (by kernel_rfl) (by kernel_rfl) (by kernel_rfl) rfl rfl rfl (by decide) rfl) ?_
 refine Zc 1 rfl ?_
 refine Zg ?_
 refine Zb hK26 ?_
 refine Ze (fun K hK27 => ?_)
 refine Zf ?_
 refine Zc 1 rfl ?_
 refine Zbw rfl rfl rfl rfl (by kernel_rfl) rfl ?_
 show Calls _ _ #[_] _ _
 refine Yo Tryz.func94 rfl Tryz.ntmps94 rfl ?_
 refine Ze (fun K hK28 => ?_)
 refine Zf ?_
 refine Zc 1 rfl ?_
 refine Zg ?_
 refine Zb hK28 ?_
 refine Ze (fun K hK29 => ?_)
 refine Zf ?_
 refine Za rfl rfl rfl (Zd Zb0 rfl) ?_
 refine Za rfl rfl rfl (Zh Zbd rfl (Zgw _) hS Xw trivial Zav) ?_
 refine Za rfl rfl rfl (Zbn rfl rfl) ?_
 refine Zc 1 rfl ?_
 refine Zs 5 rfl (fun hb => ?_) (fun hb => ?_)
 rotate_left
 ·replace H := Zo H hb
  refine Zc 10 rfl ?_
  refine Zg ?_
  refine Zb hK29 ?_
  refine Zk ?_
  refine Zl rfl (RV.tmp rfl RV.nil) rfl ?_
  refine ⟨_, rfl, ?_⟩
  refine Za rfl rfl rfl (Yy rfl) ?_
  refine Zg ?_
  refine Zb hK27 ?_
  refine Zt rfl rfl ?_
  refine Ze (fun K hK93 => ?_)
  refine Zf ?_
  refine Zc 1 rfl ?_
  refine Zg ?_
  refine Zb hK93 ?_
  refine Zk ?_
  refine Zv ?_
  refine Zi ?_
  refine Zi ?_
  refine Zv ?_
  refine Zi ?_
  refine Zl rfl (RV.tmp rfl RV.nil) rfl ?_
  obtain rfl := QJ H
  replace hS := hS.cut 0
  exact ⟨rfl, hS⟩
 replace H := Zp H hb
 refine Za rfl rfl rfl (Zd Zej rfl) ?_
 refine Za rfl rfl rfl (Zh Zw rfl (Zgw _) hS Xw trivial Zan) ?_
 obtain ⟨r30, hm31, H⟩ := bind_some H
 refine Zq rfl rfl rfl rfl (by kernel_rfl) rfl (Zaf x0.binary 1 2 _ hm31) ?_
 rintro e w ⟨rfl, hN⟩; refine ⟨_, rfl, ?_⟩; obtain ⟨hB, hS⟩ := hS.jn hN
 refine Zc 2 rfl ?_
 refine Zs 10 rfl (fun hb => ?_) (fun hb => ?_)
 rotate_left
 ·replace H := Zo H hb
  refine Zc 5 rfl ?_
  refine Zg ?_
  refine Zb hK29 ?_
  refine Zk ?_
  refine Zl rfl (RV.tmp rfl RV.nil) rfl ?_
  refine ⟨_, rfl, ?_⟩
  refine Za rfl rfl rfl (Yy rfl) ?_
  refine Zg ?_
  refine Zb hK27 ?_
  refine Zt rfl rfl ?_
  refine Ze (fun K hK92 => ?_)
  refine Zf ?_
  refine Zc 1 rfl ?_
  refine Zg ?_
  refine Zb hK92 ?_
  refine Zk ?_
  refine Zv ?_
  refine Zi ?_
  refine Zi ?_
  refine Zv ?_
  refine Zi ?_
  refine Zl rfl (RV.tmp rfl RV.nil) rfl ?_
  obtain rfl := QJ H
  replace hS := hS.cut 0
  exact ⟨rfl, hS⟩
 replace H := Zp H hb
 refine Za rfl rfl rfl (Zd Yr rfl) ?_
 refine Za rfl rfl rfl (Zj Y7 rfl (Zgw _) hS Xw trivial Zak) ?_
 obtain ⟨r32, hm33, H⟩ := bind_some H
 refine Zq rfl rfl rfl rfl (by kernel_rfl) rfl (c_tuple_Right x0.tuple A0_ c0_ _ (Zgz s0_.k (hS.rd0 s0_.rd) (hS.blk0 s0_.blk)) hm33) ?_
 rintro e w ⟨rfl, hN⟩; refine ⟨_, rfl, ?_⟩; obtain ⟨hB, hS⟩ := hS.jn hN
 refine Zc 2 rfl ?_
 refine Zg ?_
 refine Zb hK29 ?_
 refine Zk ?_
 refine Zl rfl (RV.tmp rfl RV.nil) rfl ?_
 refine ⟨_, rfl, ?_⟩
 refine Za rfl rfl rfl (Yy rfl) ?_
 refine Zg ?_
 refine Zb hK27 ?_
 refine Zz rfl (fun hb => ?_) (fun hb => ?_)
 ·replace H := Zp H hb
  refine Ze (fun K hK34 => ?_)
  refine Zf ?_
  refine Zc 1 rfl ?_
  refine Zg ?_
  refine Zb hK34 ?_
  refine Zk ?_
  refine Zv ?_
  refine Zi ?_
  refine Zi ?_
  refine Zv ?_
  refine Zi ?_
  refine Zl rfl (RV.tmp rfl RV.nil) rfl ?_
  obtain rfl := QJ H
  replace hS := hS.cut 0
  exact ⟨rfl, hS⟩
 replace H := Zo H hb
 refine Zr ?_
 refine Z1 ?_
 refine Zb hK25 ?_
 refine Zf ?_
 refine Za rfl rfl rfl (Xc rfl rfl) ?_
 refine Zc 1 rfl ?_
 refine Zg ?_
 refine QH_more ?_
 refine Ze (fun K hK35 => ?_)
 refine Zf ?_
 refine Za rfl rfl rfl (Xe rfl rfl) ?_
 refine Zg ?_
 refine Zb hK35 ?_
 refine Ze (fun K hK36 => ?_)
 refine Zt rfl rfl ?_
 refine Zr ?_
 refine Zb hK36 ?_
 refine Ze (fun K hK37 => ?_)
 refine Yf ?_
 refine Ze (fun K hK38 => ?_)
 refine Zf ?_
 refine Za rfl rfl rfl (Zgk (n := 6) (e := 34) (j := 2) (by kernel_rfl) (by kernel_rfl) (by kernel_rfl) rfl rfl rfl (by decide) rfl) ?_
 refine Zc 1 rfl ?_
 refine Zg ?_
 refine Zb hK38 ?_
 refine Ze (fun K hK39 => ?_)
 refine Zf ?_
 refine Zc 1 rfl ?_
 refine Zbw rfl rfl rfl rfl (by kernel_rfl) rfl ?_
 show Calls _ _ #[_] _ _
 refine Yo Tryz.func96 rfl Tryz.ntmps96 rfl ?_
 refine Ze (fun K hK40 => ?_)
 refine Zf ?_
 refine Zc 1 rfl ?_
 refine Zg ?_
 refine Zb hK40 ?_
 refine Ze (fun K hK41 => ?_)
 refine Zf ?_
 refine Za rfl rfl rfl (Zd Yr rfl) ?_
 refine Za rfl rfl rfl (Zj Y7 rfl (Zgw _) hS Xw trivial Zak) ?_
 refine Za rfl rfl rfl (Zd Vd rfl) ?_
 refine Za rfl rfl rfl (Zh Zw rfl (Zgw _) hS Xw trivial Jl) ?_
 obtain ⟨r42, hm43, H⟩ := bind_some H
 refine Zq rfl rfl rfl rfl (by kernel_rfl) rfl (Za0 x0.tuple x0.commit A0_ c0_ _ (Zgz s0_.k (hS.rd0 s0_.rd) (hS.blk0 s0_.blk)) hm43) ?_
 rintro e w ⟨rfl, hN⟩; refine ⟨_, rfl, ?_⟩; obtain ⟨hB, hS⟩ := hS.jn hN
 refine Zc 1 rfl ?_
 refine Za rfl rfl rfl (Z7 rfl rfl) ?_
 refine Za rfl rfl rfl (Z7 rfl rfl) ?_
 refine Yh rfl rfl zc_23 hS (fun b44 w hS hB => ?_)
 refine Zm rfl rfl rfl CellsOf.agg hS ps0 Zd4 (by kernel_rfl) rfl (fun w hS hB => ?_)
 refine Zc 1 rfl ?_
 refine Zg ?_
 refine Zb hK41 ?_
 refine Ze (fun K hK46 => ?_)
 refine Zf ?_
 refine Zc 2 rfl ?_
 refine Zs 13 rfl (fun hb => ?_) (fun hb => ?_)
 rotate_left
 ·replace H := Zo H hb
  refine Zc 6 rfl ?_
  refine Zg ?_
  refine Zb hK46 ?_
  refine Zk ?_
  refine Zl rfl (RV.tmp rfl RV.nil) rfl ?_
  refine ⟨_, rfl, ?_⟩
  refine Za rfl rfl rfl (Yy rfl) ?_
  refine Zg ?_
  refine Zb hK39 ?_
  refine Zt rfl rfl ?_
  refine Ze (fun K hK91 => ?_)
  refine Zf ?_
  refine Zc 1 rfl ?_
  refine Zg ?_
  refine Zb hK91 ?_
  refine Zk ?_
  refine Zv ?_
  refine Zi ?_
  refine Zi ?_
  refine Zv ?_
  refine Zi ?_
  refine Zl rfl (RV.tmp rfl RV.nil) rfl ?_
  obtain rfl := QJ H
  replace hS := hS.cut 0
  exact ⟨rfl, hS⟩
 replace H := Zp H hb
 refine Za rfl rfl rfl (Zj Y3 rfl (Zgw _) hS hs0 trivial Je) ?_
 refine Za rfl rfl rfl (Zd Zei rfl) ?_
 refine Za rfl rfl rfl (Zj Y3 rfl (Zgw _) hS Vf trivial sg13_5) ?_
 refine Za rfl rfl rfl (J6 (by kernel_rfl) rfl rfl (Zap _ _ _ _ _ _ _ _ _ _)) ?_
 refine Zc 2 rfl ?_
 refine Zg ?_
 refine Zb hK46 ?_
 refine Zk ?_
 refine Zl rfl (RV.tmp rfl RV.nil) rfl ?_
 refine ⟨_, rfl, ?_⟩
 refine Za rfl rfl rfl (Yy rfl) ?_
 refine Zg ?_
 refine Zb hK39 ?_
 refine Zz rfl (fun hb => ?_) (fun hb => ?_)
 ·replace H := Zp H hb
  refine Ze (fun K hK47 => ?_)
  refine Zf ?_
  refine Zc 1 rfl ?_
  refine Zg ?_
  refine Zb hK47 ?_
  refine Zk ?_
  refine Zv ?_
  refine Zi ?_
  refine Zi ?_
  refine Zv ?_
  refine Zi ?_
  refine Zl rfl (RV.tmp rfl RV.nil) rfl ?_
  obtain rfl := QJ H
  replace hS := hS.cut 0
  exact ⟨rfl, hS⟩
 replace H := Zo H hb
 refine Zr ?_
 refine Z1 ?_
 refine Zb hK37 ?_
 refine Zf ?_
 refine Za rfl rfl rfl (Xc rfl rfl) ?_
 refine Zc 1 rfl ?_
 refine Zg ?_
 refine QH_more ?_
 refine Ze (fun K hK48 => ?_)
 refine Zf ?_
 refine Za rfl rfl rfl (Xe rfl rfl) ?_
 refine Zg ?_
 refine Zb hK48 ?_
 refine Ze (fun K hK49 => ?_)
 refine Zt rfl rfl ?_
 refine Zr ?_
 refine Zb hK49 ?_
 refine Ze (fun K hK50 => ?_)
 refine Yf ?_
 refine Ze (fun K hK51 => ?_)
 refine Zf ?_
 refine Za rfl rfl rfl (Zgk (n := 6) (e := 34) (j := 3) (by kernel_rfl) (by kernel_rfl) (by kernel_rfl) rfl rfl rfl (by decide) rfl) ?_
 refine Zc 1 rfl ?_
 refine Zg ?_
 refine Zb hK51 ?_
 refine Ze (fun K hK52 => ?_)
 refine Zf ?_
 refine Zc 1 rfl ?_
 refine Zbw rfl rfl rfl rfl (by kernel_rfl) rfl ?_
 show Calls _ _ #[_, _] _ _
 refine Yt Tryz.func97 rfl Tryz.ntmps97 rfl ?_
 refine Ze (fun K hK53 => ?_)
 refine Zf ?_
 refine Zc 1 rfl ?_
 refine Zg ?_
 refine Zb hK53 ?_
 refine Ze (fun K hK54 => ?_)
 refine Zf ?_
 refine Za rfl rfl rfl (Zd Za9 rfl) ?_
 refine Za rfl rfl rfl (Zh sc_27 rfl (Zgw _) hS Vf trivial Zfu) ?_
 refine Za rfl rfl rfl (Yw el_27 rfl) ?_
 refine Za rfl rfl rfl (Zd Ja rfl) ?_
 refine Za rfl rfl rfl (Zh Zw rfl (Zgw _) hS Vf trivial Vp) ?_
 refine Za rfl rfl rfl (Y5 rfl rfl) ?_
 refine Zc 1 rfl ?_
 refine Zs 9 rfl (fun hb => ?_) (fun hb => ?_)
 rotate_left
 ·replace H := Zo H hb
  refine Zc 17 rfl ?_
  refine Zg ?_
  refine Zb hK54 ?_
  refine Zk ?_
  refine Zl rfl (RV.tmp rfl RV.nil) rfl ?_
  refine ⟨_, rfl, ?_⟩
  refine Za rfl rfl rfl (Yy rfl) ?_
  refine Zg ?_
  refine Zb hK52 ?_
  refine Zt rfl rfl ?_
  refine Ze (fun K hK90 => ?_)
  refine Zf ?_
  refine Zc 1 rfl ?_
  refine Zg ?_
  refine Zb hK90 ?_
  refine Zk ?_
  refine Zv ?_
  refine Zi ?_
  refine Zi ?_
  refine Zv ?_
  refine Zi ?_
  refine Zl rfl (RV.tmp rfl RV.nil) rfl ?_
  obtain rfl := QJ H
  replace hS := hS.cut 0
  exact ⟨rfl, hS⟩
 replace H := Zp H hb
 refine Za rfl rfl rfl (Zd Vo rfl) ?_
 refine Za rfl rfl rfl (Zh Xt rfl (Zgw _) hS Vf trivial Jr) ?_
 refine Za rfl rfl rfl (Zd Ja rfl) ?_
 refine Za rfl rfl rfl (Zh Zw rfl (Zgw _) hS Vf trivial Vp) ?_
 refine Za rfl rfl rfl (Zh Zw rfl (Zgw _) hS Xw trivial Y8) ?_
 refine Za rfl rfl rfl (Xc rfl rfl) ?_
 obtain ⟨r55, hm56, H⟩ := bind_some H
 refine Zq rfl rfl rfl rfl (by kernel_rfl) rfl (Zft x0.next x0.n 1 (IntKind.wrap .i64 (r5 + 1)) A2_ c2_ _ (Zgz s2_.k (hS.rd0 s2_.rd) (hS.blk0 s2_.blk)) hm56) ?_
 rintro e w ⟨rfl, hN⟩; refine ⟨_, rfl, ?_⟩; obtain ⟨hB, hS⟩ := hS.jn hN
 refine Zc 2 rfl ?_
 refine Zs 18 rfl (fun hb => ?_) (fun hb => ?_)
 rotate_left
 ·replace H := Zo H hb
  refine Zc 8 rfl ?_
  refine Zg ?_
  refine Zb hK54 ?_
  refine Zk ?_
  refine Zl rfl (RV.tmp rfl RV.nil) rfl ?_
  refine ⟨_, rfl, ?_⟩
  refine Za rfl rfl rfl (Yy rfl) ?_
  refine Zg ?_
  refine Zb hK52 ?_
  refine Zt rfl rfl ?_
  refine Ze (fun K hK89 => ?_)
  refine Zf ?_
  refine Zc 1 rfl ?_
  refine Zg ?_
  refine Zb hK89 ?_
  refine Zk ?_
  refine Zv ?_
  refine Zi ?_
  refine Zi ?_
  refine Zv ?_
  refine Zi ?_
  refine Zl rfl (RV.tmp rfl RV.nil) rfl ?_
  obtain rfl := QJ H
  replace hS := hS.cut 0
  exact ⟨rfl, hS⟩
 replace H := Zp H hb
 refine Za rfl rfl rfl (Zd Vt rfl) ?_
 refine Za rfl rfl rfl (Zh Xt rfl (Zgw _) hS Vf trivial Jz) ?_
 refine Za rfl rfl rfl (Zd Ja rfl) ?_
 refine Za rfl rfl rfl (Zh Zw rfl (Zgw _) hS Vf trivial Vp) ?_
 refine Za rfl rfl rfl (Zh Zw rfl (Zgw _) hS Xw trivial Y8) ?_
 obtain ⟨r57, hm58, H⟩ := bind_some H
 refine Zq rfl rfl rfl rfl (by kernel_rfl) rfl (Zft x0.mtch x0.n 0 r5 A3_ c3_ _ (Zgz s3_.k (hS.rd0 s3_.rd) (hS.blk0 s3_.blk)) hm58) ?_
 rintro e w ⟨rfl, hN⟩; refine ⟨_, rfl, ?_⟩; obtain ⟨hB, hS⟩ := hS.jn hN
 refine Zc 2 rfl ?_
 refine Zg ?_
 refine Zb hK54 ?_
 refine Zk ?_
 refine Zl rfl (RV.tmp rfl RV.nil) rfl ?_
 refine ⟨_, rfl, ?_⟩
 refine Za rfl rfl rfl (Yy rfl) ?_
 refine Zg ?_
 refine Zb hK52 ?_
 refine Zz rfl (fun hb => ?_) (fun hb => ?_)
 ·replace H := Zp H hb
  refine Ze (fun K hK59 => ?_)
  refine Zf ?_
  refine Zc 1 rfl ?_
  refine Zg ?_
  refine Zb hK59 ?_
  refine Zk ?_
  refine Zv ?_
  refine Zi ?_
  refine Zi ?_
  refine Zv ?_
  refine Zi ?_
  refine Zl rfl (RV.tmp rfl RV.nil) rfl ?_
  obtain rfl := QJ H
  replace hS := hS.cut 0
  exact ⟨rfl, hS⟩
 replace H := Zo H hb
 refine Zr ?_
 refine Z1 ?_
 refine Zb hK50 ?_
 refine Zf ?_
 refine Za rfl rfl rfl (Xc rfl rfl) ?_
 refine Zc 1 rfl ?_
 refine Zg ?_
 refine QH_more ?_
 refine Ze (fun K hK60 => ?_)
 refine Zf ?_
 refine Za rfl rfl rfl (Xe rfl rfl) ?_
 refine Zg ?_
 refine Zb hK60 ?_
 refine Ze (fun K hK61 => ?_)
 refine Zt rfl rfl ?_
 refine Zr ?_
 refine Zb hK61 ?_
 refine Ze (fun K hK62 => ?_)
 refine Yf ?_
 refine Ze (fun K hK63 => ?_)
 refine Zf ?_
 refine Za rfl rfl rfl (Zgk (n := 6) (e := 34) (j := 4) (by kernel_rfl) (by kernel_rfl) (by kernel_rfl) rfl rfl rfl (by decide) rfl) ?_
 refine Zc 1 rfl ?_
 refine Zg ?_
 refine Zb hK63 ?_
 refine Ze (fun K hK64 => ?_)
 refine Zf ?_
 refine Zc 1 rfl ?_
 refine Zbw rfl rfl rfl rfl (by kernel_rfl) rfl ?_
 show Calls _ _ #[_] _ _
 refine Yo Tryz.func99 rfl Tryz.ntmps99 rfl ?_
 refine Ze (fun K hK65 => ?_)
 refine Zf ?_
 refine Zc 1 rfl ?_
 refine Zg ?_
 refine Zb hK65 ?_
 refine Ze (fun K hK66 => ?_)
 refine Yi 18 [] (fun _ _ => True) ⟨by kernel_rfl, by kernel_rfl⟩ hS (fun w hS hB => ?_)
 refine Zn [true, true, true, true] (by decide +kernel) PFC.h ?_
 refine LtK.put rfl rfl rfl (Zd Jn rfl) ?_
 refine LtK.put rfl rfl rfl (Zh Xt rfl (Zgx _) hS Vf trivial Zde) ?_
 refine LtK.put rfl rfl rfl (Zd Ja rfl) ?_
 refine LtK.put rfl rfl rfl (Zh Zw rfl (Zgx _) hS Vf trivial Vp) ?_
 refine LtK.nil ?_
 refine Z6 [false, false, false, false, true] 4 ⟨by decide, by kernel_rfl, by kernel_rfl⟩ rfl rfl ?_
 try dsimp only [Zy]
 obtain ⟨r67, hm68, H⟩ := bind_some H
 refine Zq rfl rfl rfl rfl (by kernel_rfl) rfl (Zft x0.caps x0.n 0 2 A4_ c4_ _ (Zgz s4_.k (hS.rd0 s4_.rd) (hS.blk0 s4_.blk)) hm68) ?_
 rintro e w ⟨rfl, hN⟩; refine ⟨_, rfl, ?_⟩; obtain ⟨hB, hS⟩ := hS.jn hN
 refine Zg ?_
 refine Z8 hB ?_
 refine Zn [false, false, false, false, false, true] (by decide +kernel) PFC.h ?_
 refine LtK.put rfl rfl rfl (Zu rfl) ?_
 refine LtK.nil ?_
 refine Xx 7 rfl (fun hb => ?_) (fun hb => ?_)
 rotate_left
 ·replace H := Zo H hb
  refine Zn [false, false, false, false, false, false, true, true, true, true, true, true, true, true, true, true, true, true] (by decide +kernel) PFC.h ?_
  refine LtK.skip rfl rfl rfl ?_
  refine LtK.skip rfl rfl rfl ?_
  refine LtK.skip rfl rfl rfl ?_
  refine LtK.skip rfl rfl rfl ?_
  refine LtK.skip rfl rfl rfl ?_
  refine LtK.skip rfl rfl rfl ?_
  refine LtK.skip rfl rfl rfl ?_
  refine LtK.skip rfl rfl rfl ?_
  refine LtK.skip rfl rfl rfl ?_
  refine LtK.skip rfl rfl rfl ?_
  refine LtK.put rfl rfl rfl (Yc rfl rfl rfl) ?_
  refine LtK.put rfl rfl rfl (Zx rfl) ?_
  refine LtK.nil ?_
  refine Z4 (by kernel_rfl) ?_
  refine Zb hK66 ?_
  refine Zk ?_
  refine Zl rfl (RV.tmp rfl RV.nil) rfl ?_
  refine ⟨_, rfl, ?_⟩
  refine Za rfl rfl rfl (Yy rfl) ?_
  refine Zg ?_
  refine Zb hK64 ?_
  refine Zt rfl rfl ?_
  refine Ze (fun K hK88 => ?_)
  refine Zf ?_
  refine Zc 1 rfl ?_
  refine Zg ?_
  refine Zb hK88 ?_
  refine Zk ?_
  refine Zv ?_
  refine Zi ?_
  refine Zi ?_
  refine Zv ?_
  refine Zi ?_
  refine Zl rfl (RV.tmp rfl RV.nil) rfl ?_
  obtain rfl := QJ H
  replace hS := hS.cut 0
  exact ⟨rfl, hS⟩
 replace H := Zp H hb
 refine Zn [false, false, false, false, false, false, true, true, true, true, true, true, true, true, true, true, true, true] (by decide +kernel) PFC.h ?_
 refine LtK.put rfl rfl rfl (Zd Jn rfl) ?_
 refine LtK.put rfl rfl rfl (Zh Xt rfl (Zgx _) hS Vf trivial Zde) ?_
 refine LtK.put rfl rfl rfl (Zd Zbb rfl) ?_
 refine LtK.put rfl rfl rfl (Zh Zw rfl (Zgx _) hS Vf trivial Y8) ?_
 refine LtK.put rfl rfl rfl (Za6 rfl rfl) ?_
 obtain ⟨e69, hi71, H⟩ := bind_some H
 obtain ⟨j70, hi71a, hi71b, hi71c⟩ := Ym hi71
 refine LtK.put rfl rfl rfl (Y1 Xl rfl rfl hi71a hi71c (Rd.el (hS.rd0 s4_.rd) Z9 hi71b)) ?_
 refine LtK.put rfl rfl rfl (Xn Zw rfl (Zgx _) (Rd.el (hS.rd0 s4_.rd) Z9 hi71b) rfl) ?_
 refine LtK.put rfl rfl rfl (Zd Zej rfl) ?_
 refine LtK.put rfl rfl rfl (Zh Zw rfl (Zgx _) hS Vf trivial Zan) ?_
 refine LtK.put rfl rfl rfl (Y5 rfl rfl) ?_
 refine LtK.put rfl rfl rfl (Ya rfl rfl rfl) ?_
 refine LtK.put rfl rfl rfl (Zx rfl) ?_
 refine LtK.nil ?_
 refine Z4 (by kernel_rfl) ?_
 refine Zb hK66 ?_
 refine Zk ?_
 refine Zl rfl (RV.tmp rfl RV.nil) rfl ?_
 refine ⟨_, rfl, ?_⟩
 refine Za rfl rfl rfl (Yy rfl) ?_
 refine Zg ?_
 refine Zb hK64 ?_
 refine Zz rfl (fun hb => ?_) (fun hb => ?_)
 ·replace H := Zp H hb
  refine Ze (fun K hK72 => ?_)
  refine Zf ?_
  refine Zc 1 rfl ?_
  refine Zg ?_
  refine Zb hK72 ?_
  refine Zk ?_
  refine Zv ?_
  refine Zi ?_
  refine Zi ?_
  refine Zv ?_
  refine Zi ?_
  refine Zl rfl (RV.tmp rfl RV.nil) rfl ?_
  obtain rfl := QJ H
  replace hS := hS.cut 0
  exact ⟨rfl, hS⟩
 replace H := Zo H hb
 refine Zr ?_
 refine Z1 ?_
 refine Zb hK62 ?_
 refine Zf ?_
 refine Za rfl rfl rfl (Xc rfl rfl) ?_
 refine Zc 1 rfl ?_
 refine Zg ?_
 refine QH_more ?_
 refine Ze (fun K hK73 => ?_)
 refine Zf ?_
 refine Za rfl rfl rfl (Xe rfl rfl) ?_
 refine Zg ?_
 refine Zb hK73 ?_
 refine Ze (fun K hK74 => ?_)
 refine Zt rfl rfl ?_
 refine Zr ?_
 refine Zb hK74 ?_
 refine Ze (fun K hK75 => ?_)
 refine Yf ?_
 refine Ze (fun K hK76 => ?_)
 refine Zf ?_
 refine Za rfl rfl rfl (Zgk (n := 6) (e := 34) (j := 5) (by kernel_rfl) (by kernel_rfl) (by kernel_rfl) rfl rfl rfl (by decide) rfl) ?_
 refine Zc 1 rfl ?_
 refine Zg ?_
 refine Zb hK76 ?_
 refine Ze (fun K hK77 => ?_)
 refine Zf ?_
 refine Zc 1 rfl ?_
 refine Zbw rfl rfl rfl rfl (by kernel_rfl) rfl ?_
 show Calls _ _ #[_] _ _
 refine Yo Tryz.func100 rfl Tryz.ntmps100 rfl ?_
 refine Ze (fun K hK78 => ?_)
 refine Zf ?_
 refine Zc 1 rfl ?_
 refine Zg ?_
 refine Zb hK78 ?_
 refine Ze (fun K hK79 => ?_)
 refine Zf ?_
 refine Za rfl rfl rfl (Zd Zb0 rfl) ?_
 refine Za rfl rfl rfl (Zh Zbd rfl (Zgw _) hS Vf trivial Zav) ?_
 refine Za rfl rfl rfl (Y5 rfl rfl) ?_
 refine Zc 1 rfl ?_
 refine Zs 5 rfl (fun hb => ?_) (fun hb => ?_)
 ·replace H := Zp H hb
  refine Zc 14 rfl ?_
  refine Zg ?_
  refine Zb hK79 ?_
  refine Zk ?_
  refine Zl rfl (RV.tmp rfl RV.nil) rfl ?_
  refine ⟨_, rfl, ?_⟩
  refine Za rfl rfl rfl (Yy rfl) ?_
  refine Zg ?_
  refine Zb hK77 ?_
  refine Yp rfl rfl ?_
  refine Zr ?_
  refine Z1 ?_
  refine Zb hK75 ?_
  refine Zf ?_
  refine Za rfl rfl rfl (Xc rfl rfl) ?_
  refine Zc 1 rfl ?_
  refine Zg ?_
  refine QH_more ?_
  refine Ze (fun K hK80 => ?_)
  refine Zf ?_
  refine Za rfl rfl rfl (Xe rfl rfl) ?_
  refine Zg ?_
  refine Zb hK80 ?_
  refine Ze (fun K hK81 => ?_)
  refine Yp rfl rfl ?_
  refine Vl ?_
  refine Yb ?_
  refine Yb ?_
  refine Y6 ?_
  refine Zb hK9 ?_
  refine Ze (fun K hK82 => ?_)
  refine Zf ?_
  refine Zc 1 rfl ?_
  refine Zg ?_
  refine Zb hK82 ?_
  refine Zk ?_
  refine Zl rfl (RV.tmp rfl RV.nil) rfl ?_
  obtain rfl := QJ H
  replace hS := hS.cut 0
  exact ⟨rfl, hS⟩
 replace H := Zo H hb
 refine Za rfl rfl rfl (Zd Yr rfl) ?_
 refine Za rfl rfl rfl (Zd Vr rfl) ?_
 refine Za rfl rfl rfl (Zh Zw rfl (Zgw _) hS Vf trivial J7) ?_
 refine Za rfl rfl rfl (Y9 rfl rfl) ?_
 refine Zc 1 rfl ?_
 refine Zs 10 rfl (fun hb => ?_) (fun hb => ?_)
 rotate_left
 ·replace H := Zo H hb
  refine Zc 9 rfl ?_
  refine Zg ?_
  refine Zb hK79 ?_
  refine Zk ?_
  refine Zl rfl (RV.tmp rfl RV.nil) rfl ?_
  refine ⟨_, rfl, ?_⟩
  refine Za rfl rfl rfl (Yy rfl) ?_
  refine Zg ?_
  refine Zb hK77 ?_
  refine Zt rfl rfl ?_
  refine Ze (fun K hK87 => ?_)
  refine Zf ?_
  refine Zc 1 rfl ?_
  refine Zg ?_
  refine Zb hK87 ?_
  refine Zk ?_
  refine Zv ?_
  refine Zi ?_
  refine Zi ?_
  refine Zv ?_
  refine Zi ?_
  refine Zl rfl (RV.tmp rfl RV.nil) rfl ?_
  obtain rfl := QJ H
  replace hS := hS.cut 0
  exact ⟨rfl, hS⟩
 replace H := Zp H hb
 refine Za rfl rfl rfl (Zd Yr rfl) ?_
 refine Za rfl rfl rfl (Zd Zar rfl) ?_
 refine Za rfl rfl rfl (Zh Zw rfl (Zgw _) hS Vf trivial sg11_1) ?_
 refine Za rfl rfl rfl (Zd Zbb rfl) ?_
 refine Za rfl rfl rfl (Zh Zw rfl (Zgw _) hS Vf trivial Y8) ?_
 refine Za rfl rfl rfl (Y5 rfl rfl) ?_
 refine Zc 3 rfl ?_
 refine Zg ?_
 refine Zb hK79 ?_
 refine Zk ?_
 refine Zl rfl (RV.tmp rfl RV.nil) rfl ?_
 refine ⟨_, rfl, ?_⟩
 refine Za rfl rfl rfl (Yy rfl) ?_
 refine Zg ?_
 refine Zb hK77 ?_
 refine Zz rfl (fun hb => ?_) (fun hb => ?_)
 ·replace H := Zp H hb
  refine Ze (fun K hK83 => ?_)
  refine Zf ?_
  refine Zc 1 rfl ?_
  refine Zg ?_
  refine Zb hK83 ?_
  refine Zk ?_
  refine Zv ?_
  refine Zi ?_
  refine Zi ?_
  refine Zv ?_
  refine Zi ?_
  refine Zl rfl (RV.tmp rfl RV.nil) rfl ?_
  obtain rfl := QJ H
  replace hS := hS.cut 0
  exact ⟨rfl, hS⟩
 replace H := Zo H hb
 refine Zr ?_
 refine Z1 ?_
 refine Zb hK75 ?_
 refine Zf ?_
 refine Za rfl rfl rfl (Xc rfl rfl) ?_
 refine Zc 1 rfl ?_
 refine Zg ?_
 refine QH_more ?_
 refine Ze (fun K hK84 => ?_)
 refine Zf ?_
 refine Za rfl rfl rfl (Xe rfl rfl) ?_
 refine Zg ?_
 refine Zb hK84 ?_
 refine Ze (fun K hK85 => ?_)
 refine Yp rfl rfl ?_
 refine Vl ?_
 refine Yb ?_
 refine Yb ?_
 refine Y6 ?_
 refine Zb hK9 ?_
 refine Ze (fun K hK86 => ?_)
 refine Zf ?_
 refine Zc 1 rfl ?_
 refine Zg ?_
 refine Zb hK86 ?_
 refine Zk ?_
 refine Zl rfl (RV.tmp rfl RV.nil) rfl ?_
 obtain rfl := QJ H
 replace hS := hS.cut 0
 exact ⟨rfl, hS⟩
theorem c_tuple_At (x0 : Tu) (x1 : Int) (A0_ : OA) (c0_ : Nat) (w0 : World) (s0_ : SlI w0 Jj A0_ c0_ x0.log) {r : En × Bool} (H : m_tuple_At x0 x1 = some r) : Calls Tryz.prog 113 #[.agg #[.int .i64 x0.snap.index, .int .i64 x0.snap.term, .int .i64 x0.snap.sum, .int .i64 x0.snap.level, .bool x0.snap.final, .slice A0_ x0.log.length c0_, .int .i64 x0.term, .int .i64 x0.vote], .int .i64 x1] w0 fun e w' => e = .returned (.tuple #[.agg #[.int .i64 r.1.term, .int .i64 r.1.kind, .int .i64 r.1.value], .bool r.2]) ∧ St0 All w0 w' [] := by
 unfold m_tuple_At at H
 refine Yt Tryz.func113 rfl Tryz.ntmps113 rfl ?_
 have hS := St0.start All w0
 refine Ze (fun K hK1 => ?_)
 refine Zf ?_
 refine Yd rfl rfl rfl CellsOf.agg hS (fun b2 w hS hB => ?_)
 refine Yh rfl rfl Zcr hS (fun b4 w hS hB => ?_)
 refine Zc 1 rfl ?_
 refine Zg ?_
 refine Zb hK1 ?_
 refine Ze (fun K hK6 => ?_)
 refine Ze (fun K hK7 => ?_)
 refine Zf ?_
 refine Zc 1 rfl ?_
 refine Za rfl rfl rfl (Zd Xj rfl) ?_
 refine Za rfl rfl rfl (Zd Yj rfl) ?_
 refine Za rfl rfl rfl (Zh Zw rfl (Zgw _) hS Xw trivial Y8) ?_
 refine Za rfl rfl rfl (Zbn rfl rfl) ?_
 refine Zc 1 rfl ?_
 refine Zs 11 rfl (fun hb => ?_) (fun hb => ?_)
 ·replace H := Zp H hb
  refine Zc 5 rfl ?_
  refine Zg ?_
  refine Zb hK7 ?_
  refine Zt rfl rfl ?_
  refine Ze (fun K hK8 => ?_)
  refine Zf ?_
  refine Za rfl rfl rfl (Zj V8 rfl (Zgw _) hS hs0 trivial Zb8) ?_
  refine Zm rfl rfl rfl CellsOf.agg hS ps0 Zf8 (by kernel_rfl) rfl (fun w hS hB => ?_)
  refine Zc 1 rfl ?_
  refine Zg ?_
  refine Zb hK8 ?_
  refine Zk ?_
  refine Zi ?_
  refine Zl rfl (RV.cell rfl (Z0 V8 hS hs0 Zb8) (RV.tmp rfl RV.nil)) rfl ?_
  obtain rfl := QJ H
  replace hS := hS.cut 0
  exact ⟨rfl, hS⟩
 replace H := Zo H hb
 refine Zc 1 rfl ?_
 refine Za rfl rfl rfl (Zj Y7 rfl (Zgw _) hS Xw trivial Zbr) ?_
 obtain ⟨r9, hm10, H⟩ := bind_some H
 refine Zq rfl rfl rfl rfl (by kernel_rfl) rfl (Zdw x0 A0_ c0_ _ (Zgz s0_.k (hS.rd0 s0_.rd) (hS.blk0 s0_.blk)) hm10) ?_
 rintro e w ⟨rfl, hN⟩; refine ⟨_, rfl, ?_⟩; obtain ⟨hB, hS⟩ := hS.jn hN
 refine Za rfl rfl rfl (Y9 rfl rfl) ?_
 refine Zc 1 rfl ?_
 refine Zg ?_
 refine Zb hK7 ?_
 refine Zz rfl (fun hb => ?_) (fun hb => ?_)
 ·replace H := Zp H hb
  refine Ze (fun K hK11 => ?_)
  refine Zf ?_
  refine Za rfl rfl rfl (Zj V8 rfl (Zgw _) hS hs0 trivial Zb8) ?_
  refine Zm rfl rfl rfl CellsOf.agg hS ps0 Zf8 (by kernel_rfl) rfl (fun w hS hB => ?_)
  refine Zc 1 rfl ?_
  refine Zg ?_
  refine Zb hK11 ?_
  refine Zk ?_
  refine Zi ?_
  refine Zl rfl (RV.cell rfl (Z0 V8 hS hs0 Zb8) (RV.tmp rfl RV.nil)) rfl ?_
  obtain rfl := QJ H
  replace hS := hS.cut 0
  exact ⟨rfl, hS⟩
 replace H := Zo H hb
 refine Zr ?_
 refine Zb hK6 ?_
 refine Ze (fun K hK12 => ?_)
 refine Zf ?_
 refine Za rfl rfl rfl (Zd X0 rfl) ?_
 refine Za rfl rfl rfl (Zh Xq rfl (Zgw _) hS Xw trivial V7) ?_
 refine Zc 1 rfl ?_
 refine Za rfl rfl rfl (Zd Xj rfl) ?_
 refine Za rfl rfl rfl (Zd Yj rfl) ?_
 refine Za rfl rfl rfl (Zh Zw rfl (Zgw _) hS Xw trivial Y8) ?_
 refine Za rfl rfl rfl (Za6 rfl rfl) ?_
 refine Za rfl rfl rfl (Za6 rfl rfl) ?_
 obtain ⟨e13, hi15, H⟩ := bind_some H
 obtain ⟨j14, hi15a, hi15b, hi15c⟩ := Ym hi15
 refine Za rfl rfl rfl (Y1 Y4 rfl rfl hi15a hi15c (Rd.el (hS.rd0 s0_.rd) X6 hi15b)) ?_
 refine Za rfl rfl rfl (Zc8 V8 rfl (Zgw _) (Rd.el (hS.rd0 s0_.rd) X6 hi15b) Zb8) ?_
 refine Zm rfl rfl rfl CellsOf.agg hS ps0 Zf8 (by kernel_rfl) rfl (fun w hS hB => ?_)
 refine Zc 1 rfl ?_
 refine Zg ?_
 refine Zb hK12 ?_
 refine Zk ?_
 refine Zl rfl (RV.cell rfl (Z0 V8 hS hs0 Zb8) (RV.tmp rfl RV.nil)) rfl ?_
 obtain rfl := QJ H
 replace hS := hS.cut 0
 exact ⟨rfl, hS⟩
theorem Zfp (x0 : Tu) (x1 : Int) (A0_ : OA) (c0_ : Nat) (w0 : World) (s0_ : SlI w0 Jj A0_ c0_ x0.log) {r : Int × Bool} (H : Zal x0 x1 = some r) : Calls Tryz.prog 70 #[.agg #[.int .i64 x0.snap.index, .int .i64 x0.snap.term, .int .i64 x0.snap.sum, .int .i64 x0.snap.level, .bool x0.snap.final, .slice A0_ x0.log.length c0_, .int .i64 x0.term, .int .i64 x0.vote], .int .i64 x1] w0 fun e w' => e = .returned (.tuple #[.int .i64 r.1, .bool r.2]) ∧ St0 All w0 w' [] := by
 unfold Zal at H
 refine Yt Tryz.func70 rfl Tryz.ntmps70 rfl ?_
 have hS := St0.start All w0
 refine Ze (fun K hK1 => ?_)
 refine Zf ?_
 refine Yd rfl rfl rfl CellsOf.agg hS (fun b2 w hS hB => ?_)
 refine Zc 2 rfl ?_
 refine Zg ?_
 refine Zb hK1 ?_
 refine Ze (fun K hK4 => ?_)
 refine Ze (fun K hK5 => ?_)
 refine Zf ?_
 refine Zc 1 rfl ?_
 refine Za rfl rfl rfl (Zd Xj rfl) ?_
 refine Za rfl rfl rfl (Zd Yj rfl) ?_
 refine Za rfl rfl rfl (Zh Zw rfl (Zgw _) hS hs0 trivial Y8) ?_
 refine Za rfl rfl rfl (Y5 rfl rfl) ?_
 refine Zg ?_
 refine Zb hK5 ?_
 refine Zz rfl (fun hb => ?_) (fun hb => ?_)
 ·replace H := Zp H hb
  refine Ze (fun K hK6 => ?_)
  refine Zf ?_
  refine Za rfl rfl rfl (Zd Xj rfl) ?_
  refine Za rfl rfl rfl (Zd Zc7 rfl) ?_
  refine Za rfl rfl rfl (Zh Zw rfl (Zgw _) hS hs0 trivial Vp) ?_
  refine Zc 2 rfl ?_
  refine Zg ?_
  refine Zb hK6 ?_
  refine Zk ?_
  refine Zi ?_
  refine Zl rfl (RV.tmp rfl (RV.tmp rfl RV.nil)) rfl ?_
  obtain rfl := QJ H
  replace hS := hS.cut 0
  exact ⟨rfl, hS⟩
 replace H := Zo H hb
 refine Zr ?_
 refine Zb hK4 ?_
 refine Ze (fun K hK7 => ?_)
 refine Zf ?_
 refine Za rfl rfl rfl (Zj Y7 rfl (Zgw _) hS hs0 trivial Zbr) ?_
 refine Zc 1 rfl ?_
 obtain ⟨r8, hm9, H⟩ := bind_some H
 refine Zq rfl rfl rfl rfl (by kernel_rfl) rfl (c_tuple_At x0 x1 A0_ c0_ _ (Zgz s0_.k (hS.rd0 s0_.rd) (hS.blk0 s0_.blk)) hm9) ?_
 rintro e w ⟨rfl, hN⟩; refine ⟨_, rfl, ?_⟩; obtain ⟨hB, hS⟩ := hS.jn hN
 refine Zc 1 rfl ?_
 refine Za rfl rfl rfl (Z7 rfl rfl) ?_
 refine Za rfl rfl rfl (Z7 rfl rfl) ?_
 refine Yh rfl rfl Zcr hS (fun b10 w hS hB => ?_)
 refine Zm rfl rfl rfl CellsOf.agg hS ps0 Zf8 (by kernel_rfl) rfl (fun w hS hB => ?_)
 refine Zc 1 rfl ?_
 refine Zg ?_
 refine Zb hK7 ?_
 refine Ze (fun K hK12 => ?_)
 refine Zf ?_
 refine Za rfl rfl rfl (Zd Zba rfl) ?_
 refine Za rfl rfl rfl (Zh Zw rfl (Zgw _) hS hs0 trivial Y8) ?_
 refine Zc 3 rfl ?_
 refine Zg ?_
 refine Zb hK12 ?_
 refine Zk ?_
 refine Zl rfl (RV.tmp rfl (RV.tmp rfl RV.nil)) rfl ?_
 obtain rfl := QJ H
 replace hS := hS.cut 0
 exact ⟨rfl, hS⟩
theorem c_msg_entries (x0 : Ms) (A0_ : OA) (c0_ : Nat) (w0 : World) (s0_ : SlI w0 Jj A0_ c0_ x0.entries) {r : Bool} (H : Zc2 x0 = some r) : Calls Tryz.prog 131 #[.agg #[.int .u8 x0.kind, .int .i64 x0.frm, .int .i64 x0.dst, .int .i64 x0.term, .int .i64 x0.cap, .int .i64 x0.last, .int .i64 x0.lastTerm, .int .i64 x0.commit, .bool x0.okk, .slice A0_ x0.entries.length c0_, .int .i64 x0.snap.index, .int .i64 x0.snap.term, .int .i64 x0.snap.sum, .int .i64 x0.snap.level, .bool x0.snap.final]] w0 fun e w' => e = .returned (.bool r) ∧ St0 All w0 w' [] := by
 unfold Zc2 at H
 refine Yo Tryz.func131 rfl Tryz.ntmps131 rfl ?_
 have hS := St0.start All w0
 refine Ze (fun K hK1 => ?_)
 refine Zf ?_
 refine Yd rfl rfl rfl CellsOf.agg hS (fun b2 w hS hB => ?_)
 refine Zc 1 rfl ?_
 refine Zg ?_
 refine Zb hK1 ?_
 refine Ze (fun K hK4 => ?_)
 refine Zf ?_
 refine Za rfl rfl rfl (Zd Zf4 rfl) ?_
 refine Za rfl rfl rfl (Zh Zw rfl (Zgw _) hS hs0 trivial sg6_1) ?_
 refine Zc 1 rfl ?_
 refine Zg ?_
 refine Zb hK4 ?_
 refine Ze (fun K hK5 => ?_)
 refine Ze (fun K hK6 => ?_)
 refine Zf ?_
 refine Za rfl rfl rfl (Zd X5 rfl) ?_
 refine Za rfl rfl rfl (Zh Xq rfl (Zgw _) hS hs0 trivial Jg) ?_
 refine Za rfl rfl rfl (Yw Y4 rfl) ?_
 refine Zc 1 rfl ?_
 refine Zg ?_
 refine Zb hK6 ?_
 refine Yf ?_
 refine Vz (X := Nat × Bool × Int × Int) (fun x => (1, .pointer (some ⟨b2, 0, none⟩)) :: (2, .bool x.2.1) :: (3, .int .i64 x.2.2.1) :: (9, .slice A0_ x0.entries.length c0_) :: (10, .int .i64 (x0.entries.length : Int)) :: (11, .int .i64 x.2.2.2) :: []) (fun x w => St0 All w0 w (.box b2 [.int .u8 x0.kind, .int .i64 x0.frm, .int .i64 x0.dst, .int .i64 x0.term, .int .i64 x0.cap, .int .i64 x0.last, .int .i64 x0.lastTerm, .int .i64 x0.commit, .bool x0.okk, .slice A0_ x0.entries.length c0_, .int .i64 x0.snap.index, .int .i64 x0.snap.term, .int .i64 x0.snap.sum, .int .i64 x0.snap.level, .bool x0.snap.final] 32 :: []) ∧ Ju x0 x.1 x.2.1 x.2.2.1 x.2.2.2 = some r) (fun x => x.1) (Xo, false, x0.lastTerm, 0) (by repeat (first | exact Sub.nil | refine Sub.cons rfl ?_)) ⟨hS, H⟩ ?_
 rintro ⟨n, v7, v8, v9⟩ w ⟨hS, H⟩
 dsimp only at hS H ⊢
 obtain _ | n := n
 ·have H0 : none = some r := H
  cases H0
 rw [Ju] at H
 refine Ze (fun K hK10 => ?_)
 refine Zf ?_
 refine Za rfl rfl rfl (Xe rfl rfl) ?_
 refine Zg ?_
 refine Zb hK10 ?_
 refine Ze (fun K hK11 => ?_)
 refine Zz rfl (fun hb => ?_) (fun hb => ?_)
 rotate_left
 ·replace H := Zo H hb
  refine Vl ?_
  refine Yb ?_
  refine Yb ?_
  refine Y6 ?_
  refine Zb hK5 ?_
  refine Ze (fun K hK27 => ?_)
  refine Zf ?_
  refine Za rfl rfl rfl (Zd X5 rfl) ?_
  refine Za rfl rfl rfl (Zh Xq rfl (Zgw _) hS hs0 trivial Jg) ?_
  refine Za rfl rfl rfl (Yw Y4 rfl) ?_
  refine Za rfl rfl rfl (Zbn rfl rfl) ?_
  refine Zc 1 rfl ?_
  refine Zg ?_
  refine Zb hK27 ?_
  refine Zk ?_
  refine Zl rfl (RV.tmp rfl RV.nil) rfl ?_
  obtain rfl := QJ H
  replace hS := hS.cut 0
  exact ⟨rfl, hS⟩
 replace H := Zp H hb
 refine Zr ?_
 refine Zb hK11 ?_
 refine Ze (fun K hK12 => ?_)
 refine Yf ?_
 refine Ze (fun K hK13 => ?_)
 refine Zf ?_
 obtain ⟨e14, hi16, H⟩ := bind_some H
 obtain ⟨j15, hi16a, hi16b, hi16c⟩ := Ym hi16
 refine Za rfl rfl rfl (Y1 Y4 rfl rfl hi16a hi16c (Rd.el (hS.rd0 s0_.rd) X6 hi16b)) ?_
 refine Za rfl rfl rfl (Zc8 V8 rfl (Zgw _) (Rd.el (hS.rd0 s0_.rd) X6 hi16b) Zb8) ?_
 refine Yh rfl rfl Zcr hS (fun b17 w hS hB => ?_)
 refine Zm rfl rfl rfl CellsOf.agg hS ps0 Zf8 (by kernel_rfl) rfl (fun w hS hB => ?_)
 refine Zg ?_
 refine Zb hK13 ?_
 refine Ze (fun K hK19 => ?_)
 refine Ze (fun K hK20 => ?_)
 refine Zf ?_
 refine Za rfl rfl rfl (Zj V8 rfl (Zgw _) hS hs0 trivial Zb8) ?_
 obtain ⟨r21, hm22, H⟩ := bind_some H
 refine Zq rfl rfl rfl rfl (by kernel_rfl) rfl (c_entry_Right e14 _ hm22) ?_
 rintro e w ⟨rfl, hN⟩; refine ⟨_, rfl, ?_⟩; obtain ⟨hB, hS⟩ := hS.jn hN
 refine Za rfl rfl rfl (Yy rfl) ?_
 refine Zc 1 rfl ?_
 refine Zs 18 rfl (fun hb => ?_) (fun hb => ?_)
 ·replace H := Zp H hb
  refine Zc 8 rfl ?_
  refine Zg ?_
  refine Zb hK20 ?_
  refine Zt rfl rfl ?_
  refine Ze (fun K hK23 => ?_)
  refine Zf ?_
  refine Zc 1 rfl ?_
  refine Zg ?_
  refine Zb hK23 ?_
  refine Zk ?_
  refine Zi ?_
  refine Zv ?_
  refine Zi ?_
  refine Zi ?_
  refine Zv ?_
  refine Zi ?_
  refine Zl rfl (RV.tmp rfl RV.nil) rfl ?_
  obtain rfl := QJ H
  replace hS := hS.cut 0
  exact ⟨rfl, hS⟩
 replace H := Zo H hb
 refine Za rfl rfl rfl (Zd Zba rfl) ?_
 refine Za rfl rfl rfl (Zh Zw rfl (Zgw _) hS hs0 trivial Y8) ?_
 refine Zc 1 rfl ?_
 refine Za rfl rfl rfl (Zd Zb1 rfl) ?_
 refine Za rfl rfl rfl (Zh Zw rfl (Zgw _) hS Xw trivial Zan) ?_
 obtain ⟨r24, hm25, H⟩ := bind_some H
 refine Zq rfl rfl rfl rfl (by kernel_rfl) rfl (Zaf e14.term v8 x0.term _ hm25) ?_
 rintro e w ⟨rfl, hN⟩; refine ⟨_, rfl, ?_⟩; obtain ⟨hB, hS⟩ := hS.jn hN
 refine Za rfl rfl rfl (Yy rfl) ?_
 refine Zc 1 rfl ?_
 refine Zg ?_
 refine Zb hK20 ?_
 refine Zz rfl (fun hb => ?_) (fun hb => ?_)
 rotate_left
 ·replace H := Zo H hb
  refine Zr ?_
  refine Zb hK19 ?_
  refine Zf ?_
  refine Za rfl rfl rfl (Zd Zba rfl) ?_
  refine Za rfl rfl rfl (Zh Zw rfl (Zgw _) hS hs0 trivial Y8) ?_
  refine Zc 1 rfl ?_
  refine Zg ?_
  refine Z1 ?_
  refine Zb hK12 ?_
  refine Zf ?_
  refine Za rfl rfl rfl (Xc rfl rfl) ?_
  refine Zc 1 rfl ?_
  refine Zg ?_
  exact X3 (n, v7, e14.term, (IntKind.wrap .i64 (v9 + 1))) (by repeat (first | exact Sub.nil | refine Sub.cons rfl ?_)) ⟨(hS.sub (List.Sublist.cons _ (List.Sublist.cons_cons _ List.Sublist.slnil))), H⟩ (Nat.lt_succ_self _)
 replace H := Zp H hb
 refine Ze (fun K hK26 => ?_)
 refine Zf ?_
 refine Zc 1 rfl ?_
 refine Zg ?_
 refine Zb hK26 ?_
 refine Zk ?_
 refine Zi ?_
 refine Zv ?_
 refine Zi ?_
 refine Zi ?_
 refine Zv ?_
 refine Zi ?_
 refine Zl rfl (RV.tmp rfl RV.nil) rfl ?_
 obtain rfl := QJ H
 replace hS := hS.cut 0
 exact ⟨rfl, hS⟩
theorem c_msg_Fine (x0 : Ms) (x1 : Int) (A0_ : OA) (c0_ : Nat) (w0 : World) (s0_ : SlI w0 Jj A0_ c0_ x0.entries) {r : Bool} (H : Zeg x0 x1 = some r) : Calls Tryz.prog 104 #[.agg #[.int .u8 x0.kind, .int .i64 x0.frm, .int .i64 x0.dst, .int .i64 x0.term, .int .i64 x0.cap, .int .i64 x0.last, .int .i64 x0.lastTerm, .int .i64 x0.commit, .bool x0.okk, .slice A0_ x0.entries.length c0_, .int .i64 x0.snap.index, .int .i64 x0.snap.term, .int .i64 x0.snap.sum, .int .i64 x0.snap.level, .bool x0.snap.final], .int .i64 x1] w0 fun e w' => e = .returned (.bool r) ∧ St0 All w0 w' [] := by
 unfold Zeg at H
 refine Yt Tryz.func104 rfl Tryz.ntmps104 rfl ?_
 have hS := St0.start All w0
 refine Ze (fun K hK1 => ?_)
 refine Zf ?_
 refine Yd rfl rfl rfl CellsOf.agg hS (fun b2 w hS hB => ?_)
 refine Zc 1 rfl ?_
 refine Zg ?_
 refine Zb hK1 ?_
 refine wpC_scope1 0 rfl ?_
 refine Ze (fun K hK4 => ?_)
 refine Ze (fun K hK5 => ?_)
 refine Zf ?_
 refine Zc 1 rfl ?_
 obtain ⟨r6, hm7, H⟩ := bind_some H
 refine Zq rfl rfl rfl rfl (by kernel_rfl) rfl (Zaf x1 1 5 _ hm7) ?_
 rintro e w ⟨rfl, hN⟩; refine ⟨_, rfl, ?_⟩; obtain ⟨hB, hS⟩ := hS.jn hN
 refine Za rfl rfl rfl (Yy rfl) ?_
 refine Zc 1 rfl ?_
 refine Zs 8 rfl (fun hb => ?_) (fun hb => ?_)
 ·replace H := Zp H hb
  refine Zc 16 rfl ?_
  refine Zg ?_
  refine Zb hK5 ?_
  refine Zt rfl rfl ?_
  refine Vk ?_
  refine Xd ?_
  refine Vy ?_
  refine Ze (fun K hK8 => ?_)
  refine Zr ?_
  refine Zb hK8 ?_
  refine Ze (fun K hK9 => ?_)
  refine Zf ?_
  refine Zc 1 rfl ?_
  refine Zg ?_
  refine Zb hK9 ?_
  refine Zk ?_
  refine Z2 ?_
  refine Zl rfl (RV.tmp rfl RV.nil) rfl ?_
  obtain rfl := QJ H
  replace hS := hS.cut 0
  exact ⟨rfl, hS⟩
 replace H := Zo H hb
 refine Za rfl rfl rfl (Zd Zby rfl) ?_
 refine Za rfl rfl rfl (Zh Zw rfl (Zgw _) hS hs0 trivial Vp) ?_
 refine Za rfl rfl rfl (Zd Zdy rfl) ?_
 refine Za rfl rfl rfl (Zh Zw rfl (Zgw _) hS hs0 trivial Zav) ?_
 refine Y0 (ps := [(0, .tmp 10), (1, .tmp 12)]) [.int .i64 x0.frm, .int .i64 x0.dst] Xl zc_3 rfl rfl rfl rfl rfl (by kernel_rfl) hS (fun b10 w hS hB => ?_)
 refine Zc 1 rfl ?_
 obtain ⟨r12, hm13, H⟩ := bind_some H
 refine Zq rfl rfl rfl rfl (by kernel_rfl) rfl (Zft ([x0.frm, x0.dst] : List Int) 2 1 x1 (some ⟨b10, 0, none⟩) 2 _ (Zgz ⟨Nat.le_refl 2, by decide⟩ (hS.box_rd hs0) (hS.box_blk hs0)) hm13) ?_
 rintro e w ⟨rfl, hN⟩; refine ⟨_, rfl, ?_⟩; obtain ⟨hB, hS⟩ := hS.jn hN
 refine Za rfl rfl rfl (Yy rfl) ?_
 refine Zc 2 rfl ?_
 refine Zs 18 rfl (fun hb => ?_) (fun hb => ?_)
 ·replace H := Zp H hb
  refine Zc 6 rfl ?_
  refine Zg ?_
  refine Zb hK5 ?_
  refine Zt rfl rfl ?_
  refine Vk ?_
  refine Xd ?_
  refine Vy ?_
  refine Ze (fun K hK14 => ?_)
  refine Zr ?_
  refine Zb hK14 ?_
  refine Ze (fun K hK15 => ?_)
  refine Zf ?_
  refine Zc 1 rfl ?_
  refine Zg ?_
  refine Zb hK15 ?_
  refine Zk ?_
  refine Z2 ?_
  refine Zl rfl (RV.tmp rfl RV.nil) rfl ?_
  obtain rfl := QJ H
  replace hS := hS.cut 0
  exact ⟨rfl, hS⟩
 replace H := Zo H hb
 refine Za rfl rfl rfl (Zd Zby rfl) ?_
 refine Za rfl rfl rfl (Zh Zw rfl (Zgw _) hS Xw trivial Vp) ?_
 refine Za rfl rfl rfl (Zd Zdy rfl) ?_
 refine Za rfl rfl rfl (Zh Zw rfl (Zgw _) hS Xw trivial Zav) ?_
 refine Za rfl rfl rfl (Y5 rfl rfl) ?_
 refine Zc 1 rfl ?_
 refine Zg ?_
 refine Zb hK5 ?_
 refine Zz rfl (fun hb => ?_) (fun hb => ?_)
 ·replace H := Zp H hb
  refine Vk ?_
  refine Xd ?_
  refine Vy ?_
  refine Ze (fun K hK16 => ?_)
  refine Zr ?_
  refine Zb hK16 ?_
  refine Ze (fun K hK17 => ?_)
  refine Zf ?_
  refine Zc 1 rfl ?_
  refine Zg ?_
  refine Zb hK17 ?_
  refine Zk ?_
  refine Z2 ?_
  refine Zl rfl (RV.tmp rfl RV.nil) rfl ?_
  obtain rfl := QJ H
  replace hS := hS.cut 0
  exact ⟨rfl, hS⟩
 replace H := Zo H hb
 refine Zr ?_
 refine Zb hK4 ?_
 refine Ze (fun K hK18 => ?_)
 refine Ze (fun K hK19 => ?_)
 refine Zf ?_
 refine Za rfl rfl rfl (Zd Vq rfl) ?_
 refine Za rfl rfl rfl (Zh Zbd rfl (Zgw _) hS Xw trivial Y8) ?_
 refine Za rfl rfl rfl (yx_conv (k' := .i64) (by kernel_rfl) (by kernel_rfl) rfl) ?_
 obtain ⟨r20, hm21, H⟩ := bind_some H
 refine Zq rfl rfl rfl rfl (by kernel_rfl) rfl (Zaf (IntKind.wrap .i64 x0.kind) 1 5 _ hm21) ?_
 rintro e w ⟨rfl, hN⟩; refine ⟨_, rfl, ?_⟩; obtain ⟨hB, hS⟩ := hS.jn hN
 refine Za rfl rfl rfl (Yy rfl) ?_
 refine Zc 1 rfl ?_
 refine Zs 30 rfl (fun hb => ?_) (fun hb => ?_)
 ·replace H := Zp H hb
  refine Zc 11 rfl ?_
  refine Zg ?_
  refine Zb hK19 ?_
  refine Zt rfl rfl ?_
  refine Vk ?_
  refine Xd ?_
  refine Vy ?_
  refine Ze (fun K hK22 => ?_)
  refine Zr ?_
  refine Zb hK22 ?_
  refine Ze (fun K hK23 => ?_)
  refine Zf ?_
  refine Zc 1 rfl ?_
  refine Zg ?_
  refine Zb hK23 ?_
  refine Zk ?_
  refine Z2 ?_
  refine Zl rfl (RV.tmp rfl RV.nil) rfl ?_
  obtain rfl := QJ H
  replace hS := hS.cut 0
  exact ⟨rfl, hS⟩
 replace H := Zo H hb
 refine Za rfl rfl rfl (Zd Zb1 rfl) ?_
 refine Za rfl rfl rfl (Zh Zw rfl (Zgw _) hS Xw trivial Zan) ?_
 obtain ⟨r24, hm25, H⟩ := bind_some H
 refine Zq rfl rfl rfl rfl (by kernel_rfl) rfl (Zaf x0.term 1 1073741824 _ hm25) ?_
 rintro e w ⟨rfl, hN⟩; refine ⟨_, rfl, ?_⟩; obtain ⟨hB, hS⟩ := hS.jn hN
 refine Za rfl rfl rfl (Yy rfl) ?_
 refine Zc 2 rfl ?_
 refine Zs 36 rfl (fun hb => ?_) (fun hb => ?_)
 ·replace H := Zp H hb
  refine Zc 5 rfl ?_
  refine Zg ?_
  refine Zb hK19 ?_
  refine Zt rfl rfl ?_
  refine Vk ?_
  refine Xd ?_
  refine Vy ?_
  refine Ze (fun K hK26 => ?_)
  refine Zr ?_
  refine Zb hK26 ?_
  refine Ze (fun K hK27 => ?_)
  refine Zf ?_
  refine Zc 1 rfl ?_
  refine Zg ?_
  refine Zb hK27 ?_
  refine Zk ?_
  refine Z2 ?_
  refine Zl rfl (RV.tmp rfl RV.nil) rfl ?_
  obtain rfl := QJ H
  replace hS := hS.cut 0
  exact ⟨rfl, hS⟩
 replace H := Zo H hb
 refine Za rfl rfl rfl (Zd fo_32_4 rfl) ?_
 refine Za rfl rfl rfl (Zh Zw rfl (Zgw _) hS Xw trivial Zew) ?_
 obtain ⟨r28, hm29, H⟩ := bind_some H
 refine Zq rfl rfl rfl rfl (by kernel_rfl) rfl (Zaf x0.cap 1 2 _ hm29) ?_
 rintro e w ⟨rfl, hN⟩; refine ⟨_, rfl, ?_⟩; obtain ⟨hB, hS⟩ := hS.jn hN
 refine Za rfl rfl rfl (Yy rfl) ?_
 refine Zc 1 rfl ?_
 refine Zg ?_
 refine Zb hK19 ?_
 refine Zz rfl (fun hb => ?_) (fun hb => ?_)
 ·replace H := Zp H hb
  refine Vk ?_
  refine Xd ?_
  refine Vy ?_
  refine Ze (fun K hK30 => ?_)
  refine Zr ?_
  refine Zb hK30 ?_
  refine Ze (fun K hK31 => ?_)
  refine Zf ?_
  refine Zc 1 rfl ?_
  refine Zg ?_
  refine Zb hK31 ?_
  refine Zk ?_
  refine Z2 ?_
  refine Zl rfl (RV.tmp rfl RV.nil) rfl ?_
  obtain rfl := QJ H
  replace hS := hS.cut 0
  exact ⟨rfl, hS⟩
 replace H := Zo H hb
 refine Zr ?_
 refine Zb hK18 ?_
 refine Ze (fun K hK32 => ?_)
 refine Ze (fun K hK33 => ?_)
 refine Zf ?_
 refine Za rfl rfl rfl (Zd Vu rfl) ?_
 refine Za rfl rfl rfl (Zh Zw rfl (Zgw _) hS Xw trivial V7) ?_
 refine Za rfl rfl rfl (Zd Zf4 rfl) ?_
 refine Za rfl rfl rfl (Zh Zw rfl (Zgw _) hS Xw trivial sg6_1) ?_
 refine Za rfl rfl rfl (Zd Zcl rfl) ?_
 refine Za rfl rfl rfl (Zh Zw rfl (Zgw _) hS Xw trivial Zey) ?_
 refine Y0 (ps := [(0, .tmp 43), (1, .tmp 45), (2, .tmp 47)]) [.int .i64 x0.last, .int .i64 x0.lastTerm, .int .i64 x0.commit] Xl zc_3 rfl rfl rfl rfl rfl (by kernel_rfl) hS (fun b34 w hS hB => ?_)
 obtain ⟨r36, hm37, H⟩ := bind_some H
 refine Zq rfl rfl rfl rfl (by kernel_rfl) rfl (Zft ([x0.last, x0.lastTerm, x0.commit] : List Int) 3 0 1073741824 (some ⟨b34, 0, none⟩) 3 _ (Zgz ⟨Nat.le_refl 3, by decide⟩ (hS.box_rd hs0) (hS.box_blk hs0)) hm37) ?_
 rintro e w ⟨rfl, hN⟩; refine ⟨_, rfl, ?_⟩; obtain ⟨hB, hS⟩ := hS.jn hN
 refine Za rfl rfl rfl (Yy rfl) ?_
 refine Zc 1 rfl ?_
 refine Zs 51 rfl (fun hb => ?_) (fun hb => ?_)
 ·replace H := Zp H hb
  refine Zc 4 rfl ?_
  refine Zg ?_
  refine Zb hK33 ?_
  refine Zt rfl rfl ?_
  refine Vk ?_
  refine Xd ?_
  refine Vy ?_
  refine Ze (fun K hK38 => ?_)
  refine Zr ?_
  refine Zb hK38 ?_
  refine Ze (fun K hK39 => ?_)
  refine Zf ?_
  refine Zc 1 rfl ?_
  refine Zg ?_
  refine Zb hK39 ?_
  refine Zk ?_
  refine Z2 ?_
  refine Zl rfl (RV.tmp rfl RV.nil) rfl ?_
  obtain rfl := QJ H
  replace hS := hS.cut 0
  exact ⟨rfl, hS⟩
 replace H := Zo H hb
 refine Za rfl rfl rfl (Zj Vi rfl (Zgw _) hS Vf trivial Xp) ?_
 obtain ⟨r40, hm41, H⟩ := bind_some H
 refine Zq rfl rfl rfl rfl (by kernel_rfl) rfl (c_msg_entries x0 A0_ c0_ _ (Zgz s0_.k (hS.rd0 s0_.rd) (hS.blk0 s0_.blk)) hm41) ?_
 rintro e w ⟨rfl, hN⟩; refine ⟨_, rfl, ?_⟩; obtain ⟨hB, hS⟩ := hS.jn hN
 refine Za rfl rfl rfl (Yy rfl) ?_
 refine Zc 1 rfl ?_
 refine Zg ?_
 refine Zb hK33 ?_
 refine Zz rfl (fun hb => ?_) (fun hb => ?_)
 ·replace H := Zp H hb
  refine Vk ?_
  refine Xd ?_
  refine Vy ?_
  refine Ze (fun K hK42 => ?_)
  refine Zr ?_
  refine Zb hK42 ?_
  refine Ze (fun K hK43 => ?_)
  refine Zf ?_
  refine Zc 1 rfl ?_
  refine Zg ?_
  refine Zb hK43 ?_
  refine Zk ?_
  refine Z2 ?_
  refine Zl rfl (RV.tmp rfl RV.nil) rfl ?_
  obtain rfl := QJ H
  replace hS := hS.cut 0
  exact ⟨rfl, hS⟩
 replace H := Zo H hb
 refine Zr ?_
 refine Zb hK32 ?_
 refine Ze (fun K hK44 => ?_)
 refine Ze (fun K hK45 => ?_)
 refine Zf ?_
 refine Za rfl rfl rfl (Zd Vq rfl) ?_
 refine Za rfl rfl rfl (Zh Zbd rfl (Zgw _) hS Vf trivial Y8) ?_
 refine Za rfl rfl rfl (Xh rfl rfl) ?_
 refine Zc 1 rfl ?_
 refine Zs 59 rfl (fun hb => ?_) (fun hb => ?_)
 rotate_left
 ·replace H := Zo H hb
  refine Zc 10 rfl ?_
  refine Zg ?_
  refine Zb hK45 ?_
  refine Yp rfl rfl ?_
  refine Zr ?_
  refine Zb hK44 ?_
  refine Ze (fun K hK75 => ?_)
  refine Ze (fun K hK76 => ?_)
  refine Zf ?_
  refine Za rfl rfl rfl (Zd Zel rfl) ?_
  refine Za rfl rfl rfl (Zh sc_4 rfl (Zgw _) hS Vf trivial sg8_1) ?_
  refine Zc 1 rfl ?_
  refine Zs 72 rfl (fun hb => ?_) (fun hb => ?_)
  rotate_left
  ·replace H := Zo H hb
   refine Zc 9 rfl ?_
   refine Zg ?_
   refine Zb hK76 ?_
   refine Yp rfl rfl ?_
   refine Zr ?_
   refine Zb hK75 ?_
   refine Ze (fun K hK93 => ?_)
   refine Ze (fun K hK94 => ?_)
   refine Zf ?_
   refine Za rfl rfl rfl (Zd Vq rfl) ?_
   refine Za rfl rfl rfl (Zh Zbd rfl (Zgw _) hS Vf trivial Y8) ?_
   refine Za rfl rfl rfl (Y5 rfl rfl) ?_
   refine Zg ?_
   refine Zb hK94 ?_
   refine Zz rfl (fun hb => ?_) (fun hb => ?_)
   rotate_left
   ·replace H := Zo H hb
    refine Zr ?_
    refine Zb hK93 ?_
    refine Ze (fun K hK98 => ?_)
    refine Ze (fun K hK99 => ?_)
    refine Zf ?_
    refine Za rfl rfl rfl (Zd Xk rfl) ?_
    refine Za rfl rfl rfl (Zj Y3 rfl (Zgw _) hS Vf trivial J3) ?_
    refine Za rfl rfl rfl (X1 (cells := [.int .i64 0, .int .i64 0, .int .i64 0, .int .i64 0, .bool false]) rfl (by kernel_rfl)) ?_
    refine Za rfl rfl rfl (J6 (by kernel_rfl) rfl rfl (Zap _ _ _ _ _ _ _ _ _ _)) ?_
    refine Zc 1 rfl ?_
    refine Zg ?_
    refine Zb hK99 ?_
    refine Zk ?_
    refine Zi ?_
    refine Z2 ?_
    refine Zl rfl (RV.tmp rfl RV.nil) rfl ?_
    obtain rfl := QJ H
    replace hS := hS.cut 0
    exact ⟨rfl, hS⟩
   replace H := Zp H hb
   refine Ze (fun K hK95 => ?_)
   refine Zf ?_
   refine Za rfl rfl rfl (Zd Xk rfl) ?_
   refine Za rfl rfl rfl (Zd Yj rfl) ?_
   refine Za rfl rfl rfl (Zh Zw rfl (Zgw _) hS Vf trivial J7) ?_
   refine Za rfl rfl rfl (Y9 rfl rfl) ?_
   refine Zc 1 rfl ?_
   refine Zs 89 rfl (fun hb => ?_) (fun hb => ?_)
   rotate_left
   ·replace H := Zo H hb
    refine Zc 5 rfl ?_
    refine Zg ?_
    refine Zb hK95 ?_
    refine Zk ?_
    refine Zi ?_
    refine Z2 ?_
    refine Zl rfl (RV.tmp rfl RV.nil) rfl ?_
    obtain rfl := QJ H
    replace hS := hS.cut 0
    exact ⟨rfl, hS⟩
   replace H := Zp H hb
   refine Za rfl rfl rfl (Zd Xk rfl) ?_
   refine Za rfl rfl rfl (Zj Y3 rfl (Zgw _) hS Vf trivial J3) ?_
   obtain ⟨r96, hm97, H⟩ := bind_some H
   refine Zq rfl rfl rfl rfl (by kernel_rfl) rfl (Zch x0.snap _ hm97) ?_
   rintro e w ⟨rfl, hN⟩; refine ⟨_, rfl, ?_⟩; obtain ⟨hB, hS⟩ := hS.jn hN
   refine Zc 2 rfl ?_
   refine Zg ?_
   refine Zb hK95 ?_
   refine Zk ?_
   refine Zi ?_
   refine Z2 ?_
   refine Zl rfl (RV.tmp rfl RV.nil) rfl ?_
   obtain rfl := QJ H
   replace hS := hS.cut 0
   exact ⟨rfl, hS⟩
  replace H := Zp H hb
  refine Za rfl rfl rfl (Zd Vq rfl) ?_
  refine Za rfl rfl rfl (Zh Zbd rfl (Zgw _) hS Vf trivial Y8) ?_
  refine Za rfl rfl rfl (Xh rfl rfl) ?_
  refine Zc 2 rfl ?_
  refine Zs 77 rfl (fun hb => ?_) (fun hb => ?_)
  rotate_left
  ·replace H := Zo H hb
   refine Zc 4 rfl ?_
   refine Zg ?_
   refine Zb hK76 ?_
   refine Yp rfl rfl ?_
   refine Zr ?_
   refine Zb hK75 ?_
   refine Ze (fun K hK86 => ?_)
   refine Ze (fun K hK87 => ?_)
   refine Zf ?_
   refine Za rfl rfl rfl (Zd Vq rfl) ?_
   refine Za rfl rfl rfl (Zh Zbd rfl (Zgw _) hS Vf trivial Y8) ?_
   refine Za rfl rfl rfl (Y5 rfl rfl) ?_
   refine Zg ?_
   refine Zb hK87 ?_
   refine Zz rfl (fun hb => ?_) (fun hb => ?_)
   rotate_left
   ·replace H := Zo H hb
    refine Zr ?_
    refine Zb hK86 ?_
    refine Ze (fun K hK91 => ?_)
    refine Ze (fun K hK92 => ?_)
    refine Zf ?_
    refine Za rfl rfl rfl (Zd Xk rfl) ?_
    refine Za rfl rfl rfl (Zj Y3 rfl (Zgw _) hS Vf trivial J3) ?_
    refine Za rfl rfl rfl (X1 (cells := [.int .i64 0, .int .i64 0, .int .i64 0, .int .i64 0, .bool false]) rfl (by kernel_rfl)) ?_
    refine Za rfl rfl rfl (J6 (by kernel_rfl) rfl rfl (Zap _ _ _ _ _ _ _ _ _ _)) ?_
    refine Zc 1 rfl ?_
    refine Zg ?_
    refine Zb hK92 ?_
    refine Zk ?_
    refine Zi ?_
    refine Z2 ?_
    refine Zl rfl (RV.tmp rfl RV.nil) rfl ?_
    obtain rfl := QJ H
    replace hS := hS.cut 0
    exact ⟨rfl, hS⟩
   replace H := Zp H hb
   refine Ze (fun K hK88 => ?_)
   refine Zf ?_
   refine Za rfl rfl rfl (Zd Xk rfl) ?_
   refine Za rfl rfl rfl (Zd Yj rfl) ?_
   refine Za rfl rfl rfl (Zh Zw rfl (Zgw _) hS Vf trivial J7) ?_
   refine Za rfl rfl rfl (Y9 rfl rfl) ?_
   refine Zc 1 rfl ?_
   refine Zs 89 rfl (fun hb => ?_) (fun hb => ?_)
   rotate_left
   ·replace H := Zo H hb
    refine Zc 5 rfl ?_
    refine Zg ?_
    refine Zb hK88 ?_
    refine Zk ?_
    refine Zi ?_
    refine Z2 ?_
    refine Zl rfl (RV.tmp rfl RV.nil) rfl ?_
    obtain rfl := QJ H
    replace hS := hS.cut 0
    exact ⟨rfl, hS⟩
   replace H := Zp H hb
   refine Za rfl rfl rfl (Zd Xk rfl) ?_
   refine Za rfl rfl rfl (Zj Y3 rfl (Zgw _) hS Vf trivial J3) ?_
   obtain ⟨r89, hm90, H⟩ := bind_some H
   refine Zq rfl rfl rfl rfl (by kernel_rfl) rfl (Zch x0.snap _ hm90) ?_
   rintro e w ⟨rfl, hN⟩; refine ⟨_, rfl, ?_⟩; obtain ⟨hB, hS⟩ := hS.jn hN
   refine Zc 2 rfl ?_
   refine Zg ?_
   refine Zb hK88 ?_
   refine Zk ?_
   refine Zi ?_
   refine Z2 ?_
   refine Zl rfl (RV.tmp rfl RV.nil) rfl ?_
   obtain rfl := QJ H
   replace hS := hS.cut 0
   exact ⟨rfl, hS⟩
  replace H := Zp H hb
  refine Za rfl rfl rfl (Zd Vq rfl) ?_
  refine Za rfl rfl rfl (Zh Zbd rfl (Zgw _) hS Vf trivial Y8) ?_
  refine Za rfl rfl rfl (Xh rfl rfl) ?_
  refine Zc 1 rfl ?_
  refine Zg ?_
  refine Zb hK76 ?_
  refine Zz rfl (fun hb => ?_) (fun hb => ?_)
  ·replace H := Zp H hb
   refine Vk ?_
   refine Xd ?_
   refine Vy ?_
   refine Ze (fun K hK77 => ?_)
   refine Zr ?_
   refine Zb hK77 ?_
   refine Ze (fun K hK78 => ?_)
   refine Zf ?_
   refine Zc 1 rfl ?_
   refine Zg ?_
   refine Zb hK78 ?_
   refine Zk ?_
   refine Z2 ?_
   refine Zl rfl (RV.tmp rfl RV.nil) rfl ?_
   obtain rfl := QJ H
   replace hS := hS.cut 0
   exact ⟨rfl, hS⟩
  replace H := Zo H hb
  refine Zr ?_
  refine Zb hK75 ?_
  refine Ze (fun K hK79 => ?_)
  refine Ze (fun K hK80 => ?_)
  refine Zf ?_
  refine Za rfl rfl rfl (Zd Vq rfl) ?_
  refine Za rfl rfl rfl (Zh Zbd rfl (Zgw _) hS Vf trivial Y8) ?_
  refine Za rfl rfl rfl (Y5 rfl rfl) ?_
  refine Zg ?_
  refine Zb hK80 ?_
  refine Zz rfl (fun hb => ?_) (fun hb => ?_)
  rotate_left
  ·replace H := Zo H hb
   refine Zr ?_
   refine Zb hK79 ?_
   refine Ze (fun K hK84 => ?_)
   refine Ze (fun K hK85 => ?_)
   refine Zf ?_
   refine Za rfl rfl rfl (Zd Xk rfl) ?_
   refine Za rfl rfl rfl (Zj Y3 rfl (Zgw _) hS Vf trivial J3) ?_
   refine Za rfl rfl rfl (X1 (cells := [.int .i64 0, .int .i64 0, .int .i64 0, .int .i64 0, .bool false]) rfl (by kernel_rfl)) ?_
   refine Za rfl rfl rfl (J6 (by kernel_rfl) rfl rfl (Zap _ _ _ _ _ _ _ _ _ _)) ?_
   refine Zc 1 rfl ?_
   refine Zg ?_
   refine Zb hK85 ?_
   refine Zk ?_
   refine Zi ?_
   refine Z2 ?_
   refine Zl rfl (RV.tmp rfl RV.nil) rfl ?_
   obtain rfl := QJ H
   replace hS := hS.cut 0
   exact ⟨rfl, hS⟩
  replace H := Zp H hb
  refine Ze (fun K hK81 => ?_)
  refine Zf ?_
  refine Za rfl rfl rfl (Zd Xk rfl) ?_
  refine Za rfl rfl rfl (Zd Yj rfl) ?_
  refine Za rfl rfl rfl (Zh Zw rfl (Zgw _) hS Vf trivial J7) ?_
  refine Za rfl rfl rfl (Y9 rfl rfl) ?_
  refine Zc 1 rfl ?_
  refine Zs 89 rfl (fun hb => ?_) (fun hb => ?_)
  rotate_left
  ·replace H := Zo H hb
   refine Zc 5 rfl ?_
   refine Zg ?_
   refine Zb hK81 ?_
   refine Zk ?_
   refine Zi ?_
   refine Z2 ?_
   refine Zl rfl (RV.tmp rfl RV.nil) rfl ?_
   obtain rfl := QJ H
   replace hS := hS.cut 0
   exact ⟨rfl, hS⟩
  replace H := Zp H hb
  refine Za rfl rfl rfl (Zd Xk rfl) ?_
  refine Za rfl rfl rfl (Zj Y3 rfl (Zgw _) hS Vf trivial J3) ?_
  obtain ⟨r82, hm83, H⟩ := bind_some H
  refine Zq rfl rfl rfl rfl (by kernel_rfl) rfl (Zch x0.snap _ hm83) ?_
  rintro e w ⟨rfl, hN⟩; refine ⟨_, rfl, ?_⟩; obtain ⟨hB, hS⟩ := hS.jn hN
  refine Zc 2 rfl ?_
  refine Zg ?_
  refine Zb hK81 ?_
  refine Zk ?_
  refine Zi ?_
  refine Z2 ?_
  refine Zl rfl (RV.tmp rfl RV.nil) rfl ?_
  obtain rfl := QJ H
  replace hS := hS.cut 0
  exact ⟨rfl, hS⟩
 replace H := Zp H hb
 refine Za rfl rfl rfl (Zd X5 rfl) ?_
 refine Za rfl rfl rfl (Zh Xq rfl (Zgw _) hS Vf trivial Jg) ?_
 refine Za rfl rfl rfl (Yw Y4 rfl) ?_
 refine Za rfl rfl rfl (Y9 rfl rfl) ?_
 refine Zc 1 rfl ?_
 refine Zs 64 rfl (fun hb => ?_) (fun hb => ?_)
 ·replace H := Zp H hb
  refine Zc 5 rfl ?_
  refine Zg ?_
  refine Zb hK45 ?_
  refine Zt rfl rfl ?_
  refine Vk ?_
  refine Xd ?_
  refine Vy ?_
  refine Ze (fun K hK46 => ?_)
  refine Zr ?_
  refine Zb hK46 ?_
  refine Ze (fun K hK47 => ?_)
  refine Zf ?_
  refine Zc 1 rfl ?_
  refine Zg ?_
  refine Zb hK47 ?_
  refine Zk ?_
  refine Z2 ?_
  refine Zl rfl (RV.tmp rfl RV.nil) rfl ?_
  obtain rfl := QJ H
  replace hS := hS.cut 0
  exact ⟨rfl, hS⟩
 replace H := Zo H hb
 refine Za rfl rfl rfl (Zd Zcl rfl) ?_
 refine Za rfl rfl rfl (Zh Zw rfl (Zgw _) hS Vf trivial Zey) ?_
 refine Za rfl rfl rfl (Y9 rfl rfl) ?_
 refine Zc 2 rfl ?_
 refine Zg ?_
 refine Zb hK45 ?_
 refine Zz rfl (fun hb => ?_) (fun hb => ?_)
 ·replace H := Zp H hb
  refine Vk ?_
  refine Xd ?_
  refine Vy ?_
  refine Ze (fun K hK48 => ?_)
  refine Zr ?_
  refine Zb hK48 ?_
  refine Ze (fun K hK49 => ?_)
  refine Zf ?_
  refine Zc 1 rfl ?_
  refine Zg ?_
  refine Zb hK49 ?_
  refine Zk ?_
  refine Z2 ?_
  refine Zl rfl (RV.tmp rfl RV.nil) rfl ?_
  obtain rfl := QJ H
  replace hS := hS.cut 0
  exact ⟨rfl, hS⟩
 replace H := Zo H hb
 refine Zr ?_
 refine Zb hK44 ?_
 refine Ze (fun K hK50 => ?_)
 refine Ze (fun K hK51 => ?_)
 refine Zf ?_
 refine Za rfl rfl rfl (Zd Zel rfl) ?_
 refine Za rfl rfl rfl (Zh sc_4 rfl (Zgw _) hS Vf trivial sg8_1) ?_
 refine Zc 1 rfl ?_
 refine Zs 72 rfl (fun hb => ?_) (fun hb => ?_)
 rotate_left
 ·replace H := Zo H hb
  refine Zc 9 rfl ?_
  refine Zg ?_
  refine Zb hK51 ?_
  refine Yp rfl rfl ?_
  refine Zr ?_
  refine Zb hK50 ?_
  refine Ze (fun K hK68 => ?_)
  refine Ze (fun K hK69 => ?_)
  refine Zf ?_
  refine Za rfl rfl rfl (Zd Vq rfl) ?_
  refine Za rfl rfl rfl (Zh Zbd rfl (Zgw _) hS Vf trivial Y8) ?_
  refine Za rfl rfl rfl (Y5 rfl rfl) ?_
  refine Zg ?_
  refine Zb hK69 ?_
  refine Zz rfl (fun hb => ?_) (fun hb => ?_)
  rotate_left
  ·replace H := Zo H hb
   refine Zr ?_
   refine Zb hK68 ?_
   refine Ze (fun K hK73 => ?_)
   refine Ze (fun K hK74 => ?_)
   refine Zf ?_
   refine Za rfl rfl rfl (Zd Xk rfl) ?_
   refine Za rfl rfl rfl (Zj Y3 rfl (Zgw _) hS Vf trivial J3) ?_
   refine Za rfl rfl rfl (X1 (cells := [.int .i64 0, .int .i64 0, .int .i64 0, .int .i64 0, .bool false]) rfl (by kernel_rfl)) ?_
   refine Za rfl rfl rfl (J6 (by kernel_rfl) rfl rfl (Zap _ _ _ _ _ _ _ _ _ _)) ?_
   refine Zc 1 rfl ?_
   refine Zg ?_
   refine Zb hK74 ?_
   refine Zk ?_
   refine Zi ?_
   refine Z2 ?_
   refine Zl rfl (RV.tmp rfl RV.nil) rfl ?_
   obtain rfl := QJ H
   replace hS := hS.cut 0
   exact ⟨rfl, hS⟩
  replace H := Zp H hb
  refine Ze (fun K hK70 => ?_)
  refine Zf ?_
  refine Za rfl rfl rfl (Zd Xk rfl) ?_
  refine Za rfl rfl rfl (Zd Yj rfl) ?_
  refine Za rfl rfl rfl (Zh Zw rfl (Zgw _) hS Vf trivial J7) ?_
  refine Za rfl rfl rfl (Y9 rfl rfl) ?_
  refine Zc 1 rfl ?_
  refine Zs 89 rfl (fun hb => ?_) (fun hb => ?_)
  rotate_left
  ·replace H := Zo H hb
   refine Zc 5 rfl ?_
   refine Zg ?_
   refine Zb hK70 ?_
   refine Zk ?_
   refine Zi ?_
   refine Z2 ?_
   refine Zl rfl (RV.tmp rfl RV.nil) rfl ?_
   obtain rfl := QJ H
   replace hS := hS.cut 0
   exact ⟨rfl, hS⟩
  replace H := Zp H hb
  refine Za rfl rfl rfl (Zd Xk rfl) ?_
  refine Za rfl rfl rfl (Zj Y3 rfl (Zgw _) hS Vf trivial J3) ?_
  obtain ⟨r71, hm72, H⟩ := bind_some H
  refine Zq rfl rfl rfl rfl (by kernel_rfl) rfl (Zch x0.snap _ hm72) ?_
  rintro e w ⟨rfl, hN⟩; refine ⟨_, rfl, ?_⟩; obtain ⟨hB, hS⟩ := hS.jn hN
  refine Zc 2 rfl ?_
  refine Zg ?_
  refine Zb hK70 ?_
  refine Zk ?_
  refine Zi ?_
  refine Z2 ?_
  refine Zl rfl (RV.tmp rfl RV.nil) rfl ?_
  obtain rfl := QJ H
  replace hS := hS.cut 0
  exact ⟨rfl, hS⟩
 replace H := Zp H hb
 refine Za rfl rfl rfl (Zd Vq rfl) ?_
 refine Za rfl rfl rfl (Zh Zbd rfl (Zgw _) hS Vf trivial Y8) ?_
 refine Za rfl rfl rfl (Xh rfl rfl) ?_
 refine Zc 2 rfl ?_
 refine Zs 77 rfl (fun hb => ?_) (fun hb => ?_)
 rotate_left
 ·replace H := Zo H hb
  refine Zc 4 rfl ?_
  refine Zg ?_
  refine Zb hK51 ?_
  refine Yp rfl rfl ?_
  refine Zr ?_
  refine Zb hK50 ?_
  refine Ze (fun K hK61 => ?_)
  refine Ze (fun K hK62 => ?_)
  refine Zf ?_
  refine Za rfl rfl rfl (Zd Vq rfl) ?_
  refine Za rfl rfl rfl (Zh Zbd rfl (Zgw _) hS Vf trivial Y8) ?_
  refine Za rfl rfl rfl (Y5 rfl rfl) ?_
  refine Zg ?_
  refine Zb hK62 ?_
  refine Zz rfl (fun hb => ?_) (fun hb => ?_)
  rotate_left
  ·replace H := Zo H hb
   refine Zr ?_
   refine Zb hK61 ?_
   refine Ze (fun K hK66 => ?_)
   refine Ze (fun K hK67 => ?_)
   refine Zf ?_
   refine Za rfl rfl rfl (Zd Xk rfl) ?_
   refine Za rfl rfl rfl (Zj Y3 rfl (Zgw _) hS Vf trivial J3) ?_
   refine Za rfl rfl rfl (X1 (cells := [.int .i64 0, .int .i64 0, .int .i64 0, .int .i64 0, .bool false]) rfl (by kernel_rfl)) ?_
   refine Za rfl rfl rfl (J6 (by kernel_rfl) rfl rfl (Zap _ _ _ _ _ _ _ _ _ _)) ?_
   refine Zc 1 rfl ?_
   refine Zg ?_
   refine Zb hK67 ?_
   refine Zk ?_
   refine Zi ?_
   refine Z2 ?_
   refine Zl rfl (RV.tmp rfl RV.nil) rfl ?_
   obtain rfl := QJ H
   replace hS := hS.cut 0
   exact ⟨rfl, hS⟩
  replace H := Zp H hb
  refine Ze (fun K hK63 => ?_)
  refine Zf ?_
  refine Za rfl rfl rfl (Zd Xk rfl) ?_
  refine Za rfl rfl rfl (Zd Yj rfl) ?_
  refine Za rfl rfl rfl (Zh Zw rfl (Zgw _) hS Vf trivial J7) ?_
  refine Za rfl rfl rfl (Y9 rfl rfl) ?_
  refine Zc 1 rfl ?_
  refine Zs 89 rfl (fun hb => ?_) (fun hb => ?_)
  rotate_left
  ·replace H := Zo H hb
   refine Zc 5 rfl ?_
   refine Zg ?_
   refine Zb hK63 ?_
   refine Zk ?_
   refine Zi ?_
   refine Z2 ?_
   refine Zl rfl (RV.tmp rfl RV.nil) rfl ?_
   obtain rfl := QJ H
   replace hS := hS.cut 0
   exact ⟨rfl, hS⟩
  replace H := Zp H hb
  refine Za rfl rfl rfl (Zd Xk rfl) ?_
  refine Za rfl rfl rfl (Zj Y3 rfl (Zgw _) hS Vf trivial J3) ?_
  obtain ⟨r64, hm65, H⟩ := bind_some H
  refine Zq rfl rfl rfl rfl (by kernel_rfl) rfl (Zch x0.snap _ hm65) ?_
  rintro e w ⟨rfl, hN⟩; refine ⟨_, rfl, ?_⟩; obtain ⟨hB, hS⟩ := hS.jn hN
  refine Zc 2 rfl ?_
  refine Zg ?_
  refine Zb hK63 ?_
  refine Zk ?_
  refine Zi ?_
  refine Z2 ?_
  refine Zl rfl (RV.tmp rfl RV.nil) rfl ?_
  obtain rfl := QJ H
  replace hS := hS.cut 0
  exact ⟨rfl, hS⟩
 replace H := Zp H hb
 refine Za rfl rfl rfl (Zd Vq rfl) ?_
 refine Za rfl rfl rfl (Zh Zbd rfl (Zgw _) hS Vf trivial Y8) ?_
 refine Za rfl rfl rfl (Xh rfl rfl) ?_
 refine Zc 1 rfl ?_
 refine Zg ?_
 refine Zb hK51 ?_
 refine Zz rfl (fun hb => ?_) (fun hb => ?_)
 ·replace H := Zp H hb
  refine Vk ?_
  refine Xd ?_
  refine Vy ?_
  refine Ze (fun K hK52 => ?_)
  refine Zr ?_
  refine Zb hK52 ?_
  refine Ze (fun K hK53 => ?_)
  refine Zf ?_
  refine Zc 1 rfl ?_
  refine Zg ?_
  refine Zb hK53 ?_
  refine Zk ?_
  refine Z2 ?_
  refine Zl rfl (RV.tmp rfl RV.nil) rfl ?_
  obtain rfl := QJ H
  replace hS := hS.cut 0
  exact ⟨rfl, hS⟩
 replace H := Zo H hb
 refine Zr ?_
 refine Zb hK50 ?_
 refine Ze (fun K hK54 => ?_)
 refine Ze (fun K hK55 => ?_)
 refine Zf ?_
 refine Za rfl rfl rfl (Zd Vq rfl) ?_
 refine Za rfl rfl rfl (Zh Zbd rfl (Zgw _) hS Vf trivial Y8) ?_
 refine Za rfl rfl rfl (Y5 rfl rfl) ?_
 refine Zg ?_
 refine Zb hK55 ?_
 refine Zz rfl (fun hb => ?_) (fun hb => ?_)
 rotate_left
 ·replace H := Zo H hb
  refine Zr ?_
  refine Zb hK54 ?_
  refine Ze (fun K hK59 => ?_)
  refine Ze (fun K hK60 => ?_)
  refine Zf ?_
  refine Za rfl rfl rfl (Zd Xk rfl) ?_
  refine Za rfl rfl rfl (Zj Y3 rfl (Zgw _) hS Vf trivial J3) ?_
  refine Za rfl rfl rfl (X1 (cells := [.int .i64 0, .int .i64 0, .int .i64 0, .int .i64 0, .bool false]) rfl (by kernel_rfl)) ?_
  refine Za rfl rfl rfl (J6 (by kernel_rfl) rfl rfl (Zap _ _ _ _ _ _ _ _ _ _)) ?_
  refine Zc 1 rfl ?_
  refine Zg ?_
  refine Zb hK60 ?_
  refine Zk ?_
  refine Zi ?_
  refine Z2 ?_
  refine Zl rfl (RV.tmp rfl RV.nil) rfl ?_
  obtain rfl := QJ H
  replace hS := hS.cut 0
  exact ⟨rfl, hS⟩
 replace H := Zp H hb
 refine Ze (fun K hK56 => ?_)
 refine Zf ?_
 refine Za rfl rfl rfl (Zd Xk rfl) ?_
 refine Za rfl rfl rfl (Zd Yj rfl) ?_
 refine Za rfl rfl rfl (Zh Zw rfl (Zgw _) hS Vf trivial J7) ?_
 refine Za rfl rfl rfl (Y9 rfl rfl) ?_
 refine Zc 1 rfl ?_
 refine Zs 89 rfl (fun hb => ?_) (fun hb => ?_)
 rotate_left
 ·replace H := Zo H hb
  refine Zc 5 rfl ?_
  refine Zg ?_
  refine Zb hK56 ?_
  refine Zk ?_
  refine Zi ?_
  refine Z2 ?_
  refine Zl rfl (RV.tmp rfl RV.nil) rfl ?_
  obtain rfl := QJ H
  replace hS := hS.cut 0
  exact ⟨rfl, hS⟩
 replace H := Zp H hb
 refine Za rfl rfl rfl (Zd Xk rfl) ?_
 refine Za rfl rfl rfl (Zj Y3 rfl (Zgw _) hS Vf trivial J3) ?_
 obtain ⟨r57, hm58, H⟩ := bind_some H
 refine Zq rfl rfl rfl rfl (by kernel_rfl) rfl (Zch x0.snap _ hm58) ?_
 rintro e w ⟨rfl, hN⟩; refine ⟨_, rfl, ?_⟩; obtain ⟨hB, hS⟩ := hS.jn hN
 refine Zc 2 rfl ?_
 refine Zg ?_
 refine Zb hK56 ?_
 refine Zk ?_
 refine Zi ?_
 refine Z2 ?_
 refine Zl rfl (RV.tmp rfl RV.nil) rfl ?_
 obtain rfl := QJ H
 replace hS := hS.cut 0
 exact ⟨rfl, hS⟩
theorem c_elect_fits (x0 : Co) (x1 : Ms) (A0_ : OA) (c0_ : Nat) (A1_ : OA) (c1_ : Nat) (A2_ : OA) (c2_ : Nat) (A3_ : OA) (c3_ : Nat) (A4_ : OA) (c4_ : Nat) (A5_ : OA) (c5_ : Nat) (w0 : World) (s0_ : SlI w0 Jj A0_ c0_ x0.tuple.log) (s1_ : SlI w0 enO A1_ c1_ x0.votes) (s2_ : SlI w0 V1 A2_ c2_ x0.next) (s3_ : SlI w0 V1 A3_ c3_ x0.mtch) (s4_ : SlI w0 V1 A4_ c4_ x0.caps) (s5_ : SlI w0 Jj A5_ c5_ x1.entries) {r : Bool} (H : Zd2 x0 x1 = some r) : Calls Tryz.prog 59 #[.agg #[.int .i64 x0.id, .int .i64 x0.n, .int .u8 x0.role, .int .i64 x0.binary, .int .i64 x0.tuple.snap.index, .int .i64 x0.tuple.snap.term, .int .i64 x0.tuple.snap.sum, .int .i64 x0.tuple.snap.level, .bool x0.tuple.snap.final, .slice A0_ x0.tuple.log.length c0_, .int .i64 x0.tuple.term, .int .i64 x0.tuple.vote, .int .i64 x0.commit, .int .i64 x0.applied.index, .int .i64 x0.applied.term, .int .i64 x0.applied.sum, .int .i64 x0.applied.level, .bool x0.applied.final, .slice A1_ x0.votes.length c1_, .slice A2_ x0.next.length c2_, .slice A3_ x0.mtch.length c3_, .slice A4_ x0.caps.length c4_], .agg #[.int .u8 x1.kind, .int .i64 x1.frm, .int .i64 x1.dst, .int .i64 x1.term, .int .i64 x1.cap, .int .i64 x1.last, .int .i64 x1.lastTerm, .int .i64 x1.commit, .bool x1.okk, .slice A5_ x1.entries.length c5_, .int .i64 x1.snap.index, .int .i64 x1.snap.term, .int .i64 x1.snap.sum, .int .i64 x1.snap.level, .bool x1.snap.final]] w0 fun e w' => e = .returned (.bool r) ∧ St0 All w0 w' [] := by
 unfold Zd2 at H
 refine Yt Tryz.func59 rfl Tryz.ntmps59 rfl ?_
 have hS := St0.start All w0
 refine Ze (fun K hK1 => ?_)
 refine Zf ?_
 refine Yd rfl rfl rfl CellsOf.agg hS (fun b2 w hS hB => ?_)
 refine Yd rfl rfl rfl CellsOf.agg hS (fun b4 w hS hB => ?_)
 refine Zc 1 rfl ?_
 refine Zg ?_
 refine Zb hK1 ?_
 refine Ze (fun K hK6 => ?_)
 refine Zf ?_
 refine Za rfl rfl rfl (Zd Zdy rfl) ?_
 refine Za rfl rfl rfl (Zh Zw rfl (Zgw _) hS hs0 trivial Zav) ?_
 refine Za rfl rfl rfl (Zd Zbb rfl) ?_
 refine Za rfl rfl rfl (Zh Zw rfl (Zgw _) hS Xw trivial Y8) ?_
 refine Za rfl rfl rfl (Y5 rfl rfl) ?_
 refine Zc 1 rfl ?_
 refine Zs 10 rfl (fun hb => ?_) (fun hb => ?_)
 rotate_left
 ·replace H := Zo H hb
  refine Zc 10 rfl ?_
  refine Zg ?_
  refine Zb hK6 ?_
  refine Zk ?_
  refine Zl rfl (RV.tmp rfl RV.nil) rfl ?_
  obtain rfl := QJ H
  replace hS := hS.cut 0
  exact ⟨rfl, hS⟩
 replace H := Zp H hb
 refine Za rfl rfl rfl (Zj Vi rfl (Zgw _) hS hs0 trivial Xp) ?_
 refine Za rfl rfl rfl (Zd Ja rfl) ?_
 refine Za rfl rfl rfl (Zh Zw rfl (Zgw _) hS Xw trivial Vp) ?_
 obtain ⟨r7, hm8, H⟩ := bind_some H
 refine Zq rfl rfl rfl rfl (by kernel_rfl) rfl (c_msg_Fine x1 x0.n A5_ c5_ _ (Zgz s5_.k (hS.rd0 s5_.rd) (hS.blk0 s5_.blk)) hm8) ?_
 rintro e w ⟨rfl, hN⟩; refine ⟨_, rfl, ?_⟩; obtain ⟨hB, hS⟩ := hS.jn hN
 refine Zc 2 rfl ?_
 refine Zs 16 rfl (fun hb => ?_) (fun hb => ?_)
 rotate_left
 ·replace H := Zo H hb
  refine Zc 4 rfl ?_
  refine Zg ?_
  refine Zb hK6 ?_
  refine Zk ?_
  refine Zl rfl (RV.tmp rfl RV.nil) rfl ?_
  obtain rfl := QJ H
  replace hS := hS.cut 0
  exact ⟨rfl, hS⟩
 replace H := Zp H hb
 refine Za rfl rfl rfl (Zj Ye rfl (Zgw _) hS Xw trivial Z3) ?_
 obtain ⟨r9, hm10, H⟩ := bind_some H
 refine Zq rfl rfl rfl rfl (by kernel_rfl) rfl (Zf1 x0 A0_ c0_ A1_ c1_ A2_ c2_ A3_ c3_ A4_ c4_ _ (Zgz s0_.k (hS.rd0 s0_.rd) (hS.blk0 s0_.blk)) (Zgz s1_.k (hS.rd0 s1_.rd) (hS.blk0 s1_.blk)) (Zgz s2_.k (hS.rd0 s2_.rd) (hS.blk0 s2_.blk)) (Zgz s3_.k (hS.rd0 s3_.rd) (hS.blk0 s3_.blk)) (Zgz s4_.k (hS.rd0 s4_.rd) (hS.blk0 s4_.blk)) hm10) ?_
 rintro e w ⟨rfl, hN⟩; refine ⟨_, rfl, ?_⟩; obtain ⟨hB, hS⟩ := hS.jn hN
 refine Zc 2 rfl ?_
 refine Zg ?_
 refine Zb hK6 ?_
 refine Zk ?_
 refine Zl rfl (RV.tmp rfl RV.nil) rfl ?_
 obtain rfl := QJ H
 replace hS := hS.cut 0
 exact ⟨rfl, hS⟩
theorem c_advert_To (x0 : Co) (x1 : Ms) (A0_ : OA) (c0_ : Nat) (A1_ : OA) (c1_ : Nat) (A2_ : OA) (c2_ : Nat) (A3_ : OA) (c3_ : Nat) (A4_ : OA) (c4_ : Nat) (A5_ : OA) (c5_ : Nat) (w0 : World) (s0_ : SlI w0 Jj A0_ c0_ x0.tuple.log) (s1_ : SlI w0 enO A1_ c1_ x0.votes) (s2_ : SlI w0 V1 A2_ c2_ x0.next) (s3_ : SlI w0 V1 A3_ c3_ x0.mtch) (s4_ : SlI w0 V1 A4_ c4_ x0.caps) (s5_ : SlI w0 Jj A5_ c5_ x1.entries) {r : Bool} (H : Zb2 x0 x1 = some r) : Calls Tryz.prog 73 #[.agg #[.int .i64 x0.id, .int .i64 x0.n, .int .u8 x0.role, .int .i64 x0.binary, .int .i64 x0.tuple.snap.index, .int .i64 x0.tuple.snap.term, .int .i64 x0.tuple.snap.sum, .int .i64 x0.tuple.snap.level, .bool x0.tuple.snap.final, .slice A0_ x0.tuple.log.length c0_, .int .i64 x0.tuple.term, .int .i64 x0.tuple.vote, .int .i64 x0.commit, .int .i64 x0.applied.index, .int .i64 x0.applied.term, .int .i64 x0.applied.sum, .int .i64 x0.applied.level, .bool x0.applied.final, .slice A1_ x0.votes.length c1_, .slice A2_ x0.next.length c2_, .slice A3_ x0.mtch.length c3_, .slice A4_ x0.caps.length c4_], .agg #[.int .u8 x1.kind, .int .i64 x1.frm, .int .i64 x1.dst, .int .i64 x1.term, .int .i64 x1.cap, .int .i64 x1.last, .int .i64 x1.lastTerm, .int .i64 x1.commit, .bool x1.okk, .slice A5_ x1.entries.length c5_, .int .i64 x1.snap.index, .int .i64 x1.snap.term, .int .i64 x1.snap.sum, .int .i64 x1.snap.level, .bool x1.snap.final]] w0 fun e w' => e = .returned (.bool r) ∧ St0 All w0 w' [] := by
 unfold Zb2 at H
 refine Yt Tryz.func73 rfl Tryz.ntmps73 rfl ?_
 have hS := St0.start All w0
 refine Ze (fun K hK1 => ?_)
 refine Zf ?_
 refine Yd rfl rfl rfl CellsOf.agg hS (fun b2 w hS hB => ?_)
 refine Yd rfl rfl rfl CellsOf.agg hS (fun b4 w hS hB => ?_)
 refine Zc 1 rfl ?_
 refine Zg ?_
 refine Zb hK1 ?_
 refine wpC_scope1 0 rfl ?_
 refine Ze (fun K hK6 => ?_)
 refine Ze (fun K hK7 => ?_)
 refine Zf ?_
 refine Za rfl rfl rfl (Zd Zdy rfl) ?_
 refine Za rfl rfl rfl (Zh Zw rfl (Zgw _) hS hs0 trivial Zav) ?_
 refine Za rfl rfl rfl (Zd Zbb rfl) ?_
 refine Za rfl rfl rfl (Zh Zw rfl (Zgw _) hS Xw trivial Y8) ?_
 refine Za rfl rfl rfl (Xh rfl rfl) ?_
 refine Zc 1 rfl ?_
 refine Zs 10 rfl (fun hb => ?_) (fun hb => ?_)
 ·replace H := Zp H hb
  refine Zc 4 rfl ?_
  refine Zg ?_
  refine Zb hK7 ?_
  refine Zt rfl rfl ?_
  refine Vk ?_
  refine Xd ?_
  refine Vy ?_
  refine Ze (fun K hK8 => ?_)
  refine Zr ?_
  refine Zb hK8 ?_
  refine Ze (fun K hK9 => ?_)
  refine Zf ?_
  refine Zc 2 rfl ?_
  refine Zg ?_
  refine Zb hK9 ?_
  refine Zk ?_
  refine Z2 ?_
  refine Zl rfl (RV.tmp rfl RV.nil) rfl ?_
  obtain rfl := QJ H
  replace hS := hS.cut 0
  exact ⟨rfl, hS⟩
 replace H := Zo H hb
 refine Za rfl rfl rfl (Zj Ye rfl (Zgw _) hS Xw trivial Z3) ?_
 obtain ⟨r10, hm11, H⟩ := bind_some H
 refine Zq rfl rfl rfl rfl (by kernel_rfl) rfl (Zf1 x0 A0_ c0_ A1_ c1_ A2_ c2_ A3_ c3_ A4_ c4_ _ (Zgz s0_.k (hS.rd0 s0_.rd) (hS.blk0 s0_.blk)) (Zgz s1_.k (hS.rd0 s1_.rd) (hS.blk0 s1_.blk)) (Zgz s2_.k (hS.rd0 s2_.rd) (hS.blk0 s2_.blk)) (Zgz s3_.k (hS.rd0 s3_.rd) (hS.blk0 s3_.blk)) (Zgz s4_.k (hS.rd0 s4_.rd) (hS.blk0 s4_.blk)) hm11) ?_
 rintro e w ⟨rfl, hN⟩; refine ⟨_, rfl, ?_⟩; obtain ⟨hB, hS⟩ := hS.jn hN
 refine Za rfl rfl rfl (Yy rfl) ?_
 refine Zc 1 rfl ?_
 refine Zg ?_
 refine Zb hK7 ?_
 refine Zz rfl (fun hb => ?_) (fun hb => ?_)
 ·replace H := Zp H hb
  refine Vk ?_
  refine Xd ?_
  refine Vy ?_
  refine Ze (fun K hK12 => ?_)
  refine Zr ?_
  refine Zb hK12 ?_
  refine Ze (fun K hK13 => ?_)
  refine Zf ?_
  refine Zc 2 rfl ?_
  refine Zg ?_
  refine Zb hK13 ?_
  refine Zk ?_
  refine Z2 ?_
  refine Zl rfl (RV.tmp rfl RV.nil) rfl ?_
  obtain rfl := QJ H
  replace hS := hS.cut 0
  exact ⟨rfl, hS⟩
 replace H := Zo H hb
 refine Zr ?_
 refine Zb hK6 ?_
 refine Ze (fun K hK14 => ?_)
 refine Zf ?_
 refine Za rfl rfl rfl (Zj Vi rfl (Zgw _) hS hs0 trivial Xp) ?_
 refine Za rfl rfl rfl (Zd Ja rfl) ?_
 refine Za rfl rfl rfl (Zh Zw rfl (Zgw _) hS Xw trivial Vp) ?_
 obtain ⟨r15, hm16, H⟩ := bind_some H
 refine Zq rfl rfl rfl rfl (by kernel_rfl) rfl (c_msg_Fine x1 x0.n A5_ c5_ _ (Zgz s5_.k (hS.rd0 s5_.rd) (hS.blk0 s5_.blk)) hm16) ?_
 rintro e w ⟨rfl, hN⟩; refine ⟨_, rfl, ?_⟩; obtain ⟨hB, hS⟩ := hS.jn hN
 refine Zc 1 rfl ?_
 refine Zg ?_
 refine Zb hK14 ?_
 refine Ze (fun K hK17 => ?_)
 refine Zdo ?_
 refine Zb hK17 ?_
 refine Ze (fun K hK18 => ?_)
 refine Zf ?_
 refine Zc 2 rfl ?_
 refine Zg ?_
 refine Zb hK18 ?_
 refine Zk ?_
 refine Z2 ?_
 refine Zl rfl (RV.tmp rfl RV.nil) rfl ?_
 obtain rfl := QJ H
 replace hS := hS.cut 0
 exact ⟨rfl, hS⟩
theorem c_advert_Hear (x0 : Co) (x1 : Ms) (A0_ : OA) (c0_ : Nat) (A1_ : OA) (c1_ : Nat) (A2_ : OA) (c2_ : Nat) (A3_ : OA) (c3_ : Nat) (A4_ : OA) (c4_ : Nat) (A5_ : OA) (c5_ : Nat) (w0 : World) (s0_ : SlI w0 Jj A0_ c0_ x0.tuple.log) (s1_ : SlI w0 enO A1_ c1_ x0.votes) (s2_ : SlI w0 V1 A2_ c2_ x0.next) (s3_ : SlI w0 V1 A3_ c3_ x0.mtch) (s4_ : SlI w0 V1 A4_ c4_ x0.caps) (s5_ : SlI w0 Jj A5_ c5_ x1.entries) {r : Co} (H : Zcy x0 x1 = some r) : Calls Tryz.prog 64 #[.agg #[.int .i64 x0.id, .int .i64 x0.n, .int .u8 x0.role, .int .i64 x0.binary, .int .i64 x0.tuple.snap.index, .int .i64 x0.tuple.snap.term, .int .i64 x0.tuple.snap.sum, .int .i64 x0.tuple.snap.level, .bool x0.tuple.snap.final, .slice A0_ x0.tuple.log.length c0_, .int .i64 x0.tuple.term, .int .i64 x0.tuple.vote, .int .i64 x0.commit, .int .i64 x0.applied.index, .int .i64 x0.applied.term, .int .i64 x0.applied.sum, .int .i64 x0.applied.level, .bool x0.applied.final, .slice A1_ x0.votes.length c1_, .slice A2_ x0.next.length c2_, .slice A3_ x0.mtch.length c3_, .slice A4_ x0.caps.length c4_], .agg #[.int .u8 x1.kind, .int .i64 x1.frm, .int .i64 x1.dst, .int .i64 x1.term, .int .i64 x1.cap, .int .i64 x1.last, .int .i64 x1.lastTerm, .int .i64 x1.commit, .bool x1.okk, .slice A5_ x1.entries.length c5_, .int .i64 x1.snap.index, .int .i64 x1.snap.term, .int .i64 x1.snap.sum, .int .i64 x1.snap.level, .bool x1.snap.final]] w0 fun e w' => ∃ (A0 : OA) (c0 : Nat) (A1 : OA) (c1 : Nat) (A2 : OA) (c2 : Nat) (A3 : OA) (c3 : Nat) (A4 : OA) (c4 : Nat), e = .returned (.agg #[.int .i64 r.id, .int .i64 r.n, .int .u8 r.role, .int .i64 r.binary, .int .i64 r.tuple.snap.index, .int .i64 r.tuple.snap.term, .int .i64 r.tuple.snap.sum, .int .i64 r.tuple.snap.level, .bool r.tuple.snap.final, .slice A0 r.tuple.log.length c0, .int .i64 r.tuple.term, .int .i64 r.tuple.vote, .int .i64 r.commit, .int .i64 r.applied.index, .int .i64 r.applied.term, .int .i64 r.applied.sum, .int .i64 r.applied.level, .bool r.applied.final, .slice A1 r.votes.length c1, .slice A2 r.next.length c2, .slice A3 r.mtch.length c3, .slice A4 r.caps.length c4]) ∧ (r.tuple.log.length ≤ c0 ∧ c0 ≤ maxLen) ∧ (r.votes.length ≤ c1 ∧ c1 ≤ maxLen) ∧ (r.next.length ≤ c2 ∧ c2 ≤ maxLen) ∧ (r.mtch.length ≤ c3 ∧ c3 ≤ maxLen) ∧ (r.caps.length ≤ c4 ∧ c4 ≤ maxLen) ∧ St0 All w0 w' [.row (.slice A0 r.tuple.log.length c0) 53 3 r.tuple.log.length (Yl Jj r.tuple.log), .row (.slice A1 r.votes.length c1) 4 1 r.votes.length (Yl enO r.votes), .row (.slice A2 r.next.length c2) 3 1 r.next.length (Yl V1 r.next), .row (.slice A3 r.mtch.length c3) 3 1 r.mtch.length (Yl V1 r.mtch), .row (.slice A4 r.caps.length c4) 3 1 r.caps.length (Yl V1 r.caps)] := by
 unfold Zcy at H
 refine Yt Tryz.func64 rfl Tryz.ntmps64 rfl ?_
 have hS := St0.start All w0
 refine Ze (fun K hK1 => ?_)
 refine Zf ?_
 refine Yd rfl rfl rfl CellsOf.agg hS (fun b2 w hS hB => ?_)
 refine Yd rfl rfl rfl CellsOf.agg hS (fun b4 w hS hB => ?_)
 refine Yh rfl rfl Zd5 hS (fun b6 w hS hB => ?_)
 refine Zg ?_
 refine Zb hK1 ?_
 refine Ze (fun K hK8 => ?_)
 refine Yi 7 [6] (fun i b => (i = 6 → b ≠ b6)) ⟨by kernel_rfl, by kernel_rfl⟩ hS (fun w hS hB => ?_)
 refine Zn [true, true, true, false, true] (by decide +kernel) PFC.h ?_
 refine LtK.put rfl rfl rfl (Zj Ye rfl (Zgx _) hS Vf trivial Z3) ?_
 refine LtK.put rfl rfl rfl (Zj Ye rfl (Zgx _) hS Vf trivial Z3) ?_
 refine LtK.put rfl rfl rfl (Zj Vi rfl (Zgx _) hS Xw trivial Xp) ?_
 refine LtK.put rfl rfl rfl (X8 rfl rfl) ?_
 refine LtK.nil ?_
 refine Z6 [false, false, false, true] 3 ⟨by decide, by kernel_rfl, by kernel_rfl⟩ rfl rfl ?_
 try dsimp only [Zy]
 obtain ⟨r9, hm10, H⟩ := bind_some H
 refine Zq rfl rfl rfl rfl (by kernel_rfl) rfl (c_advert_To x0 x1 A0_ c0_ A1_ c1_ A2_ c2_ A3_ c3_ A4_ c4_ A5_ c5_ _ (Zgz s0_.k (hS.rd0 s0_.rd) (hS.blk0 s0_.blk)) (Zgz s1_.k (hS.rd0 s1_.rd) (hS.blk0 s1_.blk)) (Zgz s2_.k (hS.rd0 s2_.rd) (hS.blk0 s2_.blk)) (Zgz s3_.k (hS.rd0 s3_.rd) (hS.blk0 s3_.blk)) (Zgz s4_.k (hS.rd0 s4_.rd) (hS.blk0 s4_.blk)) (Zgz s5_.k (hS.rd0 s5_.rd) (hS.blk0 s5_.blk)) hm10) ?_
 rintro e w ⟨rfl, hN⟩; refine ⟨_, rfl, ?_⟩; obtain ⟨hB, hS⟩ := hS.jn hN
 refine Zg ?_
 refine Z8 hB ?_
 refine Z6 [false, false, false, false, false, true] 5 ⟨by decide, by kernel_rfl, by kernel_rfl⟩ rfl rfl ?_
 try dsimp only [Zy]
 have hO11 := hS
 rename World => wS12
 have hS := St0.start All wS12
 refine Zbw rfl rfl rfl rfl (by kernel_rfl) rfl ?_
 show Calls _ _ #[_, _, _] _ _
 refine Zcj Tryz.func108 rfl Tryz.ntmps108 rfl ?_
 refine Ze (fun K hK13 => ?_)
 refine Zf ?_
 refine Yd rfl rfl rfl CellsOf.agg hS (fun b14 w hS hB => ?_)
 refine Yh rfl rfl Zd5 hS (fun b16 w hS hB => ?_)
 refine Zg ?_
 refine Zb hK13 ?_
 refine Ze (fun K hK18 => ?_)
 refine Zf ?_
 refine Za rfl rfl rfl (Zj Ye rfl (Zgw _) (hO11.join hS) Xw trivial Z3) ?_
 obtain ⟨r19, hm20, H⟩ := bind_some H
 refine Zq rfl rfl rfl rfl (by kernel_rfl) rfl (Zed x0 A0_ c0_ A1_ c1_ A2_ c2_ A3_ c3_ A4_ c4_ _ (Zgz s0_.k ((hO11.join hS).rd0 s0_.rd) ((hO11.join hS).blk0 s0_.blk)) (Zgz s1_.k ((hO11.join hS).rd0 s1_.rd) ((hO11.join hS).blk0 s1_.blk)) (Zgz s2_.k ((hO11.join hS).rd0 s2_.rd) ((hO11.join hS).blk0 s2_.blk)) (Zgz s3_.k ((hO11.join hS).rd0 s3_.rd) ((hO11.join hS).blk0 s3_.blk)) (Zgz s4_.k ((hO11.join hS).rd0 s4_.rd) ((hO11.join hS).blk0 s4_.blk)) hm20) ?_
 rintro e w ⟨A21, c22, A25, c26, A29, c30, A33, c34, A37, c38, rfl, k23, k27, k31, k35, k39, hN⟩; refine ⟨_, rfl, ?_⟩; obtain ⟨hB, hS⟩ := hS.jn hN
 refine Zm rfl rfl rfl CellsOf.agg hS ps6 Yz (by kernel_rfl) rfl (fun w hS hB => ?_)
 refine Zg ?_
 refine Zb hK18 ?_
 refine Ze (fun K hK41 => ?_)
 refine Ze (fun K hK42 => ?_)
 refine Zf ?_
 refine Zc 2 rfl ?_
 refine Zs 10 rfl (fun hb => ?_) (fun hb => ?_)
 rotate_left
 ·replace H := Zo H hb
  refine Zc 3 rfl ?_
  refine Zg ?_
  refine Zb hK42 ?_
  refine Yp rfl rfl ?_
  refine Zr ?_
  refine Zb hK41 ?_
  refine Ze (fun K hK51 => ?_)
  refine Zf ?_
  refine Za rfl rfl rfl (Zj Ye rfl (Zgw _) (hO11.join hS) hs6 trivial Z3) ?_
  refine Zm rfl rfl rfl CellsOf.agg hS ps5 Yz (by kernel_rfl) rfl (fun w hS hB => ?_)
  refine Zg ?_
  refine Zb hK51 ?_
  refine Zk ?_
  refine Zl rfl (RV.cell rfl (Z0 Ye (hO11.join hS) hs5 Z3) RV.nil) rfl ?_
  refine ⟨_, rfl, ?_⟩
  have hB := hS.pure
  have hS := hO11.join hS
  dsimp only [List.cons_append, List.nil_append] at hS
  refine Zg ?_
  refine Z8 hB ?_
  refine Yu [false, false, false, false, false, false, true] 6 ⟨by decide, by kernel_rfl, by kernel_rfl⟩ rfl rfl ?_
  try dsimp only [Zy]
  refine Zm rfl rfl rfl CellsOf.agg hS ps7 Yz (by kernel_rfl) rfl (fun w hS hB => ?_)
  refine Zg ?_
  refine Yk (hB.sub (fun _ _ h => by simpa using h)) ?_
  refine Z4 (by kernel_rfl) ?_
  refine Zb hK8 ?_
  refine Zk ?_
  refine Zl rfl (RV.cell rfl (Z0 Ye hS hs7 Z3) RV.nil) rfl ?_
  obtain rfl := QJ H
  have hS := hS.front 4 rfl
  have hS := hS.front 4 rfl
  have hS := hS.front 4 rfl
  have hS := hS.front 4 rfl
  have hS := hS.front 4 rfl
  replace hS := hS.cut 5
  exact ⟨A21, c22, A25, c26, A29, c30, A33, c34, A37, c38, rfl, k23, k27, k31, k35, k39, hS⟩
 replace H := Zp H hb
 refine Za rfl rfl rfl (Zj Ye rfl (Zgw _) (hO11.join hS) hs6 trivial Z3) ?_
 obtain ⟨r43, hm44, H⟩ := bind_some H
 refine Zq rfl rfl rfl rfl (by kernel_rfl) rfl (Zf1 r19 A21 c22 A25 c26 A29 c30 A33 c34 A37 c38 _ (Zgz k23 ((hO11.join hS).row_rd hs0) ((hO11.join hS).row_blk hs0)) (Zgz k27 ((hO11.join hS).row_rd Xw) ((hO11.join hS).row_blk Xw)) (Zgz k31 ((hO11.join hS).row_rd Vf) ((hO11.join hS).row_blk Vf)) (Zgz k35 ((hO11.join hS).row_rd hs3) ((hO11.join hS).row_blk hs3)) (Zgz k39 ((hO11.join hS).row_rd hs4) ((hO11.join hS).row_blk hs4)) hm44) ?_
 rintro e w ⟨rfl, hN⟩; refine ⟨_, rfl, ?_⟩; obtain ⟨hB, hS⟩ := hS.jn hN
 refine Zc 1 rfl ?_
 refine Zg ?_
 refine Zb hK42 ?_
 refine Zz rfl (fun hb => ?_) (fun hb => ?_)
 rotate_left
 ·replace H := Zo H hb
  refine Zr ?_
  refine Zb hK41 ?_
  refine Ze (fun K hK50 => ?_)
  refine Zf ?_
  refine Za rfl rfl rfl (Zj Ye rfl (Zgw _) (hO11.join hS) hs6 trivial Z3) ?_
  refine Zm rfl rfl rfl CellsOf.agg hS ps5 Yz (by kernel_rfl) rfl (fun w hS hB => ?_)
  refine Zg ?_
  refine Zb hK50 ?_
  refine Zk ?_
  refine Zl rfl (RV.cell rfl (Z0 Ye (hO11.join hS) hs5 Z3) RV.nil) rfl ?_
  refine ⟨_, rfl, ?_⟩
  have hB := hS.pure
  have hS := hO11.join hS
  dsimp only [List.cons_append, List.nil_append] at hS
  refine Zg ?_
  refine Z8 hB ?_
  refine Yu [false, false, false, false, false, false, true] 6 ⟨by decide, by kernel_rfl, by kernel_rfl⟩ rfl rfl ?_
  try dsimp only [Zy]
  refine Zm rfl rfl rfl CellsOf.agg hS ps7 Yz (by kernel_rfl) rfl (fun w hS hB => ?_)
  refine Zg ?_
  refine Yk (hB.sub (fun _ _ h => by simpa using h)) ?_
  refine Z4 (by kernel_rfl) ?_
  refine Zb hK8 ?_
  refine Zk ?_
  refine Zl rfl (RV.cell rfl (Z0 Ye hS hs7 Z3) RV.nil) rfl ?_
  obtain rfl := QJ H
  have hS := hS.front 4 rfl
  have hS := hS.front 4 rfl
  have hS := hS.front 4 rfl
  have hS := hS.front 4 rfl
  have hS := hS.front 4 rfl
  replace hS := hS.cut 5
  exact ⟨A21, c22, A25, c26, A29, c30, A33, c34, A37, c38, rfl, k23, k27, k31, k35, k39, hS⟩
 replace H := Zp H hb
 refine Zf ?_
 refine Zc 1 rfl ?_
 refine Zbw rfl rfl rfl rfl (by kernel_rfl) rfl ?_
 show Calls _ _ #[_, _] _ _
 refine Yt Tryz.func109 rfl Tryz.ntmps109 rfl ?_
 refine Yi 11 [10] (fun i b => (i = 10 → b = b16 ∨ b = b14)) ⟨by kernel_rfl, by kernel_rfl⟩ hS (fun w hS hB => ?_)
 refine Zn [true, true, true, true, true, true, true, true, true, true] (by decide +kernel) PFC.h ?_
 refine LtK.put rfl rfl rfl (Zu rfl) ?_
 refine LtK.put rfl rfl rfl (X2 rfl) ?_
 refine LtK.put rfl rfl rfl (Zd Jn rfl) ?_
 refine LtK.put rfl rfl rfl (Zh Xt rfl (Zgx _) (hO11.join hS) hs6 trivial Zde) ?_
 refine LtK.put rfl rfl rfl (Zd Zby rfl) ?_
 refine LtK.put rfl rfl rfl (Zh Zw rfl (Zgx _) (hO11.join hS) hs8 trivial Vp) ?_
 refine LtK.put rfl rfl rfl (Za6 rfl rfl) ?_
 refine LtK.put rfl rfl rfl (Zd fo_32_4 rfl) ?_
 refine LtK.put rfl rfl rfl (Zh Zw rfl (Zgx _) (hO11.join hS) hs8 trivial Zew) ?_
 obtain ⟨e45, hi47, H⟩ := bind_some H
 obtain ⟨j46, hi47a, hi47b, hi47c⟩ := Ym hi47
 refine LtK.put rfl rfl rfl (Y1 Xl rfl rfl hi47a hi47c (Rd.el ((hO11.join hS).row_rd hs4) Z9 hi47b)) ?_
 refine LtK.nil ?_
 refine Yu [false, false, false, false, false, false, false, false, false, false, true] 10 ⟨by decide, by kernel_rfl, by kernel_rfl⟩ rfl rfl ?_
 try dsimp only [Zy]
 refine Zf5 (a' := x1.cap) (zs := (Zeb r19.caps (IntKind.wrap .i64 (x1.frm - 1)) x1.cap)) Z9 rfl rfl rfl CellsOf.int hS ps4 (Rd.el ((hO11.join hS).row_rd hs4) Z9 hi47b) hi47a hi47b rfl st0_1 (by kernel_rfl) rfl (fun w hS hB => ?_)
 have hi48b := setI_at (a := x1.cap) hi47a hi47b
 have hi48a := hi47a
 refine Zg ?_
 refine Yk (hB.sub (fun b _ h => by have h0 : b = b16 ∨ b = b14 := (by simpa using h); rcases h0 with h0 | h0; (rw [h0]; exact hS.neRow 5 4 rfl rfl); (rw [h0]; exact hS.neRow 6 4 rfl rfl))) ?_
 refine Z4 (by kernel_rfl) ?_
 refine Zcs rfl RV.nil rfl ?_
 refine ⟨_, rfl, ?_⟩
 refine Zg ?_
 refine Zb hK41 ?_
 refine Ze (fun K hK49 => ?_)
 refine Zf ?_
 refine Za rfl rfl rfl (Zj Ye rfl (Zgw _) (hO11.join hS) hs6 trivial Z3) ?_
 refine Zm rfl rfl rfl CellsOf.agg hS ps5 Yz (by kernel_rfl) rfl (fun w hS hB => ?_)
 refine Zg ?_
 refine Zb hK49 ?_
 refine Zk ?_
 refine Zl rfl (RV.cell rfl (Z0 Ye (hO11.join hS) hs5 Z3) RV.nil) rfl ?_
 refine ⟨_, rfl, ?_⟩
 have hB := hS.pure
 have hS := hO11.join hS
 dsimp only [List.cons_append, List.nil_append] at hS
 refine Zg ?_
 refine Z8 hB ?_
 refine Yu [false, false, false, false, false, false, true] 6 ⟨by decide, by kernel_rfl, by kernel_rfl⟩ rfl rfl ?_
 try dsimp only [Zy]
 refine Zm rfl rfl rfl CellsOf.agg hS ps7 Yz (by kernel_rfl) rfl (fun w hS hB => ?_)
 refine Zg ?_
 refine Yk (hB.sub (fun _ _ h => by simpa using h)) ?_
 refine Z4 (by kernel_rfl) ?_
 refine Zb hK8 ?_
 refine Zk ?_
 refine Zl rfl (RV.cell rfl (Z0 Ye hS hs7 Z3) RV.nil) rfl ?_
 obtain rfl := QJ H
 have hS := hS.front 4 rfl
 have hS := hS.front 4 rfl
 have hS := hS.front 4 rfl
 have hS := hS.front 4 rfl
 have hS := hS.front 4 rfl
 replace hS := hS.cut 5
 exact ⟨A21, c22, A25, c26, A29, c30, A33, c34, A37, c38, by (repeat rw [(Zb4 rfl)]); rfl, k23, k27, k31, k35, (k_set k39), hS.eqv (by (repeat rw [(Zb4 rfl)]); rfl)⟩
theorem c_elect_Meet (x0 : Co) (x1 : Ms) (A0_ : OA) (c0_ : Nat) (A1_ : OA) (c1_ : Nat) (A2_ : OA) (c2_ : Nat) (A3_ : OA) (c3_ : Nat) (A4_ : OA) (c4_ : Nat) (A5_ : OA) (c5_ : Nat) (w0 : World) (s0_ : SlI w0 Jj A0_ c0_ x0.tuple.log) (s1_ : SlI w0 enO A1_ c1_ x0.votes) (s2_ : SlI w0 V1 A2_ c2_ x0.next) (s3_ : SlI w0 V1 A3_ c3_ x0.mtch) (s4_ : SlI w0 V1 A4_ c4_ x0.caps) (s5_ : SlI w0 Jj A5_ c5_ x1.entries) {r : Co} (H : Zcq x0 x1 = some r) : Calls Tryz.prog 17 #[.agg #[.int .i64 x0.id, .int .i64 x0.n, .int .u8 x0.role, .int .i64 x0.binary, .int .i64 x0.tuple.snap.index, .int .i64 x0.tuple.snap.term, .int .i64 x0.tuple.snap.sum, .int .i64 x0.tuple.snap.level, .bool x0.tuple.snap.final, .slice A0_ x0.tuple.log.length c0_, .int .i64 x0.tuple.term, .int .i64 x0.tuple.vote, .int .i64 x0.commit, .int .i64 x0.applied.index, .int .i64 x0.applied.term, .int .i64 x0.applied.sum, .int .i64 x0.applied.level, .bool x0.applied.final, .slice A1_ x0.votes.length c1_, .slice A2_ x0.next.length c2_, .slice A3_ x0.mtch.length c3_, .slice A4_ x0.caps.length c4_], .agg #[.int .u8 x1.kind, .int .i64 x1.frm, .int .i64 x1.dst, .int .i64 x1.term, .int .i64 x1.cap, .int .i64 x1.last, .int .i64 x1.lastTerm, .int .i64 x1.commit, .bool x1.okk, .slice A5_ x1.entries.length c5_, .int .i64 x1.snap.index, .int .i64 x1.snap.term, .int .i64 x1.snap.sum, .int .i64 x1.snap.level, .bool x1.snap.final]] w0 fun e w' => ∃ (A0 : OA) (c0 : Nat) (A1 : OA) (c1 : Nat) (A2 : OA) (c2 : Nat) (A3 : OA) (c3 : Nat) (A4 : OA) (c4 : Nat), e = .returned (.agg #[.int .i64 r.id, .int .i64 r.n, .int .u8 r.role, .int .i64 r.binary, .int .i64 r.tuple.snap.index, .int .i64 r.tuple.snap.term, .int .i64 r.tuple.snap.sum, .int .i64 r.tuple.snap.level, .bool r.tuple.snap.final, .slice A0 r.tuple.log.length c0, .int .i64 r.tuple.term, .int .i64 r.tuple.vote, .int .i64 r.commit, .int .i64 r.applied.index, .int .i64 r.applied.term, .int .i64 r.applied.sum, .int .i64 r.applied.level, .bool r.applied.final, .slice A1 r.votes.length c1, .slice A2 r.next.length c2, .slice A3 r.mtch.length c3, .slice A4 r.caps.length c4]) ∧ (r.tuple.log.length ≤ c0 ∧ c0 ≤ maxLen) ∧ (r.votes.length ≤ c1 ∧ c1 ≤ maxLen) ∧ (r.next.length ≤ c2 ∧ c2 ≤ maxLen) ∧ (r.mtch.length ≤ c3 ∧ c3 ≤ maxLen) ∧ (r.caps.length ≤ c4 ∧ c4 ≤ maxLen) ∧ St0 All w0 w' [.rd A0 (Yl Jj r.tuple.log), .row (.slice A1 r.votes.length c1) 4 1 r.votes.length (Yl enO r.votes), .row (.slice A2 r.next.length c2) 3 1 r.next.length (Yl V1 r.next), .row (.slice A3 r.mtch.length c3) 3 1 r.mtch.length (Yl V1 r.mtch), .row (.slice A4 r.caps.length c4) 3 1 r.caps.length (Yl V1 r.caps)] := by
 unfold Zcq at H
 refine Yt Tryz.func17 rfl Tryz.ntmps17 rfl ?_
 have hS := St0.start All w0
 refine Ze (fun K hK1 => ?_)
 refine Zf ?_
 refine Yd rfl rfl rfl CellsOf.agg hS (fun b2 w hS hB => ?_)
 refine Yd rfl rfl rfl CellsOf.agg hS (fun b4 w hS hB => ?_)
 refine Yh rfl rfl Zd5 hS (fun b6 w hS hB => ?_)
 refine Zg ?_
 refine Zb hK1 ?_
 refine wpC_scope1 0 rfl ?_
 refine Ze (fun K hK8 => ?_)
 refine Zf ?_
 refine Za rfl rfl rfl (Zj Ye rfl (Zgw _) hS Vf trivial Z3) ?_
 obtain ⟨r9, hm10, H⟩ := bind_some H
 refine Zq rfl rfl rfl rfl (by kernel_rfl) rfl (Zed x0 A0_ c0_ A1_ c1_ A2_ c2_ A3_ c3_ A4_ c4_ _ (Zgz s0_.k (hS.rd0 s0_.rd) (hS.blk0 s0_.blk)) (Zgz s1_.k (hS.rd0 s1_.rd) (hS.blk0 s1_.blk)) (Zgz s2_.k (hS.rd0 s2_.rd) (hS.blk0 s2_.blk)) (Zgz s3_.k (hS.rd0 s3_.rd) (hS.blk0 s3_.blk)) (Zgz s4_.k (hS.rd0 s4_.rd) (hS.blk0 s4_.blk)) hm10) ?_
 rintro e w ⟨A11, c12, A15, c16, A19, c20, A23, c24, A27, c28, rfl, k13, k17, k21, k25, k29, hN⟩; refine ⟨_, rfl, ?_⟩; obtain ⟨hB, hS⟩ := hS.jn hN
 refine Zm rfl rfl rfl CellsOf.agg hS ps7 Yz (by kernel_rfl) rfl (fun w hS hB => ?_)
 refine Zg ?_
 refine Zb hK8 ?_
 refine Ze (fun K hK31 => ?_)
 refine Ze (fun K hK32 => ?_)
 refine Zf ?_
 refine Za rfl rfl rfl (Zj Ye rfl (Zgw _) hS hs7 trivial Z3) ?_
 refine Za rfl rfl rfl (Zj Vi rfl (Zgw _) hS hs6 trivial Xp) ?_
 obtain ⟨r33, hm34, H⟩ := bind_some H
 refine Zq rfl rfl rfl rfl (by kernel_rfl) rfl (c_elect_fits r9 x1 A11 c12 A15 c16 A19 c20 A23 c24 A27 c28 A5_ c5_ _ (Zgz k13 (hS.row_rd hs0) (hS.row_blk hs0)) (Zgz k17 (hS.row_rd Xw) (hS.row_blk Xw)) (Zgz k21 (hS.row_rd Vf) (hS.row_blk Vf)) (Zgz k25 (hS.row_rd hs3) (hS.row_blk hs3)) (Zgz k29 (hS.row_rd hs4) (hS.row_blk hs4)) (Zgz s5_.k (hS.rd0 s5_.rd) (hS.blk0 s5_.blk)) hm34) ?_
 rintro e w ⟨rfl, hN⟩; refine ⟨_, rfl, ?_⟩; obtain ⟨hB, hS⟩ := hS.jn hN
 refine Za rfl rfl rfl (Yy rfl) ?_
 refine Zg ?_
 refine Zb hK32 ?_
 refine Zz rfl (fun hb => ?_) (fun hb => ?_)
 ·replace H := Zp H hb
  refine Vk ?_
  refine Xd ?_
  refine Vy ?_
  refine Ze (fun K hK35 => ?_)
  refine Zr ?_
  refine Zb hK35 ?_
  refine Ze (fun K hK36 => ?_)
  refine Zf ?_
  refine Za rfl rfl rfl (Zj Ye rfl (Zgw _) hS hs7 trivial Z3) ?_
  refine Zm rfl rfl rfl CellsOf.agg hS ps5 Yz (by kernel_rfl) rfl (fun w hS hB => ?_)
  refine Zg ?_
  refine Zb hK36 ?_
  refine Zk ?_
  refine Z2 ?_
  refine Zl rfl (RV.cell rfl (Z0 Ye hS hs5 Z3) RV.nil) rfl ?_
  obtain rfl := QJ H
  have hS := hS.front 4 rfl
  have hS := hS.front 4 rfl
  have hS := hS.front 4 rfl
  have hS := hS.front 4 rfl
  have hS := hS.front 4 rfl
  replace hS := hS.weak Weak.rowRd
  replace hS := hS.cut 5
  exact ⟨A11, c12, A15, c16, A19, c20, A23, c24, A27, c28, rfl, k13, k17, k21, k25, k29, hS⟩
 replace H := Zo H hb
 refine Zr ?_
 refine Zb hK31 ?_
 refine Ze (fun K hK37 => ?_)
 refine Ze (fun K hK38 => ?_)
 refine Zf ?_
 refine Za rfl rfl rfl (Zj Ye rfl (Zgw _) hS hs7 trivial Z3) ?_
 refine Za rfl rfl rfl (Zj Vi rfl (Zgw _) hS hs6 trivial Xp) ?_
 obtain ⟨r39, hm40, H⟩ := bind_some H
 refine Zq rfl rfl rfl rfl (by kernel_rfl) rfl (c_advert_Hear r9 x1 A11 c12 A15 c16 A19 c20 A23 c24 A27 c28 A5_ c5_ _ (Zgz k13 (hS.row_rd hs0) (hS.row_blk hs0)) (Zgz k17 (hS.row_rd Xw) (hS.row_blk Xw)) (Zgz k21 (hS.row_rd Vf) (hS.row_blk Vf)) (Zgz k25 (hS.row_rd hs3) (hS.row_blk hs3)) (Zgz k29 (hS.row_rd hs4) (hS.row_blk hs4)) (Zgz s5_.k (hS.rd0 s5_.rd) (hS.blk0 s5_.blk)) hm40) ?_
 rintro e w ⟨A41, c42, A45, c46, A49, c50, A53, c54, A57, c58, rfl, k43, k47, k51, k55, k59, hN⟩; refine ⟨_, rfl, ?_⟩; obtain ⟨hB, hS⟩ := hS.jn hN
 refine Zm rfl rfl rfl CellsOf.agg hS ps12 Yz (by kernel_rfl) rfl (fun w hS hB => ?_)
 refine Zg ?_
 refine Zb hK38 ?_
 refine Ze (fun K hK61 => ?_)
 refine Zf ?_
 refine Za rfl rfl rfl (Zd Zb1 rfl) ?_
 refine Za rfl rfl rfl (Zh Zw rfl (Zgw _) hS hs11 trivial Zan) ?_
 refine Za rfl rfl rfl (Zd Yr rfl) ?_
 refine Za rfl rfl rfl (Zd Vr rfl) ?_
 refine Za rfl rfl rfl (Zh Zw rfl (Zgw _) hS hs12 trivial J7) ?_
 refine Za rfl rfl rfl (Y9 rfl rfl) ?_
 refine Zg ?_
 refine Zb hK61 ?_
 refine Zz rfl (fun hb => ?_) (fun hb => ?_)
 rotate_left
 ·replace H := Zo H hb
  refine Zr ?_
  refine Zb hK37 ?_
  refine Ze (fun K hK88 => ?_)
  refine Zdo ?_
  refine Zb hK88 ?_
  refine Ze (fun K hK89 => ?_)
  refine Zf ?_
  refine Za rfl rfl rfl (Zj Ye rfl (Zgw _) hS hs12 trivial Z3) ?_
  refine Zm rfl rfl rfl CellsOf.agg hS ps10 Yz (by kernel_rfl) rfl (fun w hS hB => ?_)
  refine Zg ?_
  refine Zb hK89 ?_
  refine Zk ?_
  refine Z2 ?_
  refine Zl rfl (RV.cell rfl (Z0 Ye hS Zex Z3) RV.nil) rfl ?_
  obtain rfl := QJ H
  have hS := hS.front 4 rfl
  have hS := hS.front 4 rfl
  have hS := hS.front 4 rfl
  have hS := hS.front 4 rfl
  have hS := hS.front 4 rfl
  replace hS := hS.weak Weak.rowRd
  replace hS := hS.cut 5
  exact ⟨A41, c42, A45, c46, A49, c50, A53, c54, A57, c58, rfl, k43, k47, k51, k55, k59, hS⟩
 replace H := Zp H hb
 refine Zf ?_
 refine Za rfl rfl rfl (Zj Ye rfl (Zgw _) hS hs12 trivial Z3) ?_
 refine Za rfl rfl rfl (Zd Zb1 rfl) ?_
 refine Za rfl rfl rfl (Zh Zw rfl (Zgw _) hS hs11 trivial Zan) ?_
 refine Zbw rfl rfl rfl rfl (by kernel_rfl) rfl ?_
 show Calls _ _ #[_, _, _, _, _] _ _
 refine gw_enter5 Tryz.func51 rfl Tryz.ntmps51 rfl ?_
 refine Ze (fun K hK62 => ?_)
 refine Zf ?_
 refine Yd rfl rfl rfl CellsOf.agg hS (fun b63 w hS hB => ?_)
 refine Yh rfl rfl Zd5 hS (fun b65 w hS hB => ?_)
 refine Zg ?_
 refine Zb hK62 ?_
 refine Ze (fun K hK67 => ?_)
 refine Zf ?_
 refine Za rfl rfl rfl (Zd Yr rfl) ?_
 refine Za rfl rfl rfl (Zj Y7 rfl (Zgw _) hS Xw trivial Zak) ?_
 refine Zc 2 rfl ?_
 obtain ⟨r68, hm69, H⟩ := bind_some H
 refine Zq rfl rfl rfl rfl (by kernel_rfl) rfl (c_tuple_Hard r39.tuple x1.term 0 A41 c42 _ (Zgz k43 (hS.row_rd Vf) (hS.row_blk Vf)) hm69) ?_
 rintro e w ⟨A70, c71, rfl, k72, hN⟩; refine ⟨_, rfl, ?_⟩; obtain ⟨hB, hS⟩ := hS.jn hN
 refine Zc 1 rfl ?_
 refine Za rfl rfl rfl (Z7 rfl rfl) ?_
 refine Za rfl rfl rfl (Z7 rfl rfl) ?_
 refine Za rfl rfl rfl (Zd Yr rfl) ?_
 refine Zm rfl rfl rfl CellsOf.agg hS ps2 st4_8 (by kernel_rfl) rfl (fun w hS hB => ?_)
 refine Zg ?_
 refine Zb hK67 ?_
 refine Ze (fun K hK74 => ?_)
 refine Yi 8 [5, 7] (fun i b => (i = 5 → b ≠ b63) ∧ (i = 7 → b ≠ b63)) ⟨by kernel_rfl, by kernel_rfl⟩ hS (fun w hS hB => ?_)
 refine Zn [true, true, true, false, true] (by decide +kernel) PFC.h ?_
 refine LtK.put rfl rfl rfl (Zu rfl) ?_
 refine LtK.put rfl rfl rfl (Zd Ja rfl) ?_
 refine LtK.put rfl rfl rfl (Zh Zw rfl (Zgx _) hS Vf trivial Vp) ?_
 refine LtK.put rfl rfl rfl (Zd Zb0 rfl) ?_
 refine LtK.nil ?_
 refine Zaw [3, 5] ⟨by decide, by kernel_rfl⟩ rfl (.call [false, false, false, true] 3 rfl rfl rfl ?_ (.put [false, false, false, false, false, true] 5 rfl rfl rfl ?_ .nil))
 ·try dsimp only [Zy]
  obtain ⟨l75, hm76, H⟩ := bind_some H
  refine wpX_make he_enO em_27 rfl (by decide) rfl rfl rfl rfl hS hm76 (fun A77 c78 w k79 hS hB => ?_)
  refine Zg ?_
  refine Z8 hB ?_
  refine Yu [false, false, false, false, false, true] 5 ⟨by decide, by kernel_rfl, by kernel_rfl⟩ rfl rfl ?_
  try dsimp only [Zy]
  refine Zm rfl rfl rfl CellsOf.int hS ps3 st2_1 (by kernel_rfl) rfl (fun w hS hB => ?_)
  refine Zg ?_
  refine Yk (hB.sub (fun _ _ h => by simpa using h)) ?_
  refine Zn [false, false, false, false, false, false, true] (by decide +kernel) PFC.h ?_
  refine LtK.put rfl rfl rfl (Zd Za9 rfl) ?_
  refine LtK.nil ?_
  refine Yu [false, false, false, false, false, false, false, true] 7 ⟨by decide, by kernel_rfl, by kernel_rfl⟩ rfl rfl ?_
  try dsimp only [Zy]
  refine Zm rfl rfl rfl CellsOf.slice hS ps3 st18_1 (by kernel_rfl) rfl (fun w hS hB => ?_)
  refine Zg ?_
  refine Yk (hB.sub (fun _ _ h => by simpa using h)) ?_
  refine Z4 (by kernel_rfl) ?_
  refine Zb hK74 ?_
  refine Ze (fun K hK81 => ?_)
  refine Ze (fun K hK82 => ?_)
  refine Zf ?_
  refine Zc 1 rfl ?_
  refine Za rfl rfl rfl (Yw Xl rfl) ?_
  refine Zc 1 rfl ?_
  refine Zg ?_
  refine Zb hK82 ?_
  refine Yf ?_
  refine wpC_rounds 60 ?_
  refine Ze (fun K hK83 => ?_)
  refine Zf ?_
  refine Za rfl rfl rfl (Xe rfl rfl) ?_
  refine Zg ?_
  refine Zb hK83 ?_
  refine Ze (fun K hK84 => ?_)
  refine Yp rfl rfl ?_
  refine Vl ?_
  refine Yb ?_
  refine Yb ?_
  refine Y6 ?_
  refine Zb hK81 ?_
  refine Ze (fun K hK85 => ?_)
  refine Zf ?_
  refine Za rfl rfl rfl (Zj Ye rfl (Zgw _) hS hs3 trivial Z3) ?_
  refine Zm rfl rfl rfl CellsOf.agg hS ps2 Yz (by kernel_rfl) rfl (fun w hS hB => ?_)
  refine Zg ?_
  refine Zb hK85 ?_
  refine Zk ?_
  refine Zl rfl (RV.cell rfl (Z0 Ye hS Vf Z3) RV.nil) rfl ?_
  refine ⟨_, rfl, ?_⟩
  refine Zm rfl rfl rfl CellsOf.agg hS ps16 Yz (by kernel_rfl) rfl (fun w hS hB => ?_)
  refine Zg ?_
  refine Zb hK37 ?_
  refine Ze (fun K hK86 => ?_)
  refine Zdo ?_
  refine Zb hK86 ?_
  refine Ze (fun K hK87 => ?_)
  refine Zf ?_
  refine Za rfl rfl rfl (Zj Ye rfl (Zgw _) hS hs16 trivial Z3) ?_
  refine Zm rfl rfl rfl CellsOf.agg hS ps14 Yz (by kernel_rfl) rfl (fun w hS hB => ?_)
  refine Zg ?_
  refine Zb hK87 ?_
  refine Zk ?_
  refine Z2 ?_
  refine Zl rfl (RV.cell rfl (Z0 Ye hS Zay Z3) RV.nil) rfl ?_
  obtain rfl := QJ H
  have hS := hS.front 8 rfl
  have hS := hS.front 8 rfl
  have hS := hS.front 8 rfl
  have hS := hS.front 3 rfl
  have hS := hS.front 4 rfl
  replace hS := hS.cut 5
  exact ⟨A70, c71, A77, c78, A49, c50, A53, c54, A57, c58, rfl, k72, k79, k51, k55, k59, hS⟩
 ·try dsimp only [Zy]
  refine Zm rfl rfl rfl CellsOf.int hS ps2 st2_1 (by kernel_rfl) rfl (fun w hS hB => ?_)
  refine Zg ?_
  refine Yk (hB.sub (fun _ _ h => by simpa using h)) ?_
  refine Z6 [false, false, false, true] 3 ⟨by decide, by kernel_rfl, by kernel_rfl⟩ rfl rfl ?_
  try dsimp only [Zy]
  obtain ⟨l75, hm76, H⟩ := bind_some H
  refine wpX_make he_enO em_27 rfl (by decide) rfl rfl rfl rfl hS hm76 (fun A77 c78 w k79 hS hB => ?_)
  refine Zg ?_
  refine Z8 hB ?_
  refine Zn [false, false, false, false, false, false, true] (by decide +kernel) PFC.h ?_
  refine LtK.put rfl rfl rfl (Zd Za9 rfl) ?_
  refine LtK.nil ?_
  refine Yu [false, false, false, false, false, false, false, true] 7 ⟨by decide, by kernel_rfl, by kernel_rfl⟩ rfl rfl ?_
  try dsimp only [Zy]
  refine Zm rfl rfl rfl CellsOf.slice hS ps3 st18_1 (by kernel_rfl) rfl (fun w hS hB => ?_)
  refine Zg ?_
  refine Yk (hB.sub (fun _ _ h => by simpa using h)) ?_
  refine Z4 (by kernel_rfl) ?_
  refine Zb hK74 ?_
  refine Ze (fun K hK81 => ?_)
  refine Ze (fun K hK82 => ?_)
  refine Zf ?_
  refine Zc 1 rfl ?_
  refine Za rfl rfl rfl (Yw Xl rfl) ?_
  refine Zc 1 rfl ?_
  refine Zg ?_
  refine Zb hK82 ?_
  refine Yf ?_
  refine wpC_rounds 60 ?_
  refine Ze (fun K hK83 => ?_)
  refine Zf ?_
  refine Za rfl rfl rfl (Xe rfl rfl) ?_
  refine Zg ?_
  refine Zb hK83 ?_
  refine Ze (fun K hK84 => ?_)
  refine Yp rfl rfl ?_
  refine Vl ?_
  refine Yb ?_
  refine Yb ?_
  refine Y6 ?_
  refine Zb hK81 ?_
  refine Ze (fun K hK85 => ?_)
  refine Zf ?_
  refine Za rfl rfl rfl (Zj Ye rfl (Zgw _) hS hs3 trivial Z3) ?_
  refine Zm rfl rfl rfl CellsOf.agg hS ps2 Yz (by kernel_rfl) rfl (fun w hS hB => ?_)
  refine Zg ?_
  refine Zb hK85 ?_
  refine Zk ?_
  refine Zl rfl (RV.cell rfl (Z0 Ye hS Vf Z3) RV.nil) rfl ?_
  refine ⟨_, rfl, ?_⟩
  refine Zm rfl rfl rfl CellsOf.agg hS ps16 Yz (by kernel_rfl) rfl (fun w hS hB => ?_)
  refine Zg ?_
  refine Zb hK37 ?_
  refine Ze (fun K hK86 => ?_)
  refine Zdo ?_
  refine Zb hK86 ?_
  refine Ze (fun K hK87 => ?_)
  refine Zf ?_
  refine Za rfl rfl rfl (Zj Ye rfl (Zgw _) hS hs16 trivial Z3) ?_
  refine Zm rfl rfl rfl CellsOf.agg hS ps14 Yz (by kernel_rfl) rfl (fun w hS hB => ?_)
  refine Zg ?_
  refine Zb hK87 ?_
  refine Zk ?_
  refine Z2 ?_
  refine Zl rfl (RV.cell rfl (Z0 Ye hS Zay Z3) RV.nil) rfl ?_
  obtain rfl := QJ H
  have hS := hS.front 8 rfl
  have hS := hS.front 8 rfl
  have hS := hS.front 8 rfl
  have hS := hS.front 3 rfl
  have hS := hS.front 4 rfl
  replace hS := hS.cut 5
  exact ⟨A70, c71, A77, c78, A49, c50, A53, c54, A57, c58, rfl, k72, k79, k51, k55, k59, hS⟩
theorem Jq (x0 : Co) (x1 : Ms) (x2 : Int) (x3 : Bool) (x4 : Int) (A0_ : OA) (c0_ : Nat) (A1_ : OA) (c1_ : Nat) (A2_ : OA) (c2_ : Nat) (A3_ : OA) (c3_ : Nat) (A4_ : OA) (c4_ : Nat) (A5_ : OA) (c5_ : Nat) (w0 : World) (s0_ : SlI w0 Jj A0_ c0_ x0.tuple.log) (s1_ : SlI w0 enO A1_ c1_ x0.votes) (s2_ : SlI w0 V1 A2_ c2_ x0.next) (s3_ : SlI w0 V1 A3_ c3_ x0.mtch) (s4_ : SlI w0 V1 A4_ c4_ x0.caps) (s5_ : SlI w0 Jj A5_ c5_ x1.entries) {r : Ms} (H : Va x0 x1 x2 x3 x4 = some r) : Calls Tryz.prog 61 #[.agg #[.int .i64 x0.id, .int .i64 x0.n, .int .u8 x0.role, .int .i64 x0.binary, .int .i64 x0.tuple.snap.index, .int .i64 x0.tuple.snap.term, .int .i64 x0.tuple.snap.sum, .int .i64 x0.tuple.snap.level, .bool x0.tuple.snap.final, .slice A0_ x0.tuple.log.length c0_, .int .i64 x0.tuple.term, .int .i64 x0.tuple.vote, .int .i64 x0.commit, .int .i64 x0.applied.index, .int .i64 x0.applied.term, .int .i64 x0.applied.sum, .int .i64 x0.applied.level, .bool x0.applied.final, .slice A1_ x0.votes.length c1_, .slice A2_ x0.next.length c2_, .slice A3_ x0.mtch.length c3_, .slice A4_ x0.caps.length c4_], .agg #[.int .u8 x1.kind, .int .i64 x1.frm, .int .i64 x1.dst, .int .i64 x1.term, .int .i64 x1.cap, .int .i64 x1.last, .int .i64 x1.lastTerm, .int .i64 x1.commit, .bool x1.okk, .slice A5_ x1.entries.length c5_, .int .i64 x1.snap.index, .int .i64 x1.snap.term, .int .i64 x1.snap.sum, .int .i64 x1.snap.level, .bool x1.snap.final], .int .u8 x2, .bool x3, .int .i64 x4] w0 fun e w' => ∃ (A0 : OA) (c0 : Nat), e = .returned (.agg #[.int .u8 r.kind, .int .i64 r.frm, .int .i64 r.dst, .int .i64 r.term, .int .i64 r.cap, .int .i64 r.last, .int .i64 r.lastTerm, .int .i64 r.commit, .bool r.okk, .slice A0 r.entries.length c0, .int .i64 r.snap.index, .int .i64 r.snap.term, .int .i64 r.snap.sum, .int .i64 r.snap.level, .bool r.snap.final]) ∧ (r.entries.length ≤ c0 ∧ c0 ≤ maxLen) ∧ St0 All w0 w' [.rd A0 (Yl Jj r.entries)] := by
 unfold Va at H
 refine gw_enter5 Tryz.func61 rfl Tryz.ntmps61 rfl ?_
 have hS := St0.start All w0
 refine Ze (fun K hK1 => ?_)
 refine Zf ?_
 refine Yd rfl rfl rfl CellsOf.agg hS (fun b2 w hS hB => ?_)
 refine Yd rfl rfl rfl CellsOf.agg hS (fun b4 w hS hB => ?_)
 refine Yh rfl rfl Zai hS (fun b6 w hS hB => ?_)
 refine Zg ?_
 refine Zb hK1 ?_
 refine Ze (fun K hK8 => ?_)
 refine Zf ?_
 refine Zc 1 rfl ?_
 refine Za rfl rfl rfl (Zd Zbb rfl) ?_
 refine Za rfl rfl rfl (Zh Zw rfl (Zgw _) hS Vf trivial Y8) ?_
 refine Za rfl rfl rfl (Zd Zby rfl) ?_
 refine Za rfl rfl rfl (Zh Zw rfl (Zgw _) hS Xw trivial Vp) ?_
 refine Za rfl rfl rfl (Zd Yr rfl) ?_
 refine Za rfl rfl rfl (Zd Vr rfl) ?_
 refine Za rfl rfl rfl (Zh Zw rfl (Zgw _) hS Vf trivial J7) ?_
 refine Za rfl rfl rfl (Zd Zej rfl) ?_
 refine Za rfl rfl rfl (Zh Zw rfl (Zgw _) hS Vf trivial Zan) ?_
 refine Zc 2 rfl ?_
 refine Za rfl rfl rfl (X1 (cells := [.int .u8 x2, .int .i64 x0.id, .int .i64 x1.frm, .int .i64 x0.tuple.term, .int .i64 x0.binary, .int .i64 x4, .int .i64 0, .int .i64 0, .bool x3, .slice none 0 0, .int .i64 0, .int .i64 0, .int .i64 0, .int .i64 0, .bool false]) rfl (by kernel_rfl)) ?_
 refine Zm rfl rfl rfl CellsOf.agg hS ps0 Ze5 (by kernel_rfl) rfl (fun w hS hB => ?_)
 refine Zg ?_
 refine Zb hK8 ?_
 refine Zk ?_
 refine Zl rfl (RV.cell rfl (Z0 Vi hS hs0 Xp) RV.nil) rfl ?_
 obtain rfl := QJ H
 have hS := hS.nilRd
 replace hS := hS.cut 1
 exact ⟨none, 0, rfl, ⟨Nat.le_refl _, Nat.zero_le _⟩, hS⟩
theorem c_ref20_Own (x0 : Co) (A0_ : OA) (c0_ : Nat) (A1_ : OA) (c1_ : Nat) (A2_ : OA) (c2_ : Nat) (A3_ : OA) (c3_ : Nat) (A4_ : OA) (c4_ : Nat) (w0 : World) (s0_ : SlI w0 Jj A0_ c0_ x0.tuple.log) (s1_ : SlI w0 enO A1_ c1_ x0.votes) (s2_ : SlI w0 V1 A2_ c2_ x0.next) (s3_ : SlI w0 V1 A3_ c3_ x0.mtch) (s4_ : SlI w0 V1 A4_ c4_ x0.caps) {r : Co} (H : Zeu x0 = some r) : Calls Tryz.prog 39 #[.agg #[.int .i64 x0.id, .int .i64 x0.n, .int .u8 x0.role, .int .i64 x0.binary, .int .i64 x0.tuple.snap.index, .int .i64 x0.tuple.snap.term, .int .i64 x0.tuple.snap.sum, .int .i64 x0.tuple.snap.level, .bool x0.tuple.snap.final, .slice A0_ x0.tuple.log.length c0_, .int .i64 x0.tuple.term, .int .i64 x0.tuple.vote, .int .i64 x0.commit, .int .i64 x0.applied.index, .int .i64 x0.applied.term, .int .i64 x0.applied.sum, .int .i64 x0.applied.level, .bool x0.applied.final, .slice A1_ x0.votes.length c1_, .slice A2_ x0.next.length c2_, .slice A3_ x0.mtch.length c3_, .slice A4_ x0.caps.length c4_]] w0 fun e w' => ∃ (A0 : OA) (c0 : Nat) (A1 : OA) (c1 : Nat) (A2 : OA) (c2 : Nat) (A3 : OA) (c3 : Nat) (A4 : OA) (c4 : Nat), e = .returned (.agg #[.int .i64 r.id, .int .i64 r.n, .int .u8 r.role, .int .i64 r.binary, .int .i64 r.tuple.snap.index, .int .i64 r.tuple.snap.term, .int .i64 r.tuple.snap.sum, .int .i64 r.tuple.snap.level, .bool r.tuple.snap.final, .slice A0 r.tuple.log.length c0, .int .i64 r.tuple.term, .int .i64 r.tuple.vote, .int .i64 r.commit, .int .i64 r.applied.index, .int .i64 r.applied.term, .int .i64 r.applied.sum, .int .i64 r.applied.level, .bool r.applied.final, .slice A1 r.votes.length c1, .slice A2 r.next.length c2, .slice A3 r.mtch.length c3, .slice A4 r.caps.length c4]) ∧ (r.tuple.log.length ≤ c0 ∧ c0 ≤ maxLen) ∧ (r.votes.length ≤ c1 ∧ c1 ≤ maxLen) ∧ (r.next.length ≤ c2 ∧ c2 ≤ maxLen) ∧ (r.mtch.length ≤ c3 ∧ c3 ≤ maxLen) ∧ (r.caps.length ≤ c4 ∧ c4 ≤ maxLen) ∧ St0 All w0 w' [.row (.slice A0 r.tuple.log.length c0) 53 3 r.tuple.log.length (Yl Jj r.tuple.log), .row (.slice A1 r.votes.length c1) 4 1 r.votes.length (Yl enO r.votes), .row (.slice A2 r.next.length c2) 3 1 r.next.length (Yl V1 r.next), .row (.slice A3 r.mtch.length c3) 3 1 r.mtch.length (Yl V1 r.mtch), .row (.slice A4 r.caps.length c4) 3 1 r.caps.length (Yl V1 r.caps)] := by
 unfold Zeu at H
 refine Yo Tryz.func39 rfl Tryz.ntmps39 rfl ?_
 have hS := St0.start All w0
 refine Ze (fun K hK1 => ?_)
 refine Zf ?_
 refine Yd rfl rfl rfl CellsOf.agg hS (fun b2 w hS hB => ?_)
 refine Yh rfl rfl Zd5 hS (fun b4 w hS hB => ?_)
 refine Zg ?_
 refine Zb hK1 ?_
 refine Ze (fun K hK6 => ?_)
 refine Zf ?_
 refine Za rfl rfl rfl (Zd Yr rfl) ?_
 refine Za rfl rfl rfl (Zj Y7 rfl (Zgw _) hS Xw trivial Zak) ?_
 obtain ⟨r7, hm8, H⟩ := bind_some H
 refine Zq rfl rfl rfl rfl (by kernel_rfl) rfl (c_ref12_Own x0.tuple A0_ c0_ _ (Zgz s0_.k (hS.rd0 s0_.rd) (hS.blk0 s0_.blk)) hm8) ?_
 rintro e w ⟨A9, c10, rfl, k11, hN⟩; refine ⟨_, rfl, ?_⟩; obtain ⟨hB, hS⟩ := hS.jn hN
 refine Za rfl rfl rfl (Zd Yr rfl) ?_
 refine Zm rfl rfl rfl CellsOf.agg hS ps2 st4_8 (by kernel_rfl) rfl (fun w hS hB => ?_)
 refine Zg ?_
 refine Zb hK6 ?_
 refine Ze (fun K hK13 => ?_)
 refine Zf ?_
 refine Zbp el_27 rfl rfl hS (fun b14 w hS hB => ?_)
 refine Za rfl rfl rfl (Zd Za9 rfl) ?_
 refine Za rfl rfl rfl (Zh sc_27 rfl (Zgw _) hS hs3 trivial Zfu) ?_
 obtain ⟨l16, hf17, H⟩ := bind_some H
 refine Jt (ys := x0.votes) he_enO oc_enO em_27 (by decide) rfl rfl rfl rfl hS (fun _ => ps0) (hS.rd0 s1_.rd) hf17 (fun A18 c19 w k20 hS => ?_)
 refine Za rfl rfl rfl (Zd Za9 rfl) ?_
 refine Zm rfl rfl rfl CellsOf.slice hS ps3 st18_1 (by kernel_rfl) rfl (fun w hS hB => ?_)
 refine Zg ?_
 refine Zb hK13 ?_
 refine Ze (fun K hK21 => ?_)
 refine Zf ?_
 refine Zbp Xl rfl rfl hS (fun b22 w hS hB => ?_)
 refine Za rfl rfl rfl (Zd Vo rfl) ?_
 refine Za rfl rfl rfl (Zh Xt rfl (Zgw _) hS hs4 trivial Jr) ?_
 obtain ⟨l24, hf25, H⟩ := bind_some H
 refine Jt (ys := x0.next) Z9 oc_enI em_28 (by decide) rfl rfl rfl rfl hS (fun _ => ps0) (hS.rd0 s2_.rd) hf25 (fun A26 c27 w k28 hS => ?_)
 refine Za rfl rfl rfl (Zd Vo rfl) ?_
 refine Zm rfl rfl rfl CellsOf.slice hS ps4 st19_1 (by kernel_rfl) rfl (fun w hS hB => ?_)
 refine Zg ?_
 refine Zb hK21 ?_
 refine Ze (fun K hK29 => ?_)
 refine Zf ?_
 refine Zbp Xl rfl rfl hS (fun b30 w hS hB => ?_)
 refine Za rfl rfl rfl (Zd Vt rfl) ?_
 refine Za rfl rfl rfl (Zh Xt rfl (Zgw _) hS hs5 trivial Jz) ?_
 obtain ⟨l32, hf33, H⟩ := bind_some H
 refine Jt (ys := x0.mtch) Z9 oc_enI em_28 (by decide) rfl rfl rfl rfl hS (fun _ => ps0) (hS.rd0 s3_.rd) hf33 (fun A34 c35 w k36 hS => ?_)
 refine Za rfl rfl rfl (Zd Vt rfl) ?_
 refine Zm rfl rfl rfl CellsOf.slice hS ps5 st20_1 (by kernel_rfl) rfl (fun w hS hB => ?_)
 refine Zg ?_
 refine Zb hK29 ?_
 refine Ze (fun K hK37 => ?_)
 refine Zf ?_
 refine Zbp Xl rfl rfl hS (fun b38 w hS hB => ?_)
 refine Za rfl rfl rfl (Zd Jn rfl) ?_
 refine Za rfl rfl rfl (Zh Xt rfl (Zgw _) hS hs6 trivial Zde) ?_
 obtain ⟨l40, hf41, H⟩ := bind_some H
 refine Jt (ys := x0.caps) Z9 oc_enI em_28 (by decide) rfl rfl rfl rfl hS (fun _ => ps0) (hS.rd0 s4_.rd) hf41 (fun A42 c43 w k44 hS => ?_)
 refine Za rfl rfl rfl (Zd Jn rfl) ?_
 refine Zm rfl rfl rfl CellsOf.slice hS ps6 st21_1 (by kernel_rfl) rfl (fun w hS hB => ?_)
 refine Zg ?_
 refine Zb hK37 ?_
 refine Ze (fun K hK45 => ?_)
 refine Zf ?_
 refine Za rfl rfl rfl (Zj Ye rfl (Zgw _) hS hs6 trivial Z3) ?_
 refine Zm rfl rfl rfl CellsOf.agg hS ps5 Yz (by kernel_rfl) rfl (fun w hS hB => ?_)
 refine Zg ?_
 refine Zb hK45 ?_
 refine Zk ?_
 refine Zl rfl (RV.cell rfl (Z0 Ye hS hs5 Z3) RV.nil) rfl ?_
 obtain rfl := QJ H
 have hS := hS.front 0 rfl
 have hS := hS.front 1 rfl
 have hS := hS.front 2 rfl
 have hS := hS.front 3 rfl
 have hS := hS.front 4 rfl
 replace hS := hS.cut 5
 exact ⟨A9, c10, A18, c19, A26, c27, A34, c35, A42, c43, rfl, k11, k20, k28, k36, k44, hS⟩
theorem Zcd (x0 : Int) (w0 : World) {r : Bool} (H : Jh x0 = some r) : Calls Tryz.prog 124 #[.int .i64 x0] w0 fun e w' => e = .returned (.bool r) ∧ St0 All w0 w' [] := by
 unfold Jh at H
 refine Yo Tryz.func124 rfl Tryz.ntmps124 rfl ?_
 have hS := St0.start All w0
 refine Ze (fun K hK1 => ?_)
 refine Zf ?_
 refine Zc 1 rfl ?_
 refine Zg ?_
 refine Zb hK1 ?_
 refine Ze (fun K hK2 => ?_)
 refine Zf ?_
 refine Zc 1 rfl ?_
 refine Za rfl rfl rfl (Zcu rfl rfl) ?_
 refine Zc 1 rfl ?_
 refine Zs 5 rfl (fun hb => ?_) (fun hb => ?_)
 rotate_left
 ·replace H := Zo H hb
  refine Zc 4 rfl ?_
  refine Zg ?_
  refine Zb hK2 ?_
  refine Zk ?_
  refine Zl rfl (RV.tmp rfl RV.nil) rfl ?_
  obtain rfl := QJ H
  replace hS := hS.cut 0
  exact ⟨rfl, hS⟩
 replace H := Zp H hb
 refine Zc 1 rfl ?_
 refine Za rfl rfl rfl (Zbn rfl rfl) ?_
 refine Zc 2 rfl ?_
 refine Zg ?_
 refine Zb hK2 ?_
 refine Zk ?_
 refine Zl rfl (RV.tmp rfl RV.nil) rfl ?_
 obtain rfl := QJ H
 replace hS := hS.cut 0
 exact ⟨rfl, hS⟩
end Go.Proofs.YtamjlcaoieliaaaGreat
