/- Texts of one claim put together. -/
import Derived.Test.YtamjlcaoieliaaaGreatMr1
import Derived.Test.YtamjlcaoieliaaaGreatMr2
import Derived.Test.YtamjlcaoieliaaaGreatMr4
namespace Go.Proofs.YtamjlcaoieliaaaGreat

section
open Go Go.RowKit
set_option maxRecDepth 100000
set_option maxHeartbeats 4000000
theorem Zfq (x0 : Co) (x1 : Int) (A0_ : OA) (c0_ : Nat) (A1_ : OA) (c1_ : Nat) (A2_ : OA) (c2_ : Nat) (A3_ : OA) (c3_ : Nat) (A4_ : OA) (c4_ : Nat) (w0 : World) (s0_ : SlI w0 Jj A0_ c0_ x0.tuple.log) (s1_ : SlI w0 enO A1_ c1_ x0.votes) (s2_ : SlI w0 V1 A2_ c2_ x0.next) (s3_ : SlI w0 V1 A3_ c3_ x0.mtch) (s4_ : SlI w0 V1 A4_ c4_ x0.caps) {r : Ms × Bool} (H : Zb3 x0 x1 = some r) : Calls Tryz.prog 27 #[.agg #[.int .i64 x0.id, .int .i64 x0.n, .int .u8 x0.role, .int .i64 x0.binary, .int .i64 x0.tuple.snap.index, .int .i64 x0.tuple.snap.term, .int .i64 x0.tuple.snap.sum, .int .i64 x0.tuple.snap.level, .bool x0.tuple.snap.final, .slice A0_ x0.tuple.log.length c0_, .int .i64 x0.tuple.term, .int .i64 x0.tuple.vote, .int .i64 x0.commit, .int .i64 x0.applied.index, .int .i64 x0.applied.term, .int .i64 x0.applied.sum, .int .i64 x0.applied.level, .bool x0.applied.final, .slice A1_ x0.votes.length c1_, .slice A2_ x0.next.length c2_, .slice A3_ x0.mtch.length c3_, .slice A4_ x0.caps.length c4_], .int .i64 x1] w0 fun e w' => ∃ (A0 : OA) (c0 : Nat), e = .returned (.tuple #[.agg #[.int .u8 r.1.kind, .int .i64 r.1.frm, .int .i64 r.1.dst, .int .i64 r.1.term, .int .i64 r.1.cap, .int .i64 r.1.last, .int .i64 r.1.lastTerm, .int .i64 r.1.commit, .bool r.1.okk, .slice A0 r.1.entries.length c0, .int .i64 r.1.snap.index, .int .i64 r.1.snap.term, .int .i64 r.1.snap.sum, .int .i64 r.1.snap.level, .bool r.1.snap.final], .bool r.2]) ∧ (r.1.entries.length ≤ c0 ∧ c0 ≤ maxLen) ∧ St0 All w0 w' [.row (.slice A0 r.1.entries.length c0) 53 3 r.1.entries.length (Yl Jj r.1.entries)] := by
 unfold Zb3 at H
 refine Yt Tryz.func27 rfl Tryz.ntmps27 rfl ?_
 have hS := St0.start All w0
 refine Ze (fun K hK1 => ?_)
 refine Zf ?_
 refine Yd rfl rfl rfl CellsOf.agg hS (fun b2 w hS hB => ?_)
 refine Yh rfl rfl Zai hS (fun b4 w hS hB => ?_)
 refine Zc 1 rfl ?_
 refine Zg ?_
 refine Zb hK1 ?_
 refine Ze (fun K hK6 => ?_)
 refine Ze (fun K hK7 => ?_)
 refine Yi 37 [] (fun _ _ => True) ⟨by kernel_rfl, by kernel_rfl⟩ hS (fun w hS hB => ?_)
 refine Zn [true] (by decide +kernel) PFC.h ?_
 refine LtK.put rfl rfl rfl (Zj Ye rfl (Zgx _) hS Xw trivial Z3) ?_
 refine LtK.nil ?_
 refine Z6 [false, true] 1 ⟨by decide, by kernel_rfl, by kernel_rfl⟩ rfl rfl ?_
 try dsimp only [Zy]
 obtain ⟨r8, hm9, H⟩ := bind_some H
 refine Zq rfl rfl rfl rfl (by kernel_rfl) rfl (Zf1 x0 A0_ c0_ A1_ c1_ A2_ c2_ A3_ c3_ A4_ c4_ _ (Zgz s0_.k (hS.rd0 s0_.rd) (hS.blk0 s0_.blk)) (Zgz s1_.k (hS.rd0 s1_.rd) (hS.blk0 s1_.blk)) (Zgz s2_.k (hS.rd0 s2_.rd) (hS.blk0 s2_.blk)) (Zgz s3_.k (hS.rd0 s3_.rd) (hS.blk0 s3_.blk)) (Zgz s4_.k (hS.rd0 s4_.rd) (hS.blk0 s4_.blk)) hm9) ?_
 rintro e w ⟨rfl, hN⟩; refine ⟨_, rfl, ?_⟩; obtain ⟨hB, hS⟩ := hS.jn hN
 refine Zg ?_
 refine Z8 hB ?_
 refine Zn [false, false, true, true] (by decide +kernel) PFC.h ?_
 refine LtK.put rfl rfl rfl (Yy rfl) ?_
 refine LtK.put rfl rfl rfl (Zu rfl) ?_
 refine LtK.nil ?_
 refine Xx 11 rfl (fun hb => ?_) (fun hb => ?_)
 ·replace H := Zp H hb
  refine Zn [false, false, false, false, true, true, true, true, true, true, true, true, true, true, true, true, true, true, true, true, true, true, true, true, true, true, true, true, true, true, true, true, true, true, true, true, true] (by decide +kernel) PFC.h ?_
  refine LtK.skip rfl rfl rfl ?_
  refine LtK.skip rfl rfl rfl ?_
  refine LtK.skip rfl rfl rfl ?_
  refine LtK.put rfl rfl rfl (Ya rfl rfl rfl) ?_
  refine LtK.put rfl rfl rfl (Zu rfl) ?_
  refine LtK.skip rfl rfl rfl ?_
  refine LtK.skip rfl rfl rfl ?_
  refine LtK.put rfl rfl rfl (Ya rfl rfl rfl) ?_
  refine LtK.put rfl rfl rfl (Zu rfl) ?_
  refine LtK.skip rfl rfl rfl ?_
  refine LtK.skip rfl rfl rfl ?_
  refine LtK.skip rfl rfl rfl ?_
  refine LtK.skip rfl rfl rfl ?_
  refine LtK.put rfl rfl rfl (Ya rfl rfl rfl) ?_
  refine LtK.put rfl rfl rfl (Zu rfl) ?_
  refine LtK.skip rfl rfl rfl ?_
  refine LtK.skip rfl rfl rfl ?_
  refine LtK.skip rfl rfl rfl ?_
  refine LtK.skip rfl rfl rfl ?_
  refine LtK.put rfl rfl rfl (Ya rfl rfl rfl) ?_
  refine LtK.put rfl rfl rfl (Zu rfl) ?_
  refine LtK.skip rfl rfl rfl ?_
  refine LtK.skip rfl rfl rfl ?_
  refine LtK.skip rfl rfl rfl ?_
  refine LtK.skip rfl rfl rfl ?_
  refine LtK.skip rfl rfl rfl ?_
  refine LtK.skip rfl rfl rfl ?_
  refine LtK.skip rfl rfl rfl ?_
  refine LtK.skip rfl rfl rfl ?_
  refine LtK.skip rfl rfl rfl ?_
  refine LtK.skip rfl rfl rfl ?_
  refine LtK.skip rfl rfl rfl ?_
  refine LtK.put rfl rfl rfl (Ya rfl rfl rfl) ?_
  refine LtK.nil ?_
  refine Z4 (by kernel_rfl) ?_
  refine Zb hK7 ?_
  refine Zt rfl rfl ?_
  refine Ze (fun K hK10 => ?_)
  refine Zf ?_
  refine Za rfl rfl rfl (Zj Vi rfl (Zgw _) hS hs0 trivial Xp) ?_
  refine Zm rfl rfl rfl CellsOf.agg hS ps0 Ze5 (by kernel_rfl) rfl (fun w hS hB => ?_)
  refine Zc 1 rfl ?_
  refine Zg ?_
  refine Zb hK10 ?_
  refine Zk ?_
  refine Zi ?_
  refine Zl rfl (RV.cell rfl (Z0 Vi hS hs0 Xp) (RV.tmp rfl RV.nil)) rfl ?_
  obtain rfl := QJ H
  have hS := hS.nilRow 53 3
  replace hS := hS.cut 1
  exact ⟨none, 0, rfl, ⟨Nat.le_refl _, Nat.zero_le _⟩, hS⟩
 replace H := Zo H hb
 refine Zn [false, false, false, false, true, true, true, true, true] (by decide +kernel) PFC.h ?_
 refine LtK.put rfl rfl rfl (Zd Zb0 rfl) ?_
 refine LtK.put rfl rfl rfl (Zh Zbd rfl (Zgx _) hS Xw trivial Zav) ?_
 refine LtK.put rfl rfl rfl (Xh rfl rfl) ?_
 refine LtK.put rfl rfl rfl (Yc rfl rfl rfl) ?_
 refine LtK.put rfl rfl rfl (Zu rfl) ?_
 refine LtK.nil ?_
 refine Xx 16 rfl (fun hb => ?_) (fun hb => ?_)
 ·replace H := Zp H hb
  refine Zn [false, false, false, false, false, false, false, false, false, true, true, true, true, true, true, true, true, true, true, true, true, true, true, true, true, true, true, true, true, true, true, true, true, true, true, true, true] (by decide +kernel) PFC.h ?_
  refine LtK.skip rfl rfl rfl ?_
  refine LtK.skip rfl rfl rfl ?_
  refine LtK.put rfl rfl rfl (Ya rfl rfl rfl) ?_
  refine LtK.put rfl rfl rfl (Zu rfl) ?_
  refine LtK.skip rfl rfl rfl ?_
  refine LtK.skip rfl rfl rfl ?_
  refine LtK.skip rfl rfl rfl ?_
  refine LtK.skip rfl rfl rfl ?_
  refine LtK.put rfl rfl rfl (Ya rfl rfl rfl) ?_
  refine LtK.put rfl rfl rfl (Zu rfl) ?_
  refine LtK.skip rfl rfl rfl ?_
  refine LtK.skip rfl rfl rfl ?_
  refine LtK.skip rfl rfl rfl ?_
  refine LtK.skip rfl rfl rfl ?_
  refine LtK.put rfl rfl rfl (Ya rfl rfl rfl) ?_
  refine LtK.put rfl rfl rfl (Zu rfl) ?_
  refine LtK.skip rfl rfl rfl ?_
  refine LtK.skip rfl rfl rfl ?_
  refine LtK.skip rfl rfl rfl ?_
  refine LtK.skip rfl rfl rfl ?_
  refine LtK.skip rfl rfl rfl ?_
  refine LtK.skip rfl rfl rfl ?_
  refine LtK.skip rfl rfl rfl ?_
  refine LtK.skip rfl rfl rfl ?_
  refine LtK.skip rfl rfl rfl ?_
  refine LtK.skip rfl rfl rfl ?_
  refine LtK.skip rfl rfl rfl ?_
  refine LtK.put rfl rfl rfl (Ya rfl rfl rfl) ?_
  refine LtK.nil ?_
  refine Z4 (by kernel_rfl) ?_
  refine Zb hK7 ?_
  refine Zt rfl rfl ?_
  refine Ze (fun K hK11 => ?_)
  refine Zf ?_
  refine Za rfl rfl rfl (Zj Vi rfl (Zgw _) hS hs0 trivial Xp) ?_
  refine Zm rfl rfl rfl CellsOf.agg hS ps0 Ze5 (by kernel_rfl) rfl (fun w hS hB => ?_)
  refine Zc 1 rfl ?_
  refine Zg ?_
  refine Zb hK11 ?_
  refine Zk ?_
  refine Zi ?_
  refine Zl rfl (RV.cell rfl (Z0 Vi hS hs0 Xp) (RV.tmp rfl RV.nil)) rfl ?_
  obtain rfl := QJ H
  have hS := hS.nilRow 53 3
  replace hS := hS.cut 1
  exact ⟨none, 0, rfl, ⟨Nat.le_refl _, Nat.zero_le _⟩, hS⟩
 replace H := Zo H hb
 refine Zn [false, false, false, false, false, false, false, false, false, true, true, true, true] (by decide +kernel) PFC.h ?_
 refine LtK.put rfl rfl rfl (Zu rfl) ?_
 refine LtK.put rfl rfl rfl (Xe rfl rfl) ?_
 refine LtK.put rfl rfl rfl (Yc rfl rfl rfl) ?_
 refine LtK.put rfl rfl rfl (Zu rfl) ?_
 refine LtK.nil ?_
 refine Xx 20 rfl (fun hb => ?_) (fun hb => ?_)
 ·replace H := Zp H hb
  refine Zn [false, false, false, false, false, false, false, false, false, false, false, false, false, true, true, true, true, true, true, true, true, true, true, true, true, true, true, true, true, true, true, true, true, true, true, true, true] (by decide +kernel) PFC.h ?_
  refine LtK.skip rfl rfl rfl ?_
  refine LtK.skip rfl rfl rfl ?_
  refine LtK.skip rfl rfl rfl ?_
  refine LtK.skip rfl rfl rfl ?_
  refine LtK.put rfl rfl rfl (Ya rfl rfl rfl) ?_
  refine LtK.put rfl rfl rfl (Zu rfl) ?_
  refine LtK.skip rfl rfl rfl ?_
  refine LtK.skip rfl rfl rfl ?_
  refine LtK.skip rfl rfl rfl ?_
  refine LtK.skip rfl rfl rfl ?_
  refine LtK.put rfl rfl rfl (Ya rfl rfl rfl) ?_
  refine LtK.put rfl rfl rfl (Zu rfl) ?_
  refine LtK.skip rfl rfl rfl ?_
  refine LtK.skip rfl rfl rfl ?_
  refine LtK.skip rfl rfl rfl ?_
  refine LtK.skip rfl rfl rfl ?_
  refine LtK.skip rfl rfl rfl ?_
  refine LtK.skip rfl rfl rfl ?_
  refine LtK.skip rfl rfl rfl ?_
  refine LtK.skip rfl rfl rfl ?_
  refine LtK.skip rfl rfl rfl ?_
  refine LtK.skip rfl rfl rfl ?_
  refine LtK.skip rfl rfl rfl ?_
  refine LtK.put rfl rfl rfl (Ya rfl rfl rfl) ?_
  refine LtK.nil ?_
  refine Z4 (by kernel_rfl) ?_
  refine Zb hK7 ?_
  refine Zt rfl rfl ?_
  refine Ze (fun K hK12 => ?_)
  refine Zf ?_
  refine Za rfl rfl rfl (Zj Vi rfl (Zgw _) hS hs0 trivial Xp) ?_
  refine Zm rfl rfl rfl CellsOf.agg hS ps0 Ze5 (by kernel_rfl) rfl (fun w hS hB => ?_)
  refine Zc 1 rfl ?_
  refine Zg ?_
  refine Zb hK12 ?_
  refine Zk ?_
  refine Zi ?_
  refine Zl rfl (RV.cell rfl (Z0 Vi hS hs0 Xp) (RV.tmp rfl RV.nil)) rfl ?_
  obtain rfl := QJ H
  have hS := hS.nilRow 53 3
  replace hS := hS.cut 1
  exact ⟨none, 0, rfl, ⟨Nat.le_refl _, Nat.zero_le _⟩, hS⟩
 replace H := Zo H hb
 refine Zn [false, false, false, false, false, false, false, false, false, false, false, false, false, true, true, true, true, true, true] (by decide +kernel) PFC.h ?_
 refine LtK.put rfl rfl rfl (Zu rfl) ?_
 refine LtK.put rfl rfl rfl (Zd Ja rfl) ?_
 refine LtK.put rfl rfl rfl (Zh Zw rfl (Zgx _) hS Xw trivial Vp) ?_
 refine LtK.put rfl rfl rfl (Y9 rfl rfl) ?_
 refine LtK.put rfl rfl rfl (Yc rfl rfl rfl) ?_
 refine LtK.put rfl rfl rfl (Zu rfl) ?_
 refine LtK.nil ?_
 refine Xx 26 rfl (fun hb => ?_) (fun hb => ?_)
 ·replace H := Zp H hb
  refine Zn [false, false, false, false, false, false, false, false, false, false, false, false, false, false, false, false, false, false, false, true, true, true, true, true, true, true, true, true, true, true, true, true, true, true, true, true, true] (by decide +kernel) PFC.h ?_
  refine LtK.skip rfl rfl rfl ?_
  refine LtK.skip rfl rfl rfl ?_
  refine LtK.skip rfl rfl rfl ?_
  refine LtK.skip rfl rfl rfl ?_
  refine LtK.put rfl rfl rfl (Ya rfl rfl rfl) ?_
  refine LtK.put rfl rfl rfl (Zu rfl) ?_
  refine LtK.skip rfl rfl rfl ?_
  refine LtK.skip rfl rfl rfl ?_
  refine LtK.skip rfl rfl rfl ?_
  refine LtK.skip rfl rfl rfl ?_
  refine LtK.skip rfl rfl rfl ?_
  refine LtK.skip rfl rfl rfl ?_
  refine LtK.skip rfl rfl rfl ?_
  refine LtK.skip rfl rfl rfl ?_
  refine LtK.skip rfl rfl rfl ?_
  refine LtK.skip rfl rfl rfl ?_
  refine LtK.skip rfl rfl rfl ?_
  refine LtK.put rfl rfl rfl (Ya rfl rfl rfl) ?_
  refine LtK.nil ?_
  refine Z4 (by kernel_rfl) ?_
  refine Zb hK7 ?_
  refine Zt rfl rfl ?_
  refine Ze (fun K hK13 => ?_)
  refine Zf ?_
  refine Za rfl rfl rfl (Zj Vi rfl (Zgw _) hS hs0 trivial Xp) ?_
  refine Zm rfl rfl rfl CellsOf.agg hS ps0 Ze5 (by kernel_rfl) rfl (fun w hS hB => ?_)
  refine Zc 1 rfl ?_
  refine Zg ?_
  refine Zb hK13 ?_
  refine Zk ?_
  refine Zi ?_
  refine Zl rfl (RV.cell rfl (Z0 Vi hS hs0 Xp) (RV.tmp rfl RV.nil)) rfl ?_
  obtain rfl := QJ H
  have hS := hS.nilRow 53 3
  replace hS := hS.cut 1
  exact ⟨none, 0, rfl, ⟨Nat.le_refl _, Nat.zero_le _⟩, hS⟩
 replace H := Zo H hb
 refine Zn [false, false, false, false, false, false, false, false, false, false, false, false, false, false, false, false, false, false, false, true, true, true, true, true, true] (by decide +kernel) PFC.h ?_
 refine LtK.put rfl rfl rfl (Zu rfl) ?_
 refine LtK.put rfl rfl rfl (Zd Zbb rfl) ?_
 refine LtK.put rfl rfl rfl (Zh Zw rfl (Zgx _) hS Xw trivial Y8) ?_
 refine LtK.put rfl rfl rfl (Y5 rfl rfl) ?_
 refine LtK.put rfl rfl rfl (Yc rfl rfl rfl) ?_
 refine LtK.put rfl rfl rfl (Zu rfl) ?_
 refine LtK.nil ?_
 refine Xx 32 rfl (fun hb => ?_) (fun hb => ?_)
 ·replace H := Zp H hb
  refine Zn [false, false, false, false, false, false, false, false, false, false, false, false, false, false, false, false, false, false, false, false, false, false, false, false, false, true, true, true, true, true, true, true, true, true, true, true, true] (by decide +kernel) PFC.h ?_
  refine LtK.skip rfl rfl rfl ?_
  refine LtK.skip rfl rfl rfl ?_
  refine LtK.skip rfl rfl rfl ?_
  refine LtK.skip rfl rfl rfl ?_
  refine LtK.skip rfl rfl rfl ?_
  refine LtK.skip rfl rfl rfl ?_
  refine LtK.skip rfl rfl rfl ?_
  refine LtK.skip rfl rfl rfl ?_
  refine LtK.skip rfl rfl rfl ?_
  refine LtK.skip rfl rfl rfl ?_
  refine LtK.skip rfl rfl rfl ?_
  refine LtK.put rfl rfl rfl (Ya rfl rfl rfl) ?_
  refine LtK.nil ?_
  refine Z4 (by kernel_rfl) ?_
  refine Zb hK7 ?_
  refine Zt rfl rfl ?_
  refine Ze (fun K hK14 => ?_)
  refine Zf ?_
  refine Za rfl rfl rfl (Zj Vi rfl (Zgw _) hS hs0 trivial Xp) ?_
  refine Zm rfl rfl rfl CellsOf.agg hS ps0 Ze5 (by kernel_rfl) rfl (fun w hS hB => ?_)
  refine Zc 1 rfl ?_
  refine Zg ?_
  refine Zb hK14 ?_
  refine Zk ?_
  refine Zi ?_
  refine Zl rfl (RV.cell rfl (Z0 Vi hS hs0 Xp) (RV.tmp rfl RV.nil)) rfl ?_
  obtain rfl := QJ H
  have hS := hS.nilRow 53 3
  replace hS := hS.cut 1
  exact ⟨none, 0, rfl, ⟨Nat.le_refl _, Nat.zero_le _⟩, hS⟩
 replace H := Zo H hb
 refine Zn [false, false, false, false, false, false, false, false, false, false, false, false, false, false, false, false, false, false, false, false, false, false, false, false, false, true, true, true, true, true, true, true, true, true, true, true, true] (by decide +kernel) PFC.h ?_
 refine LtK.put rfl rfl rfl (Zd Vo rfl) ?_
 refine LtK.put rfl rfl rfl (Zh Xt rfl (Zgx _) hS Xw trivial Jr) ?_
 refine LtK.put rfl rfl rfl (Zu rfl) ?_
 refine LtK.put rfl rfl rfl (Za6 rfl rfl) ?_
 obtain ⟨e15, hi17, H⟩ := bind_some H
 obtain ⟨j16, hi17a, hi17b, hi17c⟩ := Ym hi17
 refine LtK.put rfl rfl rfl (Y1 Xl rfl rfl hi17a hi17c (Rd.el (hS.rd0 s2_.rd) Z9 hi17b)) ?_
 refine LtK.put rfl rfl rfl (Xn Zw rfl (Zgx _) (Rd.el (hS.rd0 s2_.rd) Z9 hi17b) rfl) ?_
 refine LtK.put rfl rfl rfl (Zd Yr rfl) ?_
 refine LtK.put rfl rfl rfl (Zd Xj rfl) ?_
 refine LtK.put rfl rfl rfl (Zd Yj rfl) ?_
 refine LtK.put rfl rfl rfl (Zh Zw rfl (Zgx _) hS Xw trivial Zew) ?_
 refine LtK.put rfl rfl rfl (Zbn rfl rfl) ?_
 refine LtK.put rfl rfl rfl (Yc rfl rfl rfl) ?_
 refine LtK.nil ?_
 refine Z4 (by kernel_rfl) ?_
 refine Zb hK7 ?_
 refine Zz rfl (fun hb => ?_) (fun hb => ?_)
 ·replace H := Zp H hb
  refine Ze (fun K hK18 => ?_)
  refine Zf ?_
  refine Za rfl rfl rfl (Zj Vi rfl (Zgw _) hS hs0 trivial Xp) ?_
  refine Zm rfl rfl rfl CellsOf.agg hS ps0 Ze5 (by kernel_rfl) rfl (fun w hS hB => ?_)
  refine Zc 1 rfl ?_
  refine Zg ?_
  refine Zb hK18 ?_
  refine Zk ?_
  refine Zi ?_
  refine Zl rfl (RV.cell rfl (Z0 Vi hS hs0 Xp) (RV.tmp rfl RV.nil)) rfl ?_
  obtain rfl := QJ H
  have hS := hS.nilRow 53 3
  replace hS := hS.cut 1
  exact ⟨none, 0, rfl, ⟨Nat.le_refl _, Nat.zero_le _⟩, hS⟩
 replace H := Zo H hb
 refine Zr ?_
 refine Zb hK6 ?_
 refine Ze (fun K hK19 => ?_)
 refine Zf ?_
 refine Za rfl rfl rfl (Zd Vo rfl) ?_
 refine Za rfl rfl rfl (Zh Xt rfl (Zgw _) hS Xw trivial Jr) ?_
 refine Zc 1 rfl ?_
 refine Za rfl rfl rfl (Za6 rfl rfl) ?_
 obtain ⟨e20, hi22, H⟩ := bind_some H
 obtain ⟨j21, hi22a, hi22b, hi22c⟩ := Ym hi22
 refine Za rfl rfl rfl (Y1 Xl rfl rfl hi22a hi22c (Rd.el (hS.rd0 s2_.rd) Z9 hi22b)) ?_
 refine Za rfl rfl rfl (Xn Zw rfl (Zgw _) (Rd.el (hS.rd0 s2_.rd) Z9 hi22b) rfl) ?_
 refine Zc 1 rfl ?_
 refine Zg ?_
 refine Zb hK19 ?_
 refine Ze (fun K hK23 => ?_)
 refine Zf ?_
 refine Za rfl rfl rfl (Zd Zbb rfl) ?_
 refine Za rfl rfl rfl (Zh Zw rfl (Zgw _) hS Xw trivial Y8) ?_
 refine Zc 1 rfl ?_
 refine Za rfl rfl rfl (Zd Yr rfl) ?_
 refine Za rfl rfl rfl (Zd Vr rfl) ?_
 refine Za rfl rfl rfl (Zh Zw rfl (Zgw _) hS Xw trivial J7) ?_
 refine Za rfl rfl rfl (Zd Zej rfl) ?_
 refine Za rfl rfl rfl (Zh Zw rfl (Zgw _) hS Xw trivial Zan) ?_
 refine Zc 1 rfl ?_
 refine Za rfl rfl rfl (Za6 rfl rfl) ?_
 refine Za rfl rfl rfl (Zd Vd rfl) ?_
 refine Za rfl rfl rfl (Zh Zw rfl (Zgw _) hS Xw trivial Jl) ?_
 refine Za rfl rfl rfl (X1 (cells := [.int .u8 3, .int .i64 x0.id, .int .i64 x1, .int .i64 x0.tuple.term, .int .i64 x0.binary, .int .i64 (IntKind.wrap .i64 (e20 - 1)), .int .i64 0, .int .i64 x0.commit, .bool false, .slice none 0 0, .int .i64 0, .int .i64 0, .int .i64 0, .int .i64 0, .bool false]) rfl (by kernel_rfl)) ?_
 refine Zm rfl rfl rfl CellsOf.agg hS ps0 Ze5 (by kernel_rfl) rfl (fun w hS hB => ?_)
 refine Zg ?_
 refine Zb hK23 ?_
 refine Ze (fun K hK24 => ?_)
 refine Zf ?_
 refine Za rfl rfl rfl (Zd Yr rfl) ?_
 refine Za rfl rfl rfl (Zj Y7 rfl (Zgw _) hS Xw trivial Zak) ?_
 refine Za rfl rfl rfl (Zd Vu rfl) ?_
 refine Za rfl rfl rfl (Zh Zw rfl (Zgw _) hS hs0 trivial V7) ?_
 obtain ⟨r25, hm26, H⟩ := bind_some H
 refine Zq rfl rfl rfl rfl (by kernel_rfl) rfl (Zfp x0.tuple (IntKind.wrap .i64 (e20 - 1)) A0_ c0_ _ (Zgz s0_.k (hS.rd0 s0_.rd) (hS.blk0 s0_.blk)) hm26) ?_
 rintro e w ⟨rfl, hN⟩; refine ⟨_, rfl, ?_⟩; obtain ⟨hB, hS⟩ := hS.jn hN
 refine Zc 1 rfl ?_
 refine Za rfl rfl rfl (Z7 rfl rfl) ?_
 refine Za rfl rfl rfl (Z7 rfl rfl) ?_
 refine Za rfl rfl rfl (Zd Zf4 rfl) ?_
 refine Zm rfl rfl rfl CellsOf.int hS ps0 st6_1 (by kernel_rfl) rfl (fun w hS hB => ?_)
 refine Zg ?_
 refine Zb hK24 ?_
 refine Ze (fun K hK27 => ?_)
 refine Ze (fun K hK28 => ?_)
 refine Zf ?_
 refine Za rfl rfl rfl (Zd Yr rfl) ?_
 refine Za rfl rfl rfl (Zj Y7 rfl (Zgw _) hS Xw trivial Zak) ?_
 refine Zc 1 rfl ?_
 have hM29 := hS
 refine Zq rfl rfl rfl rfl (by kernel_rfl) rfl (c_repl_from x0.tuple e20 4 A0_ c0_ _ (Zgz s0_.k (hS.rd0 s0_.rd) (hS.blk0 s0_.blk))) ?_
 rintro e w ⟨b31, b32, b33, rfl, hN30⟩; refine ⟨_, rfl, ?_⟩; have hB := hN30.pure; have hS := hS.join hN30
 refine Zg ?_
 refine Zb hK28 ?_
 refine Yf ?_
 replace hS := hS.nilRow 53 3
 replace hM29 := hM29.nilRow 53 3
 obtain ⟨xs43, hx44, H⟩ := bind_some H
 refine wpC_range (w0 := w0) (X := List En × OA × Nat) rfl (by kernel_rfl) (it_from x0.tuple e20 4 _ _ _ s0_ hM29.pure b31 b32 b33 hN30 hx44) ⟨hM29.size, hN30.size⟩ (fun _ => rfl) (by kernel_rfl) (fun k x => .row (.slice x.2.1 x.1.length x.2.2) 53 3 x.1.length (Yl Jj x.1) :: .box b4 [.int .u8 3, .int .i64 x0.id, .int .i64 x1, .int .i64 x0.tuple.term, .int .i64 x0.binary, .int .i64 (IntKind.wrap .i64 (e20 - 1)), .int .i64 r25.1, .int .i64 x0.commit, .bool false, .slice x.2.1 x.1.length x.2.2, .int .i64 0, .int .i64 0, .int .i64 0, .int .i64 0, .bool false] 32 :: .box b2 [.int .i64 x0.id, .int .i64 x0.n, .int .u8 x0.role, .int .i64 x0.binary, .int .i64 x0.tuple.snap.index, .int .i64 x0.tuple.snap.term, .int .i64 x0.tuple.snap.sum, .int .i64 x0.tuple.snap.level, .bool x0.tuple.snap.final, .slice A0_ x0.tuple.log.length c0_, .int .i64 x0.tuple.term, .int .i64 x0.tuple.vote, .int .i64 x0.commit, .int .i64 x0.applied.index, .int .i64 x0.applied.term, .int .i64 x0.applied.sum, .int .i64 x0.applied.level, .bool x0.applied.final, .slice A1_ x0.votes.length c1_, .slice A2_ x0.next.length c2_, .slice A3_ x0.mtch.length c3_, .slice A4_ x0.caps.length c4_] 30 :: []) (fun k x => (x.1.length ≤ x.2.2 ∧ x.2.2 ≤ maxLen) ∧ Zau x0 x1 e20 r25 (xs43.drop k) x.1 = some r) (fun _ _ => []) (fun _ _ => False) (fun _ => False) ([], none, 0) ⟨hS.sub (List.Sublist.cons_cons _ (List.Sublist.cons _ (List.Sublist.cons _ (List.Sublist.cons _ (List.Sublist.cons_cons _ (List.Sublist.cons_cons _ List.Sublist.slnil)))))), fun e he k hk => .inl (hM29.rng e he k hk).1⟩ ⟨⟨Nat.le_refl _, Nat.zero_le _⟩, H⟩ ?_ ?_ (fun _ _ _ h _ => h.elim) (fun _ _ h _ => h.elim)
 ·rintro lo k e37 ⟨v38, A39, c40⟩ A hke ⟨k41, H⟩ hzB hRB hS
  dsimp only at hRB k41 H ⊢
  rw [drop_of_get hke, Zau] at H
  dsimp only [List.zip, List.zipWith, List.foldl]
  refine Zbg (by repeat (first | exact NL.round | exact NL.false | exact NL.body (by intro _ h; simp at h) | apply NL.then | apply NL.inBlock | apply NL.jump)) (by kernel_rfl) ?_
  refine Yh rfl rfl Zcr hS (fun b45 w hS hB => ?_)
  refine Zm rfl rfl rfl CellsOf.agg hS ps0 Zf8 (by kernel_rfl) rfl (fun w hS hB => ?_)
  refine Zg ?_
  refine QH_asg hS ?_
  rintro A2 hS hBase hE
  dsimp only [List.cons_append, List.nil_append] at hS
  refine Yf ?_
  refine Zbg (by repeat (first | exact NL.round | exact NL.false | exact NL.body (by intro _ h; simp at h) | apply NL.then | apply NL.inBlock | apply NL.jump)) (by kernel_rfl) ?_
  refine Za rfl rfl rfl (Zd X5 rfl) ?_
  refine Za rfl rfl rfl (Zh Xq rfl (Zgw _) hS Vf trivial Jg) ?_
  refine Za rfl rfl rfl (Zj V8 rfl (Zgw _) hS hs0 trivial Zb8) ?_
  refine Y0 (ps := [(0, .tmp 81)]) [.int .i64 e37.term, .int .i64 e37.kind, .int .i64 e37.value] Y4 Zcr rfl rfl rfl rfl rfl (by kernel_rfl) hS (fun b47 w hS hB => ?_)
  obtain ⟨l49, hf50, H⟩ := bind_some H
  refine Jt (ys := ([e37] : List En)) X6 oc_enE em_24 (by decide) rfl rfl rfl rfl hS (fun _ => ps2) (hS.box_rd hs0) hf50 (fun A51 c52 w k53 hS => ?_)
  refine Za rfl rfl rfl (Zd X5 rfl) ?_
  refine Zm rfl rfl rfl CellsOf.slice hS ps3 st9_1 (by kernel_rfl) rfl (fun w hS hB => ?_)
  refine Zg ?_
  refine Z1 ?_
  exact QH_round hBase hE hS (l49, A51, c52) (List.Sublist.cons _ (List.Sublist.cons _ (List.Sublist.cons_cons _ (List.Sublist.cons_cons _ (List.Sublist.cons_cons _ List.Sublist.slnil))))) ⟨k53, H⟩
 ·rintro ⟨v38, A39, c40⟩ A ⟨k41, H⟩ hS
  dsimp only at hS k41 H ⊢
  rw [List.drop_length, Zau] at H
  refine Z1 ?_
  refine Zb hK27 ?_
  refine Ze (fun K hK55 => ?_)
  refine Zf ?_
  refine Za rfl rfl rfl (Zj Vi rfl (Zgw _) hS Vf trivial Xp) ?_
  refine Zm rfl rfl rfl CellsOf.agg hS ps2 Ze5 (by kernel_rfl) rfl (fun w hS hB => ?_)
  refine Zc 1 rfl ?_
  refine Zg ?_
  refine Zb hK55 ?_
  refine Zk ?_
  refine QH_shut (.inl rfl) hS ps0 (fun w hS => ?_)
  replace hS := hS.sub (List.Sublist.cons _ (List.Sublist.cons_cons _ (List.Sublist.cons_cons _ (List.Sublist.cons_cons _ List.Sublist.slnil))))
  refine Zl rfl (RV.cell rfl (Z0 Vi hS Xw Xp) (RV.tmp rfl RV.nil)) rfl ?_
  obtain rfl := QJ H
  have hS := hS.front 0 rfl
  replace hS := hS.cut 1
  exact ⟨A39, c40, rfl, k41, hS⟩
theorem c_repl_indexes (x0 : Ms) (A0_ : OA) (c0_ : Nat) (w0 : World) (s0_ : SlI w0 Jj A0_ c0_ x0.entries) : Calls Tryz.prog 117 #[.agg #[.int .u8 x0.kind, .int .i64 x0.frm, .int .i64 x0.dst, .int .i64 x0.term, .int .i64 x0.cap, .int .i64 x0.last, .int .i64 x0.lastTerm, .int .i64 x0.commit, .bool x0.okk, .slice A0_ x0.entries.length c0_, .int .i64 x0.snap.index, .int .i64 x0.snap.term, .int .i64 x0.snap.sum, .int .i64 x0.snap.level, .bool x0.snap.final]] w0 fun e w' => ∃ (b0_ : Nat), e = .returned (.func (.func 136) #[] #[.pointer (some ⟨b0_, 0, none⟩)]) ∧ St0 All w0 w' [.box b0_ [.int .u8 x0.kind, .int .i64 x0.frm, .int .i64 x0.dst, .int .i64 x0.term, .int .i64 x0.cap, .int .i64 x0.last, .int .i64 x0.lastTerm, .int .i64 x0.commit, .bool x0.okk, .slice A0_ x0.entries.length c0_, .int .i64 x0.snap.index, .int .i64 x0.snap.term, .int .i64 x0.snap.sum, .int .i64 x0.snap.level, .bool x0.snap.final] 32] := by
 refine Yo Tryz.func117 rfl Tryz.ntmps117 rfl ?_
 have hS := St0.start All w0
 refine Ze (fun K hK1 => ?_)
 refine Zf ?_
 refine Yd rfl rfl rfl CellsOf.agg hS (fun b2 w hS hB => ?_)
 refine Zc 1 rfl ?_
 refine Zg ?_
 refine Zb hK1 ?_
 refine Ze (fun K hK4 => ?_)
 refine Zf ?_
 refine Za rfl rfl rfl (X8 rfl rfl) ?_
 refine Zc 1 rfl ?_
 refine Zg ?_
 refine Zb hK4 ?_
 refine Zk ?_
 refine Zl rfl (RV.tmp rfl RV.nil) rfl ?_
 exact ⟨b2, rfl, hS.sub (List.Sublist.cons_cons _ List.Sublist.slnil)⟩
theorem c_repl_other (x0 : Co) (x1 : Ms) (A0_ : OA) (c0_ : Nat) (A1_ : OA) (c1_ : Nat) (A2_ : OA) (c2_ : Nat) (A3_ : OA) (c3_ : Nat) (A4_ : OA) (c4_ : Nat) (A5_ : OA) (c5_ : Nat) (w0 : World) (s0_ : SlI w0 Jj A0_ c0_ x0.tuple.log) (s1_ : SlI w0 enO A1_ c1_ x0.votes) (s2_ : SlI w0 V1 A2_ c2_ x0.next) (s3_ : SlI w0 V1 A3_ c3_ x0.mtch) (s4_ : SlI w0 V1 A4_ c4_ x0.caps) (s5_ : SlI w0 Jj A5_ c5_ x1.entries) {r : Int} (H : Zbo x0 x1 = some r) : Calls Tryz.prog 74 #[.agg #[.int .i64 x0.id, .int .i64 x0.n, .int .u8 x0.role, .int .i64 x0.binary, .int .i64 x0.tuple.snap.index, .int .i64 x0.tuple.snap.term, .int .i64 x0.tuple.snap.sum, .int .i64 x0.tuple.snap.level, .bool x0.tuple.snap.final, .slice A0_ x0.tuple.log.length c0_, .int .i64 x0.tuple.term, .int .i64 x0.tuple.vote, .int .i64 x0.commit, .int .i64 x0.applied.index, .int .i64 x0.applied.term, .int .i64 x0.applied.sum, .int .i64 x0.applied.level, .bool x0.applied.final, .slice A1_ x0.votes.length c1_, .slice A2_ x0.next.length c2_, .slice A3_ x0.mtch.length c3_, .slice A4_ x0.caps.length c4_], .agg #[.int .u8 x1.kind, .int .i64 x1.frm, .int .i64 x1.dst, .int .i64 x1.term, .int .i64 x1.cap, .int .i64 x1.last, .int .i64 x1.lastTerm, .int .i64 x1.commit, .bool x1.okk, .slice A5_ x1.entries.length c5_, .int .i64 x1.snap.index, .int .i64 x1.snap.term, .int .i64 x1.snap.sum, .int .i64 x1.snap.level, .bool x1.snap.final]] w0 fun e w' => e = .returned (.int .i64 r) ∧ St0 All w0 w' [] := by
 unfold Zbo at H
 refine Yt Tryz.func74 rfl Tryz.ntmps74 rfl ?_
 have hS := St0.start All w0
 refine Ze (fun K hK1 => ?_)
 refine Zf ?_
 refine Yd rfl rfl rfl CellsOf.agg hS (fun b2 w hS hB => ?_)
 refine Yd rfl rfl rfl CellsOf.agg hS (fun b4 w hS hB => ?_)
 refine Zc 1 rfl ?_
 refine Zg ?_
 refine Zb hK1 ?_
 refine Ze (fun K hK6 => ?_)
 refine Zf ?_
 refine Za rfl rfl rfl (Zj Vi rfl (Zgw _) hS hs0 trivial Xp) ?_
 have hM7 := hS
 refine Zq rfl rfl rfl rfl (by kernel_rfl) rfl (c_repl_indexes x1 A5_ c5_ _ (Zgz s5_.k (hS.rd0 s5_.rd) (hS.blk0 s5_.blk))) ?_
 rintro e w ⟨b9, rfl, hN8⟩; refine ⟨_, rfl, ?_⟩; have hB := hN8.pure; have hS := hS.join hN8
 obtain ⟨xs11, hx12, H⟩ := bind_some H
 obtain ⟨l13, hf14, H⟩ := bind_some H
 refine Zq rfl rfl rfl rfl (by kernel_rfl) rfl (c_slices_Collect _ _ xs11 _ (by kernel_rfl) (fun w' hB' => it_indexes x1 _ _ w' b9 ((hS.below hB').ok _ hs0.mem) (hS.rng _ hs0.mem b9 rfl).1 hx12) (Zd9 hf14).2) ?_
 rintro e w ⟨A15, c16, rfl, k17, hN⟩; refine ⟨_, rfl, ?_⟩; obtain ⟨hB, hS⟩ := hS.jn hN
 refine Za rfl rfl rfl (X8 rfl rfl) ?_
 refine Zbw rfl rfl rfl rfl (by kernel_rfl) rfl ?_
 show Calls _ _ #[_, _] _ _
 refine Yt Tryz.func115 rfl Tryz.ntmps115 rfl ?_
 refine Ze (fun K hK19 => ?_)
 refine Zf ?_
 refine Zc 1 rfl ?_
 refine Zg ?_
 refine Zb hK19 ?_
 refine Ze (fun K hK20 => ?_)
 refine Ze (fun K hK21 => ?_)
 refine Zf ?_
 refine Zc 1 rfl ?_
 refine Za rfl rfl rfl (Yw Xl rfl) ?_
 refine Zc 1 rfl ?_
 refine Zg ?_
 refine Zb hK21 ?_
 refine Yf ?_
 refine Vz (X := Nat × Int × Int) (fun x => (0, .slice A15 xs11.length c16) :: (1, .func (.func 118) #[] #[.pointer (some ⟨b2, 0, none⟩), .pointer (some ⟨b4, 0, none⟩)]) :: (4, .int .i64 x.2.1) :: (7, .int .i64 (xs11.length : Int)) :: (8, .int .i64 x.2.2) :: []) (fun x w => St0 All w0 w (.row (.slice A15 xs11.length c16) 3 1 xs11.length (Yl V1 xs11) :: .box b9 [.int .u8 x1.kind, .int .i64 x1.frm, .int .i64 x1.dst, .int .i64 x1.term, .int .i64 x1.cap, .int .i64 x1.last, .int .i64 x1.lastTerm, .int .i64 x1.commit, .bool x1.okk, .slice A5_ x1.entries.length c5_, .int .i64 x1.snap.index, .int .i64 x1.snap.term, .int .i64 x1.snap.sum, .int .i64 x1.snap.level, .bool x1.snap.final] 32 :: .box b4 [.int .u8 x1.kind, .int .i64 x1.frm, .int .i64 x1.dst, .int .i64 x1.term, .int .i64 x1.cap, .int .i64 x1.last, .int .i64 x1.lastTerm, .int .i64 x1.commit, .bool x1.okk, .slice A5_ x1.entries.length c5_, .int .i64 x1.snap.index, .int .i64 x1.snap.term, .int .i64 x1.snap.sum, .int .i64 x1.snap.level, .bool x1.snap.final] 32 :: .box b2 [.int .i64 x0.id, .int .i64 x0.n, .int .u8 x0.role, .int .i64 x0.binary, .int .i64 x0.tuple.snap.index, .int .i64 x0.tuple.snap.term, .int .i64 x0.tuple.snap.sum, .int .i64 x0.tuple.snap.level, .bool x0.tuple.snap.final, .slice A0_ x0.tuple.log.length c0_, .int .i64 x0.tuple.term, .int .i64 x0.tuple.vote, .int .i64 x0.commit, .int .i64 x0.applied.index, .int .i64 x0.applied.term, .int .i64 x0.applied.sum, .int .i64 x0.applied.level, .bool x0.applied.final, .slice A1_ x0.votes.length c1_, .slice A2_ x0.next.length c2_, .slice A3_ x0.mtch.length c3_, .slice A4_ x0.caps.length c4_] 30 :: []) ∧ V5 x0 x1 xs11 x.1 x.2.1 x.2.2 = some r) (fun x => x.1) (Xo, 0, 0) (by repeat (first | exact Sub.nil | refine Sub.cons rfl ?_)) ⟨hS, H⟩ ?_
 rintro ⟨n, v22, v23⟩ w ⟨hS, H⟩
 dsimp only at hS H ⊢
 obtain _ | n := n
 ·have H0 : none = some r := H
  cases H0
 rw [V5] at H
 refine Ze (fun K hK24 => ?_)
 refine Zf ?_
 refine Za rfl rfl rfl (Xe rfl rfl) ?_
 refine Zg ?_
 refine Zb hK24 ?_
 refine Ze (fun K hK25 => ?_)
 refine Zz rfl (fun hb => ?_) (fun hb => ?_)
 rotate_left
 ·replace H := Zo H hb
  refine Vl ?_
  refine Yb ?_
  refine Yb ?_
  refine Y6 ?_
  refine Zb hK20 ?_
  refine Ze (fun K hK50 => ?_)
  refine Zf ?_
  refine Zc 1 rfl ?_
  refine Zg ?_
  refine Zb hK50 ?_
  refine Zk ?_
  refine Zl rfl (RV.tmp rfl RV.nil) rfl ?_
  refine ⟨_, rfl, ?_⟩
  refine Zc 1 rfl ?_
  refine Zg ?_
  refine Zb hK6 ?_
  refine Ze (fun K hK51 => ?_)
  refine Ze (fun K hK52 => ?_)
  refine Zf ?_
  refine Zc 1 rfl ?_
  refine Za rfl rfl rfl (Xe rfl rfl) ?_
  refine Zg ?_
  refine Zb hK52 ?_
  refine Zt rfl rfl ?_
  refine Ze (fun K hK53 => ?_)
  refine Zf ?_
  refine Za rfl rfl rfl (Zd X5 rfl) ?_
  refine Za rfl rfl rfl (Zh Xq rfl (Zgw _) hS Vf trivial Jg) ?_
  refine Za rfl rfl rfl (Yw Y4 rfl) ?_
  refine Zc 1 rfl ?_
  refine Zg ?_
  refine Zb hK53 ?_
  refine Zk ?_
  refine Zi ?_
  refine Zl rfl (RV.tmp rfl RV.nil) rfl ?_
  obtain rfl := QJ H
  replace hS := hS.cut 0
  exact ⟨rfl, hS⟩
 replace H := Zp H hb
 refine Zr ?_
 refine Zb hK25 ?_
 refine Ze (fun K hK26 => ?_)
 refine Yf ?_
 refine Ze (fun K hK27 => ?_)
 refine Zf ?_
 refine Zc 2 rfl ?_
 refine Zg ?_
 refine Zb hK27 ?_
 refine Ze (fun K hK28 => ?_)
 refine Zf ?_
 refine Zc 3 rfl ?_
 obtain ⟨e29, hi31, H⟩ := bind_some H
 obtain ⟨j30, hi31a, hi31b, hi31c⟩ := Ym hi31
 refine Za rfl rfl rfl (Y1 Xl rfl rfl hi31a hi31c (Rd.el (hS.row_rd hs0) Z9 hi31b)) ?_
 refine Za rfl rfl rfl (Xn Zw rfl (Zgw _) (Rd.el (hS.row_rd hs0) Z9 hi31b) rfl) ?_
 refine Zbw rfl rfl rfl rfl (by kernel_rfl) rfl ?_
 show Calls _ _ #[_, _, _] _ _
 refine Zcj Tryz.func118 rfl Tryz.ntmps118 rfl ?_
 refine Ze (fun K hK32 => ?_)
 refine Zf ?_
 refine Zc 1 rfl ?_
 refine Zg ?_
 refine Zb hK32 ?_
 refine Ze (fun K hK33 => ?_)
 refine Zf ?_
 refine Za rfl rfl rfl (Zd Yr rfl) ?_
 refine Za rfl rfl rfl (Zj Y7 rfl (Zgw _) hS hs3 trivial Zak) ?_
 refine Zc 1 rfl ?_
 obtain ⟨r34, hm35, H⟩ := bind_some H
 refine Zq rfl rfl rfl rfl (by kernel_rfl) rfl (Zfp x0.tuple e29 A0_ c0_ _ (Zgz s0_.k (hS.rd0 s0_.rd) (hS.blk0 s0_.blk)) hm35) ?_
 rintro e w ⟨rfl, hN⟩; refine ⟨_, rfl, ?_⟩; obtain ⟨hB, hS⟩ := hS.jn hN
 refine Zc 1 rfl ?_
 refine Za rfl rfl rfl (Z7 rfl rfl) ?_
 refine Za rfl rfl rfl (Z7 rfl rfl) ?_
 refine Zc 2 rfl ?_
 refine Zg ?_
 refine Zb hK33 ?_
 refine Ze (fun K hK36 => ?_)
 refine Zf ?_
 refine Zc 1 rfl ?_
 refine Za rfl rfl rfl (Zd Yr rfl) ?_
 refine Za rfl rfl rfl (Zd Xj rfl) ?_
 refine Za rfl rfl rfl (Zd Yj rfl) ?_
 refine Za rfl rfl rfl (Zh Zw rfl (Zgw _) hS hs3 trivial Zew) ?_
 refine Za rfl rfl rfl (Y9 rfl rfl) ?_
 refine Zc 1 rfl ?_
 refine Zs 20 rfl (fun hb => ?_) (fun hb => ?_)
 rotate_left
 ·replace H := Zo H hb
  refine Zc 18 rfl ?_
  refine Zg ?_
  refine Zb hK36 ?_
  refine Zk ?_
  refine Zl rfl (RV.tmp rfl RV.nil) rfl ?_
  refine ⟨_, rfl, ?_⟩
  refine Zg ?_
  refine Zb hK28 ?_
  refine Yp rfl rfl ?_
  refine Zr ?_
  refine Z1 ?_
  refine Zb hK26 ?_
  refine Zf ?_
  refine Za rfl rfl rfl (Xc rfl rfl) ?_
  refine Zc 1 rfl ?_
  refine Zg ?_
  exact X3 (n, v22, (IntKind.wrap .i64 (v23 + 1))) (by repeat (first | exact Sub.nil | refine Sub.cons rfl ?_)) ⟨hS, H⟩ (Nat.lt_succ_self _)
 replace H := Zp H hb
 refine Zc 1 rfl ?_
 refine Za rfl rfl rfl (Yy rfl) ?_
 refine Zc 1 rfl ?_
 refine Zs 23 rfl (fun hb => ?_) (fun hb => ?_)
 ·replace H := Zp H hb
  refine Zc 15 rfl ?_
  refine Zg ?_
  refine Zb hK36 ?_
  refine Zk ?_
  refine Zl rfl (RV.tmp rfl RV.nil) rfl ?_
  refine ⟨_, rfl, ?_⟩
  refine Zg ?_
  refine Zb hK28 ?_
  refine Zt rfl rfl ?_
  refine Ze (fun K hK37 => ?_)
  refine Zf ?_
  refine Zc 2 rfl ?_
  refine Zg ?_
  refine Zb hK37 ?_
  refine Zk ?_
  refine Zv ?_
  refine Zi ?_
  refine Zi ?_
  refine Zv ?_
  refine Zi ?_
  refine Zl rfl (RV.tmp rfl RV.nil) rfl ?_
  refine ⟨_, rfl, ?_⟩
  refine Zc 1 rfl ?_
  refine Zg ?_
  refine Zb hK6 ?_
  refine Ze (fun K hK38 => ?_)
  refine Ze (fun K hK39 => ?_)
  refine Zf ?_
  refine Zc 1 rfl ?_
  refine Za rfl rfl rfl (Xe rfl rfl) ?_
  refine Zg ?_
  refine Zb hK39 ?_
  refine Zz rfl (fun hb => ?_) (fun hb => ?_)
  rotate_left
  ·replace H := Zo H hb
   refine Zr ?_
   refine Zb hK38 ?_
   refine Ze (fun K hK41 => ?_)
   refine Zf ?_
   refine Zc 2 rfl ?_
   refine Zg ?_
   refine Zb hK41 ?_
   refine Zk ?_
   refine Zl rfl (RV.tmp rfl RV.nil) rfl ?_
   obtain rfl := QJ H
   replace hS := hS.cut 0
   exact ⟨rfl, hS⟩
  replace H := Zp H hb
  refine Ze (fun K hK40 => ?_)
  refine Zf ?_
  refine Za rfl rfl rfl (Zd X5 rfl) ?_
  refine Za rfl rfl rfl (Zh Xq rfl (Zgw _) hS Vf trivial Jg) ?_
  refine Za rfl rfl rfl (Yw Y4 rfl) ?_
  refine Zc 1 rfl ?_
  refine Zg ?_
  refine Zb hK40 ?_
  refine Zk ?_
  refine Zi ?_
  refine Zl rfl (RV.tmp rfl RV.nil) rfl ?_
  obtain rfl := QJ H
  replace hS := hS.cut 0
  exact ⟨rfl, hS⟩
 replace H := Zo H hb
 refine Zc 1 rfl ?_
 refine Za rfl rfl rfl (Zd X5 rfl) ?_
 refine Za rfl rfl rfl (Zh Xq rfl (Zgw _) hS Vf trivial Jg) ?_
 refine Zc 1 rfl ?_
 refine Za rfl rfl rfl (Zd Vu rfl) ?_
 refine Za rfl rfl rfl (Zh Zw rfl (Zgw _) hS Vf trivial V7) ?_
 refine Za rfl rfl rfl (Za6 rfl rfl) ?_
 refine Za rfl rfl rfl (Za6 rfl rfl) ?_
 obtain ⟨e42, hi44, H⟩ := bind_some H
 obtain ⟨j43, hi44a, hi44b, hi44c⟩ := Ym hi44
 refine Za rfl rfl rfl (Y1 Y4 rfl rfl hi44a hi44c (Rd.el (hS.rd0 s5_.rd) X6 hi44b)) ?_
 refine Za rfl rfl rfl (Vv Zba rfl (Rd.el (hS.rd0 s5_.rd) X6 hi44b)) ?_
 refine Za rfl rfl rfl (Xn Zw rfl (Zgw _) (Rd.el (hS.rd0 s5_.rd) X6 hi44b) rfl) ?_
 refine Za rfl rfl rfl (Xh rfl rfl) ?_
 refine Zc 3 rfl ?_
 refine Zg ?_
 refine Zb hK36 ?_
 refine Zk ?_
 refine Zl rfl (RV.tmp rfl RV.nil) rfl ?_
 refine ⟨_, rfl, ?_⟩
 refine Zg ?_
 refine Zb hK28 ?_
 refine Zz rfl (fun hb => ?_) (fun hb => ?_)
 rotate_left
 ·replace H := Zo H hb
  refine Zr ?_
  refine Z1 ?_
  refine Zb hK26 ?_
  refine Zf ?_
  refine Za rfl rfl rfl (Xc rfl rfl) ?_
  refine Zc 1 rfl ?_
  refine Zg ?_
  exact X3 (n, v22, (IntKind.wrap .i64 (v23 + 1))) (by repeat (first | exact Sub.nil | refine Sub.cons rfl ?_)) ⟨hS, H⟩ (Nat.lt_succ_self _)
 replace H := Zp H hb
 refine Ze (fun K hK45 => ?_)
 refine Zf ?_
 refine Zc 2 rfl ?_
 refine Zg ?_
 refine Zb hK45 ?_
 refine Zk ?_
 refine Zv ?_
 refine Zi ?_
 refine Zi ?_
 refine Zv ?_
 refine Zi ?_
 refine Zl rfl (RV.tmp rfl RV.nil) rfl ?_
 refine ⟨_, rfl, ?_⟩
 refine Zc 1 rfl ?_
 refine Zg ?_
 refine Zb hK6 ?_
 refine Ze (fun K hK46 => ?_)
 refine Ze (fun K hK47 => ?_)
 refine Zf ?_
 refine Zc 1 rfl ?_
 refine Za rfl rfl rfl (Xe rfl rfl) ?_
 refine Zg ?_
 refine Zb hK47 ?_
 refine Zz rfl (fun hb => ?_) (fun hb => ?_)
 rotate_left
 ·replace H := Zo H hb
  refine Zr ?_
  refine Zb hK46 ?_
  refine Ze (fun K hK49 => ?_)
  refine Zf ?_
  refine Zc 2 rfl ?_
  refine Zg ?_
  refine Zb hK49 ?_
  refine Zk ?_
  refine Zl rfl (RV.tmp rfl RV.nil) rfl ?_
  obtain rfl := QJ H
  replace hS := hS.cut 0
  exact ⟨rfl, hS⟩
 replace H := Zp H hb
 refine Ze (fun K hK48 => ?_)
 refine Zf ?_
 refine Za rfl rfl rfl (Zd X5 rfl) ?_
 refine Za rfl rfl rfl (Zh Xq rfl (Zgw _) hS Vf trivial Jg) ?_
 refine Za rfl rfl rfl (Yw Y4 rfl) ?_
 refine Zc 1 rfl ?_
 refine Zg ?_
 refine Zb hK48 ?_
 refine Zk ?_
 refine Zi ?_
 refine Zl rfl (RV.tmp rfl RV.nil) rfl ?_
 obtain rfl := QJ H
 replace hS := hS.cut 0
 exact ⟨rfl, hS⟩
theorem Zea (x0 : Co) (A0_ : OA) (c0_ : Nat) (A1_ : OA) (c1_ : Nat) (A2_ : OA) (c2_ : Nat) (A3_ : OA) (c3_ : Nat) (A4_ : OA) (c4_ : Nat) (w0 : World) (s0_ : SlI w0 Jj A0_ c0_ x0.tuple.log) (s1_ : SlI w0 enO A1_ c1_ x0.votes) (s2_ : SlI w0 V1 A2_ c2_ x0.next) (s3_ : SlI w0 V1 A3_ c3_ x0.mtch) (s4_ : SlI w0 V1 A4_ c4_ x0.caps) {r : Co} (H : Jd x0 = some r) : Calls Tryz.prog 36 #[.agg #[.int .i64 x0.id, .int .i64 x0.n, .int .u8 x0.role, .int .i64 x0.binary, .int .i64 x0.tuple.snap.index, .int .i64 x0.tuple.snap.term, .int .i64 x0.tuple.snap.sum, .int .i64 x0.tuple.snap.level, .bool x0.tuple.snap.final, .slice A0_ x0.tuple.log.length c0_, .int .i64 x0.tuple.term, .int .i64 x0.tuple.vote, .int .i64 x0.commit, .int .i64 x0.applied.index, .int .i64 x0.applied.term, .int .i64 x0.applied.sum, .int .i64 x0.applied.level, .bool x0.applied.final, .slice A1_ x0.votes.length c1_, .slice A2_ x0.next.length c2_, .slice A3_ x0.mtch.length c3_, .slice A4_ x0.caps.length c4_]] w0 fun e w' => ∃ (A0 : OA) (c0 : Nat) (A1 : OA) (c1 : Nat) (A2 : OA) (c2 : Nat) (A3 : OA) (c3 : Nat) (A4 : OA) (c4 : Nat), e = .returned (.agg #[.int .i64 r.id, .int .i64 r.n, .int .u8 r.role, .int .i64 r.binary, .int .i64 r.tuple.snap.index, .int .i64 r.tuple.snap.term, .int .i64 r.tuple.snap.sum, .int .i64 r.tuple.snap.level, .bool r.tuple.snap.final, .slice A0 r.tuple.log.length c0, .int .i64 r.tuple.term, .int .i64 r.tuple.vote, .int .i64 r.commit, .int .i64 r.applied.index, .int .i64 r.applied.term, .int .i64 r.applied.sum, .int .i64 r.applied.level, .bool r.applied.final, .slice A1 r.votes.length c1, .slice A2 r.next.length c2, .slice A3 r.mtch.length c3, .slice A4 r.caps.length c4]) ∧ (r.tuple.log.length ≤ c0 ∧ c0 ≤ maxLen) ∧ (r.votes.length ≤ c1 ∧ c1 ≤ maxLen) ∧ (r.next.length ≤ c2 ∧ c2 ≤ maxLen) ∧ (r.mtch.length ≤ c3 ∧ c3 ≤ maxLen) ∧ (r.caps.length ≤ c4 ∧ c4 ≤ maxLen) ∧ St0 All w0 w' [.row (.slice A0 r.tuple.log.length c0) 53 3 r.tuple.log.length (Yl Jj r.tuple.log), .row (.slice A1 r.votes.length c1) 4 1 r.votes.length (Yl enO r.votes), .row (.slice A2 r.next.length c2) 3 1 r.next.length (Yl V1 r.next), .row (.slice A3 r.mtch.length c3) 3 1 r.mtch.length (Yl V1 r.mtch), .row (.slice A4 r.caps.length c4) 3 1 r.caps.length (Yl V1 r.caps)] := by
 unfold Jd at H
 refine Yo Tryz.func36 rfl Tryz.ntmps36 rfl ?_
 have hS := St0.start All w0
 refine Ze (fun K hK1 => ?_)
 refine Zf ?_
 refine Yd rfl rfl rfl CellsOf.agg hS (fun b2 w hS hB => ?_)
 refine Yh rfl rfl Zd5 hS (fun b4 w hS hB => ?_)
 refine Zg ?_
 refine Zb hK1 ?_
 refine Ze (fun K hK6 => ?_)
 refine Zf ?_
 refine Za rfl rfl rfl (Zj Ye rfl (Zgw _) hS Xw trivial Z3) ?_
 obtain ⟨r7, hm8, H⟩ := bind_some H
 refine Zq rfl rfl rfl rfl (by kernel_rfl) rfl (Zed x0 A0_ c0_ A1_ c1_ A2_ c2_ A3_ c3_ A4_ c4_ _ (Zgz s0_.k (hS.rd0 s0_.rd) (hS.blk0 s0_.blk)) (Zgz s1_.k (hS.rd0 s1_.rd) (hS.blk0 s1_.blk)) (Zgz s2_.k (hS.rd0 s2_.rd) (hS.blk0 s2_.blk)) (Zgz s3_.k (hS.rd0 s3_.rd) (hS.blk0 s3_.blk)) (Zgz s4_.k (hS.rd0 s4_.rd) (hS.blk0 s4_.blk)) hm8) ?_
 rintro e w ⟨A9, c10, A13, c14, A17, c18, A21, c22, A25, c26, rfl, k11, k15, k19, k23, k27, hN⟩; refine ⟨_, rfl, ?_⟩; obtain ⟨hB, hS⟩ := hS.jn hN
 refine Zm rfl rfl rfl CellsOf.agg hS ps6 Yz (by kernel_rfl) rfl (fun w hS hB => ?_)
 refine Zg ?_
 refine Zb hK6 ?_
 refine Ze (fun K hK29 => ?_)
 refine Zf ?_
 refine Za rfl rfl rfl (Zd Yr rfl) ?_
 refine Za rfl rfl rfl (Zj Y7 rfl (Zgw _) hS hs6 trivial Zak) ?_
 obtain ⟨r30, hm31, H⟩ := bind_some H
 refine Zq rfl rfl rfl rfl (by kernel_rfl) rfl (Zdw r7.tuple A9 c10 _ (Zgz k11 (hS.row_rd hs0) (hS.row_blk hs0)) hm31) ?_
 rintro e w ⟨rfl, hN⟩; refine ⟨_, rfl, ?_⟩; obtain ⟨hB, hS⟩ := hS.jn hN
 refine Zc 1 rfl ?_
 refine Zg ?_
 refine Zb hK29 ?_
 refine Ze (fun K hK32 => ?_)
 refine Zf ?_
 refine Zc 1 rfl ?_
 refine Zg ?_
 refine Zb hK32 ?_
 refine Ze (fun K hK33 => ?_)
 refine Zf ?_
 refine Zc 1 rfl ?_
 refine Za rfl rfl rfl (Zd Vo rfl) ?_
 refine Za rfl rfl rfl (Zh Xt rfl (Zgw _) hS hs6 trivial Jr) ?_
 refine Zc 1 rfl ?_
 refine Za rfl rfl rfl (Xc rfl rfl) ?_
 refine Zbw rfl rfl rfl rfl (by kernel_rfl) rfl ?_
 show Calls _ _ #[_, _] _ _
 refine Yt Tryz.func82 rfl Tryz.ntmps82 rfl ?_
 refine Ze (fun K hK34 => ?_)
 refine Zf ?_
 refine Zc 1 rfl ?_
 refine Za rfl rfl rfl (Yw Xl rfl) ?_
 refine Zc 1 rfl ?_
 refine Zg ?_
 refine Zb hK34 ?_
 refine Yf ?_
 refine Vz (X := Nat × Int × List Int) (fun x => (0, .slice A17 r7.next.length c18) :: (1, .int .i64 (IntKind.wrap .i64 (r30 + 1))) :: (6, .int .i64 (r7.next.length : Int)) :: (7, .int .i64 x.2.1) :: []) (fun x w => St0 All w0 w (.row (.slice A9 r7.tuple.log.length c10) 53 3 r7.tuple.log.length (Yl Jj r7.tuple.log) :: .row (.slice A13 r7.votes.length c14) 4 1 r7.votes.length (Yl enO r7.votes) :: .row (.slice A17 r7.next.length c18) 3 1 r7.next.length (Yl V1 x.2.2) :: .row (.slice A21 r7.mtch.length c22) 3 1 r7.mtch.length (Yl V1 r7.mtch) :: .row (.slice A25 r7.caps.length c26) 3 1 r7.caps.length (Yl V1 r7.caps) :: .box b4 [.int .i64 0, .int .i64 0, .int .u8 0, .int .i64 0, .int .i64 0, .int .i64 0, .int .i64 0, .int .i64 0, .bool false, .slice none 0 0, .int .i64 0, .int .i64 0, .int .i64 0, .int .i64 0, .int .i64 0, .int .i64 0, .int .i64 0, .bool false, .slice none 0 0, .slice none 0 0, .slice none 0 0, .slice none 0 0] 30 :: .box b2 [.int .i64 r7.id, .int .i64 r7.n, .int .u8 r7.role, .int .i64 r7.binary, .int .i64 r7.tuple.snap.index, .int .i64 r7.tuple.snap.term, .int .i64 r7.tuple.snap.sum, .int .i64 r7.tuple.snap.level, .bool r7.tuple.snap.final, .slice A9 r7.tuple.log.length c10, .int .i64 r7.tuple.term, .int .i64 r7.tuple.vote, .int .i64 r7.commit, .int .i64 r7.applied.index, .int .i64 r7.applied.term, .int .i64 r7.applied.sum, .int .i64 r7.applied.level, .bool r7.applied.final, .slice A13 r7.votes.length c14, .slice A17 r7.next.length c18, .slice A21 r7.mtch.length c22, .slice A25 r7.caps.length c26] 30 :: []) ∧ (x.2.2.length ≤ c18 ∧ c18 ≤ maxLen) ∧ (x.2.2.length = r7.next.length) ∧ Za2 r7 r30 x.1 x.2.1 x.2.2 = some r) (fun x => x.1) (Xo, 0, r7.next) (by repeat (first | exact Sub.nil | refine Sub.cons rfl ?_)) ⟨hS, k19, rfl, H⟩ ?_
 rintro ⟨n, v35, v36⟩ w ⟨hS, k37, hl38, H⟩
 dsimp only at hS k37 hl38 H ⊢
 obtain _ | n := n
 ·have H0 : none = some r := H
  cases H0
 rw [Za2] at H
 refine Ze (fun K hK39 => ?_)
 refine Zf ?_
 refine Za rfl rfl rfl (Xe rfl rfl) ?_
 refine Zg ?_
 refine Zb hK39 ?_
 refine Ze (fun K hK40 => ?_)
 refine Zz rfl (fun hb => ?_) (fun hb => ?_)
 ·replace H := Zp H hb
  refine Zr ?_
  refine Zb hK40 ?_
  refine Ze (fun K hK41 => ?_)
  refine Yf ?_
  refine Ze (fun K hK42 => ?_)
  refine Zf ?_
  refine Zc 2 rfl ?_
  refine Zg ?_
  refine Zb hK42 ?_
  refine Zf ?_
  refine Zc 4 rfl ?_
  obtain ⟨e43, hi45, H⟩ := bind_some H
  obtain ⟨j44, hi45a, hi45b, hi45c⟩ := Ym hi45
  refine Za rfl rfl rfl (Y1 Xl rfl rfl hi45a (Nat.lt_of_lt_of_eq hi45c hl38) (Rd.el (hS.row_rd Vf) Z9 hi45b)) ?_
  refine Za rfl rfl rfl (Xn Zw rfl (Zgw _) (Rd.el (hS.row_rd Vf) Z9 hi45b) rfl) ?_
  refine Zc 1 rfl ?_
  refine Za rfl rfl rfl (Ze3 rfl rfl) ?_
  obtain ⟨e46, hi48, H⟩ := bind_some H
  obtain ⟨j47, hi48a, hi48b, hi48c⟩ := Ym hi48
  refine Za rfl rfl rfl (Y1 Xl rfl rfl hi48a (Nat.lt_of_lt_of_eq hi48c hl38) (Rd.el (hS.row_rd Vf) Z9 hi48b)) ?_
  refine wpX_storeR (a' := (min e43 (IntKind.wrap .i64 (r30 + 1)))) (zs := (Zeb v36 v35 (min e43 (IntKind.wrap .i64 (r30 + 1))))) Z9 rfl rfl rfl CellsOf.int hS ps2 (Rd.el (hS.row_rd Vf) Z9 hi48b) hi48a hi48b rfl st0_1 (by kernel_rfl) rfl (fun w hS => ?_)
  have hi49b := setI_at (a := (min e43 (IntKind.wrap .i64 (r30 + 1)))) hi48a hi48b
  have hi49a := hi48a
  refine Zg ?_
  refine Z1 ?_
  refine Zb hK41 ?_
  refine Zf ?_
  refine Za rfl rfl rfl (Xc rfl rfl) ?_
  refine Zc 1 rfl ?_
  refine Zg ?_
  exact X3 (n, (IntKind.wrap .i64 (v35 + 1)), (Zeb v36 v35 (min e43 (IntKind.wrap .i64 (r30 + 1))))) (by repeat (first | exact Sub.nil | refine Sub.cons rfl ?_)) ⟨hS, (k_set k37), (Zb4 hl38), H⟩ (Nat.lt_succ_self _)
 replace H := Zo H hb
 refine Vl ?_
 refine Yb ?_
 refine Yb ?_
 refine Y6 ?_
 refine Zcs rfl RV.nil rfl ?_
 refine ⟨_, rfl, ?_⟩
 refine Zg ?_
 refine Zb hK33 ?_
 refine Ze (fun K hK50 => ?_)
 refine Zf ?_
 refine Zc 1 rfl ?_
 refine Za rfl rfl rfl (Zd Vt rfl) ?_
 refine Za rfl rfl rfl (Zh Xt rfl (Zgw _) hS hs6 trivial Jz) ?_
 refine Zc 1 rfl ?_
 refine Zbw rfl rfl rfl rfl (by kernel_rfl) rfl ?_
 show Calls _ _ #[_, _] _ _
 refine Yt Tryz.func82 rfl Tryz.ntmps82 rfl ?_
 refine Ze (fun K hK51 => ?_)
 refine Zf ?_
 refine Zc 1 rfl ?_
 refine Za rfl rfl rfl (Yw Xl rfl) ?_
 refine Zc 1 rfl ?_
 refine Zg ?_
 refine Zb hK51 ?_
 refine Yf ?_
 refine Vz (X := Nat × Int × List Int) (fun x => (0, .slice A21 r7.mtch.length c22) :: (1, .int .i64 r30) :: (6, .int .i64 (r7.mtch.length : Int)) :: (7, .int .i64 x.2.1) :: []) (fun x w => St0 All w0 w (.row (.slice A9 r7.tuple.log.length c10) 53 3 r7.tuple.log.length (Yl Jj r7.tuple.log) :: .row (.slice A13 r7.votes.length c14) 4 1 r7.votes.length (Yl enO r7.votes) :: .row (.slice A17 r7.next.length c18) 3 1 r7.next.length (Yl V1 v36) :: .row (.slice A21 r7.mtch.length c22) 3 1 r7.mtch.length (Yl V1 x.2.2) :: .row (.slice A25 r7.caps.length c26) 3 1 r7.caps.length (Yl V1 r7.caps) :: .box b4 [.int .i64 0, .int .i64 0, .int .u8 0, .int .i64 0, .int .i64 0, .int .i64 0, .int .i64 0, .int .i64 0, .bool false, .slice none 0 0, .int .i64 0, .int .i64 0, .int .i64 0, .int .i64 0, .int .i64 0, .int .i64 0, .int .i64 0, .bool false, .slice none 0 0, .slice none 0 0, .slice none 0 0, .slice none 0 0] 30 :: .box b2 [.int .i64 r7.id, .int .i64 r7.n, .int .u8 r7.role, .int .i64 r7.binary, .int .i64 r7.tuple.snap.index, .int .i64 r7.tuple.snap.term, .int .i64 r7.tuple.snap.sum, .int .i64 r7.tuple.snap.level, .bool r7.tuple.snap.final, .slice A9 r7.tuple.log.length c10, .int .i64 r7.tuple.term, .int .i64 r7.tuple.vote, .int .i64 r7.commit, .int .i64 r7.applied.index, .int .i64 r7.applied.term, .int .i64 r7.applied.sum, .int .i64 r7.applied.level, .bool r7.applied.final, .slice A13 r7.votes.length c14, .slice A17 r7.next.length c18, .slice A21 r7.mtch.length c22, .slice A25 r7.caps.length c26] 30 :: []) ∧ (x.2.2.length ≤ c22 ∧ c22 ≤ maxLen) ∧ (x.2.2.length = r7.mtch.length) ∧ Za1 r7 r30 v36 x.1 x.2.1 x.2.2 = some r) (fun x => x.1) (Xo, 0, r7.mtch) (by repeat (first | exact Sub.nil | refine Sub.cons rfl ?_)) ⟨hS, k23, rfl, H⟩ ?_
 rintro ⟨n, v52, v53⟩ w ⟨hS, k54, hl55, H⟩
 dsimp only at hS k54 hl55 H ⊢
 obtain _ | n := n
 ·have H0 : none = some r := H
  cases H0
 rw [Za1] at H
 refine Ze (fun K hK56 => ?_)
 refine Zf ?_
 refine Za rfl rfl rfl (Xe rfl rfl) ?_
 refine Zg ?_
 refine Zb hK56 ?_
 refine Ze (fun K hK57 => ?_)
 refine Zz rfl (fun hb => ?_) (fun hb => ?_)
 rotate_left
 ·replace H := Zo H hb
  refine Vl ?_
  refine Yb ?_
  refine Yb ?_
  refine Y6 ?_
  refine Zcs rfl RV.nil rfl ?_
  refine ⟨_, rfl, ?_⟩
  refine Zg ?_
  refine Zb hK50 ?_
  refine Ze (fun K hK67 => ?_)
  refine Zf ?_
  refine Za rfl rfl rfl (Zj Ye rfl (Zgw _) hS hs6 trivial Z3) ?_
  refine Zm rfl rfl rfl CellsOf.agg hS ps5 Yz (by kernel_rfl) rfl (fun w hS hB => ?_)
  refine Zg ?_
  refine Zb hK67 ?_
  refine Zk ?_
  refine Zl rfl (RV.cell rfl (Z0 Ye hS hs5 Z3) RV.nil) rfl ?_
  obtain rfl := QJ H
  have hS := hS.front 4 rfl
  have hS := hS.front 4 rfl
  have hS := hS.front 4 rfl
  have hS := hS.front 4 rfl
  have hS := hS.front 4 rfl
  replace hS := hS.cut 5
  exact ⟨A9, c10, A13, c14, A17, c18, A21, c22, A25, c26, by rw [hl38, hl55]; rfl, k11, k15, k37, k54, k27, hS.eqv (by rw [hl38, hl55]; rfl)⟩
 replace H := Zp H hb
 refine Zr ?_
 refine Zb hK57 ?_
 refine Ze (fun K hK58 => ?_)
 refine Yf ?_
 refine Ze (fun K hK59 => ?_)
 refine Zf ?_
 refine Zc 2 rfl ?_
 refine Zg ?_
 refine Zb hK59 ?_
 refine Zf ?_
 refine Zc 4 rfl ?_
 obtain ⟨e60, hi62, H⟩ := bind_some H
 obtain ⟨j61, hi62a, hi62b, hi62c⟩ := Ym hi62
 refine Za rfl rfl rfl (Y1 Xl rfl rfl hi62a (Nat.lt_of_lt_of_eq hi62c hl55) (Rd.el (hS.row_rd hs3) Z9 hi62b)) ?_
 refine Za rfl rfl rfl (Xn Zw rfl (Zgw _) (Rd.el (hS.row_rd hs3) Z9 hi62b) rfl) ?_
 refine Zc 1 rfl ?_
 refine Za rfl rfl rfl (Ze3 rfl rfl) ?_
 obtain ⟨e63, hi65, H⟩ := bind_some H
 obtain ⟨j64, hi65a, hi65b, hi65c⟩ := Ym hi65
 refine Za rfl rfl rfl (Y1 Xl rfl rfl hi65a (Nat.lt_of_lt_of_eq hi65c hl55) (Rd.el (hS.row_rd hs3) Z9 hi65b)) ?_
 refine wpX_storeR (a' := (min e60 r30)) (zs := (Zeb v53 v52 (min e60 r30))) Z9 rfl rfl rfl CellsOf.int hS ps3 (Rd.el (hS.row_rd hs3) Z9 hi65b) hi65a hi65b rfl st0_1 (by kernel_rfl) rfl (fun w hS => ?_)
 have hi66b := setI_at (a := (min e60 r30)) hi65a hi65b
 have hi66a := hi65a
 refine Zg ?_
 refine Z1 ?_
 refine Zb hK58 ?_
 refine Zf ?_
 refine Za rfl rfl rfl (Xc rfl rfl) ?_
 refine Zc 1 rfl ?_
 refine Zg ?_
 exact X3 (n, (IntKind.wrap .i64 (v52 + 1)), (Zeb v53 v52 (min e60 r30))) (by repeat (first | exact Sub.nil | refine Sub.cons rfl ?_)) ⟨hS, (k_set k54), (Zb4 hl55), H⟩ (Nat.lt_succ_self _)
theorem Zgg (x0 : Co) (x1 : Ms) (A0_ : OA) (c0_ : Nat) (A1_ : OA) (c1_ : Nat) (A2_ : OA) (c2_ : Nat) (A3_ : OA) (c3_ : Nat) (A4_ : OA) (c4_ : Nat) (A5_ : OA) (c5_ : Nat) (w0 : World) (s0_ : SlI w0 Jj A0_ c0_ x0.tuple.log) (s1_ : SlI w0 enO A1_ c1_ x0.votes) (s2_ : SlI w0 V1 A2_ c2_ x0.next) (s3_ : SlI w0 V1 A3_ c3_ x0.mtch) (s4_ : SlI w0 V1 A4_ c4_ x0.caps) (s5_ : SlI w0 Jj A5_ c5_ x1.entries) {r : Co × List Ms} (H : Jc x0 x1 = some r) : Calls Tryz.prog 29 #[.agg #[.int .i64 x0.id, .int .i64 x0.n, .int .u8 x0.role, .int .i64 x0.binary, .int .i64 x0.tuple.snap.index, .int .i64 x0.tuple.snap.term, .int .i64 x0.tuple.snap.sum, .int .i64 x0.tuple.snap.level, .bool x0.tuple.snap.final, .slice A0_ x0.tuple.log.length c0_, .int .i64 x0.tuple.term, .int .i64 x0.tuple.vote, .int .i64 x0.commit, .int .i64 x0.applied.index, .int .i64 x0.applied.term, .int .i64 x0.applied.sum, .int .i64 x0.applied.level, .bool x0.applied.final, .slice A1_ x0.votes.length c1_, .slice A2_ x0.next.length c2_, .slice A3_ x0.mtch.length c3_, .slice A4_ x0.caps.length c4_], .agg #[.int .u8 x1.kind, .int .i64 x1.frm, .int .i64 x1.dst, .int .i64 x1.term, .int .i64 x1.cap, .int .i64 x1.last, .int .i64 x1.lastTerm, .int .i64 x1.commit, .bool x1.okk, .slice A5_ x1.entries.length c5_, .int .i64 x1.snap.index, .int .i64 x1.snap.term, .int .i64 x1.snap.sum, .int .i64 x1.snap.level, .bool x1.snap.final]] w0 fun e w' => ∃ (A0 : OA) (c0 : Nat) (A1 : OA) (c1 : Nat) (A2 : OA) (c2 : Nat) (A3 : OA) (c3 : Nat) (A4 : OA) (c4 : Nat) (A5 : OA) (c5 : Nat) (q5 : List Mq), e = .returned (.tuple #[.agg #[.int .i64 r.1.id, .int .i64 r.1.n, .int .u8 r.1.role, .int .i64 r.1.binary, .int .i64 r.1.tuple.snap.index, .int .i64 r.1.tuple.snap.term, .int .i64 r.1.tuple.snap.sum, .int .i64 r.1.tuple.snap.level, .bool r.1.tuple.snap.final, .slice A0 r.1.tuple.log.length c0, .int .i64 r.1.tuple.term, .int .i64 r.1.tuple.vote, .int .i64 r.1.commit, .int .i64 r.1.applied.index, .int .i64 r.1.applied.term, .int .i64 r.1.applied.sum, .int .i64 r.1.applied.level, .bool r.1.applied.final, .slice A1 r.1.votes.length c1, .slice A2 r.1.next.length c2, .slice A3 r.1.mtch.length c3, .slice A4 r.1.caps.length c4], .slice A5 r.2.length c5]) ∧ (r.1.tuple.log.length ≤ c0 ∧ c0 ≤ maxLen) ∧ (r.1.votes.length ≤ c1 ∧ c1 ≤ maxLen) ∧ (r.1.next.length ≤ c2 ∧ c2 ≤ maxLen) ∧ (r.1.mtch.length ≤ c3 ∧ c3 ≤ maxLen) ∧ (r.1.caps.length ≤ c4 ∧ c4 ≤ maxLen) ∧ (r.2.length ≤ c5 ∧ c5 ≤ maxLen) ∧ q5.map Mq.m = r.2 ∧ (∀ y ∈ q5, okQ y) ∧ St0 All w0 w' [.rd A0 (Yl Jj r.1.tuple.log), .row (.slice A1 r.1.votes.length c1) 4 1 r.1.votes.length (Yl enO r.1.votes), .row (.slice A2 r.1.next.length c2) 3 1 r.1.next.length (Yl V1 r.1.next), .row (.slice A3 r.1.mtch.length c3) 3 1 r.1.mtch.length (Yl V1 r.1.mtch), .row (.slice A4 r.1.caps.length c4) 3 1 r.1.caps.length (Yl V1 r.1.caps), .rd A5 (Yl enQ q5), .rds (q5.map subQ)] := by
 unfold Jc at H
 refine Yt Tryz.func29 rfl Tryz.ntmps29 rfl ?_
 have hS := St0.start All w0
 refine Ze (fun K hK1 => ?_)
 refine Zf ?_
 refine Yd rfl rfl rfl CellsOf.agg hS (fun b2 w hS hB => ?_)
 refine Yd rfl rfl rfl CellsOf.agg hS (fun b4 w hS hB => ?_)
 refine Yh rfl rfl Zd5 hS (fun b6 w hS hB => ?_)
 refine Zc 1 rfl ?_
 refine Zg ?_
 refine Zb hK1 ?_
 refine wpC_scope1 0 rfl ?_
 refine Ze (fun K hK8 => ?_)
 refine Zf ?_
 refine Yh rfl rfl zc_26 hS (fun b9 w hS hB => ?_)
 refine Zg ?_
 refine Zb hK8 ?_
 refine Ze (fun K hK11 => ?_)
 refine Zf ?_
 refine Zc 1 rfl ?_
 refine Zg ?_
 refine Zb hK11 ?_
 refine Ze (fun K hK12 => ?_)
 refine Zf ?_
 refine Zc 2 rfl ?_
 refine Zg ?_
 refine Zb hK12 ?_
 refine Ze (fun K hK13 => ?_)
 refine Ze (fun K hK14 => ?_)
 refine Zf ?_
 refine Za rfl rfl rfl (Zj Ye rfl (Zgw _) hS hs3 trivial Z3) ?_
 refine Za rfl rfl rfl (Zj Vi rfl (Zgw _) hS Vf trivial Xp) ?_
 obtain ⟨r15, hm16, H⟩ := bind_some H
 refine Zq rfl rfl rfl rfl (by kernel_rfl) rfl (c_advert_To x0 x1 A0_ c0_ A1_ c1_ A2_ c2_ A3_ c3_ A4_ c4_ A5_ c5_ _ (Zgz s0_.k (hS.rd0 s0_.rd) (hS.blk0 s0_.blk)) (Zgz s1_.k (hS.rd0 s1_.rd) (hS.blk0 s1_.blk)) (Zgz s2_.k (hS.rd0 s2_.rd) (hS.blk0 s2_.blk)) (Zgz s3_.k (hS.rd0 s3_.rd) (hS.blk0 s3_.blk)) (Zgz s4_.k (hS.rd0 s4_.rd) (hS.blk0 s4_.blk)) (Zgz s5_.k (hS.rd0 s5_.rd) (hS.blk0 s5_.blk)) hm16) ?_
 rintro e w ⟨rfl, hN⟩; refine ⟨_, rfl, ?_⟩; obtain ⟨hB, hS⟩ := hS.jn hN
 refine Za rfl rfl rfl (Yy rfl) ?_
 refine Zc 1 rfl ?_
 refine Zs 19 rfl (fun hb => ?_) (fun hb => ?_)
 ·replace H := Zp H hb
  refine Zc 4 rfl ?_
  refine Zg ?_
  refine Zb hK14 ?_
  refine Zt rfl rfl ?_
  refine Ze (fun K hK17 => ?_)
  refine Zf ?_
  refine Za rfl rfl rfl (Zj Ye rfl (Zgw _) hS hs3 trivial Z3) ?_
  obtain ⟨r18, hm19, H⟩ := bind_some H
  refine Zq rfl rfl rfl rfl (by kernel_rfl) rfl (Zed x0 A0_ c0_ A1_ c1_ A2_ c2_ A3_ c3_ A4_ c4_ _ (Zgz s0_.k (hS.rd0 s0_.rd) (hS.blk0 s0_.blk)) (Zgz s1_.k (hS.rd0 s1_.rd) (hS.blk0 s1_.blk)) (Zgz s2_.k (hS.rd0 s2_.rd) (hS.blk0 s2_.blk)) (Zgz s3_.k (hS.rd0 s3_.rd) (hS.blk0 s3_.blk)) (Zgz s4_.k (hS.rd0 s4_.rd) (hS.blk0 s4_.blk)) hm19) ?_
  rintro e w ⟨A20, c21, A24, c25, A28, c29, A32, c33, A36, c37, rfl, k22, k26, k30, k34, k38, hN⟩; refine ⟨_, rfl, ?_⟩; obtain ⟨hB, hS⟩ := hS.jn hN
  refine Zm rfl rfl rfl CellsOf.agg hS ps6 Yz (by kernel_rfl) rfl (fun w hS hB => ?_)
  refine Zc 1 rfl ?_
  refine Zg ?_
  refine Zb hK17 ?_
  refine Zk ?_
  refine Zi ?_
  refine Z2 ?_
  refine Zl rfl (RV.cell rfl (Z0 Ye hS hs6 Z3) (RV.tmp rfl RV.nil)) rfl ?_
  obtain rfl := QJ H
  have hS := hS.nilRds
  replace hS := hS.nilRd
  have hS := hS.front 6 rfl
  have hS := hS.front 6 rfl
  have hS := hS.front 6 rfl
  have hS := hS.front 6 rfl
  have hS := hS.front 6 rfl
  replace hS := hS.weak Weak.rowRd
  replace hS := hS.cut 7
  exact ⟨A20, c21, A24, c25, A28, c29, A32, c33, A36, c37, none, 0, ([] : List Mq), rfl, k22, k26, k30, k34, k38, ⟨Nat.le_refl _, Nat.zero_le _⟩, rfl, Vj, hS⟩
 replace H := Zo H hb
 refine Za rfl rfl rfl (Zd Vq rfl) ?_
 refine Za rfl rfl rfl (Zh Zbd rfl (Zgw _) hS Vf trivial Y8) ?_
 refine Za rfl rfl rfl (Xh rfl rfl) ?_
 refine Zc 1 rfl ?_
 refine Zg ?_
 refine Zb hK14 ?_
 refine Zz rfl (fun hb => ?_) (fun hb => ?_)
 ·replace H := Zp H hb
  refine Ze (fun K hK40 => ?_)
  refine Zf ?_
  refine Za rfl rfl rfl (Zj Ye rfl (Zgw _) hS hs3 trivial Z3) ?_
  obtain ⟨r41, hm42, H⟩ := bind_some H
  refine Zq rfl rfl rfl rfl (by kernel_rfl) rfl (Zed x0 A0_ c0_ A1_ c1_ A2_ c2_ A3_ c3_ A4_ c4_ _ (Zgz s0_.k (hS.rd0 s0_.rd) (hS.blk0 s0_.blk)) (Zgz s1_.k (hS.rd0 s1_.rd) (hS.blk0 s1_.blk)) (Zgz s2_.k (hS.rd0 s2_.rd) (hS.blk0 s2_.blk)) (Zgz s3_.k (hS.rd0 s3_.rd) (hS.blk0 s3_.blk)) (Zgz s4_.k (hS.rd0 s4_.rd) (hS.blk0 s4_.blk)) hm42) ?_
  rintro e w ⟨A43, c44, A47, c48, A51, c52, A55, c56, A59, c60, rfl, k45, k49, k53, k57, k61, hN⟩; refine ⟨_, rfl, ?_⟩; obtain ⟨hB, hS⟩ := hS.jn hN
  refine Zm rfl rfl rfl CellsOf.agg hS ps6 Yz (by kernel_rfl) rfl (fun w hS hB => ?_)
  refine Zc 1 rfl ?_
  refine Zg ?_
  refine Zb hK40 ?_
  refine Zk ?_
  refine Zi ?_
  refine Z2 ?_
  refine Zl rfl (RV.cell rfl (Z0 Ye hS hs6 Z3) (RV.tmp rfl RV.nil)) rfl ?_
  obtain rfl := QJ H
  have hS := hS.nilRds
  replace hS := hS.nilRd
  have hS := hS.front 6 rfl
  have hS := hS.front 6 rfl
  have hS := hS.front 6 rfl
  have hS := hS.front 6 rfl
  have hS := hS.front 6 rfl
  replace hS := hS.weak Weak.rowRd
  replace hS := hS.cut 7
  exact ⟨A43, c44, A47, c48, A51, c52, A55, c56, A59, c60, none, 0, ([] : List Mq), rfl, k45, k49, k53, k57, k61, ⟨Nat.le_refl _, Nat.zero_le _⟩, rfl, Vj, hS⟩
 replace H := Zo H hb
 refine Zr ?_
 refine Zb hK13 ?_
 refine Ze (fun K hK63 => ?_)
 refine Zf ?_
 refine Za rfl rfl rfl (Zj Ye rfl (Zgw _) hS hs3 trivial Z3) ?_
 refine Za rfl rfl rfl (Zj Vi rfl (Zgw _) hS Vf trivial Xp) ?_
 obtain ⟨r64, hm65, H⟩ := bind_some H
 refine Zq rfl rfl rfl rfl (by kernel_rfl) rfl (c_elect_Meet x0 x1 A0_ c0_ A1_ c1_ A2_ c2_ A3_ c3_ A4_ c4_ A5_ c5_ _ (Zgz s0_.k (hS.rd0 s0_.rd) (hS.blk0 s0_.blk)) (Zgz s1_.k (hS.rd0 s1_.rd) (hS.blk0 s1_.blk)) (Zgz s2_.k (hS.rd0 s2_.rd) (hS.blk0 s2_.blk)) (Zgz s3_.k (hS.rd0 s3_.rd) (hS.blk0 s3_.blk)) (Zgz s4_.k (hS.rd0 s4_.rd) (hS.blk0 s4_.blk)) (Zgz s5_.k (hS.rd0 s5_.rd) (hS.blk0 s5_.blk)) hm65) ?_
 rintro e w ⟨A66, c67, A70, c71, A74, c75, A78, c79, A82, c83, rfl, k68, k72, k76, k80, k84, hN⟩; refine ⟨_, rfl, ?_⟩; obtain ⟨hB, hS⟩ := hS.jn hN
 refine Zm rfl rfl rfl CellsOf.agg hS ps8 Yz (by kernel_rfl) rfl (fun w hS hB => ?_)
 refine Zg ?_
 refine Zb hK63 ?_
 refine Ze (fun K hK86 => ?_)
 refine Zf ?_
 refine Za rfl rfl rfl (Zd Yr rfl) ?_
 refine Za rfl rfl rfl (Zj Y7 rfl (Zgw _) hS hs8 trivial Zak) ?_
 obtain ⟨r87, hm88, H⟩ := bind_some H
 refine Zq rfl rfl rfl rfl (by kernel_rfl) rfl (Zdw r64.tuple A66 c67 _ (Zgz k68 (hS.rd hs0) (hS.rd_blk hs0)) hm88) ?_
 rintro e w ⟨rfl, hN⟩; refine ⟨_, rfl, ?_⟩; obtain ⟨hB, hS⟩ := hS.jn hN
 refine Zc 1 rfl ?_
 refine Zg ?_
 refine Zb hK86 ?_
 refine Ze (fun K hK89 => ?_)
 refine Zf ?_
 refine Zc 2 rfl ?_
 refine Zg ?_
 refine Zb hK89 ?_
 refine Ze (fun K hK90 => ?_)
 refine Zf ?_
 refine Za rfl rfl rfl (Zd Yr rfl) ?_
 refine Za rfl rfl rfl (Zj Y7 rfl (Zgw _) hS hs8 trivial Zak) ?_
 refine Za rfl rfl rfl (Zd Vu rfl) ?_
 refine Za rfl rfl rfl (Zh Zw rfl (Zgw _) hS hs7 trivial V7) ?_
 obtain ⟨r91, hm92, H⟩ := bind_some H
 refine Zq rfl rfl rfl rfl (by kernel_rfl) rfl (Zfp r64.tuple x1.last A66 c67 _ (Zgz k68 (hS.rd hs0) (hS.rd_blk hs0)) hm92) ?_
 rintro e w ⟨rfl, hN⟩; refine ⟨_, rfl, ?_⟩; obtain ⟨hB, hS⟩ := hS.jn hN
 refine Zc 1 rfl ?_
 refine Za rfl rfl rfl (Z7 rfl rfl) ?_
 refine Za rfl rfl rfl (Z7 rfl rfl) ?_
 refine Zc 2 rfl ?_
 refine Zg ?_
 refine Zb hK90 ?_
 refine Ze (fun K hK93 => ?_)
 refine Yf ?_
 refine Ze (fun K hK94 => ?_)
 refine Zf ?_
 refine Za rfl rfl rfl (Zd Zb1 rfl) ?_
 refine Za rfl rfl rfl (Zh Zw rfl (Zgw _) hS hs7 trivial Zan) ?_
 refine Za rfl rfl rfl (Zd Yr rfl) ?_
 refine Za rfl rfl rfl (Zd Vr rfl) ?_
 refine Za rfl rfl rfl (Zh Zw rfl (Zgw _) hS hs8 trivial J7) ?_
 refine Za rfl rfl rfl (Xe rfl rfl) ?_
 refine Zc 1 rfl ?_
 refine Zg ?_
 refine Zb hK94 ?_
 refine Zz rfl (fun hb => ?_) (fun hb => ?_)
 ·replace H := Zp H hb
  refine Vk ?_
  refine QH_block_goto ?_
  refine Xd ?_
  refine Vy ?_
  refine Ze (fun K hK95 => ?_)
  refine Zr ?_
  refine Zb hK95 ?_
  refine Ze (fun K hK96 => ?_)
  refine Yi 8 [6] (fun i b => (i = 6 → b ≠ b6)) ⟨by kernel_rfl, by kernel_rfl⟩ hS (fun w hS hB => ?_)
  refine Zn [true] (by decide +kernel) PFC.h ?_
  refine LtK.put rfl rfl rfl (Zj Ye rfl (Zgx _) hS hs8 trivial Z3) ?_
  refine LtK.nil ?_
  refine Xa [false, true, true, true] [6] (fun b => b ≠ b6) (by decide +kernel) (by intro j hj b hb; simp only [List.mem_cons, List.not_mem_nil, or_false] at hj; (try rcases hj with rfl | rfl | rfl | rfl | rfl) <;> first | (simp [hb]; done) | simp_all) PFC.h ?_
  refine LtK.put rfl rfl rfl (Zj Ye rfl (Zgy _ _) hS hs8 (hS.ne 8 6 rfl rfl rfl) Z3) ?_
  refine LtK.put rfl rfl rfl (Zj Vi rfl (Zgy _ _) hS hs7 (hS.ne 7 6 rfl rfl rfl) Xp) ?_
  refine LtK.put rfl rfl rfl (Zu rfl) ?_
  refine LtK.nil ?_
  refine Z6 [false, false, false, false, true] 4 ⟨by decide, by kernel_rfl, by kernel_rfl⟩ rfl rfl ?_
  try dsimp only [Zy]
  obtain ⟨r97, hm98, H⟩ := bind_some H
  refine Zq rfl rfl rfl rfl (by kernel_rfl) rfl (Jq r64 x1 4 false r87 A66 c67 A70 c71 A74 c75 A78 c79 A82 c83 A5_ c5_ _ (Zgz k68 (hS.rd hs0) (hS.rd_blk hs0)) (Zgz k72 (hS.row_rd Xw) (hS.row_blk Xw)) (Zgz k76 (hS.row_rd Vf) (hS.row_blk Vf)) (Zgz k80 (hS.row_rd hs3) (hS.row_blk hs3)) (Zgz k84 (hS.row_rd hs4) (hS.row_blk hs4)) (Zgz s5_.k (hS.rd0 s5_.rd) (hS.blk0 s5_.blk)) hm98) ?_
  rintro e w ⟨A99, c100, rfl, k101, hN⟩; refine ⟨_, rfl, ?_⟩; obtain ⟨hB, hS⟩ := hS.jn hN
  refine Zg ?_
  refine Z8 hB ?_
  refine Zaw [5, 6] ⟨by decide, by kernel_rfl⟩ rfl (.call [false, false, false, false, false, true] 5 rfl rfl rfl ?_ (.put [false, false, false, false, false, false, true] 6 rfl rfl rfl ?_ .nil))
  ·try dsimp only [Zy]
   refine Y0 (ps := [(0, .tmp 146)]) [.int .u8 r97.kind, .int .i64 r97.frm, .int .i64 r97.dst, .int .i64 r97.term, .int .i64 r97.cap, .int .i64 r97.last, .int .i64 r97.lastTerm, .int .i64 r97.commit, .bool r97.okk, .slice A99 r97.entries.length c100, .int .i64 r97.snap.index, .int .i64 r97.snap.term, .int .i64 r97.snap.sum, .int .i64 r97.snap.level, .bool r97.snap.final] V0 Zai rfl rfl rfl rfl rfl (by kernel_rfl) hS (fun b103 w hS hB => ?_)
   refine Zg ?_
   refine Z8 hB ?_
   refine Yu [false, false, false, false, false, false, true] 6 ⟨by decide, by kernel_rfl, by kernel_rfl⟩ rfl rfl ?_
   try dsimp only [Zy]
   refine Zm rfl rfl rfl CellsOf.agg hS ps8 Yz (by kernel_rfl) rfl (fun w hS hB => ?_)
   refine Zg ?_
   refine Yk (hB.sub (fun _ _ h => by simpa using h)) ?_
   refine Zn [false, false, false, false, false, false, false, true] (by decide +kernel) PFC.h ?_
   refine LtK.put rfl rfl rfl (Zx rfl) ?_
   refine LtK.nil ?_
   refine Z4 (by kernel_rfl) ?_
   refine Zb hK96 ?_
   refine Zk ?_
   refine Z2 ?_
   refine Zl rfl (RV.cell rfl (Z0 Ye hS hs8 Z3) (RV.tmp rfl RV.nil)) rfl ?_
   obtain rfl := QJ H
   have hS := hS.nilRds
   replace hS := hS.front 2 rfl
   replace hS := hS.absorbQ ⟨r97, A99, c100⟩
   replace hS := hS.front 1 rfl
   replace hS := hS.weak Weak.boxRd
   have hS := hS.front 6 rfl
   have hS := hS.front 6 rfl
   have hS := hS.front 6 rfl
   have hS := hS.front 6 rfl
   have hS := hS.front 6 rfl
   replace hS := hS.cut 7
   exact ⟨A66, c67, A70, c71, A74, c75, A78, c79, A82, c83, (some ⟨b103, 0, none⟩), 1, ([⟨r97, A99, c100⟩] : List Mq), rfl, k68, k72, k76, k80, k84, ⟨Nat.le_refl 1, by decide⟩, rfl, (Vm k101 Vj), hS⟩
  ·try dsimp only [Zy]
   refine Zm rfl rfl rfl CellsOf.agg hS ps7 Yz (by kernel_rfl) rfl (fun w hS hB => ?_)
   refine Zg ?_
   refine Yk (hB.sub (fun _ _ h => by simpa using h)) ?_
   refine Z6 [false, false, false, false, false, true] 5 ⟨by decide, by kernel_rfl, by kernel_rfl⟩ rfl rfl ?_
   try dsimp only [Zy]
   refine Y0 (ps := [(0, .tmp 146)]) [.int .u8 r97.kind, .int .i64 r97.frm, .int .i64 r97.dst, .int .i64 r97.term, .int .i64 r97.cap, .int .i64 r97.last, .int .i64 r97.lastTerm, .int .i64 r97.commit, .bool r97.okk, .slice A99 r97.entries.length c100, .int .i64 r97.snap.index, .int .i64 r97.snap.term, .int .i64 r97.snap.sum, .int .i64 r97.snap.level, .bool r97.snap.final] V0 Zai rfl rfl rfl rfl rfl (by kernel_rfl) hS (fun b103 w hS hB => ?_)
   refine Zg ?_
   refine Z8 hB ?_
   refine Zn [false, false, false, false, false, false, false, true] (by decide +kernel) PFC.h ?_
   refine LtK.put rfl rfl rfl (Zx rfl) ?_
   refine LtK.nil ?_
   refine Z4 (by kernel_rfl) ?_
   refine Zb hK96 ?_
   refine Zk ?_
   refine Z2 ?_
   refine Zl rfl (RV.cell rfl (Z0 Ye hS hs8 Z3) (RV.tmp rfl RV.nil)) rfl ?_
   obtain rfl := QJ H
   have hS := hS.nilRds
   replace hS := hS.front 2 rfl
   replace hS := hS.absorbQ ⟨r97, A99, c100⟩
   replace hS := hS.front 1 rfl
   replace hS := hS.weak Weak.boxRd
   have hS := hS.front 6 rfl
   have hS := hS.front 6 rfl
   have hS := hS.front 6 rfl
   have hS := hS.front 6 rfl
   have hS := hS.front 6 rfl
   replace hS := hS.cut 7
   exact ⟨A66, c67, A70, c71, A74, c75, A78, c79, A82, c83, (some ⟨b103, 0, none⟩), 1, ([⟨r97, A99, c100⟩] : List Mq), rfl, k68, k72, k76, k80, k84, ⟨Nat.le_refl 1, by decide⟩, rfl, (Vm k101 Vj), hS⟩
 replace H := Zo H hb
 refine Ze (fun K hK105 => ?_)
 refine Zf ?_
 refine Za rfl rfl rfl (Zd Zb0 rfl) ?_
 refine Za rfl rfl rfl (Zh Zbd rfl (Zgw _) hS hs8 trivial Zav) ?_
 refine Za rfl rfl rfl (Y5 rfl rfl) ?_
 refine Zc 1 rfl ?_
 refine Zg ?_
 refine Zb hK105 ?_
 refine Zz rfl (fun hb => ?_) (fun hb => ?_)
 ·replace H := Zp H hb
  refine Ze (fun K hK106 => ?_)
  refine Zf ?_
  refine Za rfl rfl rfl (Zj Ye rfl (Zgw _) hS hs8 trivial Z3) ?_
  refine Zm rfl rfl rfl CellsOf.agg hS ps6 Yz (by kernel_rfl) rfl (fun w hS hB => ?_)
  refine Zc 1 rfl ?_
  refine Zg ?_
  refine Zb hK106 ?_
  refine Zk ?_
  refine Zv ?_
  refine Zi ?_
  refine Z2 ?_
  refine Zl rfl (RV.cell rfl (Z0 Ye hS hs6 Z3) (RV.tmp rfl RV.nil)) rfl ?_
  obtain rfl := QJ H
  have hS := hS.nilRds
  replace hS := hS.nilRd
  have hS := hS.front 6 rfl
  have hS := hS.front 6 rfl
  have hS := hS.front 6 rfl
  have hS := hS.front 6 rfl
  have hS := hS.front 6 rfl
  replace hS := hS.cut 7
  exact ⟨A66, c67, A70, c71, A74, c75, A78, c79, A82, c83, none, 0, ([] : List Mq), rfl, k68, k72, k76, k80, k84, ⟨Nat.le_refl _, Nat.zero_le _⟩, rfl, Vj, hS⟩
 replace H := Zo H hb
 refine Zr ?_
 refine Z1 ?_
 refine Zb hK93 ?_
 refine Ze (fun K hK107 => ?_)
 refine Ze (fun K hK108 => ?_)
 refine Zf ?_
 refine Za rfl rfl rfl (Zd Zb0 rfl) ?_
 refine Zm rfl rfl rfl CellsOf.int hS ps8 st2_1 (by kernel_rfl) rfl (fun w hS hB => ?_)
 refine Zg ?_
 refine Zb hK108 ?_
 refine Ze (fun K hK109 => ?_)
 refine Zf ?_
 refine Za rfl rfl rfl (Zd Vu rfl) ?_
 refine Za rfl rfl rfl (Zh Zw rfl (Zgw _) hS hs7 trivial V7) ?_
 refine Zc 1 rfl ?_
 refine Za rfl rfl rfl (Y9 rfl rfl) ?_
 refine Zg ?_
 refine Zb hK109 ?_
 refine Zz rfl (fun hb => ?_) (fun hb => ?_)
 ·replace H := Zp H hb
  refine Vk ?_
  refine Xd ?_
  refine Vy ?_
  refine Ze (fun K hK110 => ?_)
  refine Zr ?_
  refine Zb hK110 ?_
  refine Ze (fun K hK111 => ?_)
  refine Yi 8 [6] (fun i b => (i = 6 → b ≠ b6)) ⟨by kernel_rfl, by kernel_rfl⟩ hS (fun w hS hB => ?_)
  refine Zn [true] (by decide +kernel) PFC.h ?_
  refine LtK.put rfl rfl rfl (Zj Ye rfl (Zgx _) hS hs8 trivial Z3) ?_
  refine LtK.nil ?_
  refine Xa [false, true, true, true] [6] (fun b => b ≠ b6) (by decide +kernel) (by intro j hj b hb; simp only [List.mem_cons, List.not_mem_nil, or_false] at hj; (try rcases hj with rfl | rfl | rfl | rfl | rfl) <;> first | (simp [hb]; done) | simp_all) PFC.h ?_
  refine LtK.put rfl rfl rfl (Zj Ye rfl (Zgy _ _) hS hs8 (hS.ne 8 6 rfl rfl rfl) Z3) ?_
  refine LtK.put rfl rfl rfl (Zj Vi rfl (Zgy _ _) hS hs7 (hS.ne 7 6 rfl rfl rfl) Xp) ?_
  refine LtK.put rfl rfl rfl (Zu rfl) ?_
  refine LtK.nil ?_
  refine Z6 [false, false, false, false, true] 4 ⟨by decide, by kernel_rfl, by kernel_rfl⟩ rfl rfl ?_
  try dsimp only [Zy]
  obtain ⟨r112, hm113, H⟩ := bind_some H
  refine Zq rfl rfl rfl rfl (by kernel_rfl) rfl (Jq (⟨r64.id, r64.n, 0, r64.binary, r64.tuple, r64.commit, r64.applied, r64.votes, r64.next, r64.mtch, r64.caps⟩ : Co) x1 4 false r87 A66 c67 A70 c71 A74 c75 A78 c79 A82 c83 A5_ c5_ _ (Zgz k68 (hS.rd hs0) (hS.rd_blk hs0)) (Zgz k72 (hS.row_rd Xw) (hS.row_blk Xw)) (Zgz k76 (hS.row_rd Vf) (hS.row_blk Vf)) (Zgz k80 (hS.row_rd hs3) (hS.row_blk hs3)) (Zgz k84 (hS.row_rd hs4) (hS.row_blk hs4)) (Zgz s5_.k (hS.rd0 s5_.rd) (hS.blk0 s5_.blk)) hm113) ?_
  rintro e w ⟨A114, c115, rfl, k116, hN⟩; refine ⟨_, rfl, ?_⟩; obtain ⟨hB, hS⟩ := hS.jn hN
  refine Zg ?_
  refine Z8 hB ?_
  refine Zaw [5, 6] ⟨by decide, by kernel_rfl⟩ rfl (.call [false, false, false, false, false, true] 5 rfl rfl rfl ?_ (.put [false, false, false, false, false, false, true] 6 rfl rfl rfl ?_ .nil))
  ·try dsimp only [Zy]
   refine Y0 (ps := [(0, .tmp 146)]) [.int .u8 r112.kind, .int .i64 r112.frm, .int .i64 r112.dst, .int .i64 r112.term, .int .i64 r112.cap, .int .i64 r112.last, .int .i64 r112.lastTerm, .int .i64 r112.commit, .bool r112.okk, .slice A114 r112.entries.length c115, .int .i64 r112.snap.index, .int .i64 r112.snap.term, .int .i64 r112.snap.sum, .int .i64 r112.snap.level, .bool r112.snap.final] V0 Zai rfl rfl rfl rfl rfl (by kernel_rfl) hS (fun b118 w hS hB => ?_)
   refine Zg ?_
   refine Z8 hB ?_
   refine Yu [false, false, false, false, false, false, true] 6 ⟨by decide, by kernel_rfl, by kernel_rfl⟩ rfl rfl ?_
   try dsimp only [Zy]
   refine Zm rfl rfl rfl CellsOf.agg hS ps8 Yz (by kernel_rfl) rfl (fun w hS hB => ?_)
   refine Zg ?_
   refine Yk (hB.sub (fun _ _ h => by simpa using h)) ?_
   refine Zn [false, false, false, false, false, false, false, true] (by decide +kernel) PFC.h ?_
   refine LtK.put rfl rfl rfl (Zx rfl) ?_
   refine LtK.nil ?_
   refine Z4 (by kernel_rfl) ?_
   refine Zb hK111 ?_
   refine Zk ?_
   refine Z2 ?_
   refine Zl rfl (RV.cell rfl (Z0 Ye hS hs8 Z3) (RV.tmp rfl RV.nil)) rfl ?_
   obtain rfl := QJ H
   have hS := hS.nilRds
   replace hS := hS.front 2 rfl
   replace hS := hS.absorbQ ⟨r112, A114, c115⟩
   replace hS := hS.front 1 rfl
   replace hS := hS.weak Weak.boxRd
   have hS := hS.front 6 rfl
   have hS := hS.front 6 rfl
   have hS := hS.front 6 rfl
   have hS := hS.front 6 rfl
   have hS := hS.front 6 rfl
   replace hS := hS.cut 7
   exact ⟨A66, c67, A70, c71, A74, c75, A78, c79, A82, c83, (some ⟨b118, 0, none⟩), 1, ([⟨r112, A114, c115⟩] : List Mq), rfl, k68, k72, k76, k80, k84, ⟨Nat.le_refl 1, by decide⟩, rfl, (Vm k116 Vj), hS⟩
  ·try dsimp only [Zy]
   refine Zm rfl rfl rfl CellsOf.agg hS ps7 Yz (by kernel_rfl) rfl (fun w hS hB => ?_)
   refine Zg ?_
   refine Yk (hB.sub (fun _ _ h => by simpa using h)) ?_
   refine Z6 [false, false, false, false, false, true] 5 ⟨by decide, by kernel_rfl, by kernel_rfl⟩ rfl rfl ?_
   try dsimp only [Zy]
   refine Y0 (ps := [(0, .tmp 146)]) [.int .u8 r112.kind, .int .i64 r112.frm, .int .i64 r112.dst, .int .i64 r112.term, .int .i64 r112.cap, .int .i64 r112.last, .int .i64 r112.lastTerm, .int .i64 r112.commit, .bool r112.okk, .slice A114 r112.entries.length c115, .int .i64 r112.snap.index, .int .i64 r112.snap.term, .int .i64 r112.snap.sum, .int .i64 r112.snap.level, .bool r112.snap.final] V0 Zai rfl rfl rfl rfl rfl (by kernel_rfl) hS (fun b118 w hS hB => ?_)
   refine Zg ?_
   refine Z8 hB ?_
   refine Zn [false, false, false, false, false, false, false, true] (by decide +kernel) PFC.h ?_
   refine LtK.put rfl rfl rfl (Zx rfl) ?_
   refine LtK.nil ?_
   refine Z4 (by kernel_rfl) ?_
   refine Zb hK111 ?_
   refine Zk ?_
   refine Z2 ?_
   refine Zl rfl (RV.cell rfl (Z0 Ye hS hs8 Z3) (RV.tmp rfl RV.nil)) rfl ?_
   obtain rfl := QJ H
   have hS := hS.nilRds
   replace hS := hS.front 2 rfl
   replace hS := hS.absorbQ ⟨r112, A114, c115⟩
   replace hS := hS.front 1 rfl
   replace hS := hS.weak Weak.boxRd
   have hS := hS.front 6 rfl
   have hS := hS.front 6 rfl
   have hS := hS.front 6 rfl
   have hS := hS.front 6 rfl
   have hS := hS.front 6 rfl
   replace hS := hS.cut 7
   exact ⟨A66, c67, A70, c71, A74, c75, A78, c79, A82, c83, (some ⟨b118, 0, none⟩), 1, ([⟨r112, A114, c115⟩] : List Mq), rfl, k68, k72, k76, k80, k84, ⟨Nat.le_refl 1, by decide⟩, rfl, (Vm k116 Vj), hS⟩
 replace H := Zo H hb
 refine Zr ?_
 refine Zb hK107 ?_
 refine Ze (fun K hK120 => ?_)
 refine Ze (fun K hK121 => ?_)
 refine Zf ?_
 refine Zc 2 rfl ?_
 refine Zs 59 rfl (fun hb => ?_) (fun hb => ?_)
 rotate_left
 ·replace H := Zo H hb
  refine Zc 5 rfl ?_
  refine Zg ?_
  refine Zb hK121 ?_
  refine Yp rfl rfl ?_
  refine Zr ?_
  refine Zb hK120 ?_
  refine Ze (fun K hK307 => ?_)
  refine Yi 7 [6] (fun i b => (i = 6 → b ≠ b9)) ⟨by kernel_rfl, by kernel_rfl⟩ hS (fun w hS hB => ?_)
  refine Zn [true, true, false, true, true] (by decide +kernel) PFC.h ?_
  refine LtK.put rfl rfl rfl (Zj Ye rfl (Zgx _) hS hs8 trivial Z3) ?_
  refine LtK.put rfl rfl rfl (Zj Vi rfl (Zgx _) hS hs7 trivial Xp) ?_
  refine LtK.put rfl rfl rfl (Zd Yr rfl) ?_
  refine LtK.put rfl rfl rfl (Zj Y7 rfl (Zgx _) hS hs8 trivial Zak) ?_
  refine LtK.nil ?_
  refine Z6 [false, false, true] 2 ⟨by decide, by kernel_rfl, by kernel_rfl⟩ rfl rfl ?_
  try dsimp only [Zy]
  obtain ⟨r308, hm309, H⟩ := bind_some H
  refine Zq rfl rfl rfl rfl (by kernel_rfl) rfl (c_repl_other (⟨r64.id, r64.n, 0, r64.binary, r64.tuple, r64.commit, r64.applied, r64.votes, r64.next, r64.mtch, r64.caps⟩ : Co) x1 A66 c67 A70 c71 A74 c75 A78 c79 A82 c83 A5_ c5_ _ (Zgz k68 (hS.rd hs0) (hS.rd_blk hs0)) (Zgz k72 (hS.row_rd Xw) (hS.row_blk Xw)) (Zgz k76 (hS.row_rd Vf) (hS.row_blk Vf)) (Zgz k80 (hS.row_rd hs3) (hS.row_blk hs3)) (Zgz k84 (hS.row_rd hs4) (hS.row_blk hs4)) (Zgz s5_.k (hS.rd0 s5_.rd) (hS.blk0 s5_.blk)) hm309) ?_
  rintro e w ⟨rfl, hN⟩; refine ⟨_, rfl, ?_⟩; obtain ⟨hB, hS⟩ := hS.jn hN
  refine Zg ?_
  refine Z8 hB ?_
  refine Zn [false, false, false, false, false, true] (by decide +kernel) PFC.h ?_
  refine LtK.put rfl rfl rfl (Zx rfl) ?_
  refine LtK.nil ?_
  refine Yu [false, false, false, false, false, false, true] 6 ⟨by decide, by kernel_rfl, by kernel_rfl⟩ rfl rfl ?_
  try dsimp only [Zy]
  refine Zm rfl rfl rfl CellsOf.agg hS ps5 st0_8 (by kernel_rfl) rfl (fun w hS hB => ?_)
  refine Zg ?_
  refine Yk (hB.sub (fun _ _ h => by simpa using h)) ?_
  refine Z4 (by kernel_rfl) ?_
  refine Zb hK307 ?_
  refine Ze (fun K hK310 => ?_)
  refine Ze (fun K hK311 => ?_)
  refine Zf ?_
  refine Za rfl rfl rfl (Zd Vu rfl) ?_
  refine Za rfl rfl rfl (Zh Zw rfl (Zgw _) hS hs7 trivial V7) ?_
  refine Za rfl rfl rfl (Xc rfl rfl) ?_
  refine Zc 1 rfl ?_
  refine Za rfl rfl rfl (Xc rfl rfl) ?_
  refine Zc 1 rfl ?_
  refine Zg ?_
  refine Zb hK311 ?_
  refine Ze (fun K hK312 => ?_)
  refine Zf ?_
  refine Zc 1 rfl ?_
  refine Za rfl rfl rfl (Zd X5 rfl) ?_
  refine Za rfl rfl rfl (Zh Xq rfl (Zgw _) hS hs7 trivial Jg) ?_
  refine Za rfl rfl rfl (Yw Y4 rfl) ?_
  refine Za rfl rfl rfl (Xe rfl rfl) ?_
  refine Zg ?_
  refine Zb hK312 ?_
  refine Zz rfl (fun hb => ?_) (fun hb => ?_)
  rotate_left
  ·replace H := Zo H hb
   refine Zr ?_
   refine Zb hK310 ?_
   refine Ze (fun K hK442 => ?_)
   refine Zf ?_
   refine Za rfl rfl rfl (Zj Y7 rfl (Zgw _) hS hs5 trivial Zbr) ?_
   refine Za rfl rfl rfl (Zd Yr rfl) ?_
   refine Zm rfl rfl rfl CellsOf.agg hS ps8 st4_8 (by kernel_rfl) rfl (fun w hS hB => ?_)
   refine Zg ?_
   refine Zb hK442 ?_
   refine Ze (fun K hK443 => ?_)
   refine Zf ?_
   refine Za rfl rfl rfl (Zj Ye rfl (Zgw _) hS hs8 trivial Z3) ?_
   obtain ⟨r444, hm445, H⟩ := bind_some H
   refine Zq rfl rfl rfl rfl (by kernel_rfl) rfl (Zea (⟨r64.id, r64.n, 0, r64.binary, r64.tuple, r64.commit, r64.applied, r64.votes, r64.next, r64.mtch, r64.caps⟩ : Co) A66 c67 A70 c71 A74 c75 A78 c79 A82 c83 _ (Zgz k68 (hS.rd hs0) (hS.rd_blk hs0)) (Zgz k72 (hS.row_rd Xw) (hS.row_blk Xw)) (Zgz k76 (hS.row_rd Vf) (hS.row_blk Vf)) (Zgz k80 (hS.row_rd hs3) (hS.row_blk hs3)) (Zgz k84 (hS.row_rd hs4) (hS.row_blk hs4)) hm445) ?_
   rintro e w ⟨A446, c447, A450, c451, A454, c455, A458, c459, A462, c463, rfl, k448, k452, k456, k460, k464, hN⟩; refine ⟨_, rfl, ?_⟩; obtain ⟨hB, hS⟩ := hS.jn hN
   refine Zm rfl rfl rfl CellsOf.agg hS ps13 Yz (by kernel_rfl) rfl (fun w hS hB => ?_)
   refine Zg ?_
   refine Zb hK443 ?_
   refine Ze (fun K hK466 => ?_)
   refine Zf ?_
   refine Za rfl rfl rfl (Zd Vu rfl) ?_
   refine Za rfl rfl rfl (Zh Zw rfl (Zgw _) hS hs12 trivial V7) ?_
   refine Za rfl rfl rfl (Zd X5 rfl) ?_
   refine Za rfl rfl rfl (Zh Xq rfl (Zgw _) hS hs12 trivial Jg) ?_
   refine Za rfl rfl rfl (Yw Y4 rfl) ?_
   refine Za rfl rfl rfl (Xc rfl rfl) ?_
   refine Zc 1 rfl ?_
   refine Zg ?_
   refine Zb hK466 ?_
   refine Ze (fun K hK467 => ?_)
   refine Zf ?_
   refine Za rfl rfl rfl (Zd Vd rfl) ?_
   refine Za rfl rfl rfl (Zh Zw rfl (Zgw _) hS Zeq trivial Jl) ?_
   refine Za rfl rfl rfl (Zd Zcl rfl) ?_
   refine Za rfl rfl rfl (Zh Zw rfl (Zgw _) hS hs12 trivial Zey) ?_
   refine Zc 1 rfl ?_
   refine Za rfl rfl rfl (Ze3 rfl rfl) ?_
   refine Za rfl rfl rfl (Ze0 rfl rfl) ?_
   refine Za rfl rfl rfl (Zd Vd rfl) ?_
   refine Zm rfl rfl rfl CellsOf.int hS ps13 st12_1 (by kernel_rfl) rfl (fun w hS hB => ?_)
   refine Zg ?_
   refine Zb hK467 ?_
   refine Ze (fun K hK468 => ?_)
   refine Zf ?_
   refine Za rfl rfl rfl (Zd Yr rfl) ?_
   refine Za rfl rfl rfl (Zj Y7 rfl (Zgw _) hS Zeq trivial Zak) ?_
   refine Za rfl rfl rfl (Zd Vd rfl) ?_
   refine Za rfl rfl rfl (Zh Zw rfl (Zgw _) hS Zeq trivial Jl) ?_
   obtain ⟨r469, hm470, H⟩ := bind_some H
   refine Zq rfl rfl rfl rfl (by kernel_rfl) rfl (Za0 r444.tuple (max r444.commit (min x1.commit (IntKind.wrap .i64 (x1.last + (x1.entries.length : Int))))) A446 c447 _ (Zgz k448 (hS.row_rd hs0) (hS.row_blk hs0)) hm470) ?_
   rintro e w ⟨rfl, hN⟩; refine ⟨_, rfl, ?_⟩; obtain ⟨hB, hS⟩ := hS.jn hN
   refine Zc 1 rfl ?_
   refine Za rfl rfl rfl (Z7 rfl rfl) ?_
   refine Za rfl rfl rfl (Z7 rfl rfl) ?_
   refine Za rfl rfl rfl (Zd Zei rfl) ?_
   refine Zm rfl rfl rfl CellsOf.agg hS ps13 st13_5 (by kernel_rfl) rfl (fun w hS hB => ?_)
   refine Zg ?_
   refine Zb hK468 ?_
   refine Ze (fun K hK471 => ?_)
   refine Ze (fun K hK472 => ?_)
   refine Yi 8 [6] (fun i b => (i = 6 → b ≠ b6)) ⟨by kernel_rfl, by kernel_rfl⟩ hS (fun w hS hB => ?_)
   refine Zn [true] (by decide +kernel) PFC.h ?_
   refine LtK.put rfl rfl rfl (Zj Ye rfl (Zgx _) hS Zeq trivial Z3) ?_
   refine LtK.nil ?_
   refine Xa [false, true, true, true] [6] (fun b => b ≠ b6) (by decide +kernel) (by intro j hj b hb; simp only [List.mem_cons, List.not_mem_nil, or_false] at hj; (try rcases hj with rfl | rfl | rfl | rfl | rfl) <;> first | (simp [hb]; done) | simp_all) PFC.h ?_
   refine LtK.put rfl rfl rfl (Zj Ye rfl (Zgy _ _) hS Zeq (hS.ne 13 11 rfl rfl rfl) Z3) ?_
   refine LtK.put rfl rfl rfl (Zj Vi rfl (Zgy _ _) hS hs12 (hS.ne 12 11 rfl rfl rfl) Xp) ?_
   refine LtK.put rfl rfl rfl (Zu rfl) ?_
   refine LtK.nil ?_
   refine Z6 [false, false, false, false, true] 4 ⟨by decide, by kernel_rfl, by kernel_rfl⟩ rfl rfl ?_
   try dsimp only [Zy]
   obtain ⟨r473, hm474, H⟩ := bind_some H
   refine Zq rfl rfl rfl rfl (by kernel_rfl) rfl (Jq (⟨r444.id, r444.n, r444.role, r444.binary, r444.tuple, (max r444.commit (min x1.commit (IntKind.wrap .i64 (x1.last + (x1.entries.length : Int))))), r469.1, r444.votes, r444.next, r444.mtch, r444.caps⟩ : Co) x1 4 true (IntKind.wrap .i64 (x1.last + (x1.entries.length : Int))) A446 c447 A450 c451 A454 c455 A458 c459 A462 c463 A5_ c5_ _ (Zgz k448 (hS.row_rd hs0) (hS.row_blk hs0)) (Zgz k452 (hS.row_rd Xw) (hS.row_blk Xw)) (Zgz k456 (hS.row_rd Vf) (hS.row_blk Vf)) (Zgz k460 (hS.row_rd hs3) (hS.row_blk hs3)) (Zgz k464 (hS.row_rd hs4) (hS.row_blk hs4)) (Zgz s5_.k (hS.rd0 s5_.rd) (hS.blk0 s5_.blk)) hm474) ?_
   rintro e w ⟨A475, c476, rfl, k477, hN⟩; refine ⟨_, rfl, ?_⟩; obtain ⟨hB, hS⟩ := hS.jn hN
   refine Zg ?_
   refine Z8 hB ?_
   refine Zaw [5, 6] ⟨by decide, by kernel_rfl⟩ rfl (.call [false, false, false, false, false, true] 5 rfl rfl rfl ?_ (.put [false, false, false, false, false, false, true] 6 rfl rfl rfl ?_ .nil))
   ·try dsimp only [Zy]
    refine Y0 (ps := [(0, .tmp 140)]) [.int .u8 r473.kind, .int .i64 r473.frm, .int .i64 r473.dst, .int .i64 r473.term, .int .i64 r473.cap, .int .i64 r473.last, .int .i64 r473.lastTerm, .int .i64 r473.commit, .bool r473.okk, .slice A475 r473.entries.length c476, .int .i64 r473.snap.index, .int .i64 r473.snap.term, .int .i64 r473.snap.sum, .int .i64 r473.snap.level, .bool r473.snap.final] V0 Zai rfl rfl rfl rfl rfl (by kernel_rfl) hS (fun b479 w hS hB => ?_)
    refine Zg ?_
    refine Z8 hB ?_
    refine Yu [false, false, false, false, false, false, true] 6 ⟨by decide, by kernel_rfl, by kernel_rfl⟩ rfl rfl ?_
    try dsimp only [Zy]
    refine Zm rfl rfl rfl CellsOf.agg hS ps13 Yz (by kernel_rfl) rfl (fun w hS hB => ?_)
    refine Zg ?_
    refine Yk (hB.sub (fun _ _ h => by simpa using h)) ?_
    refine Zn [false, false, false, false, false, false, false, true] (by decide +kernel) PFC.h ?_
    refine LtK.put rfl rfl rfl (Zx rfl) ?_
    refine LtK.nil ?_
    refine Z4 (by kernel_rfl) ?_
    refine Zb hK472 ?_
    refine Zk ?_
    refine Zi ?_
    refine Z2 ?_
    refine Zl rfl (RV.cell rfl (Z0 Ye hS Zeq Z3) (RV.tmp rfl RV.nil)) rfl ?_
    obtain rfl := QJ H
    have hS := hS.nilRds
    replace hS := hS.front 2 rfl
    replace hS := hS.absorbQ ⟨r473, A475, c476⟩
    replace hS := hS.front 1 rfl
    replace hS := hS.weak Weak.boxRd
    have hS := hS.front 6 rfl
    have hS := hS.front 6 rfl
    have hS := hS.front 6 rfl
    have hS := hS.front 6 rfl
    have hS := hS.front 6 rfl
    replace hS := hS.weak Weak.rowRd
    replace hS := hS.cut 7
    exact ⟨A446, c447, A450, c451, A454, c455, A458, c459, A462, c463, (some ⟨b479, 0, none⟩), 1, ([⟨r473, A475, c476⟩] : List Mq), rfl, k448, k452, k456, k460, k464, ⟨Nat.le_refl 1, by decide⟩, rfl, (Vm k477 Vj), hS⟩
   ·try dsimp only [Zy]
    refine Zm rfl rfl rfl CellsOf.agg hS ps12 Yz (by kernel_rfl) rfl (fun w hS hB => ?_)
    refine Zg ?_
    refine Yk (hB.sub (fun _ _ h => by simpa using h)) ?_
    refine Z6 [false, false, false, false, false, true] 5 ⟨by decide, by kernel_rfl, by kernel_rfl⟩ rfl rfl ?_
    try dsimp only [Zy]
    refine Y0 (ps := [(0, .tmp 140)]) [.int .u8 r473.kind, .int .i64 r473.frm, .int .i64 r473.dst, .int .i64 r473.term, .int .i64 r473.cap, .int .i64 r473.last, .int .i64 r473.lastTerm, .int .i64 r473.commit, .bool r473.okk, .slice A475 r473.entries.length c476, .int .i64 r473.snap.index, .int .i64 r473.snap.term, .int .i64 r473.snap.sum, .int .i64 r473.snap.level, .bool r473.snap.final] V0 Zai rfl rfl rfl rfl rfl (by kernel_rfl) hS (fun b479 w hS hB => ?_)
    refine Zg ?_
    refine Z8 hB ?_
    refine Zn [false, false, false, false, false, false, false, true] (by decide +kernel) PFC.h ?_
    refine LtK.put rfl rfl rfl (Zx rfl) ?_
    refine LtK.nil ?_
    refine Z4 (by kernel_rfl) ?_
    refine Zb hK472 ?_
    refine Zk ?_
    refine Zi ?_
    refine Z2 ?_
    refine Zl rfl (RV.cell rfl (Z0 Ye hS Zeq Z3) (RV.tmp rfl RV.nil)) rfl ?_
    obtain rfl := QJ H
    have hS := hS.nilRds
    replace hS := hS.front 2 rfl
    replace hS := hS.absorbQ ⟨r473, A475, c476⟩
    replace hS := hS.front 1 rfl
    replace hS := hS.weak Weak.boxRd
    have hS := hS.front 6 rfl
    have hS := hS.front 6 rfl
    have hS := hS.front 6 rfl
    have hS := hS.front 6 rfl
    have hS := hS.front 6 rfl
    replace hS := hS.weak Weak.rowRd
    replace hS := hS.cut 7
    exact ⟨A446, c447, A450, c451, A454, c455, A458, c459, A462, c463, (some ⟨b479, 0, none⟩), 1, ([⟨r473, A475, c476⟩] : List Mq), rfl, k448, k452, k456, k460, k464, ⟨Nat.le_refl 1, by decide⟩, rfl, (Vm k477 Vj), hS⟩
  replace H := Zp H hb
  refine Ze (fun K hK313 => ?_)
  refine Ze (fun K hK314 => ?_)
  refine Zf ?_
  refine Zc 1 rfl ?_
  refine Za rfl rfl rfl (Zd Vd rfl) ?_
  refine Za rfl rfl rfl (Zh Zw rfl (Zgw _) hS hs8 trivial Jl) ?_
  refine Za rfl rfl rfl (Zbn rfl rfl) ?_
  refine Zg ?_
  refine Zb hK314 ?_
  refine Zz rfl (fun hb => ?_) (fun hb => ?_)
  ·replace H := Zp H hb
   refine Ze (fun K hK315 => ?_)
   refine Zf ?_
   refine Za rfl rfl rfl (Zj Ye rfl (Zgw _) hS hs8 trivial Z3) ?_
   refine Zm rfl rfl rfl CellsOf.agg hS ps6 Yz (by kernel_rfl) rfl (fun w hS hB => ?_)
   refine Zc 1 rfl ?_
   refine Zg ?_
   refine Zb hK315 ?_
   refine Zk ?_
   refine Zi ?_
   refine Zi ?_
   refine Z2 ?_
   refine Zl rfl (RV.cell rfl (Z0 Ye hS hs6 Z3) (RV.tmp rfl RV.nil)) rfl ?_
   obtain rfl := QJ H
   have hS := hS.nilRds
   replace hS := hS.nilRd
   have hS := hS.front 6 rfl
   have hS := hS.front 6 rfl
   have hS := hS.front 6 rfl
   have hS := hS.front 6 rfl
   have hS := hS.front 6 rfl
   replace hS := hS.cut 7
   exact ⟨A66, c67, A70, c71, A74, c75, A78, c79, A82, c83, none, 0, ([] : List Mq), rfl, k68, k72, k76, k80, k84, ⟨Nat.le_refl _, Nat.zero_le _⟩, rfl, Vj, hS⟩
  replace H := Zo H hb
  refine Zr ?_
  refine Zb hK313 ?_
  refine Ze (fun K hK316 => ?_)
  refine Ze (fun K hK317 => ?_)
  refine Zf ?_
  refine Zc 2 rfl ?_
  refine Za rfl rfl rfl (Zbn rfl rfl) ?_
  refine Zg ?_
  refine Zb hK317 ?_
  refine Zz rfl (fun hb => ?_) (fun hb => ?_)
  rotate_left
  ·replace H := Zo H hb
   refine Zr ?_
   refine Zb hK316 ?_
   refine Ze (fun K hK383 => ?_)
   refine Yi 11 [9] (fun i b => (i = 9 → b ≠ b9)) ⟨by kernel_rfl, by kernel_rfl⟩ hS (fun w hS hB => ?_)
   refine Zn [true, true, true, true, true] (by decide +kernel) PFC.h ?_
   refine LtK.put rfl rfl rfl (Zj Y7 rfl (Zgx _) hS hs5 trivial Zbr) ?_
   refine LtK.put rfl rfl rfl (Zd X5 rfl) ?_
   refine LtK.put rfl rfl rfl (Zh Xq rfl (Zgx _) hS hs7 trivial Jg) ?_
   refine LtK.put rfl rfl rfl (Zu rfl) ?_
   obtain ⟨l384, hd385, H⟩ := bind_some H
   refine LtK.put rfl rfl rfl (yx_slice_l Y4 rfl rfl hd385) ?_
   refine LtK.nil ?_
   refine Z6 [false, false, false, false, false, true] 5 ⟨by decide, by kernel_rfl, by kernel_rfl⟩ rfl rfl ?_
   try dsimp only [Zy]
   obtain ⟨r386, hm387, H⟩ := bind_some H
   refine Zq rfl rfl rfl rfl (by kernel_rfl) rfl (Zdu r64.tuple l384 A66 c67 (cutA A5_ c5_ (Int.toNat r308) 3) (c5_ - Int.toNat r308) _ (Zgz k68 (hS.rd hs0) (hS.rd_blk hs0)) (Zgz (k_drop s5_.k hd385) (Rd.dropI X6 (hS.rd0 s5_.rd) s5_.k.1 hd385) (cutA_blk (hS.blk0 s5_.blk))) hm387) ?_
   rintro e w ⟨A388, c389, rfl, k390, hN⟩; refine ⟨_, rfl, ?_⟩; obtain ⟨hB, hS⟩ := hS.jn hN
   refine Zg ?_
   refine Z8 hB ?_
   refine Zn [false, false, false, false, false, false, true, true] (by decide +kernel) PFC.h ?_
   refine LtK.put rfl rfl rfl (Zu rfl) ?_
   refine LtK.put rfl rfl rfl (Z7 rfl rfl) ?_
   refine LtK.nil ?_
   refine Xa [false, false, false, false, false, false, false, false, true] [9] (fun b => b ≠ b9) (by decide +kernel) (by intro j hj b hb; simp only [List.mem_cons, List.not_mem_nil, or_false] at hj; (try rcases hj with rfl | rfl | rfl | rfl | rfl) <;> first | (simp [hb]; done) | simp_all) PFC.h ?_
   refine LtK.put rfl rfl rfl (Z7 rfl rfl) ?_
   refine LtK.nil ?_
   refine Yu [false, false, false, false, false, false, false, false, false, true] 9 ⟨by decide, by kernel_rfl, by kernel_rfl⟩ rfl rfl ?_
   try dsimp only [Zy]
   refine Zm rfl rfl rfl CellsOf.agg hS ps6 st0_8 (by kernel_rfl) rfl (fun w hS hB => ?_)
   refine Zg ?_
   refine Yk (hB.sub (fun _ _ h => by simpa using h)) ?_
   refine Zn [false, false, false, false, false, false, false, false, false, false, true] (by decide +kernel) PFC.h ?_
   refine LtK.put rfl rfl rfl (Zx rfl) ?_
   refine LtK.nil ?_
   refine Z4 (by kernel_rfl) ?_
   refine Zb hK383 ?_
   refine Ze (fun K hK392 => ?_)
   refine Zf ?_
   refine Zc 1 rfl ?_
   refine Za rfl rfl rfl (Xh rfl rfl) ?_
   refine Zg ?_
   refine Zb hK392 ?_
   refine Zz rfl (fun hb => ?_) (fun hb => ?_)
   ·replace H := Zp H hb
    refine Vk ?_
    refine Xd ?_
    refine Vy ?_
    refine Ze (fun K hK393 => ?_)
    refine Zr ?_
    refine Zb hK393 ?_
    refine Ze (fun K hK394 => ?_)
    refine Yi 8 [6] (fun i b => (i = 6 → b ≠ b6)) ⟨by kernel_rfl, by kernel_rfl⟩ hS (fun w hS hB => ?_)
    refine Zn [true] (by decide +kernel) PFC.h ?_
    refine LtK.put rfl rfl rfl (Zj Ye rfl (Zgx _) hS hs9 trivial Z3) ?_
    refine LtK.nil ?_
    refine Xa [false, true, true, true] [6] (fun b => b ≠ b6) (by decide +kernel) (by intro j hj b hb; simp only [List.mem_cons, List.not_mem_nil, or_false] at hj; (try rcases hj with rfl | rfl | rfl | rfl | rfl) <;> first | (simp [hb]; done) | simp_all) PFC.h ?_
    refine LtK.put rfl rfl rfl (Zj Ye rfl (Zgy _ _) hS hs9 (hS.ne 9 7 rfl rfl rfl) Z3) ?_
    refine LtK.put rfl rfl rfl (Zj Vi rfl (Zgy _ _) hS hs8 (hS.ne 8 7 rfl rfl rfl) Xp) ?_
    refine LtK.put rfl rfl rfl (Zu rfl) ?_
    refine LtK.nil ?_
    refine Z6 [false, false, false, false, true] 4 ⟨by decide, by kernel_rfl, by kernel_rfl⟩ rfl rfl ?_
    try dsimp only [Zy]
    obtain ⟨r395, hm396, H⟩ := bind_some H
    refine Zq rfl rfl rfl rfl (by kernel_rfl) rfl (Jq (⟨r64.id, r64.n, 0, r64.binary, r64.tuple, r64.commit, r64.applied, r64.votes, r64.next, r64.mtch, r64.caps⟩ : Co) x1 4 false r87 A66 c67 A70 c71 A74 c75 A78 c79 A82 c83 A5_ c5_ _ (Zgz k68 (hS.rd Xw) (hS.rd_blk Xw)) (Zgz k72 (hS.row_rd Vf) (hS.row_blk Vf)) (Zgz k76 (hS.row_rd hs3) (hS.row_blk hs3)) (Zgz k80 (hS.row_rd hs4) (hS.row_blk hs4)) (Zgz k84 (hS.row_rd hs5) (hS.row_blk hs5)) (Zgz s5_.k (hS.rd0 s5_.rd) (hS.blk0 s5_.blk)) hm396) ?_
    rintro e w ⟨A397, c398, rfl, k399, hN⟩; refine ⟨_, rfl, ?_⟩; obtain ⟨hB, hS⟩ := hS.jn hN
    refine Zg ?_
    refine Z8 hB ?_
    refine Zaw [5, 6] ⟨by decide, by kernel_rfl⟩ rfl (.call [false, false, false, false, false, true] 5 rfl rfl rfl ?_ (.put [false, false, false, false, false, false, true] 6 rfl rfl rfl ?_ .nil))
    ·try dsimp only [Zy]
     refine Y0 (ps := [(0, .tmp 146)]) [.int .u8 r395.kind, .int .i64 r395.frm, .int .i64 r395.dst, .int .i64 r395.term, .int .i64 r395.cap, .int .i64 r395.last, .int .i64 r395.lastTerm, .int .i64 r395.commit, .bool r395.okk, .slice A397 r395.entries.length c398, .int .i64 r395.snap.index, .int .i64 r395.snap.term, .int .i64 r395.snap.sum, .int .i64 r395.snap.level, .bool r395.snap.final] V0 Zai rfl rfl rfl rfl rfl (by kernel_rfl) hS (fun b401 w hS hB => ?_)
     refine Zg ?_
     refine Z8 hB ?_
     refine Yu [false, false, false, false, false, false, true] 6 ⟨by decide, by kernel_rfl, by kernel_rfl⟩ rfl rfl ?_
     try dsimp only [Zy]
     refine Zm rfl rfl rfl CellsOf.agg hS ps9 Yz (by kernel_rfl) rfl (fun w hS hB => ?_)
     refine Zg ?_
     refine Yk (hB.sub (fun _ _ h => by simpa using h)) ?_
     refine Zn [false, false, false, false, false, false, false, true] (by decide +kernel) PFC.h ?_
     refine LtK.put rfl rfl rfl (Zx rfl) ?_
     refine LtK.nil ?_
     refine Z4 (by kernel_rfl) ?_
     refine Zb hK394 ?_
     refine Zk ?_
     refine Z2 ?_
     refine Zl rfl (RV.cell rfl (Z0 Ye hS hs9 Z3) (RV.tmp rfl RV.nil)) rfl ?_
     obtain rfl := QJ H
     have hS := hS.nilRds
     replace hS := hS.front 2 rfl
     replace hS := hS.absorbQ ⟨r395, A397, c398⟩
     replace hS := hS.front 1 rfl
     replace hS := hS.weak Weak.boxRd
     have hS := hS.front 7 rfl
     have hS := hS.front 7 rfl
     have hS := hS.front 7 rfl
     have hS := hS.front 7 rfl
     have hS := hS.front 7 rfl
     replace hS := hS.cut 7
     exact ⟨A66, c67, A70, c71, A74, c75, A78, c79, A82, c83, (some ⟨b401, 0, none⟩), 1, ([⟨r395, A397, c398⟩] : List Mq), rfl, k68, k72, k76, k80, k84, ⟨Nat.le_refl 1, by decide⟩, rfl, (Vm k399 Vj), hS⟩
    ·try dsimp only [Zy]
     refine Zm rfl rfl rfl CellsOf.agg hS ps8 Yz (by kernel_rfl) rfl (fun w hS hB => ?_)
     refine Zg ?_
     refine Yk (hB.sub (fun _ _ h => by simpa using h)) ?_
     refine Z6 [false, false, false, false, false, true] 5 ⟨by decide, by kernel_rfl, by kernel_rfl⟩ rfl rfl ?_
     try dsimp only [Zy]
     refine Y0 (ps := [(0, .tmp 146)]) [.int .u8 r395.kind, .int .i64 r395.frm, .int .i64 r395.dst, .int .i64 r395.term, .int .i64 r395.cap, .int .i64 r395.last, .int .i64 r395.lastTerm, .int .i64 r395.commit, .bool r395.okk, .slice A397 r395.entries.length c398, .int .i64 r395.snap.index, .int .i64 r395.snap.term, .int .i64 r395.snap.sum, .int .i64 r395.snap.level, .bool r395.snap.final] V0 Zai rfl rfl rfl rfl rfl (by kernel_rfl) hS (fun b401 w hS hB => ?_)
     refine Zg ?_
     refine Z8 hB ?_
     refine Zn [false, false, false, false, false, false, false, true] (by decide +kernel) PFC.h ?_
     refine LtK.put rfl rfl rfl (Zx rfl) ?_
     refine LtK.nil ?_
     refine Z4 (by kernel_rfl) ?_
     refine Zb hK394 ?_
     refine Zk ?_
     refine Z2 ?_
     refine Zl rfl (RV.cell rfl (Z0 Ye hS hs9 Z3) (RV.tmp rfl RV.nil)) rfl ?_
     obtain rfl := QJ H
     have hS := hS.nilRds
     replace hS := hS.front 2 rfl
     replace hS := hS.absorbQ ⟨r395, A397, c398⟩
     replace hS := hS.front 1 rfl
     replace hS := hS.weak Weak.boxRd
     have hS := hS.front 7 rfl
     have hS := hS.front 7 rfl
     have hS := hS.front 7 rfl
     have hS := hS.front 7 rfl
     have hS := hS.front 7 rfl
     replace hS := hS.cut 7
     exact ⟨A66, c67, A70, c71, A74, c75, A78, c79, A82, c83, (some ⟨b401, 0, none⟩), 1, ([⟨r395, A397, c398⟩] : List Mq), rfl, k68, k72, k76, k80, k84, ⟨Nat.le_refl 1, by decide⟩, rfl, (Vm k399 Vj), hS⟩
   replace H := Zo H hb
   refine Zr ?_
   refine Zb hK310 ?_
   refine Ze (fun K hK403 => ?_)
   refine Zf ?_
   refine Za rfl rfl rfl (Zj Y7 rfl (Zgw _) hS hs6 trivial Zbr) ?_
   refine Za rfl rfl rfl (Zd Yr rfl) ?_
   refine Zm rfl rfl rfl CellsOf.agg hS ps9 st4_8 (by kernel_rfl) rfl (fun w hS hB => ?_)
   refine Zg ?_
   refine Zb hK403 ?_
   refine Ze (fun K hK404 => ?_)
   refine Zf ?_
   refine Za rfl rfl rfl (Zj Ye rfl (Zgw _) hS hs9 trivial Z3) ?_
   obtain ⟨r405, hm406, H⟩ := bind_some H
   refine Zq rfl rfl rfl rfl (by kernel_rfl) rfl (Zea (⟨r64.id, r64.n, 0, r64.binary, r386.1, r64.commit, r64.applied, r64.votes, r64.next, r64.mtch, r64.caps⟩ : Co) A388 c389 A70 c71 A74 c75 A78 c79 A82 c83 _ (Zgz k390 (hS.rd hs0) (hS.rd_blk hs0)) (Zgz k72 (hS.row_rd Vf) (hS.row_blk Vf)) (Zgz k76 (hS.row_rd hs3) (hS.row_blk hs3)) (Zgz k80 (hS.row_rd hs4) (hS.row_blk hs4)) (Zgz k84 (hS.row_rd hs5) (hS.row_blk hs5)) hm406) ?_
   rintro e w ⟨A407, c408, A411, c412, A415, c416, A419, c420, A423, c424, rfl, k409, k413, k417, k421, k425, hN⟩; refine ⟨_, rfl, ?_⟩; obtain ⟨hB, hS⟩ := hS.jn hN
   refine Zm rfl rfl rfl CellsOf.agg hS ps14 Yz (by kernel_rfl) rfl (fun w hS hB => ?_)
   refine Zg ?_
   refine Zb hK404 ?_
   refine Ze (fun K hK427 => ?_)
   refine Zf ?_
   refine Za rfl rfl rfl (Zd Vu rfl) ?_
   refine Za rfl rfl rfl (Zh Zw rfl (Zgw _) hS Zeq trivial V7) ?_
   refine Za rfl rfl rfl (Zd X5 rfl) ?_
   refine Za rfl rfl rfl (Zh Xq rfl (Zgw _) hS Zeq trivial Jg) ?_
   refine Za rfl rfl rfl (Yw Y4 rfl) ?_
   refine Za rfl rfl rfl (Xc rfl rfl) ?_
   refine Zc 1 rfl ?_
   refine Zg ?_
   refine Zb hK427 ?_
   refine Ze (fun K hK428 => ?_)
   refine Zf ?_
   refine Za rfl rfl rfl (Zd Vd rfl) ?_
   refine Za rfl rfl rfl (Zh Zw rfl (Zgw _) hS Zay trivial Jl) ?_
   refine Za rfl rfl rfl (Zd Zcl rfl) ?_
   refine Za rfl rfl rfl (Zh Zw rfl (Zgw _) hS Zeq trivial Zey) ?_
   refine Zc 1 rfl ?_
   refine Za rfl rfl rfl (Ze3 rfl rfl) ?_
   refine Za rfl rfl rfl (Ze0 rfl rfl) ?_
   refine Za rfl rfl rfl (Zd Vd rfl) ?_
   refine Zm rfl rfl rfl CellsOf.int hS ps14 st12_1 (by kernel_rfl) rfl (fun w hS hB => ?_)
   refine Zg ?_
   refine Zb hK428 ?_
   refine Ze (fun K hK429 => ?_)
   refine Zf ?_
   refine Za rfl rfl rfl (Zd Yr rfl) ?_
   refine Za rfl rfl rfl (Zj Y7 rfl (Zgw _) hS Zay trivial Zak) ?_
   refine Za rfl rfl rfl (Zd Vd rfl) ?_
   refine Za rfl rfl rfl (Zh Zw rfl (Zgw _) hS Zay trivial Jl) ?_
   obtain ⟨r430, hm431, H⟩ := bind_some H
   refine Zq rfl rfl rfl rfl (by kernel_rfl) rfl (Za0 r405.tuple (max r405.commit (min x1.commit (IntKind.wrap .i64 (x1.last + (x1.entries.length : Int))))) A407 c408 _ (Zgz k409 (hS.row_rd hs0) (hS.row_blk hs0)) hm431) ?_
   rintro e w ⟨rfl, hN⟩; refine ⟨_, rfl, ?_⟩; obtain ⟨hB, hS⟩ := hS.jn hN
   refine Zc 1 rfl ?_
   refine Za rfl rfl rfl (Z7 rfl rfl) ?_
   refine Za rfl rfl rfl (Z7 rfl rfl) ?_
   refine Za rfl rfl rfl (Zd Zei rfl) ?_
   refine Zm rfl rfl rfl CellsOf.agg hS ps14 st13_5 (by kernel_rfl) rfl (fun w hS hB => ?_)
   refine Zg ?_
   refine Zb hK429 ?_
   refine Ze (fun K hK432 => ?_)
   refine Ze (fun K hK433 => ?_)
   refine Yi 8 [6] (fun i b => (i = 6 → b ≠ b6)) ⟨by kernel_rfl, by kernel_rfl⟩ hS (fun w hS hB => ?_)
   refine Zn [true] (by decide +kernel) PFC.h ?_
   refine LtK.put rfl rfl rfl (Zj Ye rfl (Zgx _) hS Zay trivial Z3) ?_
   refine LtK.nil ?_
   refine Xa [false, true, true, true] [6] (fun b => b ≠ b6) (by decide +kernel) (by intro j hj b hb; simp only [List.mem_cons, List.not_mem_nil, or_false] at hj; (try rcases hj with rfl | rfl | rfl | rfl | rfl) <;> first | (simp [hb]; done) | simp_all) PFC.h ?_
   refine LtK.put rfl rfl rfl (Zj Ye rfl (Zgy _ _) hS Zay (hS.ne 14 12 rfl rfl rfl) Z3) ?_
   refine LtK.put rfl rfl rfl (Zj Vi rfl (Zgy _ _) hS Zeq (hS.ne 13 12 rfl rfl rfl) Xp) ?_
   refine LtK.put rfl rfl rfl (Zu rfl) ?_
   refine LtK.nil ?_
   refine Z6 [false, false, false, false, true] 4 ⟨by decide, by kernel_rfl, by kernel_rfl⟩ rfl rfl ?_
   try dsimp only [Zy]
   obtain ⟨r434, hm435, H⟩ := bind_some H
   refine Zq rfl rfl rfl rfl (by kernel_rfl) rfl (Jq (⟨r405.id, r405.n, r405.role, r405.binary, r405.tuple, (max r405.commit (min x1.commit (IntKind.wrap .i64 (x1.last + (x1.entries.length : Int))))), r430.1, r405.votes, r405.next, r405.mtch, r405.caps⟩ : Co) x1 4 true (IntKind.wrap .i64 (x1.last + (x1.entries.length : Int))) A407 c408 A411 c412 A415 c416 A419 c420 A423 c424 A5_ c5_ _ (Zgz k409 (hS.row_rd hs0) (hS.row_blk hs0)) (Zgz k413 (hS.row_rd Xw) (hS.row_blk Xw)) (Zgz k417 (hS.row_rd Vf) (hS.row_blk Vf)) (Zgz k421 (hS.row_rd hs3) (hS.row_blk hs3)) (Zgz k425 (hS.row_rd hs4) (hS.row_blk hs4)) (Zgz s5_.k (hS.rd0 s5_.rd) (hS.blk0 s5_.blk)) hm435) ?_
   rintro e w ⟨A436, c437, rfl, k438, hN⟩; refine ⟨_, rfl, ?_⟩; obtain ⟨hB, hS⟩ := hS.jn hN
   refine Zg ?_
   refine Z8 hB ?_
   refine Zaw [5, 6] ⟨by decide, by kernel_rfl⟩ rfl (.call [false, false, false, false, false, true] 5 rfl rfl rfl ?_ (.put [false, false, false, false, false, false, true] 6 rfl rfl rfl ?_ .nil))
   ·try dsimp only [Zy]
    refine Y0 (ps := [(0, .tmp 140)]) [.int .u8 r434.kind, .int .i64 r434.frm, .int .i64 r434.dst, .int .i64 r434.term, .int .i64 r434.cap, .int .i64 r434.last, .int .i64 r434.lastTerm, .int .i64 r434.commit, .bool r434.okk, .slice A436 r434.entries.length c437, .int .i64 r434.snap.index, .int .i64 r434.snap.term, .int .i64 r434.snap.sum, .int .i64 r434.snap.level, .bool r434.snap.final] V0 Zai rfl rfl rfl rfl rfl (by kernel_rfl) hS (fun b440 w hS hB => ?_)
    refine Zg ?_
    refine Z8 hB ?_
    refine Yu [false, false, false, false, false, false, true] 6 ⟨by decide, by kernel_rfl, by kernel_rfl⟩ rfl rfl ?_
    try dsimp only [Zy]
    refine Zm rfl rfl rfl CellsOf.agg hS ps14 Yz (by kernel_rfl) rfl (fun w hS hB => ?_)
    refine Zg ?_
    refine Yk (hB.sub (fun _ _ h => by simpa using h)) ?_
    refine Zn [false, false, false, false, false, false, false, true] (by decide +kernel) PFC.h ?_
    refine LtK.put rfl rfl rfl (Zx rfl) ?_
    refine LtK.nil ?_
    refine Z4 (by kernel_rfl) ?_
    refine Zb hK433 ?_
    refine Zk ?_
    refine Zi ?_
    refine Z2 ?_
    refine Zl rfl (RV.cell rfl (Z0 Ye hS Zay Z3) (RV.tmp rfl RV.nil)) rfl ?_
    obtain rfl := QJ H
    have hS := hS.nilRds
    replace hS := hS.front 2 rfl
    replace hS := hS.absorbQ ⟨r434, A436, c437⟩
    replace hS := hS.front 1 rfl
    replace hS := hS.weak Weak.boxRd
    have hS := hS.front 6 rfl
    have hS := hS.front 6 rfl
    have hS := hS.front 6 rfl
    have hS := hS.front 6 rfl
    have hS := hS.front 6 rfl
    replace hS := hS.weak Weak.rowRd
    replace hS := hS.cut 7
    exact ⟨A407, c408, A411, c412, A415, c416, A419, c420, A423, c424, (some ⟨b440, 0, none⟩), 1, ([⟨r434, A436, c437⟩] : List Mq), rfl, k409, k413, k417, k421, k425, ⟨Nat.le_refl 1, by decide⟩, rfl, (Vm k438 Vj), hS⟩
   ·try dsimp only [Zy]
    refine Zm rfl rfl rfl CellsOf.agg hS ps13 Yz (by kernel_rfl) rfl (fun w hS hB => ?_)
    refine Zg ?_
    refine Yk (hB.sub (fun _ _ h => by simpa using h)) ?_
    refine Z6 [false, false, false, false, false, true] 5 ⟨by decide, by kernel_rfl, by kernel_rfl⟩ rfl rfl ?_
    try dsimp only [Zy]
    refine Y0 (ps := [(0, .tmp 140)]) [.int .u8 r434.kind, .int .i64 r434.frm, .int .i64 r434.dst, .int .i64 r434.term, .int .i64 r434.cap, .int .i64 r434.last, .int .i64 r434.lastTerm, .int .i64 r434.commit, .bool r434.okk, .slice A436 r434.entries.length c437, .int .i64 r434.snap.index, .int .i64 r434.snap.term, .int .i64 r434.snap.sum, .int .i64 r434.snap.level, .bool r434.snap.final] V0 Zai rfl rfl rfl rfl rfl (by kernel_rfl) hS (fun b440 w hS hB => ?_)
    refine Zg ?_
    refine Z8 hB ?_
    refine Zn [false, false, false, false, false, false, false, true] (by decide +kernel) PFC.h ?_
    refine LtK.put rfl rfl rfl (Zx rfl) ?_
    refine LtK.nil ?_
    refine Z4 (by kernel_rfl) ?_
    refine Zb hK433 ?_
    refine Zk ?_
    refine Zi ?_
    refine Z2 ?_
    refine Zl rfl (RV.cell rfl (Z0 Ye hS Zay Z3) (RV.tmp rfl RV.nil)) rfl ?_
    obtain rfl := QJ H
    have hS := hS.nilRds
    replace hS := hS.front 2 rfl
    replace hS := hS.absorbQ ⟨r434, A436, c437⟩
    replace hS := hS.front 1 rfl
    replace hS := hS.weak Weak.boxRd
    have hS := hS.front 6 rfl
    have hS := hS.front 6 rfl
    have hS := hS.front 6 rfl
    have hS := hS.front 6 rfl
    have hS := hS.front 6 rfl
    replace hS := hS.weak Weak.rowRd
    replace hS := hS.cut 7
    exact ⟨A407, c408, A411, c412, A415, c416, A419, c420, A423, c424, (some ⟨b440, 0, none⟩), 1, ([⟨r434, A436, c437⟩] : List Mq), rfl, k409, k413, k417, k421, k425, ⟨Nat.le_refl 1, by decide⟩, rfl, (Vm k438 Vj), hS⟩
  replace H := Zp H hb
  refine Zf ?_
  refine Za rfl rfl rfl (Zj Y7 rfl (Zgw _) hS hs5 trivial Zbr) ?_
  refine Zc 1 rfl ?_
  obtain ⟨r318, hm319, H⟩ := bind_some H
  refine Zq rfl rfl rfl rfl (by kernel_rfl) rfl (c_tuple_Cut r64.tuple (IntKind.wrap .i64 ((IntKind.wrap .i64 (x1.last + 1)) + r308)) A66 c67 _ (Zgz k68 (hS.rd hs0) (hS.rd_blk hs0)) hm319) ?_
  rintro e w ⟨A320, c321, rfl, k322, hN⟩; refine ⟨_, rfl, ?_⟩; obtain ⟨hB, hS⟩ := hS.jn hN
  refine Zc 1 rfl ?_
  refine Za rfl rfl rfl (Z7 rfl rfl) ?_
  refine Za rfl rfl rfl (Z7 rfl rfl) ?_
  refine Zm rfl rfl rfl CellsOf.agg hS ps6 st0_8 (by kernel_rfl) rfl (fun w hS hB => ?_)
  refine Zg ?_
  refine Zb hK316 ?_
  refine Ze (fun K hK324 => ?_)
  refine Yi 11 [9] (fun i b => (i = 9 → b ≠ b9)) ⟨by kernel_rfl, by kernel_rfl⟩ hS (fun w hS hB => ?_)
  refine Zn [true, true, true, true, true] (by decide +kernel) PFC.h ?_
  refine LtK.put rfl rfl rfl (Zj Y7 rfl (Zgx _) hS hs6 trivial Zbr) ?_
  refine LtK.put rfl rfl rfl (Zd X5 rfl) ?_
  refine LtK.put rfl rfl rfl (Zh Xq rfl (Zgx _) hS hs8 trivial Jg) ?_
  refine LtK.put rfl rfl rfl (Zu rfl) ?_
  obtain ⟨l325, hd326, H⟩ := bind_some H
  refine LtK.put rfl rfl rfl (yx_slice_l Y4 rfl rfl hd326) ?_
  refine LtK.nil ?_
  refine Z6 [false, false, false, false, false, true] 5 ⟨by decide, by kernel_rfl, by kernel_rfl⟩ rfl rfl ?_
  try dsimp only [Zy]
  obtain ⟨r327, hm328, H⟩ := bind_some H
  refine Zq rfl rfl rfl rfl (by kernel_rfl) rfl (Zdu r318.1 l325 A320 c321 (cutA A5_ c5_ (Int.toNat r308) 3) (c5_ - Int.toNat r308) _ (Zgz k322 (hS.rd hs0) (hS.rd_blk hs0)) (Zgz (k_drop s5_.k hd326) (Rd.dropI X6 (hS.rd0 s5_.rd) s5_.k.1 hd326) (cutA_blk (hS.blk0 s5_.blk))) hm328) ?_
  rintro e w ⟨A329, c330, rfl, k331, hN⟩; refine ⟨_, rfl, ?_⟩; obtain ⟨hB, hS⟩ := hS.jn hN
  refine Zg ?_
  refine Z8 hB ?_
  refine Zn [false, false, false, false, false, false, true, true] (by decide +kernel) PFC.h ?_
  refine LtK.put rfl rfl rfl (Zu rfl) ?_
  refine LtK.put rfl rfl rfl (Z7 rfl rfl) ?_
  refine LtK.nil ?_
  refine Xa [false, false, false, false, false, false, false, false, true] [9] (fun b => b ≠ b9) (by decide +kernel) (by intro j hj b hb; simp only [List.mem_cons, List.not_mem_nil, or_false] at hj; (try rcases hj with rfl | rfl | rfl | rfl | rfl) <;> first | (simp [hb]; done) | simp_all) PFC.h ?_
  refine LtK.put rfl rfl rfl (Z7 rfl rfl) ?_
  refine LtK.nil ?_
  refine Yu [false, false, false, false, false, false, false, false, false, true] 9 ⟨by decide, by kernel_rfl, by kernel_rfl⟩ rfl rfl ?_
  try dsimp only [Zy]
  refine Zm rfl rfl rfl CellsOf.agg hS ps7 st0_8 (by kernel_rfl) rfl (fun w hS hB => ?_)
  refine Zg ?_
  refine Yk (hB.sub (fun _ _ h => by simpa using h)) ?_
  refine Zn [false, false, false, false, false, false, false, false, false, false, true] (by decide +kernel) PFC.h ?_
  refine LtK.put rfl rfl rfl (Zx rfl) ?_
  refine LtK.nil ?_
  refine Z4 (by kernel_rfl) ?_
  refine Zb hK324 ?_
  refine Ze (fun K hK333 => ?_)
  refine Zf ?_
  refine Zc 1 rfl ?_
  refine Za rfl rfl rfl (Xh rfl rfl) ?_
  refine Zg ?_
  refine Zb hK333 ?_
  refine Zz rfl (fun hb => ?_) (fun hb => ?_)
  ·replace H := Zp H hb
   refine Vk ?_
   refine Xd ?_
   refine Vy ?_
   refine Ze (fun K hK334 => ?_)
   refine Zr ?_
   refine Zb hK334 ?_
   refine Ze (fun K hK335 => ?_)
   refine Yi 8 [6] (fun i b => (i = 6 → b ≠ b6)) ⟨by kernel_rfl, by kernel_rfl⟩ hS (fun w hS hB => ?_)
   refine Zn [true] (by decide +kernel) PFC.h ?_
   refine LtK.put rfl rfl rfl (Zj Ye rfl (Zgx _) hS Zex trivial Z3) ?_
   refine LtK.nil ?_
   refine Xa [false, true, true, true] [6] (fun b => b ≠ b6) (by decide +kernel) (by intro j hj b hb; simp only [List.mem_cons, List.not_mem_nil, or_false] at hj; (try rcases hj with rfl | rfl | rfl | rfl | rfl) <;> first | (simp [hb]; done) | simp_all) PFC.h ?_
   refine LtK.put rfl rfl rfl (Zj Ye rfl (Zgy _ _) hS Zex (hS.ne 10 8 rfl rfl rfl) Z3) ?_
   refine LtK.put rfl rfl rfl (Zj Vi rfl (Zgy _ _) hS hs9 (hS.ne 9 8 rfl rfl rfl) Xp) ?_
   refine LtK.put rfl rfl rfl (Zu rfl) ?_
   refine LtK.nil ?_
   refine Z6 [false, false, false, false, true] 4 ⟨by decide, by kernel_rfl, by kernel_rfl⟩ rfl rfl ?_
   try dsimp only [Zy]
   obtain ⟨r336, hm337, H⟩ := bind_some H
   refine Zq rfl rfl rfl rfl (by kernel_rfl) rfl (Jq (⟨r64.id, r64.n, 0, r64.binary, r64.tuple, r64.commit, r64.applied, r64.votes, r64.next, r64.mtch, r64.caps⟩ : Co) x1 4 false r87 A66 c67 A70 c71 A74 c75 A78 c79 A82 c83 A5_ c5_ _ (Zgz k68 (hS.rd Vf) (hS.rd_blk Vf)) (Zgz k72 (hS.row_rd hs3) (hS.row_blk hs3)) (Zgz k76 (hS.row_rd hs4) (hS.row_blk hs4)) (Zgz k80 (hS.row_rd hs5) (hS.row_blk hs5)) (Zgz k84 (hS.row_rd hs6) (hS.row_blk hs6)) (Zgz s5_.k (hS.rd0 s5_.rd) (hS.blk0 s5_.blk)) hm337) ?_
   rintro e w ⟨A338, c339, rfl, k340, hN⟩; refine ⟨_, rfl, ?_⟩; obtain ⟨hB, hS⟩ := hS.jn hN
   refine Zg ?_
   refine Z8 hB ?_
   refine Zaw [5, 6] ⟨by decide, by kernel_rfl⟩ rfl (.call [false, false, false, false, false, true] 5 rfl rfl rfl ?_ (.put [false, false, false, false, false, false, true] 6 rfl rfl rfl ?_ .nil))
   ·try dsimp only [Zy]
    refine Y0 (ps := [(0, .tmp 146)]) [.int .u8 r336.kind, .int .i64 r336.frm, .int .i64 r336.dst, .int .i64 r336.term, .int .i64 r336.cap, .int .i64 r336.last, .int .i64 r336.lastTerm, .int .i64 r336.commit, .bool r336.okk, .slice A338 r336.entries.length c339, .int .i64 r336.snap.index, .int .i64 r336.snap.term, .int .i64 r336.snap.sum, .int .i64 r336.snap.level, .bool r336.snap.final] V0 Zai rfl rfl rfl rfl rfl (by kernel_rfl) hS (fun b342 w hS hB => ?_)
    refine Zg ?_
    refine Z8 hB ?_
    refine Yu [false, false, false, false, false, false, true] 6 ⟨by decide, by kernel_rfl, by kernel_rfl⟩ rfl rfl ?_
    try dsimp only [Zy]
    refine Zm rfl rfl rfl CellsOf.agg hS ps10 Yz (by kernel_rfl) rfl (fun w hS hB => ?_)
    refine Zg ?_
    refine Yk (hB.sub (fun _ _ h => by simpa using h)) ?_
    refine Zn [false, false, false, false, false, false, false, true] (by decide +kernel) PFC.h ?_
    refine LtK.put rfl rfl rfl (Zx rfl) ?_
    refine LtK.nil ?_
    refine Z4 (by kernel_rfl) ?_
    refine Zb hK335 ?_
    refine Zk ?_
    refine Z2 ?_
    refine Zl rfl (RV.cell rfl (Z0 Ye hS Zex Z3) (RV.tmp rfl RV.nil)) rfl ?_
    obtain rfl := QJ H
    have hS := hS.nilRds
    replace hS := hS.front 2 rfl
    replace hS := hS.absorbQ ⟨r336, A338, c339⟩
    replace hS := hS.front 1 rfl
    replace hS := hS.weak Weak.boxRd
    have hS := hS.front 8 rfl
    have hS := hS.front 8 rfl
    have hS := hS.front 8 rfl
    have hS := hS.front 8 rfl
    have hS := hS.front 8 rfl
    replace hS := hS.cut 7
    exact ⟨A66, c67, A70, c71, A74, c75, A78, c79, A82, c83, (some ⟨b342, 0, none⟩), 1, ([⟨r336, A338, c339⟩] : List Mq), rfl, k68, k72, k76, k80, k84, ⟨Nat.le_refl 1, by decide⟩, rfl, (Vm k340 Vj), hS⟩
   ·try dsimp only [Zy]
    refine Zm rfl rfl rfl CellsOf.agg hS ps9 Yz (by kernel_rfl) rfl (fun w hS hB => ?_)
    refine Zg ?_
    refine Yk (hB.sub (fun _ _ h => by simpa using h)) ?_
    refine Z6 [false, false, false, false, false, true] 5 ⟨by decide, by kernel_rfl, by kernel_rfl⟩ rfl rfl ?_
    try dsimp only [Zy]
    refine Y0 (ps := [(0, .tmp 146)]) [.int .u8 r336.kind, .int .i64 r336.frm, .int .i64 r336.dst, .int .i64 r336.term, .int .i64 r336.cap, .int .i64 r336.last, .int .i64 r336.lastTerm, .int .i64 r336.commit, .bool r336.okk, .slice A338 r336.entries.length c339, .int .i64 r336.snap.index, .int .i64 r336.snap.term, .int .i64 r336.snap.sum, .int .i64 r336.snap.level, .bool r336.snap.final] V0 Zai rfl rfl rfl rfl rfl (by kernel_rfl) hS (fun b342 w hS hB => ?_)
    refine Zg ?_
    refine Z8 hB ?_
    refine Zn [false, false, false, false, false, false, false, true] (by decide +kernel) PFC.h ?_
    refine LtK.put rfl rfl rfl (Zx rfl) ?_
    refine LtK.nil ?_
    refine Z4 (by kernel_rfl) ?_
    refine Zb hK335 ?_
    refine Zk ?_
    refine Z2 ?_
    refine Zl rfl (RV.cell rfl (Z0 Ye hS Zex Z3) (RV.tmp rfl RV.nil)) rfl ?_
    obtain rfl := QJ H
    have hS := hS.nilRds
    replace hS := hS.front 2 rfl
    replace hS := hS.absorbQ ⟨r336, A338, c339⟩
    replace hS := hS.front 1 rfl
    replace hS := hS.weak Weak.boxRd
    have hS := hS.front 8 rfl
    have hS := hS.front 8 rfl
    have hS := hS.front 8 rfl
    have hS := hS.front 8 rfl
    have hS := hS.front 8 rfl
    replace hS := hS.cut 7
    exact ⟨A66, c67, A70, c71, A74, c75, A78, c79, A82, c83, (some ⟨b342, 0, none⟩), 1, ([⟨r336, A338, c339⟩] : List Mq), rfl, k68, k72, k76, k80, k84, ⟨Nat.le_refl 1, by decide⟩, rfl, (Vm k340 Vj), hS⟩
  replace H := Zo H hb
  refine Zr ?_
  refine Zb hK310 ?_
  refine Ze (fun K hK344 => ?_)
  refine Zf ?_
  refine Za rfl rfl rfl (Zj Y7 rfl (Zgw _) hS hs7 trivial Zbr) ?_
  refine Za rfl rfl rfl (Zd Yr rfl) ?_
  refine Zm rfl rfl rfl CellsOf.agg hS ps10 st4_8 (by kernel_rfl) rfl (fun w hS hB => ?_)
  refine Zg ?_
  refine Zb hK344 ?_
  refine Ze (fun K hK345 => ?_)
  refine Zf ?_
  refine Za rfl rfl rfl (Zj Ye rfl (Zgw _) hS Zex trivial Z3) ?_
  obtain ⟨r346, hm347, H⟩ := bind_some H
  refine Zq rfl rfl rfl rfl (by kernel_rfl) rfl (Zea (⟨r64.id, r64.n, 0, r64.binary, r327.1, r64.commit, r64.applied, r64.votes, r64.next, r64.mtch, r64.caps⟩ : Co) A329 c330 A70 c71 A74 c75 A78 c79 A82 c83 _ (Zgz k331 (hS.rd hs0) (hS.rd_blk hs0)) (Zgz k72 (hS.row_rd hs3) (hS.row_blk hs3)) (Zgz k76 (hS.row_rd hs4) (hS.row_blk hs4)) (Zgz k80 (hS.row_rd hs5) (hS.row_blk hs5)) (Zgz k84 (hS.row_rd hs6) (hS.row_blk hs6)) hm347) ?_
  rintro e w ⟨A348, c349, A352, c353, A356, c357, A360, c361, A364, c365, rfl, k350, k354, k358, k362, k366, hN⟩; refine ⟨_, rfl, ?_⟩; obtain ⟨hB, hS⟩ := hS.jn hN
  refine Zm rfl rfl rfl CellsOf.agg hS ps15 Yz (by kernel_rfl) rfl (fun w hS hB => ?_)
  refine Zg ?_
  refine Zb hK345 ?_
  refine Ze (fun K hK368 => ?_)
  refine Zf ?_
  refine Za rfl rfl rfl (Zd Vu rfl) ?_
  refine Za rfl rfl rfl (Zh Zw rfl (Zgw _) hS Zay trivial V7) ?_
  refine Za rfl rfl rfl (Zd X5 rfl) ?_
  refine Za rfl rfl rfl (Zh Xq rfl (Zgw _) hS Zay trivial Jg) ?_
  refine Za rfl rfl rfl (Yw Y4 rfl) ?_
  refine Za rfl rfl rfl (Xc rfl rfl) ?_
  refine Zc 1 rfl ?_
  refine Zg ?_
  refine Zb hK368 ?_
  refine Ze (fun K hK369 => ?_)
  refine Zf ?_
  refine Za rfl rfl rfl (Zd Vd rfl) ?_
  refine Za rfl rfl rfl (Zh Zw rfl (Zgw _) hS Zev trivial Jl) ?_
  refine Za rfl rfl rfl (Zd Zcl rfl) ?_
  refine Za rfl rfl rfl (Zh Zw rfl (Zgw _) hS Zay trivial Zey) ?_
  refine Zc 1 rfl ?_
  refine Za rfl rfl rfl (Ze3 rfl rfl) ?_
  refine Za rfl rfl rfl (Ze0 rfl rfl) ?_
  refine Za rfl rfl rfl (Zd Vd rfl) ?_
  refine Zm rfl rfl rfl CellsOf.int hS ps15 st12_1 (by kernel_rfl) rfl (fun w hS hB => ?_)
  refine Zg ?_
  refine Zb hK369 ?_
  refine Ze (fun K hK370 => ?_)
  refine Zf ?_
  refine Za rfl rfl rfl (Zd Yr rfl) ?_
  refine Za rfl rfl rfl (Zj Y7 rfl (Zgw _) hS Zev trivial Zak) ?_
  refine Za rfl rfl rfl (Zd Vd rfl) ?_
  refine Za rfl rfl rfl (Zh Zw rfl (Zgw _) hS Zev trivial Jl) ?_
  obtain ⟨r371, hm372, H⟩ := bind_some H
  refine Zq rfl rfl rfl rfl (by kernel_rfl) rfl (Za0 r346.tuple (max r346.commit (min x1.commit (IntKind.wrap .i64 (x1.last + (x1.entries.length : Int))))) A348 c349 _ (Zgz k350 (hS.row_rd hs0) (hS.row_blk hs0)) hm372) ?_
  rintro e w ⟨rfl, hN⟩; refine ⟨_, rfl, ?_⟩; obtain ⟨hB, hS⟩ := hS.jn hN
  refine Zc 1 rfl ?_
  refine Za rfl rfl rfl (Z7 rfl rfl) ?_
  refine Za rfl rfl rfl (Z7 rfl rfl) ?_
  refine Za rfl rfl rfl (Zd Zei rfl) ?_
  refine Zm rfl rfl rfl CellsOf.agg hS ps15 st13_5 (by kernel_rfl) rfl (fun w hS hB => ?_)
  refine Zg ?_
  refine Zb hK370 ?_
  refine Ze (fun K hK373 => ?_)
  refine Ze (fun K hK374 => ?_)
  refine Yi 8 [6] (fun i b => (i = 6 → b ≠ b6)) ⟨by kernel_rfl, by kernel_rfl⟩ hS (fun w hS hB => ?_)
  refine Zn [true] (by decide +kernel) PFC.h ?_
  refine LtK.put rfl rfl rfl (Zj Ye rfl (Zgx _) hS Zev trivial Z3) ?_
  refine LtK.nil ?_
  refine Xa [false, true, true, true] [6] (fun b => b ≠ b6) (by decide +kernel) (by intro j hj b hb; simp only [List.mem_cons, List.not_mem_nil, or_false] at hj; (try rcases hj with rfl | rfl | rfl | rfl | rfl) <;> first | (simp [hb]; done) | simp_all) PFC.h ?_
  refine LtK.put rfl rfl rfl (Zj Ye rfl (Zgy _ _) hS Zev (hS.ne 15 13 rfl rfl rfl) Z3) ?_
  refine LtK.put rfl rfl rfl (Zj Vi rfl (Zgy _ _) hS Zay (hS.ne 14 13 rfl rfl rfl) Xp) ?_
  refine LtK.put rfl rfl rfl (Zu rfl) ?_
  refine LtK.nil ?_
  refine Z6 [false, false, false, false, true] 4 ⟨by decide, by kernel_rfl, by kernel_rfl⟩ rfl rfl ?_
  try dsimp only [Zy]
  obtain ⟨r375, hm376, H⟩ := bind_some H
  refine Zq rfl rfl rfl rfl (by kernel_rfl) rfl (Jq (⟨r346.id, r346.n, r346.role, r346.binary, r346.tuple, (max r346.commit (min x1.commit (IntKind.wrap .i64 (x1.last + (x1.entries.length : Int))))), r371.1, r346.votes, r346.next, r346.mtch, r346.caps⟩ : Co) x1 4 true (IntKind.wrap .i64 (x1.last + (x1.entries.length : Int))) A348 c349 A352 c353 A356 c357 A360 c361 A364 c365 A5_ c5_ _ (Zgz k350 (hS.row_rd hs0) (hS.row_blk hs0)) (Zgz k354 (hS.row_rd Xw) (hS.row_blk Xw)) (Zgz k358 (hS.row_rd Vf) (hS.row_blk Vf)) (Zgz k362 (hS.row_rd hs3) (hS.row_blk hs3)) (Zgz k366 (hS.row_rd hs4) (hS.row_blk hs4)) (Zgz s5_.k (hS.rd0 s5_.rd) (hS.blk0 s5_.blk)) hm376) ?_
  rintro e w ⟨A377, c378, rfl, k379, hN⟩; refine ⟨_, rfl, ?_⟩; obtain ⟨hB, hS⟩ := hS.jn hN
  refine Zg ?_
  refine Z8 hB ?_
  refine Zaw [5, 6] ⟨by decide, by kernel_rfl⟩ rfl (.call [false, false, false, false, false, true] 5 rfl rfl rfl ?_ (.put [false, false, false, false, false, false, true] 6 rfl rfl rfl ?_ .nil))
  ·try dsimp only [Zy]
   refine Y0 (ps := [(0, .tmp 140)]) [.int .u8 r375.kind, .int .i64 r375.frm, .int .i64 r375.dst, .int .i64 r375.term, .int .i64 r375.cap, .int .i64 r375.last, .int .i64 r375.lastTerm, .int .i64 r375.commit, .bool r375.okk, .slice A377 r375.entries.length c378, .int .i64 r375.snap.index, .int .i64 r375.snap.term, .int .i64 r375.snap.sum, .int .i64 r375.snap.level, .bool r375.snap.final] V0 Zai rfl rfl rfl rfl rfl (by kernel_rfl) hS (fun b381 w hS hB => ?_)
   refine Zg ?_
   refine Z8 hB ?_
   refine Yu [false, false, false, false, false, false, true] 6 ⟨by decide, by kernel_rfl, by kernel_rfl⟩ rfl rfl ?_
   try dsimp only [Zy]
   refine Zm rfl rfl rfl CellsOf.agg hS ps15 Yz (by kernel_rfl) rfl (fun w hS hB => ?_)
   refine Zg ?_
   refine Yk (hB.sub (fun _ _ h => by simpa using h)) ?_
   refine Zn [false, false, false, false, false, false, false, true] (by decide +kernel) PFC.h ?_
   refine LtK.put rfl rfl rfl (Zx rfl) ?_
   refine LtK.nil ?_
   refine Z4 (by kernel_rfl) ?_
   refine Zb hK374 ?_
   refine Zk ?_
   refine Zi ?_
   refine Z2 ?_
   refine Zl rfl (RV.cell rfl (Z0 Ye hS Zev Z3) (RV.tmp rfl RV.nil)) rfl ?_
   obtain rfl := QJ H
   have hS := hS.nilRds
   replace hS := hS.front 2 rfl
   replace hS := hS.absorbQ ⟨r375, A377, c378⟩
   replace hS := hS.front 1 rfl
   replace hS := hS.weak Weak.boxRd
   have hS := hS.front 6 rfl
   have hS := hS.front 6 rfl
   have hS := hS.front 6 rfl
   have hS := hS.front 6 rfl
   have hS := hS.front 6 rfl
   replace hS := hS.weak Weak.rowRd
   replace hS := hS.cut 7
   exact ⟨A348, c349, A352, c353, A356, c357, A360, c361, A364, c365, (some ⟨b381, 0, none⟩), 1, ([⟨r375, A377, c378⟩] : List Mq), rfl, k350, k354, k358, k362, k366, ⟨Nat.le_refl 1, by decide⟩, rfl, (Vm k379 Vj), hS⟩
  ·try dsimp only [Zy]
   refine Zm rfl rfl rfl CellsOf.agg hS ps14 Yz (by kernel_rfl) rfl (fun w hS hB => ?_)
   refine Zg ?_
   refine Yk (hB.sub (fun _ _ h => by simpa using h)) ?_
   refine Z6 [false, false, false, false, false, true] 5 ⟨by decide, by kernel_rfl, by kernel_rfl⟩ rfl rfl ?_
   try dsimp only [Zy]
   refine Y0 (ps := [(0, .tmp 140)]) [.int .u8 r375.kind, .int .i64 r375.frm, .int .i64 r375.dst, .int .i64 r375.term, .int .i64 r375.cap, .int .i64 r375.last, .int .i64 r375.lastTerm, .int .i64 r375.commit, .bool r375.okk, .slice A377 r375.entries.length c378, .int .i64 r375.snap.index, .int .i64 r375.snap.term, .int .i64 r375.snap.sum, .int .i64 r375.snap.level, .bool r375.snap.final] V0 Zai rfl rfl rfl rfl rfl (by kernel_rfl) hS (fun b381 w hS hB => ?_)
   refine Zg ?_
   refine Z8 hB ?_
   refine Zn [false, false, false, false, false, false, false, true] (by decide +kernel) PFC.h ?_
   refine LtK.put rfl rfl rfl (Zx rfl) ?_
   refine LtK.nil ?_
   refine Z4 (by kernel_rfl) ?_
   refine Zb hK374 ?_
   refine Zk ?_
   refine Zi ?_
   refine Z2 ?_
   refine Zl rfl (RV.cell rfl (Z0 Ye hS Zev Z3) (RV.tmp rfl RV.nil)) rfl ?_
   obtain rfl := QJ H
   have hS := hS.nilRds
   replace hS := hS.front 2 rfl
   replace hS := hS.absorbQ ⟨r375, A377, c378⟩
   replace hS := hS.front 1 rfl
   replace hS := hS.weak Weak.boxRd
   have hS := hS.front 6 rfl
   have hS := hS.front 6 rfl
   have hS := hS.front 6 rfl
   have hS := hS.front 6 rfl
   have hS := hS.front 6 rfl
   replace hS := hS.weak Weak.rowRd
   replace hS := hS.cut 7
   exact ⟨A348, c349, A352, c353, A356, c357, A360, c361, A364, c365, (some ⟨b381, 0, none⟩), 1, ([⟨r375, A377, c378⟩] : List Mq), rfl, k350, k354, k358, k362, k366, ⟨Nat.le_refl 1, by decide⟩, rfl, (Vm k379 Vj), hS⟩
 replace H := Zp H hb
 refine Zc 1 rfl ?_
 refine Za rfl rfl rfl (Zd Zf4 rfl) ?_
 refine Za rfl rfl rfl (Zh Zw rfl (Zgw _) hS hs7 trivial sg6_1) ?_
 refine Za rfl rfl rfl (Xh rfl rfl) ?_
 refine Zc 1 rfl ?_
 refine Zg ?_
 refine Zb hK121 ?_
 refine Zz rfl (fun hb => ?_) (fun hb => ?_)
 ·replace H := Zp H hb
  refine Ze (fun K hK122 => ?_)
  refine Zf ?_
  refine Za rfl rfl rfl (Zd Vu rfl) ?_
  refine Za rfl rfl rfl (Zh Zw rfl (Zgw _) hS hs7 trivial V7) ?_
  refine Za rfl rfl rfl (Za6 rfl rfl) ?_
  refine Za rfl rfl rfl (Ze0 rfl rfl) ?_
  refine Zc 1 rfl ?_
  refine Zg ?_
  refine Zb hK122 ?_
  refine Vk ?_
  refine Xd ?_
  refine Vy ?_
  refine Ze (fun K hK123 => ?_)
  refine Zr ?_
  refine Zb hK123 ?_
  refine Ze (fun K hK124 => ?_)
  refine Yi 8 [6] (fun i b => (i = 6 → b ≠ b6)) ⟨by kernel_rfl, by kernel_rfl⟩ hS (fun w hS hB => ?_)
  refine Zn [true] (by decide +kernel) PFC.h ?_
  refine LtK.put rfl rfl rfl (Zj Ye rfl (Zgx _) hS hs8 trivial Z3) ?_
  refine LtK.nil ?_
  refine Xa [false, true, true, true] [6] (fun b => b ≠ b6) (by decide +kernel) (by intro j hj b hb; simp only [List.mem_cons, List.not_mem_nil, or_false] at hj; (try rcases hj with rfl | rfl | rfl | rfl | rfl) <;> first | (simp [hb]; done) | simp_all) PFC.h ?_
  refine LtK.put rfl rfl rfl (Zj Ye rfl (Zgy _ _) hS hs8 (hS.ne 8 6 rfl rfl rfl) Z3) ?_
  refine LtK.put rfl rfl rfl (Zj Vi rfl (Zgy _ _) hS hs7 (hS.ne 7 6 rfl rfl rfl) Xp) ?_
  refine LtK.put rfl rfl rfl (Zu rfl) ?_
  refine LtK.nil ?_
  refine Z6 [false, false, false, false, true] 4 ⟨by decide, by kernel_rfl, by kernel_rfl⟩ rfl rfl ?_
  try dsimp only [Zy]
  obtain ⟨r125, hm126, H⟩ := bind_some H
  refine Zq rfl rfl rfl rfl (by kernel_rfl) rfl (Jq (⟨r64.id, r64.n, 0, r64.binary, r64.tuple, r64.commit, r64.applied, r64.votes, r64.next, r64.mtch, r64.caps⟩ : Co) x1 4 false (max (IntKind.wrap .i64 (x1.last - 1)) 0) A66 c67 A70 c71 A74 c75 A78 c79 A82 c83 A5_ c5_ _ (Zgz k68 (hS.rd hs0) (hS.rd_blk hs0)) (Zgz k72 (hS.row_rd Xw) (hS.row_blk Xw)) (Zgz k76 (hS.row_rd Vf) (hS.row_blk Vf)) (Zgz k80 (hS.row_rd hs3) (hS.row_blk hs3)) (Zgz k84 (hS.row_rd hs4) (hS.row_blk hs4)) (Zgz s5_.k (hS.rd0 s5_.rd) (hS.blk0 s5_.blk)) hm126) ?_
  rintro e w ⟨A127, c128, rfl, k129, hN⟩; refine ⟨_, rfl, ?_⟩; obtain ⟨hB, hS⟩ := hS.jn hN
  refine Zg ?_
  refine Z8 hB ?_
  refine Zaw [5, 6] ⟨by decide, by kernel_rfl⟩ rfl (.call [false, false, false, false, false, true] 5 rfl rfl rfl ?_ (.put [false, false, false, false, false, false, true] 6 rfl rfl rfl ?_ .nil))
  ·try dsimp only [Zy]
   refine Y0 (ps := [(0, .tmp 146)]) [.int .u8 r125.kind, .int .i64 r125.frm, .int .i64 r125.dst, .int .i64 r125.term, .int .i64 r125.cap, .int .i64 r125.last, .int .i64 r125.lastTerm, .int .i64 r125.commit, .bool r125.okk, .slice A127 r125.entries.length c128, .int .i64 r125.snap.index, .int .i64 r125.snap.term, .int .i64 r125.snap.sum, .int .i64 r125.snap.level, .bool r125.snap.final] V0 Zai rfl rfl rfl rfl rfl (by kernel_rfl) hS (fun b131 w hS hB => ?_)
   refine Zg ?_
   refine Z8 hB ?_
   refine Yu [false, false, false, false, false, false, true] 6 ⟨by decide, by kernel_rfl, by kernel_rfl⟩ rfl rfl ?_
   try dsimp only [Zy]
   refine Zm rfl rfl rfl CellsOf.agg hS ps8 Yz (by kernel_rfl) rfl (fun w hS hB => ?_)
   refine Zg ?_
   refine Yk (hB.sub (fun _ _ h => by simpa using h)) ?_
   refine Zn [false, false, false, false, false, false, false, true] (by decide +kernel) PFC.h ?_
   refine LtK.put rfl rfl rfl (Zx rfl) ?_
   refine LtK.nil ?_
   refine Z4 (by kernel_rfl) ?_
   refine Zb hK124 ?_
   refine Zk ?_
   refine Z2 ?_
   refine Zl rfl (RV.cell rfl (Z0 Ye hS hs8 Z3) (RV.tmp rfl RV.nil)) rfl ?_
   obtain rfl := QJ H
   have hS := hS.nilRds
   replace hS := hS.front 2 rfl
   replace hS := hS.absorbQ ⟨r125, A127, c128⟩
   replace hS := hS.front 1 rfl
   replace hS := hS.weak Weak.boxRd
   have hS := hS.front 6 rfl
   have hS := hS.front 6 rfl
   have hS := hS.front 6 rfl
   have hS := hS.front 6 rfl
   have hS := hS.front 6 rfl
   replace hS := hS.cut 7
   exact ⟨A66, c67, A70, c71, A74, c75, A78, c79, A82, c83, (some ⟨b131, 0, none⟩), 1, ([⟨r125, A127, c128⟩] : List Mq), rfl, k68, k72, k76, k80, k84, ⟨Nat.le_refl 1, by decide⟩, rfl, (Vm k129 Vj), hS⟩
  ·try dsimp only [Zy]
   refine Zm rfl rfl rfl CellsOf.agg hS ps7 Yz (by kernel_rfl) rfl (fun w hS hB => ?_)
   refine Zg ?_
   refine Yk (hB.sub (fun _ _ h => by simpa using h)) ?_
   refine Z6 [false, false, false, false, false, true] 5 ⟨by decide, by kernel_rfl, by kernel_rfl⟩ rfl rfl ?_
   try dsimp only [Zy]
   refine Y0 (ps := [(0, .tmp 146)]) [.int .u8 r125.kind, .int .i64 r125.frm, .int .i64 r125.dst, .int .i64 r125.term, .int .i64 r125.cap, .int .i64 r125.last, .int .i64 r125.lastTerm, .int .i64 r125.commit, .bool r125.okk, .slice A127 r125.entries.length c128, .int .i64 r125.snap.index, .int .i64 r125.snap.term, .int .i64 r125.snap.sum, .int .i64 r125.snap.level, .bool r125.snap.final] V0 Zai rfl rfl rfl rfl rfl (by kernel_rfl) hS (fun b131 w hS hB => ?_)
   refine Zg ?_
   refine Z8 hB ?_
   refine Zn [false, false, false, false, false, false, false, true] (by decide +kernel) PFC.h ?_
   refine LtK.put rfl rfl rfl (Zx rfl) ?_
   refine LtK.nil ?_
   refine Z4 (by kernel_rfl) ?_
   refine Zb hK124 ?_
   refine Zk ?_
   refine Z2 ?_
   refine Zl rfl (RV.cell rfl (Z0 Ye hS hs8 Z3) (RV.tmp rfl RV.nil)) rfl ?_
   obtain rfl := QJ H
   have hS := hS.nilRds
   replace hS := hS.front 2 rfl
   replace hS := hS.absorbQ ⟨r125, A127, c128⟩
   replace hS := hS.front 1 rfl
   replace hS := hS.weak Weak.boxRd
   have hS := hS.front 6 rfl
   have hS := hS.front 6 rfl
   have hS := hS.front 6 rfl
   have hS := hS.front 6 rfl
   have hS := hS.front 6 rfl
   replace hS := hS.cut 7
   exact ⟨A66, c67, A70, c71, A74, c75, A78, c79, A82, c83, (some ⟨b131, 0, none⟩), 1, ([⟨r125, A127, c128⟩] : List Mq), rfl, k68, k72, k76, k80, k84, ⟨Nat.le_refl 1, by decide⟩, rfl, (Vm k129 Vj), hS⟩
 replace H := Zo H hb
 refine Zr ?_
 refine Zb hK120 ?_
 refine Ze (fun K hK133 => ?_)
 refine Yi 7 [6] (fun i b => (i = 6 → b ≠ b9)) ⟨by kernel_rfl, by kernel_rfl⟩ hS (fun w hS hB => ?_)
 refine Zn [true, true, false, true, true] (by decide +kernel) PFC.h ?_
 refine LtK.put rfl rfl rfl (Zj Ye rfl (Zgx _) hS hs8 trivial Z3) ?_
 refine LtK.put rfl rfl rfl (Zj Vi rfl (Zgx _) hS hs7 trivial Xp) ?_
 refine LtK.put rfl rfl rfl (Zd Yr rfl) ?_
 refine LtK.put rfl rfl rfl (Zj Y7 rfl (Zgx _) hS hs8 trivial Zak) ?_
 refine LtK.nil ?_
 refine Z6 [false, false, true] 2 ⟨by decide, by kernel_rfl, by kernel_rfl⟩ rfl rfl ?_
 try dsimp only [Zy]
 obtain ⟨r134, hm135, H⟩ := bind_some H
 refine Zq rfl rfl rfl rfl (by kernel_rfl) rfl (c_repl_other (⟨r64.id, r64.n, 0, r64.binary, r64.tuple, r64.commit, r64.applied, r64.votes, r64.next, r64.mtch, r64.caps⟩ : Co) x1 A66 c67 A70 c71 A74 c75 A78 c79 A82 c83 A5_ c5_ _ (Zgz k68 (hS.rd hs0) (hS.rd_blk hs0)) (Zgz k72 (hS.row_rd Xw) (hS.row_blk Xw)) (Zgz k76 (hS.row_rd Vf) (hS.row_blk Vf)) (Zgz k80 (hS.row_rd hs3) (hS.row_blk hs3)) (Zgz k84 (hS.row_rd hs4) (hS.row_blk hs4)) (Zgz s5_.k (hS.rd0 s5_.rd) (hS.blk0 s5_.blk)) hm135) ?_
 rintro e w ⟨rfl, hN⟩; refine ⟨_, rfl, ?_⟩; obtain ⟨hB, hS⟩ := hS.jn hN
 refine Zg ?_
 refine Z8 hB ?_
 refine Zn [false, false, false, false, false, true] (by decide +kernel) PFC.h ?_
 refine LtK.put rfl rfl rfl (Zx rfl) ?_
 refine LtK.nil ?_
 refine Yu [false, false, false, false, false, false, true] 6 ⟨by decide, by kernel_rfl, by kernel_rfl⟩ rfl rfl ?_
 try dsimp only [Zy]
 refine Zm rfl rfl rfl CellsOf.agg hS ps5 st0_8 (by kernel_rfl) rfl (fun w hS hB => ?_)
 refine Zg ?_
 refine Yk (hB.sub (fun _ _ h => by simpa using h)) ?_
 refine Z4 (by kernel_rfl) ?_
 refine Zb hK133 ?_
 refine Ze (fun K hK136 => ?_)
 refine Ze (fun K hK137 => ?_)
 refine Zf ?_
 refine Za rfl rfl rfl (Zd Vu rfl) ?_
 refine Za rfl rfl rfl (Zh Zw rfl (Zgw _) hS hs7 trivial V7) ?_
 refine Za rfl rfl rfl (Xc rfl rfl) ?_
 refine Zc 1 rfl ?_
 refine Za rfl rfl rfl (Xc rfl rfl) ?_
 refine Zc 1 rfl ?_
 refine Zg ?_
 refine Zb hK137 ?_
 refine Ze (fun K hK138 => ?_)
 refine Zf ?_
 refine Zc 1 rfl ?_
 refine Za rfl rfl rfl (Zd X5 rfl) ?_
 refine Za rfl rfl rfl (Zh Xq rfl (Zgw _) hS hs7 trivial Jg) ?_
 refine Za rfl rfl rfl (Yw Y4 rfl) ?_
 refine Za rfl rfl rfl (Xe rfl rfl) ?_
 refine Zg ?_
 refine Zb hK138 ?_
 refine Zz rfl (fun hb => ?_) (fun hb => ?_)
 rotate_left
 ·replace H := Zo H hb
  refine Zr ?_
  refine Zb hK136 ?_
  refine Ze (fun K hK268 => ?_)
  refine Zf ?_
  refine Za rfl rfl rfl (Zj Y7 rfl (Zgw _) hS hs5 trivial Zbr) ?_
  refine Za rfl rfl rfl (Zd Yr rfl) ?_
  refine Zm rfl rfl rfl CellsOf.agg hS ps8 st4_8 (by kernel_rfl) rfl (fun w hS hB => ?_)
  refine Zg ?_
  refine Zb hK268 ?_
  refine Ze (fun K hK269 => ?_)
  refine Zf ?_
  refine Za rfl rfl rfl (Zj Ye rfl (Zgw _) hS hs8 trivial Z3) ?_
  obtain ⟨r270, hm271, H⟩ := bind_some H
  refine Zq rfl rfl rfl rfl (by kernel_rfl) rfl (Zea (⟨r64.id, r64.n, 0, r64.binary, r64.tuple, r64.commit, r64.applied, r64.votes, r64.next, r64.mtch, r64.caps⟩ : Co) A66 c67 A70 c71 A74 c75 A78 c79 A82 c83 _ (Zgz k68 (hS.rd hs0) (hS.rd_blk hs0)) (Zgz k72 (hS.row_rd Xw) (hS.row_blk Xw)) (Zgz k76 (hS.row_rd Vf) (hS.row_blk Vf)) (Zgz k80 (hS.row_rd hs3) (hS.row_blk hs3)) (Zgz k84 (hS.row_rd hs4) (hS.row_blk hs4)) hm271) ?_
  rintro e w ⟨A272, c273, A276, c277, A280, c281, A284, c285, A288, c289, rfl, k274, k278, k282, k286, k290, hN⟩; refine ⟨_, rfl, ?_⟩; obtain ⟨hB, hS⟩ := hS.jn hN
  refine Zm rfl rfl rfl CellsOf.agg hS ps13 Yz (by kernel_rfl) rfl (fun w hS hB => ?_)
  refine Zg ?_
  refine Zb hK269 ?_
  refine Ze (fun K hK292 => ?_)
  refine Zf ?_
  refine Za rfl rfl rfl (Zd Vu rfl) ?_
  refine Za rfl rfl rfl (Zh Zw rfl (Zgw _) hS hs12 trivial V7) ?_
  refine Za rfl rfl rfl (Zd X5 rfl) ?_
  refine Za rfl rfl rfl (Zh Xq rfl (Zgw _) hS hs12 trivial Jg) ?_
  refine Za rfl rfl rfl (Yw Y4 rfl) ?_
  refine Za rfl rfl rfl (Xc rfl rfl) ?_
  refine Zc 1 rfl ?_
  refine Zg ?_
  refine Zb hK292 ?_
  refine Ze (fun K hK293 => ?_)
  refine Zf ?_
  refine Za rfl rfl rfl (Zd Vd rfl) ?_
  refine Za rfl rfl rfl (Zh Zw rfl (Zgw _) hS Zeq trivial Jl) ?_
  refine Za rfl rfl rfl (Zd Zcl rfl) ?_
  refine Za rfl rfl rfl (Zh Zw rfl (Zgw _) hS hs12 trivial Zey) ?_
  refine Zc 1 rfl ?_
  refine Za rfl rfl rfl (Ze3 rfl rfl) ?_
  refine Za rfl rfl rfl (Ze0 rfl rfl) ?_
  refine Za rfl rfl rfl (Zd Vd rfl) ?_
  refine Zm rfl rfl rfl CellsOf.int hS ps13 st12_1 (by kernel_rfl) rfl (fun w hS hB => ?_)
  refine Zg ?_
  refine Zb hK293 ?_
  refine Ze (fun K hK294 => ?_)
  refine Zf ?_
  refine Za rfl rfl rfl (Zd Yr rfl) ?_
  refine Za rfl rfl rfl (Zj Y7 rfl (Zgw _) hS Zeq trivial Zak) ?_
  refine Za rfl rfl rfl (Zd Vd rfl) ?_
  refine Za rfl rfl rfl (Zh Zw rfl (Zgw _) hS Zeq trivial Jl) ?_
  obtain ⟨r295, hm296, H⟩ := bind_some H
  refine Zq rfl rfl rfl rfl (by kernel_rfl) rfl (Za0 r270.tuple (max r270.commit (min x1.commit (IntKind.wrap .i64 (x1.last + (x1.entries.length : Int))))) A272 c273 _ (Zgz k274 (hS.row_rd hs0) (hS.row_blk hs0)) hm296) ?_
  rintro e w ⟨rfl, hN⟩; refine ⟨_, rfl, ?_⟩; obtain ⟨hB, hS⟩ := hS.jn hN
  refine Zc 1 rfl ?_
  refine Za rfl rfl rfl (Z7 rfl rfl) ?_
  refine Za rfl rfl rfl (Z7 rfl rfl) ?_
  refine Za rfl rfl rfl (Zd Zei rfl) ?_
  refine Zm rfl rfl rfl CellsOf.agg hS ps13 st13_5 (by kernel_rfl) rfl (fun w hS hB => ?_)
  refine Zg ?_
  refine Zb hK294 ?_
  refine Ze (fun K hK297 => ?_)
  refine Ze (fun K hK298 => ?_)
  refine Yi 8 [6] (fun i b => (i = 6 → b ≠ b6)) ⟨by kernel_rfl, by kernel_rfl⟩ hS (fun w hS hB => ?_)
  refine Zn [true] (by decide +kernel) PFC.h ?_
  refine LtK.put rfl rfl rfl (Zj Ye rfl (Zgx _) hS Zeq trivial Z3) ?_
  refine LtK.nil ?_
  refine Xa [false, true, true, true] [6] (fun b => b ≠ b6) (by decide +kernel) (by intro j hj b hb; simp only [List.mem_cons, List.not_mem_nil, or_false] at hj; (try rcases hj with rfl | rfl | rfl | rfl | rfl) <;> first | (simp [hb]; done) | simp_all) PFC.h ?_
  refine LtK.put rfl rfl rfl (Zj Ye rfl (Zgy _ _) hS Zeq (hS.ne 13 11 rfl rfl rfl) Z3) ?_
  refine LtK.put rfl rfl rfl (Zj Vi rfl (Zgy _ _) hS hs12 (hS.ne 12 11 rfl rfl rfl) Xp) ?_
  refine LtK.put rfl rfl rfl (Zu rfl) ?_
  refine LtK.nil ?_
  refine Z6 [false, false, false, false, true] 4 ⟨by decide, by kernel_rfl, by kernel_rfl⟩ rfl rfl ?_
  try dsimp only [Zy]
  obtain ⟨r299, hm300, H⟩ := bind_some H
  refine Zq rfl rfl rfl rfl (by kernel_rfl) rfl (Jq (⟨r270.id, r270.n, r270.role, r270.binary, r270.tuple, (max r270.commit (min x1.commit (IntKind.wrap .i64 (x1.last + (x1.entries.length : Int))))), r295.1, r270.votes, r270.next, r270.mtch, r270.caps⟩ : Co) x1 4 true (IntKind.wrap .i64 (x1.last + (x1.entries.length : Int))) A272 c273 A276 c277 A280 c281 A284 c285 A288 c289 A5_ c5_ _ (Zgz k274 (hS.row_rd hs0) (hS.row_blk hs0)) (Zgz k278 (hS.row_rd Xw) (hS.row_blk Xw)) (Zgz k282 (hS.row_rd Vf) (hS.row_blk Vf)) (Zgz k286 (hS.row_rd hs3) (hS.row_blk hs3)) (Zgz k290 (hS.row_rd hs4) (hS.row_blk hs4)) (Zgz s5_.k (hS.rd0 s5_.rd) (hS.blk0 s5_.blk)) hm300) ?_
  rintro e w ⟨A301, c302, rfl, k303, hN⟩; refine ⟨_, rfl, ?_⟩; obtain ⟨hB, hS⟩ := hS.jn hN
  refine Zg ?_
  refine Z8 hB ?_
  refine Zaw [5, 6] ⟨by decide, by kernel_rfl⟩ rfl (.call [false, false, false, false, false, true] 5 rfl rfl rfl ?_ (.put [false, false, false, false, false, false, true] 6 rfl rfl rfl ?_ .nil))
  ·try dsimp only [Zy]
   refine Y0 (ps := [(0, .tmp 140)]) [.int .u8 r299.kind, .int .i64 r299.frm, .int .i64 r299.dst, .int .i64 r299.term, .int .i64 r299.cap, .int .i64 r299.last, .int .i64 r299.lastTerm, .int .i64 r299.commit, .bool r299.okk, .slice A301 r299.entries.length c302, .int .i64 r299.snap.index, .int .i64 r299.snap.term, .int .i64 r299.snap.sum, .int .i64 r299.snap.level, .bool r299.snap.final] V0 Zai rfl rfl rfl rfl rfl (by kernel_rfl) hS (fun b305 w hS hB => ?_)
   refine Zg ?_
   refine Z8 hB ?_
   refine Yu [false, false, false, false, false, false, true] 6 ⟨by decide, by kernel_rfl, by kernel_rfl⟩ rfl rfl ?_
   try dsimp only [Zy]
   refine Zm rfl rfl rfl CellsOf.agg hS ps13 Yz (by kernel_rfl) rfl (fun w hS hB => ?_)
   refine Zg ?_
   refine Yk (hB.sub (fun _ _ h => by simpa using h)) ?_
   refine Zn [false, false, false, false, false, false, false, true] (by decide +kernel) PFC.h ?_
   refine LtK.put rfl rfl rfl (Zx rfl) ?_
   refine LtK.nil ?_
   refine Z4 (by kernel_rfl) ?_
   refine Zb hK298 ?_
   refine Zk ?_
   refine Zi ?_
   refine Z2 ?_
   refine Zl rfl (RV.cell rfl (Z0 Ye hS Zeq Z3) (RV.tmp rfl RV.nil)) rfl ?_
   obtain rfl := QJ H
   have hS := hS.nilRds
   replace hS := hS.front 2 rfl
   replace hS := hS.absorbQ ⟨r299, A301, c302⟩
   replace hS := hS.front 1 rfl
   replace hS := hS.weak Weak.boxRd
   have hS := hS.front 6 rfl
   have hS := hS.front 6 rfl
   have hS := hS.front 6 rfl
   have hS := hS.front 6 rfl
   have hS := hS.front 6 rfl
   replace hS := hS.weak Weak.rowRd
   replace hS := hS.cut 7
   exact ⟨A272, c273, A276, c277, A280, c281, A284, c285, A288, c289, (some ⟨b305, 0, none⟩), 1, ([⟨r299, A301, c302⟩] : List Mq), rfl, k274, k278, k282, k286, k290, ⟨Nat.le_refl 1, by decide⟩, rfl, (Vm k303 Vj), hS⟩
  ·try dsimp only [Zy]
   refine Zm rfl rfl rfl CellsOf.agg hS ps12 Yz (by kernel_rfl) rfl (fun w hS hB => ?_)
   refine Zg ?_
   refine Yk (hB.sub (fun _ _ h => by simpa using h)) ?_
   refine Z6 [false, false, false, false, false, true] 5 ⟨by decide, by kernel_rfl, by kernel_rfl⟩ rfl rfl ?_
   try dsimp only [Zy]
   refine Y0 (ps := [(0, .tmp 140)]) [.int .u8 r299.kind, .int .i64 r299.frm, .int .i64 r299.dst, .int .i64 r299.term, .int .i64 r299.cap, .int .i64 r299.last, .int .i64 r299.lastTerm, .int .i64 r299.commit, .bool r299.okk, .slice A301 r299.entries.length c302, .int .i64 r299.snap.index, .int .i64 r299.snap.term, .int .i64 r299.snap.sum, .int .i64 r299.snap.level, .bool r299.snap.final] V0 Zai rfl rfl rfl rfl rfl (by kernel_rfl) hS (fun b305 w hS hB => ?_)
   refine Zg ?_
   refine Z8 hB ?_
   refine Zn [false, false, false, false, false, false, false, true] (by decide +kernel) PFC.h ?_
   refine LtK.put rfl rfl rfl (Zx rfl) ?_
   refine LtK.nil ?_
   refine Z4 (by kernel_rfl) ?_
   refine Zb hK298 ?_
   refine Zk ?_
   refine Zi ?_
   refine Z2 ?_
   refine Zl rfl (RV.cell rfl (Z0 Ye hS Zeq Z3) (RV.tmp rfl RV.nil)) rfl ?_
   obtain rfl := QJ H
   have hS := hS.nilRds
   replace hS := hS.front 2 rfl
   replace hS := hS.absorbQ ⟨r299, A301, c302⟩
   replace hS := hS.front 1 rfl
   replace hS := hS.weak Weak.boxRd
   have hS := hS.front 6 rfl
   have hS := hS.front 6 rfl
   have hS := hS.front 6 rfl
   have hS := hS.front 6 rfl
   have hS := hS.front 6 rfl
   replace hS := hS.weak Weak.rowRd
   replace hS := hS.cut 7
   exact ⟨A272, c273, A276, c277, A280, c281, A284, c285, A288, c289, (some ⟨b305, 0, none⟩), 1, ([⟨r299, A301, c302⟩] : List Mq), rfl, k274, k278, k282, k286, k290, ⟨Nat.le_refl 1, by decide⟩, rfl, (Vm k303 Vj), hS⟩
 replace H := Zp H hb
 refine Ze (fun K hK139 => ?_)
 refine Ze (fun K hK140 => ?_)
 refine Zf ?_
 refine Zc 1 rfl ?_
 refine Za rfl rfl rfl (Zd Vd rfl) ?_
 refine Za rfl rfl rfl (Zh Zw rfl (Zgw _) hS hs8 trivial Jl) ?_
 refine Za rfl rfl rfl (Zbn rfl rfl) ?_
 refine Zg ?_
 refine Zb hK140 ?_
 refine Zz rfl (fun hb => ?_) (fun hb => ?_)
 ·replace H := Zp H hb
  refine Ze (fun K hK141 => ?_)
  refine Zf ?_
  refine Za rfl rfl rfl (Zj Ye rfl (Zgw _) hS hs8 trivial Z3) ?_
  refine Zm rfl rfl rfl CellsOf.agg hS ps6 Yz (by kernel_rfl) rfl (fun w hS hB => ?_)
  refine Zc 1 rfl ?_
  refine Zg ?_
  refine Zb hK141 ?_
  refine Zk ?_
  refine Zi ?_
  refine Zi ?_
  refine Z2 ?_
  refine Zl rfl (RV.cell rfl (Z0 Ye hS hs6 Z3) (RV.tmp rfl RV.nil)) rfl ?_
  obtain rfl := QJ H
  have hS := hS.nilRds
  replace hS := hS.nilRd
  have hS := hS.front 6 rfl
  have hS := hS.front 6 rfl
  have hS := hS.front 6 rfl
  have hS := hS.front 6 rfl
  have hS := hS.front 6 rfl
  replace hS := hS.cut 7
  exact ⟨A66, c67, A70, c71, A74, c75, A78, c79, A82, c83, none, 0, ([] : List Mq), rfl, k68, k72, k76, k80, k84, ⟨Nat.le_refl _, Nat.zero_le _⟩, rfl, Vj, hS⟩
 replace H := Zo H hb
 refine Zr ?_
 refine Zb hK139 ?_
 refine Ze (fun K hK142 => ?_)
 refine Ze (fun K hK143 => ?_)
 refine Zf ?_
 refine Zc 2 rfl ?_
 refine Za rfl rfl rfl (Zbn rfl rfl) ?_
 refine Zg ?_
 refine Zb hK143 ?_
 refine Zz rfl (fun hb => ?_) (fun hb => ?_)
 rotate_left
 ·replace H := Zo H hb
  refine Zr ?_
  refine Zb hK142 ?_
  refine Ze (fun K hK209 => ?_)
  refine Yi 11 [9] (fun i b => (i = 9 → b ≠ b9)) ⟨by kernel_rfl, by kernel_rfl⟩ hS (fun w hS hB => ?_)
  refine Zn [true, true, true, true, true] (by decide +kernel) PFC.h ?_
  refine LtK.put rfl rfl rfl (Zj Y7 rfl (Zgx _) hS hs5 trivial Zbr) ?_
  refine LtK.put rfl rfl rfl (Zd X5 rfl) ?_
  refine LtK.put rfl rfl rfl (Zh Xq rfl (Zgx _) hS hs7 trivial Jg) ?_
  refine LtK.put rfl rfl rfl (Zu rfl) ?_
  obtain ⟨l210, hd211, H⟩ := bind_some H
  refine LtK.put rfl rfl rfl (yx_slice_l Y4 rfl rfl hd211) ?_
  refine LtK.nil ?_
  refine Z6 [false, false, false, false, false, true] 5 ⟨by decide, by kernel_rfl, by kernel_rfl⟩ rfl rfl ?_
  try dsimp only [Zy]
  obtain ⟨r212, hm213, H⟩ := bind_some H
  refine Zq rfl rfl rfl rfl (by kernel_rfl) rfl (Zdu r64.tuple l210 A66 c67 (cutA A5_ c5_ (Int.toNat r134) 3) (c5_ - Int.toNat r134) _ (Zgz k68 (hS.rd hs0) (hS.rd_blk hs0)) (Zgz (k_drop s5_.k hd211) (Rd.dropI X6 (hS.rd0 s5_.rd) s5_.k.1 hd211) (cutA_blk (hS.blk0 s5_.blk))) hm213) ?_
  rintro e w ⟨A214, c215, rfl, k216, hN⟩; refine ⟨_, rfl, ?_⟩; obtain ⟨hB, hS⟩ := hS.jn hN
  refine Zg ?_
  refine Z8 hB ?_
  refine Zn [false, false, false, false, false, false, true, true] (by decide +kernel) PFC.h ?_
  refine LtK.put rfl rfl rfl (Zu rfl) ?_
  refine LtK.put rfl rfl rfl (Z7 rfl rfl) ?_
  refine LtK.nil ?_
  refine Xa [false, false, false, false, false, false, false, false, true] [9] (fun b => b ≠ b9) (by decide +kernel) (by intro j hj b hb; simp only [List.mem_cons, List.not_mem_nil, or_false] at hj; (try rcases hj with rfl | rfl | rfl | rfl | rfl) <;> first | (simp [hb]; done) | simp_all) PFC.h ?_
  refine LtK.put rfl rfl rfl (Z7 rfl rfl) ?_
  refine LtK.nil ?_
  refine Yu [false, false, false, false, false, false, false, false, false, true] 9 ⟨by decide, by kernel_rfl, by kernel_rfl⟩ rfl rfl ?_
  try dsimp only [Zy]
  refine Zm rfl rfl rfl CellsOf.agg hS ps6 st0_8 (by kernel_rfl) rfl (fun w hS hB => ?_)
  refine Zg ?_
  refine Yk (hB.sub (fun _ _ h => by simpa using h)) ?_
  refine Zn [false, false, false, false, false, false, false, false, false, false, true] (by decide +kernel) PFC.h ?_
  refine LtK.put rfl rfl rfl (Zx rfl) ?_
  refine LtK.nil ?_
  refine Z4 (by kernel_rfl) ?_
  refine Zb hK209 ?_
  refine Ze (fun K hK218 => ?_)
  refine Zf ?_
  refine Zc 1 rfl ?_
  refine Za rfl rfl rfl (Xh rfl rfl) ?_
  refine Zg ?_
  refine Zb hK218 ?_
  refine Zz rfl (fun hb => ?_) (fun hb => ?_)
  ·replace H := Zp H hb
   refine Vk ?_
   refine Xd ?_
   refine Vy ?_
   refine Ze (fun K hK219 => ?_)
   refine Zr ?_
   refine Zb hK219 ?_
   refine Ze (fun K hK220 => ?_)
   refine Yi 8 [6] (fun i b => (i = 6 → b ≠ b6)) ⟨by kernel_rfl, by kernel_rfl⟩ hS (fun w hS hB => ?_)
   refine Zn [true] (by decide +kernel) PFC.h ?_
   refine LtK.put rfl rfl rfl (Zj Ye rfl (Zgx _) hS hs9 trivial Z3) ?_
   refine LtK.nil ?_
   refine Xa [false, true, true, true] [6] (fun b => b ≠ b6) (by decide +kernel) (by intro j hj b hb; simp only [List.mem_cons, List.not_mem_nil, or_false] at hj; (try rcases hj with rfl | rfl | rfl | rfl | rfl) <;> first | (simp [hb]; done) | simp_all) PFC.h ?_
   refine LtK.put rfl rfl rfl (Zj Ye rfl (Zgy _ _) hS hs9 (hS.ne 9 7 rfl rfl rfl) Z3) ?_
   refine LtK.put rfl rfl rfl (Zj Vi rfl (Zgy _ _) hS hs8 (hS.ne 8 7 rfl rfl rfl) Xp) ?_
   refine LtK.put rfl rfl rfl (Zu rfl) ?_
   refine LtK.nil ?_
   refine Z6 [false, false, false, false, true] 4 ⟨by decide, by kernel_rfl, by kernel_rfl⟩ rfl rfl ?_
   try dsimp only [Zy]
   obtain ⟨r221, hm222, H⟩ := bind_some H
   refine Zq rfl rfl rfl rfl (by kernel_rfl) rfl (Jq (⟨r64.id, r64.n, 0, r64.binary, r64.tuple, r64.commit, r64.applied, r64.votes, r64.next, r64.mtch, r64.caps⟩ : Co) x1 4 false r87 A66 c67 A70 c71 A74 c75 A78 c79 A82 c83 A5_ c5_ _ (Zgz k68 (hS.rd Xw) (hS.rd_blk Xw)) (Zgz k72 (hS.row_rd Vf) (hS.row_blk Vf)) (Zgz k76 (hS.row_rd hs3) (hS.row_blk hs3)) (Zgz k80 (hS.row_rd hs4) (hS.row_blk hs4)) (Zgz k84 (hS.row_rd hs5) (hS.row_blk hs5)) (Zgz s5_.k (hS.rd0 s5_.rd) (hS.blk0 s5_.blk)) hm222) ?_
   rintro e w ⟨A223, c224, rfl, k225, hN⟩; refine ⟨_, rfl, ?_⟩; obtain ⟨hB, hS⟩ := hS.jn hN
   refine Zg ?_
   refine Z8 hB ?_
   refine Zaw [5, 6] ⟨by decide, by kernel_rfl⟩ rfl (.call [false, false, false, false, false, true] 5 rfl rfl rfl ?_ (.put [false, false, false, false, false, false, true] 6 rfl rfl rfl ?_ .nil))
   ·try dsimp only [Zy]
    refine Y0 (ps := [(0, .tmp 146)]) [.int .u8 r221.kind, .int .i64 r221.frm, .int .i64 r221.dst, .int .i64 r221.term, .int .i64 r221.cap, .int .i64 r221.last, .int .i64 r221.lastTerm, .int .i64 r221.commit, .bool r221.okk, .slice A223 r221.entries.length c224, .int .i64 r221.snap.index, .int .i64 r221.snap.term, .int .i64 r221.snap.sum, .int .i64 r221.snap.level, .bool r221.snap.final] V0 Zai rfl rfl rfl rfl rfl (by kernel_rfl) hS (fun b227 w hS hB => ?_)
    refine Zg ?_
    refine Z8 hB ?_
    refine Yu [false, false, false, false, false, false, true] 6 ⟨by decide, by kernel_rfl, by kernel_rfl⟩ rfl rfl ?_
    try dsimp only [Zy]
    refine Zm rfl rfl rfl CellsOf.agg hS ps9 Yz (by kernel_rfl) rfl (fun w hS hB => ?_)
    refine Zg ?_
    refine Yk (hB.sub (fun _ _ h => by simpa using h)) ?_
    refine Zn [false, false, false, false, false, false, false, true] (by decide +kernel) PFC.h ?_
    refine LtK.put rfl rfl rfl (Zx rfl) ?_
    refine LtK.nil ?_
    refine Z4 (by kernel_rfl) ?_
    refine Zb hK220 ?_
    refine Zk ?_
    refine Z2 ?_
    refine Zl rfl (RV.cell rfl (Z0 Ye hS hs9 Z3) (RV.tmp rfl RV.nil)) rfl ?_
    obtain rfl := QJ H
    have hS := hS.nilRds
    replace hS := hS.front 2 rfl
    replace hS := hS.absorbQ ⟨r221, A223, c224⟩
    replace hS := hS.front 1 rfl
    replace hS := hS.weak Weak.boxRd
    have hS := hS.front 7 rfl
    have hS := hS.front 7 rfl
    have hS := hS.front 7 rfl
    have hS := hS.front 7 rfl
    have hS := hS.front 7 rfl
    replace hS := hS.cut 7
    exact ⟨A66, c67, A70, c71, A74, c75, A78, c79, A82, c83, (some ⟨b227, 0, none⟩), 1, ([⟨r221, A223, c224⟩] : List Mq), rfl, k68, k72, k76, k80, k84, ⟨Nat.le_refl 1, by decide⟩, rfl, (Vm k225 Vj), hS⟩
   ·try dsimp only [Zy]
    refine Zm rfl rfl rfl CellsOf.agg hS ps8 Yz (by kernel_rfl) rfl (fun w hS hB => ?_)
    refine Zg ?_
    refine Yk (hB.sub (fun _ _ h => by simpa using h)) ?_
    refine Z6 [false, false, false, false, false, true] 5 ⟨by decide, by kernel_rfl, by kernel_rfl⟩ rfl rfl ?_
    try dsimp only [Zy]
    refine Y0 (ps := [(0, .tmp 146)]) [.int .u8 r221.kind, .int .i64 r221.frm, .int .i64 r221.dst, .int .i64 r221.term, .int .i64 r221.cap, .int .i64 r221.last, .int .i64 r221.lastTerm, .int .i64 r221.commit, .bool r221.okk, .slice A223 r221.entries.length c224, .int .i64 r221.snap.index, .int .i64 r221.snap.term, .int .i64 r221.snap.sum, .int .i64 r221.snap.level, .bool r221.snap.final] V0 Zai rfl rfl rfl rfl rfl (by kernel_rfl) hS (fun b227 w hS hB => ?_)
    refine Zg ?_
    refine Z8 hB ?_
    refine Zn [false, false, false, false, false, false, false, true] (by decide +kernel) PFC.h ?_
    refine LtK.put rfl rfl rfl (Zx rfl) ?_
    refine LtK.nil ?_
    refine Z4 (by kernel_rfl) ?_
    refine Zb hK220 ?_
    refine Zk ?_
    refine Z2 ?_
    refine Zl rfl (RV.cell rfl (Z0 Ye hS hs9 Z3) (RV.tmp rfl RV.nil)) rfl ?_
    obtain rfl := QJ H
    have hS := hS.nilRds
    replace hS := hS.front 2 rfl
    replace hS := hS.absorbQ ⟨r221, A223, c224⟩
    replace hS := hS.front 1 rfl
    replace hS := hS.weak Weak.boxRd
    have hS := hS.front 7 rfl
    have hS := hS.front 7 rfl
    have hS := hS.front 7 rfl
    have hS := hS.front 7 rfl
    have hS := hS.front 7 rfl
    replace hS := hS.cut 7
    exact ⟨A66, c67, A70, c71, A74, c75, A78, c79, A82, c83, (some ⟨b227, 0, none⟩), 1, ([⟨r221, A223, c224⟩] : List Mq), rfl, k68, k72, k76, k80, k84, ⟨Nat.le_refl 1, by decide⟩, rfl, (Vm k225 Vj), hS⟩
  replace H := Zo H hb
  refine Zr ?_
  refine Zb hK136 ?_
  refine Ze (fun K hK229 => ?_)
  refine Zf ?_
  refine Za rfl rfl rfl (Zj Y7 rfl (Zgw _) hS hs6 trivial Zbr) ?_
  refine Za rfl rfl rfl (Zd Yr rfl) ?_
  refine Zm rfl rfl rfl CellsOf.agg hS ps9 st4_8 (by kernel_rfl) rfl (fun w hS hB => ?_)
  refine Zg ?_
  refine Zb hK229 ?_
  refine Ze (fun K hK230 => ?_)
  refine Zf ?_
  refine Za rfl rfl rfl (Zj Ye rfl (Zgw _) hS hs9 trivial Z3) ?_
  obtain ⟨r231, hm232, H⟩ := bind_some H
  refine Zq rfl rfl rfl rfl (by kernel_rfl) rfl (Zea (⟨r64.id, r64.n, 0, r64.binary, r212.1, r64.commit, r64.applied, r64.votes, r64.next, r64.mtch, r64.caps⟩ : Co) A214 c215 A70 c71 A74 c75 A78 c79 A82 c83 _ (Zgz k216 (hS.rd hs0) (hS.rd_blk hs0)) (Zgz k72 (hS.row_rd Vf) (hS.row_blk Vf)) (Zgz k76 (hS.row_rd hs3) (hS.row_blk hs3)) (Zgz k80 (hS.row_rd hs4) (hS.row_blk hs4)) (Zgz k84 (hS.row_rd hs5) (hS.row_blk hs5)) hm232) ?_
  rintro e w ⟨A233, c234, A237, c238, A241, c242, A245, c246, A249, c250, rfl, k235, k239, k243, k247, k251, hN⟩; refine ⟨_, rfl, ?_⟩; obtain ⟨hB, hS⟩ := hS.jn hN
  refine Zm rfl rfl rfl CellsOf.agg hS ps14 Yz (by kernel_rfl) rfl (fun w hS hB => ?_)
  refine Zg ?_
  refine Zb hK230 ?_
  refine Ze (fun K hK253 => ?_)
  refine Zf ?_
  refine Za rfl rfl rfl (Zd Vu rfl) ?_
  refine Za rfl rfl rfl (Zh Zw rfl (Zgw _) hS Zeq trivial V7) ?_
  refine Za rfl rfl rfl (Zd X5 rfl) ?_
  refine Za rfl rfl rfl (Zh Xq rfl (Zgw _) hS Zeq trivial Jg) ?_
  refine Za rfl rfl rfl (Yw Y4 rfl) ?_
  refine Za rfl rfl rfl (Xc rfl rfl) ?_
  refine Zc 1 rfl ?_
  refine Zg ?_
  refine Zb hK253 ?_
  refine Ze (fun K hK254 => ?_)
  refine Zf ?_
  refine Za rfl rfl rfl (Zd Vd rfl) ?_
  refine Za rfl rfl rfl (Zh Zw rfl (Zgw _) hS Zay trivial Jl) ?_
  refine Za rfl rfl rfl (Zd Zcl rfl) ?_
  refine Za rfl rfl rfl (Zh Zw rfl (Zgw _) hS Zeq trivial Zey) ?_
  refine Zc 1 rfl ?_
  refine Za rfl rfl rfl (Ze3 rfl rfl) ?_
  refine Za rfl rfl rfl (Ze0 rfl rfl) ?_
  refine Za rfl rfl rfl (Zd Vd rfl) ?_
  refine Zm rfl rfl rfl CellsOf.int hS ps14 st12_1 (by kernel_rfl) rfl (fun w hS hB => ?_)
  refine Zg ?_
  refine Zb hK254 ?_
  refine Ze (fun K hK255 => ?_)
  refine Zf ?_
  refine Za rfl rfl rfl (Zd Yr rfl) ?_
  refine Za rfl rfl rfl (Zj Y7 rfl (Zgw _) hS Zay trivial Zak) ?_
  refine Za rfl rfl rfl (Zd Vd rfl) ?_
  refine Za rfl rfl rfl (Zh Zw rfl (Zgw _) hS Zay trivial Jl) ?_
  obtain ⟨r256, hm257, H⟩ := bind_some H
  refine Zq rfl rfl rfl rfl (by kernel_rfl) rfl (Za0 r231.tuple (max r231.commit (min x1.commit (IntKind.wrap .i64 (x1.last + (x1.entries.length : Int))))) A233 c234 _ (Zgz k235 (hS.row_rd hs0) (hS.row_blk hs0)) hm257) ?_
  rintro e w ⟨rfl, hN⟩; refine ⟨_, rfl, ?_⟩; obtain ⟨hB, hS⟩ := hS.jn hN
  refine Zc 1 rfl ?_
  refine Za rfl rfl rfl (Z7 rfl rfl) ?_
  refine Za rfl rfl rfl (Z7 rfl rfl) ?_
  refine Za rfl rfl rfl (Zd Zei rfl) ?_
  refine Zm rfl rfl rfl CellsOf.agg hS ps14 st13_5 (by kernel_rfl) rfl (fun w hS hB => ?_)
  refine Zg ?_
  refine Zb hK255 ?_
  refine Ze (fun K hK258 => ?_)
  refine Ze (fun K hK259 => ?_)
  refine Yi 8 [6] (fun i b => (i = 6 → b ≠ b6)) ⟨by kernel_rfl, by kernel_rfl⟩ hS (fun w hS hB => ?_)
  refine Zn [true] (by decide +kernel) PFC.h ?_
  refine LtK.put rfl rfl rfl (Zj Ye rfl (Zgx _) hS Zay trivial Z3) ?_
  refine LtK.nil ?_
  refine Xa [false, true, true, true] [6] (fun b => b ≠ b6) (by decide +kernel) (by intro j hj b hb; simp only [List.mem_cons, List.not_mem_nil, or_false] at hj; (try rcases hj with rfl | rfl | rfl | rfl | rfl) <;> first | (simp [hb]; done) | simp_all) PFC.h ?_
  refine LtK.put rfl rfl rfl (Zj Ye rfl (Zgy _ _) hS Zay (hS.ne 14 12 rfl rfl rfl) Z3) ?_
  refine LtK.put rfl rfl rfl (Zj Vi rfl (Zgy _ _) hS Zeq (hS.ne 13 12 rfl rfl rfl) Xp) ?_
  refine LtK.put rfl rfl rfl (Zu rfl) ?_
  refine LtK.nil ?_
  refine Z6 [false, false, false, false, true] 4 ⟨by decide, by kernel_rfl, by kernel_rfl⟩ rfl rfl ?_
  try dsimp only [Zy]
  obtain ⟨r260, hm261, H⟩ := bind_some H
  refine Zq rfl rfl rfl rfl (by kernel_rfl) rfl (Jq (⟨r231.id, r231.n, r231.role, r231.binary, r231.tuple, (max r231.commit (min x1.commit (IntKind.wrap .i64 (x1.last + (x1.entries.length : Int))))), r256.1, r231.votes, r231.next, r231.mtch, r231.caps⟩ : Co) x1 4 true (IntKind.wrap .i64 (x1.last + (x1.entries.length : Int))) A233 c234 A237 c238 A241 c242 A245 c246 A249 c250 A5_ c5_ _ (Zgz k235 (hS.row_rd hs0) (hS.row_blk hs0)) (Zgz k239 (hS.row_rd Xw) (hS.row_blk Xw)) (Zgz k243 (hS.row_rd Vf) (hS.row_blk Vf)) (Zgz k247 (hS.row_rd hs3) (hS.row_blk hs3)) (Zgz k251 (hS.row_rd hs4) (hS.row_blk hs4)) (Zgz s5_.k (hS.rd0 s5_.rd) (hS.blk0 s5_.blk)) hm261) ?_
  rintro e w ⟨A262, c263, rfl, k264, hN⟩; refine ⟨_, rfl, ?_⟩; obtain ⟨hB, hS⟩ := hS.jn hN
  refine Zg ?_
  refine Z8 hB ?_
  refine Zaw [5, 6] ⟨by decide, by kernel_rfl⟩ rfl (.call [false, false, false, false, false, true] 5 rfl rfl rfl ?_ (.put [false, false, false, false, false, false, true] 6 rfl rfl rfl ?_ .nil))
  ·try dsimp only [Zy]
   refine Y0 (ps := [(0, .tmp 140)]) [.int .u8 r260.kind, .int .i64 r260.frm, .int .i64 r260.dst, .int .i64 r260.term, .int .i64 r260.cap, .int .i64 r260.last, .int .i64 r260.lastTerm, .int .i64 r260.commit, .bool r260.okk, .slice A262 r260.entries.length c263, .int .i64 r260.snap.index, .int .i64 r260.snap.term, .int .i64 r260.snap.sum, .int .i64 r260.snap.level, .bool r260.snap.final] V0 Zai rfl rfl rfl rfl rfl (by kernel_rfl) hS (fun b266 w hS hB => ?_)
   refine Zg ?_
   refine Z8 hB ?_
   refine Yu [false, false, false, false, false, false, true] 6 ⟨by decide, by kernel_rfl, by kernel_rfl⟩ rfl rfl ?_
   try dsimp only [Zy]
   refine Zm rfl rfl rfl CellsOf.agg hS ps14 Yz (by kernel_rfl) rfl (fun w hS hB => ?_)
   refine Zg ?_
   refine Yk (hB.sub (fun _ _ h => by simpa using h)) ?_
   refine Zn [false, false, false, false, false, false, false, true] (by decide +kernel) PFC.h ?_
   refine LtK.put rfl rfl rfl (Zx rfl) ?_
   refine LtK.nil ?_
   refine Z4 (by kernel_rfl) ?_
   refine Zb hK259 ?_
   refine Zk ?_
   refine Zi ?_
   refine Z2 ?_
   refine Zl rfl (RV.cell rfl (Z0 Ye hS Zay Z3) (RV.tmp rfl RV.nil)) rfl ?_
   obtain rfl := QJ H
   have hS := hS.nilRds
   replace hS := hS.front 2 rfl
   replace hS := hS.absorbQ ⟨r260, A262, c263⟩
   replace hS := hS.front 1 rfl
   replace hS := hS.weak Weak.boxRd
   have hS := hS.front 6 rfl
   have hS := hS.front 6 rfl
   have hS := hS.front 6 rfl
   have hS := hS.front 6 rfl
   have hS := hS.front 6 rfl
   replace hS := hS.weak Weak.rowRd
   replace hS := hS.cut 7
   exact ⟨A233, c234, A237, c238, A241, c242, A245, c246, A249, c250, (some ⟨b266, 0, none⟩), 1, ([⟨r260, A262, c263⟩] : List Mq), rfl, k235, k239, k243, k247, k251, ⟨Nat.le_refl 1, by decide⟩, rfl, (Vm k264 Vj), hS⟩
  ·try dsimp only [Zy]
   refine Zm rfl rfl rfl CellsOf.agg hS ps13 Yz (by kernel_rfl) rfl (fun w hS hB => ?_)
   refine Zg ?_
   refine Yk (hB.sub (fun _ _ h => by simpa using h)) ?_
   refine Z6 [false, false, false, false, false, true] 5 ⟨by decide, by kernel_rfl, by kernel_rfl⟩ rfl rfl ?_
   try dsimp only [Zy]
   refine Y0 (ps := [(0, .tmp 140)]) [.int .u8 r260.kind, .int .i64 r260.frm, .int .i64 r260.dst, .int .i64 r260.term, .int .i64 r260.cap, .int .i64 r260.last, .int .i64 r260.lastTerm, .int .i64 r260.commit, .bool r260.okk, .slice A262 r260.entries.length c263, .int .i64 r260.snap.index, .int .i64 r260.snap.term, .int .i64 r260.snap.sum, .int .i64 r260.snap.level, .bool r260.snap.final] V0 Zai rfl rfl rfl rfl rfl (by kernel_rfl) hS (fun b266 w hS hB => ?_)
   refine Zg ?_
   refine Z8 hB ?_
   refine Zn [false, false, false, false, false, false, false, true] (by decide +kernel) PFC.h ?_
   refine LtK.put rfl rfl rfl (Zx rfl) ?_
   refine LtK.nil ?_
   refine Z4 (by kernel_rfl) ?_
   refine Zb hK259 ?_
   refine Zk ?_
   refine Zi ?_
   refine Z2 ?_
   refine Zl rfl (RV.cell rfl (Z0 Ye hS Zay Z3) (RV.tmp rfl RV.nil)) rfl ?_
   obtain rfl := QJ H
   have hS := hS.nilRds
   replace hS := hS.front 2 rfl
   replace hS := hS.absorbQ ⟨r260, A262, c263⟩
   replace hS := hS.front 1 rfl
   replace hS := hS.weak Weak.boxRd
   have hS := hS.front 6 rfl
   have hS := hS.front 6 rfl
   have hS := hS.front 6 rfl
   have hS := hS.front 6 rfl
   have hS := hS.front 6 rfl
   replace hS := hS.weak Weak.rowRd
   replace hS := hS.cut 7
   exact ⟨A233, c234, A237, c238, A241, c242, A245, c246, A249, c250, (some ⟨b266, 0, none⟩), 1, ([⟨r260, A262, c263⟩] : List Mq), rfl, k235, k239, k243, k247, k251, ⟨Nat.le_refl 1, by decide⟩, rfl, (Vm k264 Vj), hS⟩
 replace H := Zp H hb
 refine Zf ?_
 refine Za rfl rfl rfl (Zj Y7 rfl (Zgw _) hS hs5 trivial Zbr) ?_
 refine Zc 1 rfl ?_
 obtain ⟨r144, hm145, H⟩ := bind_some H
 refine Zq rfl rfl rfl rfl (by kernel_rfl) rfl (c_tuple_Cut r64.tuple (IntKind.wrap .i64 ((IntKind.wrap .i64 (x1.last + 1)) + r134)) A66 c67 _ (Zgz k68 (hS.rd hs0) (hS.rd_blk hs0)) hm145) ?_
 rintro e w ⟨A146, c147, rfl, k148, hN⟩; refine ⟨_, rfl, ?_⟩; obtain ⟨hB, hS⟩ := hS.jn hN
 refine Zc 1 rfl ?_
 refine Za rfl rfl rfl (Z7 rfl rfl) ?_
 refine Za rfl rfl rfl (Z7 rfl rfl) ?_
 refine Zm rfl rfl rfl CellsOf.agg hS ps6 st0_8 (by kernel_rfl) rfl (fun w hS hB => ?_)
 refine Zg ?_
 refine Zb hK142 ?_
 refine Ze (fun K hK150 => ?_)
 refine Yi 11 [9] (fun i b => (i = 9 → b ≠ b9)) ⟨by kernel_rfl, by kernel_rfl⟩ hS (fun w hS hB => ?_)
 refine Zn [true, true, true, true, true] (by decide +kernel) PFC.h ?_
 refine LtK.put rfl rfl rfl (Zj Y7 rfl (Zgx _) hS hs6 trivial Zbr) ?_
 refine LtK.put rfl rfl rfl (Zd X5 rfl) ?_
 refine LtK.put rfl rfl rfl (Zh Xq rfl (Zgx _) hS hs8 trivial Jg) ?_
 refine LtK.put rfl rfl rfl (Zu rfl) ?_
 obtain ⟨l151, hd152, H⟩ := bind_some H
 refine LtK.put rfl rfl rfl (yx_slice_l Y4 rfl rfl hd152) ?_
 refine LtK.nil ?_
 refine Z6 [false, false, false, false, false, true] 5 ⟨by decide, by kernel_rfl, by kernel_rfl⟩ rfl rfl ?_
 try dsimp only [Zy]
 obtain ⟨r153, hm154, H⟩ := bind_some H
 refine Zq rfl rfl rfl rfl (by kernel_rfl) rfl (Zdu r144.1 l151 A146 c147 (cutA A5_ c5_ (Int.toNat r134) 3) (c5_ - Int.toNat r134) _ (Zgz k148 (hS.rd hs0) (hS.rd_blk hs0)) (Zgz (k_drop s5_.k hd152) (Rd.dropI X6 (hS.rd0 s5_.rd) s5_.k.1 hd152) (cutA_blk (hS.blk0 s5_.blk))) hm154) ?_
 rintro e w ⟨A155, c156, rfl, k157, hN⟩; refine ⟨_, rfl, ?_⟩; obtain ⟨hB, hS⟩ := hS.jn hN
 refine Zg ?_
 refine Z8 hB ?_
 refine Zn [false, false, false, false, false, false, true, true] (by decide +kernel) PFC.h ?_
 refine LtK.put rfl rfl rfl (Zu rfl) ?_
 refine LtK.put rfl rfl rfl (Z7 rfl rfl) ?_
 refine LtK.nil ?_
 refine Xa [false, false, false, false, false, false, false, false, true] [9] (fun b => b ≠ b9) (by decide +kernel) (by intro j hj b hb; simp only [List.mem_cons, List.not_mem_nil, or_false] at hj; (try rcases hj with rfl | rfl | rfl | rfl | rfl) <;> first | (simp [hb]; done) | simp_all) PFC.h ?_
 refine LtK.put rfl rfl rfl (Z7 rfl rfl) ?_
 refine LtK.nil ?_
 refine Yu [false, false, false, false, false, false, false, false, false, true] 9 ⟨by decide, by kernel_rfl, by kernel_rfl⟩ rfl rfl ?_
 try dsimp only [Zy]
 refine Zm rfl rfl rfl CellsOf.agg hS ps7 st0_8 (by kernel_rfl) rfl (fun w hS hB => ?_)
 refine Zg ?_
 refine Yk (hB.sub (fun _ _ h => by simpa using h)) ?_
 refine Zn [false, false, false, false, false, false, false, false, false, false, true] (by decide +kernel) PFC.h ?_
 refine LtK.put rfl rfl rfl (Zx rfl) ?_
 refine LtK.nil ?_
 refine Z4 (by kernel_rfl) ?_
 refine Zb hK150 ?_
 refine Ze (fun K hK159 => ?_)
 refine Zf ?_
 refine Zc 1 rfl ?_
 refine Za rfl rfl rfl (Xh rfl rfl) ?_
 refine Zg ?_
 refine Zb hK159 ?_
 refine Zz rfl (fun hb => ?_) (fun hb => ?_)
 ·replace H := Zp H hb
  refine Vk ?_
  refine Xd ?_
  refine Vy ?_
  refine Ze (fun K hK160 => ?_)
  refine Zr ?_
  refine Zb hK160 ?_
  refine Ze (fun K hK161 => ?_)
  refine Yi 8 [6] (fun i b => (i = 6 → b ≠ b6)) ⟨by kernel_rfl, by kernel_rfl⟩ hS (fun w hS hB => ?_)
  refine Zn [true] (by decide +kernel) PFC.h ?_
  refine LtK.put rfl rfl rfl (Zj Ye rfl (Zgx _) hS Zex trivial Z3) ?_
  refine LtK.nil ?_
  refine Xa [false, true, true, true] [6] (fun b => b ≠ b6) (by decide +kernel) (by intro j hj b hb; simp only [List.mem_cons, List.not_mem_nil, or_false] at hj; (try rcases hj with rfl | rfl | rfl | rfl | rfl) <;> first | (simp [hb]; done) | simp_all) PFC.h ?_
  refine LtK.put rfl rfl rfl (Zj Ye rfl (Zgy _ _) hS Zex (hS.ne 10 8 rfl rfl rfl) Z3) ?_
  refine LtK.put rfl rfl rfl (Zj Vi rfl (Zgy _ _) hS hs9 (hS.ne 9 8 rfl rfl rfl) Xp) ?_
  refine LtK.put rfl rfl rfl (Zu rfl) ?_
  refine LtK.nil ?_
  refine Z6 [false, false, false, false, true] 4 ⟨by decide, by kernel_rfl, by kernel_rfl⟩ rfl rfl ?_
  try dsimp only [Zy]
  obtain ⟨r162, hm163, H⟩ := bind_some H
  refine Zq rfl rfl rfl rfl (by kernel_rfl) rfl (Jq (⟨r64.id, r64.n, 0, r64.binary, r64.tuple, r64.commit, r64.applied, r64.votes, r64.next, r64.mtch, r64.caps⟩ : Co) x1 4 false r87 A66 c67 A70 c71 A74 c75 A78 c79 A82 c83 A5_ c5_ _ (Zgz k68 (hS.rd Vf) (hS.rd_blk Vf)) (Zgz k72 (hS.row_rd hs3) (hS.row_blk hs3)) (Zgz k76 (hS.row_rd hs4) (hS.row_blk hs4)) (Zgz k80 (hS.row_rd hs5) (hS.row_blk hs5)) (Zgz k84 (hS.row_rd hs6) (hS.row_blk hs6)) (Zgz s5_.k (hS.rd0 s5_.rd) (hS.blk0 s5_.blk)) hm163) ?_
  rintro e w ⟨A164, c165, rfl, k166, hN⟩; refine ⟨_, rfl, ?_⟩; obtain ⟨hB, hS⟩ := hS.jn hN
  refine Zg ?_
  refine Z8 hB ?_
  refine Zaw [5, 6] ⟨by decide, by kernel_rfl⟩ rfl (.call [false, false, false, false, false, true] 5 rfl rfl rfl ?_ (.put [false, false, false, false, false, false, true] 6 rfl rfl rfl ?_ .nil))
  ·try dsimp only [Zy]
   refine Y0 (ps := [(0, .tmp 146)]) [.int .u8 r162.kind, .int .i64 r162.frm, .int .i64 r162.dst, .int .i64 r162.term, .int .i64 r162.cap, .int .i64 r162.last, .int .i64 r162.lastTerm, .int .i64 r162.commit, .bool r162.okk, .slice A164 r162.entries.length c165, .int .i64 r162.snap.index, .int .i64 r162.snap.term, .int .i64 r162.snap.sum, .int .i64 r162.snap.level, .bool r162.snap.final] V0 Zai rfl rfl rfl rfl rfl (by kernel_rfl) hS (fun b168 w hS hB => ?_)
   refine Zg ?_
   refine Z8 hB ?_
   refine Yu [false, false, false, false, false, false, true] 6 ⟨by decide, by kernel_rfl, by kernel_rfl⟩ rfl rfl ?_
   try dsimp only [Zy]
   refine Zm rfl rfl rfl CellsOf.agg hS ps10 Yz (by kernel_rfl) rfl (fun w hS hB => ?_)
   refine Zg ?_
   refine Yk (hB.sub (fun _ _ h => by simpa using h)) ?_
   refine Zn [false, false, false, false, false, false, false, true] (by decide +kernel) PFC.h ?_
   refine LtK.put rfl rfl rfl (Zx rfl) ?_
   refine LtK.nil ?_
   refine Z4 (by kernel_rfl) ?_
   refine Zb hK161 ?_
   refine Zk ?_
   refine Z2 ?_
   refine Zl rfl (RV.cell rfl (Z0 Ye hS Zex Z3) (RV.tmp rfl RV.nil)) rfl ?_
   obtain rfl := QJ H
   have hS := hS.nilRds
   replace hS := hS.front 2 rfl
   replace hS := hS.absorbQ ⟨r162, A164, c165⟩
   replace hS := hS.front 1 rfl
   replace hS := hS.weak Weak.boxRd
   have hS := hS.front 8 rfl
   have hS := hS.front 8 rfl
   have hS := hS.front 8 rfl
   have hS := hS.front 8 rfl
   have hS := hS.front 8 rfl
   replace hS := hS.cut 7
   exact ⟨A66, c67, A70, c71, A74, c75, A78, c79, A82, c83, (some ⟨b168, 0, none⟩), 1, ([⟨r162, A164, c165⟩] : List Mq), rfl, k68, k72, k76, k80, k84, ⟨Nat.le_refl 1, by decide⟩, rfl, (Vm k166 Vj), hS⟩
  ·try dsimp only [Zy]
   refine Zm rfl rfl rfl CellsOf.agg hS ps9 Yz (by kernel_rfl) rfl (fun w hS hB => ?_)
   refine Zg ?_
   refine Yk (hB.sub (fun _ _ h => by simpa using h)) ?_
   refine Z6 [false, false, false, false, false, true] 5 ⟨by decide, by kernel_rfl, by kernel_rfl⟩ rfl rfl ?_
   try dsimp only [Zy]
   refine Y0 (ps := [(0, .tmp 146)]) [.int .u8 r162.kind, .int .i64 r162.frm, .int .i64 r162.dst, .int .i64 r162.term, .int .i64 r162.cap, .int .i64 r162.last, .int .i64 r162.lastTerm, .int .i64 r162.commit, .bool r162.okk, .slice A164 r162.entries.length c165, .int .i64 r162.snap.index, .int .i64 r162.snap.term, .int .i64 r162.snap.sum, .int .i64 r162.snap.level, .bool r162.snap.final] V0 Zai rfl rfl rfl rfl rfl (by kernel_rfl) hS (fun b168 w hS hB => ?_)
   refine Zg ?_
   refine Z8 hB ?_
   refine Zn [false, false, false, false, false, false, false, true] (by decide +kernel) PFC.h ?_
   refine LtK.put rfl rfl rfl (Zx rfl) ?_
   refine LtK.nil ?_
   refine Z4 (by kernel_rfl) ?_
   refine Zb hK161 ?_
   refine Zk ?_
   refine Z2 ?_
   refine Zl rfl (RV.cell rfl (Z0 Ye hS Zex Z3) (RV.tmp rfl RV.nil)) rfl ?_
   obtain rfl := QJ H
   have hS := hS.nilRds
   replace hS := hS.front 2 rfl
   replace hS := hS.absorbQ ⟨r162, A164, c165⟩
   replace hS := hS.front 1 rfl
   replace hS := hS.weak Weak.boxRd
   have hS := hS.front 8 rfl
   have hS := hS.front 8 rfl
   have hS := hS.front 8 rfl
   have hS := hS.front 8 rfl
   have hS := hS.front 8 rfl
   replace hS := hS.cut 7
   exact ⟨A66, c67, A70, c71, A74, c75, A78, c79, A82, c83, (some ⟨b168, 0, none⟩), 1, ([⟨r162, A164, c165⟩] : List Mq), rfl, k68, k72, k76, k80, k84, ⟨Nat.le_refl 1, by decide⟩, rfl, (Vm k166 Vj), hS⟩
 replace H := Zo H hb
 refine Zr ?_
 refine Zb hK136 ?_
 refine Ze (fun K hK170 => ?_)
 refine Zf ?_
 refine Za rfl rfl rfl (Zj Y7 rfl (Zgw _) hS hs7 trivial Zbr) ?_
 refine Za rfl rfl rfl (Zd Yr rfl) ?_
 refine Zm rfl rfl rfl CellsOf.agg hS ps10 st4_8 (by kernel_rfl) rfl (fun w hS hB => ?_)
 refine Zg ?_
 refine Zb hK170 ?_
 refine Ze (fun K hK171 => ?_)
 refine Zf ?_
 refine Za rfl rfl rfl (Zj Ye rfl (Zgw _) hS Zex trivial Z3) ?_
 obtain ⟨r172, hm173, H⟩ := bind_some H
 refine Zq rfl rfl rfl rfl (by kernel_rfl) rfl (Zea (⟨r64.id, r64.n, 0, r64.binary, r153.1, r64.commit, r64.applied, r64.votes, r64.next, r64.mtch, r64.caps⟩ : Co) A155 c156 A70 c71 A74 c75 A78 c79 A82 c83 _ (Zgz k157 (hS.rd hs0) (hS.rd_blk hs0)) (Zgz k72 (hS.row_rd hs3) (hS.row_blk hs3)) (Zgz k76 (hS.row_rd hs4) (hS.row_blk hs4)) (Zgz k80 (hS.row_rd hs5) (hS.row_blk hs5)) (Zgz k84 (hS.row_rd hs6) (hS.row_blk hs6)) hm173) ?_
 rintro e w ⟨A174, c175, A178, c179, A182, c183, A186, c187, A190, c191, rfl, k176, k180, k184, k188, k192, hN⟩; refine ⟨_, rfl, ?_⟩; obtain ⟨hB, hS⟩ := hS.jn hN
 refine Zm rfl rfl rfl CellsOf.agg hS ps15 Yz (by kernel_rfl) rfl (fun w hS hB => ?_)
 refine Zg ?_
 refine Zb hK171 ?_
 refine Ze (fun K hK194 => ?_)
 refine Zf ?_
 refine Za rfl rfl rfl (Zd Vu rfl) ?_
 refine Za rfl rfl rfl (Zh Zw rfl (Zgw _) hS Zay trivial V7) ?_
 refine Za rfl rfl rfl (Zd X5 rfl) ?_
 refine Za rfl rfl rfl (Zh Xq rfl (Zgw _) hS Zay trivial Jg) ?_
 refine Za rfl rfl rfl (Yw Y4 rfl) ?_
 refine Za rfl rfl rfl (Xc rfl rfl) ?_
 refine Zc 1 rfl ?_
 refine Zg ?_
 refine Zb hK194 ?_
 refine Ze (fun K hK195 => ?_)
 refine Zf ?_
 refine Za rfl rfl rfl (Zd Vd rfl) ?_
 refine Za rfl rfl rfl (Zh Zw rfl (Zgw _) hS Zev trivial Jl) ?_
 refine Za rfl rfl rfl (Zd Zcl rfl) ?_
 refine Za rfl rfl rfl (Zh Zw rfl (Zgw _) hS Zay trivial Zey) ?_
 refine Zc 1 rfl ?_
 refine Za rfl rfl rfl (Ze3 rfl rfl) ?_
 refine Za rfl rfl rfl (Ze0 rfl rfl) ?_
 refine Za rfl rfl rfl (Zd Vd rfl) ?_
 refine Zm rfl rfl rfl CellsOf.int hS ps15 st12_1 (by kernel_rfl) rfl (fun w hS hB => ?_)
 refine Zg ?_
 refine Zb hK195 ?_
 refine Ze (fun K hK196 => ?_)
 refine Zf ?_
 refine Za rfl rfl rfl (Zd Yr rfl) ?_
 refine Za rfl rfl rfl (Zj Y7 rfl (Zgw _) hS Zev trivial Zak) ?_
 refine Za rfl rfl rfl (Zd Vd rfl) ?_
 refine Za rfl rfl rfl (Zh Zw rfl (Zgw _) hS Zev trivial Jl) ?_
 obtain ⟨r197, hm198, H⟩ := bind_some H
 refine Zq rfl rfl rfl rfl (by kernel_rfl) rfl (Za0 r172.tuple (max r172.commit (min x1.commit (IntKind.wrap .i64 (x1.last + (x1.entries.length : Int))))) A174 c175 _ (Zgz k176 (hS.row_rd hs0) (hS.row_blk hs0)) hm198) ?_
 rintro e w ⟨rfl, hN⟩; refine ⟨_, rfl, ?_⟩; obtain ⟨hB, hS⟩ := hS.jn hN
 refine Zc 1 rfl ?_
 refine Za rfl rfl rfl (Z7 rfl rfl) ?_
 refine Za rfl rfl rfl (Z7 rfl rfl) ?_
 refine Za rfl rfl rfl (Zd Zei rfl) ?_
 refine Zm rfl rfl rfl CellsOf.agg hS ps15 st13_5 (by kernel_rfl) rfl (fun w hS hB => ?_)
 refine Zg ?_
 refine Zb hK196 ?_
 refine Ze (fun K hK199 => ?_)
 refine Ze (fun K hK200 => ?_)
 refine Yi 8 [6] (fun i b => (i = 6 → b ≠ b6)) ⟨by kernel_rfl, by kernel_rfl⟩ hS (fun w hS hB => ?_)
 refine Zn [true] (by decide +kernel) PFC.h ?_
 refine LtK.put rfl rfl rfl (Zj Ye rfl (Zgx _) hS Zev trivial Z3) ?_
 refine LtK.nil ?_
 refine Xa [false, true, true, true] [6] (fun b => b ≠ b6) (by decide +kernel) (by intro j hj b hb; simp only [List.mem_cons, List.not_mem_nil, or_false] at hj; (try rcases hj with rfl | rfl | rfl | rfl | rfl) <;> first | (simp [hb]; done) | simp_all) PFC.h ?_
 refine LtK.put rfl rfl rfl (Zj Ye rfl (Zgy _ _) hS Zev (hS.ne 15 13 rfl rfl rfl) Z3) ?_
 refine LtK.put rfl rfl rfl (Zj Vi rfl (Zgy _ _) hS Zay (hS.ne 14 13 rfl rfl rfl) Xp) ?_
 refine LtK.put rfl rfl rfl (Zu rfl) ?_
 refine LtK.nil ?_
 refine Z6 [false, false, false, false, true] 4 ⟨by decide, by kernel_rfl, by kernel_rfl⟩ rfl rfl ?_
 try dsimp only [Zy]
 obtain ⟨r201, hm202, H⟩ := bind_some H
 refine Zq rfl rfl rfl rfl (by kernel_rfl) rfl (Jq (⟨r172.id, r172.n, r172.role, r172.binary, r172.tuple, (max r172.commit (min x1.commit (IntKind.wrap .i64 (x1.last + (x1.entries.length : Int))))), r197.1, r172.votes, r172.next, r172.mtch, r172.caps⟩ : Co) x1 4 true (IntKind.wrap .i64 (x1.last + (x1.entries.length : Int))) A174 c175 A178 c179 A182 c183 A186 c187 A190 c191 A5_ c5_ _ (Zgz k176 (hS.row_rd hs0) (hS.row_blk hs0)) (Zgz k180 (hS.row_rd Xw) (hS.row_blk Xw)) (Zgz k184 (hS.row_rd Vf) (hS.row_blk Vf)) (Zgz k188 (hS.row_rd hs3) (hS.row_blk hs3)) (Zgz k192 (hS.row_rd hs4) (hS.row_blk hs4)) (Zgz s5_.k (hS.rd0 s5_.rd) (hS.blk0 s5_.blk)) hm202) ?_
 rintro e w ⟨A203, c204, rfl, k205, hN⟩; refine ⟨_, rfl, ?_⟩; obtain ⟨hB, hS⟩ := hS.jn hN
 refine Zg ?_
 refine Z8 hB ?_
 refine Zaw [5, 6] ⟨by decide, by kernel_rfl⟩ rfl (.call [false, false, false, false, false, true] 5 rfl rfl rfl ?_ (.put [false, false, false, false, false, false, true] 6 rfl rfl rfl ?_ .nil))
 ·try dsimp only [Zy]
  refine Y0 (ps := [(0, .tmp 140)]) [.int .u8 r201.kind, .int .i64 r201.frm, .int .i64 r201.dst, .int .i64 r201.term, .int .i64 r201.cap, .int .i64 r201.last, .int .i64 r201.lastTerm, .int .i64 r201.commit, .bool r201.okk, .slice A203 r201.entries.length c204, .int .i64 r201.snap.index, .int .i64 r201.snap.term, .int .i64 r201.snap.sum, .int .i64 r201.snap.level, .bool r201.snap.final] V0 Zai rfl rfl rfl rfl rfl (by kernel_rfl) hS (fun b207 w hS hB => ?_)
  refine Zg ?_
  refine Z8 hB ?_
  refine Yu [false, false, false, false, false, false, true] 6 ⟨by decide, by kernel_rfl, by kernel_rfl⟩ rfl rfl ?_
  try dsimp only [Zy]
  refine Zm rfl rfl rfl CellsOf.agg hS ps15 Yz (by kernel_rfl) rfl (fun w hS hB => ?_)
  refine Zg ?_
  refine Yk (hB.sub (fun _ _ h => by simpa using h)) ?_
  refine Zn [false, false, false, false, false, false, false, true] (by decide +kernel) PFC.h ?_
  refine LtK.put rfl rfl rfl (Zx rfl) ?_
  refine LtK.nil ?_
  refine Z4 (by kernel_rfl) ?_
  refine Zb hK200 ?_
  refine Zk ?_
  refine Zi ?_
  refine Z2 ?_
  refine Zl rfl (RV.cell rfl (Z0 Ye hS Zev Z3) (RV.tmp rfl RV.nil)) rfl ?_
  obtain rfl := QJ H
  have hS := hS.nilRds
  replace hS := hS.front 2 rfl
  replace hS := hS.absorbQ ⟨r201, A203, c204⟩
  replace hS := hS.front 1 rfl
  replace hS := hS.weak Weak.boxRd
  have hS := hS.front 6 rfl
  have hS := hS.front 6 rfl
  have hS := hS.front 6 rfl
  have hS := hS.front 6 rfl
  have hS := hS.front 6 rfl
  replace hS := hS.weak Weak.rowRd
  replace hS := hS.cut 7
  exact ⟨A174, c175, A178, c179, A182, c183, A186, c187, A190, c191, (some ⟨b207, 0, none⟩), 1, ([⟨r201, A203, c204⟩] : List Mq), rfl, k176, k180, k184, k188, k192, ⟨Nat.le_refl 1, by decide⟩, rfl, (Vm k205 Vj), hS⟩
 ·try dsimp only [Zy]
  refine Zm rfl rfl rfl CellsOf.agg hS ps14 Yz (by kernel_rfl) rfl (fun w hS hB => ?_)
  refine Zg ?_
  refine Yk (hB.sub (fun _ _ h => by simpa using h)) ?_
  refine Z6 [false, false, false, false, false, true] 5 ⟨by decide, by kernel_rfl, by kernel_rfl⟩ rfl rfl ?_
  try dsimp only [Zy]
  refine Y0 (ps := [(0, .tmp 140)]) [.int .u8 r201.kind, .int .i64 r201.frm, .int .i64 r201.dst, .int .i64 r201.term, .int .i64 r201.cap, .int .i64 r201.last, .int .i64 r201.lastTerm, .int .i64 r201.commit, .bool r201.okk, .slice A203 r201.entries.length c204, .int .i64 r201.snap.index, .int .i64 r201.snap.term, .int .i64 r201.snap.sum, .int .i64 r201.snap.level, .bool r201.snap.final] V0 Zai rfl rfl rfl rfl rfl (by kernel_rfl) hS (fun b207 w hS hB => ?_)
  refine Zg ?_
  refine Z8 hB ?_
  refine Zn [false, false, false, false, false, false, false, true] (by decide +kernel) PFC.h ?_
  refine LtK.put rfl rfl rfl (Zx rfl) ?_
  refine LtK.nil ?_
  refine Z4 (by kernel_rfl) ?_
  refine Zb hK200 ?_
  refine Zk ?_
  refine Zi ?_
  refine Z2 ?_
  refine Zl rfl (RV.cell rfl (Z0 Ye hS Zev Z3) (RV.tmp rfl RV.nil)) rfl ?_
  obtain rfl := QJ H
  have hS := hS.nilRds
  replace hS := hS.front 2 rfl
  replace hS := hS.absorbQ ⟨r201, A203, c204⟩
  replace hS := hS.front 1 rfl
  replace hS := hS.weak Weak.boxRd
  have hS := hS.front 6 rfl
  have hS := hS.front 6 rfl
  have hS := hS.front 6 rfl
  have hS := hS.front 6 rfl
  have hS := hS.front 6 rfl
  replace hS := hS.weak Weak.rowRd
  replace hS := hS.cut 7
  exact ⟨A174, c175, A178, c179, A182, c183, A186, c187, A190, c191, (some ⟨b207, 0, none⟩), 1, ([⟨r201, A203, c204⟩] : List Mq), rfl, k176, k180, k184, k188, k192, ⟨Nat.le_refl 1, by decide⟩, rfl, (Vm k205 Vj), hS⟩
end
section
open Go Go.RowKit
set_option maxRecDepth 100000
set_option maxHeartbeats 4000000
theorem c_repl_Told (x0 : Co) (x1 : Ms) (A0_ : OA) (c0_ : Nat) (A1_ : OA) (c1_ : Nat) (A2_ : OA) (c2_ : Nat) (A3_ : OA) (c3_ : Nat) (A4_ : OA) (c4_ : Nat) (A5_ : OA) (c5_ : Nat) (w0 : World) (s0_ : SlI w0 Jj A0_ c0_ x0.tuple.log) (s1_ : SlI w0 enO A1_ c1_ x0.votes) (s2_ : SlI w0 V1 A2_ c2_ x0.next) (s3_ : SlI w0 V1 A3_ c3_ x0.mtch) (s4_ : SlI w0 V1 A4_ c4_ x0.caps) (s5_ : SlI w0 Jj A5_ c5_ x1.entries) {r : Co} (H : J0 x0 x1 = some r) : Calls Tryz.prog 34 #[.agg #[.int .i64 x0.id, .int .i64 x0.n, .int .u8 x0.role, .int .i64 x0.binary, .int .i64 x0.tuple.snap.index, .int .i64 x0.tuple.snap.term, .int .i64 x0.tuple.snap.sum, .int .i64 x0.tuple.snap.level, .bool x0.tuple.snap.final, .slice A0_ x0.tuple.log.length c0_, .int .i64 x0.tuple.term, .int .i64 x0.tuple.vote, .int .i64 x0.commit, .int .i64 x0.applied.index, .int .i64 x0.applied.term, .int .i64 x0.applied.sum, .int .i64 x0.applied.level, .bool x0.applied.final, .slice A1_ x0.votes.length c1_, .slice A2_ x0.next.length c2_, .slice A3_ x0.mtch.length c3_, .slice A4_ x0.caps.length c4_], .agg #[.int .u8 x1.kind, .int .i64 x1.frm, .int .i64 x1.dst, .int .i64 x1.term, .int .i64 x1.cap, .int .i64 x1.last, .int .i64 x1.lastTerm, .int .i64 x1.commit, .bool x1.okk, .slice A5_ x1.entries.length c5_, .int .i64 x1.snap.index, .int .i64 x1.snap.term, .int .i64 x1.snap.sum, .int .i64 x1.snap.level, .bool x1.snap.final]] w0 fun e w' => ∃ (A0 : OA) (c0 : Nat) (A1 : OA) (c1 : Nat) (A2 : OA) (c2 : Nat) (A3 : OA) (c3 : Nat) (A4 : OA) (c4 : Nat), e = .returned (.agg #[.int .i64 r.id, .int .i64 r.n, .int .u8 r.role, .int .i64 r.binary, .int .i64 r.tuple.snap.index, .int .i64 r.tuple.snap.term, .int .i64 r.tuple.snap.sum, .int .i64 r.tuple.snap.level, .bool r.tuple.snap.final, .slice A0 r.tuple.log.length c0, .int .i64 r.tuple.term, .int .i64 r.tuple.vote, .int .i64 r.commit, .int .i64 r.applied.index, .int .i64 r.applied.term, .int .i64 r.applied.sum, .int .i64 r.applied.level, .bool r.applied.final, .slice A1 r.votes.length c1, .slice A2 r.next.length c2, .slice A3 r.mtch.length c3, .slice A4 r.caps.length c4]) ∧ (r.tuple.log.length ≤ c0 ∧ c0 ≤ maxLen) ∧ (r.votes.length ≤ c1 ∧ c1 ≤ maxLen) ∧ (r.next.length ≤ c2 ∧ c2 ≤ maxLen) ∧ (r.mtch.length ≤ c3 ∧ c3 ≤ maxLen) ∧ (r.caps.length ≤ c4 ∧ c4 ≤ maxLen) ∧ St0 All w0 w' [.rd A0 (Yl Jj r.tuple.log), .row (.slice A1 r.votes.length c1) 4 1 r.votes.length (Yl enO r.votes), .row (.slice A2 r.next.length c2) 3 1 r.next.length (Yl V1 r.next), .row (.slice A3 r.mtch.length c3) 3 1 r.mtch.length (Yl V1 r.mtch), .row (.slice A4 r.caps.length c4) 3 1 r.caps.length (Yl V1 r.caps)] := by
 unfold J0 at H
 refine Yt Tryz.func34 rfl Tryz.ntmps34 rfl ?_
 have hS := St0.start All w0
 refine Ze (fun K hK1 => ?_)
 refine Zf ?_
 refine Yd rfl rfl rfl CellsOf.agg hS (fun b2 w hS hB => ?_)
 refine Yd rfl rfl rfl CellsOf.agg hS (fun b4 w hS hB => ?_)
 refine Yh rfl rfl Zd5 hS (fun b6 w hS hB => ?_)
 refine Zg ?_
 refine Zb hK1 ?_
 refine Ze (fun K hK8 => ?_)
 refine Ze (fun K hK9 => ?_)
 refine Zf ?_
 refine Za rfl rfl rfl (Zj Ye rfl (Zgw _) hS Vf trivial Z3) ?_
 refine Za rfl rfl rfl (Zj Vi rfl (Zgw _) hS Xw trivial Xp) ?_
 obtain ⟨r10, hm11, H⟩ := bind_some H
 refine Zq rfl rfl rfl rfl (by kernel_rfl) rfl (c_advert_To x0 x1 A0_ c0_ A1_ c1_ A2_ c2_ A3_ c3_ A4_ c4_ A5_ c5_ _ (Zgz s0_.k (hS.rd0 s0_.rd) (hS.blk0 s0_.blk)) (Zgz s1_.k (hS.rd0 s1_.rd) (hS.blk0 s1_.blk)) (Zgz s2_.k (hS.rd0 s2_.rd) (hS.blk0 s2_.blk)) (Zgz s3_.k (hS.rd0 s3_.rd) (hS.blk0 s3_.blk)) (Zgz s4_.k (hS.rd0 s4_.rd) (hS.blk0 s4_.blk)) (Zgz s5_.k (hS.rd0 s5_.rd) (hS.blk0 s5_.blk)) hm11) ?_
 rintro e w ⟨rfl, hN⟩; refine ⟨_, rfl, ?_⟩; obtain ⟨hB, hS⟩ := hS.jn hN
 refine Za rfl rfl rfl (Yy rfl) ?_
 refine Zc 1 rfl ?_
 refine Zs 12 rfl (fun hb => ?_) (fun hb => ?_)
 ·replace H := Zp H hb
  refine Zc 4 rfl ?_
  refine Zg ?_
  refine Zb hK9 ?_
  refine Zt rfl rfl ?_
  refine Ze (fun K hK12 => ?_)
  refine Zf ?_
  refine Za rfl rfl rfl (Zj Ye rfl (Zgw _) hS Vf trivial Z3) ?_
  obtain ⟨r13, hm14, H⟩ := bind_some H
  refine Zq rfl rfl rfl rfl (by kernel_rfl) rfl (Zed x0 A0_ c0_ A1_ c1_ A2_ c2_ A3_ c3_ A4_ c4_ _ (Zgz s0_.k (hS.rd0 s0_.rd) (hS.blk0 s0_.blk)) (Zgz s1_.k (hS.rd0 s1_.rd) (hS.blk0 s1_.blk)) (Zgz s2_.k (hS.rd0 s2_.rd) (hS.blk0 s2_.blk)) (Zgz s3_.k (hS.rd0 s3_.rd) (hS.blk0 s3_.blk)) (Zgz s4_.k (hS.rd0 s4_.rd) (hS.blk0 s4_.blk)) hm14) ?_
  rintro e w ⟨A15, c16, A19, c20, A23, c24, A27, c28, A31, c32, rfl, k17, k21, k25, k29, k33, hN⟩; refine ⟨_, rfl, ?_⟩; obtain ⟨hB, hS⟩ := hS.jn hN
  refine Zm rfl rfl rfl CellsOf.agg hS ps5 Yz (by kernel_rfl) rfl (fun w hS hB => ?_)
  refine Zg ?_
  refine Zb hK12 ?_
  refine Zk ?_
  refine Zi ?_
  refine Zl rfl (RV.cell rfl (Z0 Ye hS hs5 Z3) RV.nil) rfl ?_
  obtain rfl := QJ H
  have hS := hS.front 4 rfl
  have hS := hS.front 4 rfl
  have hS := hS.front 4 rfl
  have hS := hS.front 4 rfl
  have hS := hS.front 4 rfl
  replace hS := hS.weak Weak.rowRd
  replace hS := hS.cut 5
  exact ⟨A15, c16, A19, c20, A23, c24, A27, c28, A31, c32, rfl, k17, k21, k25, k29, k33, hS⟩
 replace H := Zo H hb
 refine Za rfl rfl rfl (Zd Vq rfl) ?_
 refine Za rfl rfl rfl (Zh Zbd rfl (Zgw _) hS Xw trivial Y8) ?_
 refine Za rfl rfl rfl (Xh rfl rfl) ?_
 refine Zc 1 rfl ?_
 refine Zg ?_
 refine Zb hK9 ?_
 refine Zz rfl (fun hb => ?_) (fun hb => ?_)
 ·replace H := Zp H hb
  refine Ze (fun K hK35 => ?_)
  refine Zf ?_
  refine Za rfl rfl rfl (Zj Ye rfl (Zgw _) hS Vf trivial Z3) ?_
  obtain ⟨r36, hm37, H⟩ := bind_some H
  refine Zq rfl rfl rfl rfl (by kernel_rfl) rfl (Zed x0 A0_ c0_ A1_ c1_ A2_ c2_ A3_ c3_ A4_ c4_ _ (Zgz s0_.k (hS.rd0 s0_.rd) (hS.blk0 s0_.blk)) (Zgz s1_.k (hS.rd0 s1_.rd) (hS.blk0 s1_.blk)) (Zgz s2_.k (hS.rd0 s2_.rd) (hS.blk0 s2_.blk)) (Zgz s3_.k (hS.rd0 s3_.rd) (hS.blk0 s3_.blk)) (Zgz s4_.k (hS.rd0 s4_.rd) (hS.blk0 s4_.blk)) hm37) ?_
  rintro e w ⟨A38, c39, A42, c43, A46, c47, A50, c51, A54, c55, rfl, k40, k44, k48, k52, k56, hN⟩; refine ⟨_, rfl, ?_⟩; obtain ⟨hB, hS⟩ := hS.jn hN
  refine Zm rfl rfl rfl CellsOf.agg hS ps5 Yz (by kernel_rfl) rfl (fun w hS hB => ?_)
  refine Zg ?_
  refine Zb hK35 ?_
  refine Zk ?_
  refine Zi ?_
  refine Zl rfl (RV.cell rfl (Z0 Ye hS hs5 Z3) RV.nil) rfl ?_
  obtain rfl := QJ H
  have hS := hS.front 4 rfl
  have hS := hS.front 4 rfl
  have hS := hS.front 4 rfl
  have hS := hS.front 4 rfl
  have hS := hS.front 4 rfl
  replace hS := hS.weak Weak.rowRd
  replace hS := hS.cut 5
  exact ⟨A38, c39, A42, c43, A46, c47, A50, c51, A54, c55, rfl, k40, k44, k48, k52, k56, hS⟩
 replace H := Zo H hb
 refine Zr ?_
 refine Zb hK8 ?_
 refine Ze (fun K hK58 => ?_)
 refine Zf ?_
 refine Za rfl rfl rfl (Zj Ye rfl (Zgw _) hS Vf trivial Z3) ?_
 refine Za rfl rfl rfl (Zj Vi rfl (Zgw _) hS Xw trivial Xp) ?_
 obtain ⟨r59, hm60, H⟩ := bind_some H
 refine Zq rfl rfl rfl rfl (by kernel_rfl) rfl (c_elect_Meet x0 x1 A0_ c0_ A1_ c1_ A2_ c2_ A3_ c3_ A4_ c4_ A5_ c5_ _ (Zgz s0_.k (hS.rd0 s0_.rd) (hS.blk0 s0_.blk)) (Zgz s1_.k (hS.rd0 s1_.rd) (hS.blk0 s1_.blk)) (Zgz s2_.k (hS.rd0 s2_.rd) (hS.blk0 s2_.blk)) (Zgz s3_.k (hS.rd0 s3_.rd) (hS.blk0 s3_.blk)) (Zgz s4_.k (hS.rd0 s4_.rd) (hS.blk0 s4_.blk)) (Zgz s5_.k (hS.rd0 s5_.rd) (hS.blk0 s5_.blk)) hm60) ?_
 rintro e w ⟨A61, c62, A65, c66, A69, c70, A73, c74, A77, c78, rfl, k63, k67, k71, k75, k79, hN⟩; refine ⟨_, rfl, ?_⟩; obtain ⟨hB, hS⟩ := hS.jn hN
 refine Zm rfl rfl rfl CellsOf.agg hS ps7 Yz (by kernel_rfl) rfl (fun w hS hB => ?_)
 refine Zg ?_
 refine Zb hK58 ?_
 refine Ze (fun K hK81 => ?_)
 refine Ze (fun K hK82 => ?_)
 refine Zf ?_
 refine Za rfl rfl rfl (Zd Zb0 rfl) ?_
 refine Za rfl rfl rfl (Zh Zbd rfl (Zgw _) hS hs7 trivial Zav) ?_
 refine Za rfl rfl rfl (Xh rfl rfl) ?_
 refine Zc 1 rfl ?_
 refine Zs 25 rfl (fun hb => ?_) (fun hb => ?_)
 ·replace H := Zp H hb
  refine Zc 7 rfl ?_
  refine Zg ?_
  refine Zb hK82 ?_
  refine Zt rfl rfl ?_
  refine Ze (fun K hK83 => ?_)
  refine Zf ?_
  refine Za rfl rfl rfl (Zj Ye rfl (Zgw _) hS hs7 trivial Z3) ?_
  refine Zm rfl rfl rfl CellsOf.agg hS ps5 Yz (by kernel_rfl) rfl (fun w hS hB => ?_)
  refine Zg ?_
  refine Zb hK83 ?_
  refine Zk ?_
  refine Zi ?_
  refine Zl rfl (RV.cell rfl (Z0 Ye hS hs5 Z3) RV.nil) rfl ?_
  obtain rfl := QJ H
  have hS := hS.front 4 rfl
  have hS := hS.front 4 rfl
  have hS := hS.front 4 rfl
  have hS := hS.front 4 rfl
  have hS := hS.front 4 rfl
  replace hS := hS.cut 5
  exact ⟨A61, c62, A65, c66, A69, c70, A73, c74, A77, c78, rfl, k63, k67, k71, k75, k79, hS⟩
 replace H := Zo H hb
 refine Za rfl rfl rfl (Zd Zb1 rfl) ?_
 refine Za rfl rfl rfl (Zh Zw rfl (Zgw _) hS hs6 trivial Zan) ?_
 refine Za rfl rfl rfl (Zd Yr rfl) ?_
 refine Za rfl rfl rfl (Zd Vr rfl) ?_
 refine Za rfl rfl rfl (Zh Zw rfl (Zgw _) hS hs7 trivial J7) ?_
 refine Za rfl rfl rfl (Xh rfl rfl) ?_
 refine Zc 1 rfl ?_
 refine Zg ?_
 refine Zb hK82 ?_
 refine Zz rfl (fun hb => ?_) (fun hb => ?_)
 ·replace H := Zp H hb
  refine Ze (fun K hK84 => ?_)
  refine Zf ?_
  refine Za rfl rfl rfl (Zj Ye rfl (Zgw _) hS hs7 trivial Z3) ?_
  refine Zm rfl rfl rfl CellsOf.agg hS ps5 Yz (by kernel_rfl) rfl (fun w hS hB => ?_)
  refine Zg ?_
  refine Zb hK84 ?_
  refine Zk ?_
  refine Zi ?_
  refine Zl rfl (RV.cell rfl (Z0 Ye hS hs5 Z3) RV.nil) rfl ?_
  obtain rfl := QJ H
  have hS := hS.front 4 rfl
  have hS := hS.front 4 rfl
  have hS := hS.front 4 rfl
  have hS := hS.front 4 rfl
  have hS := hS.front 4 rfl
  replace hS := hS.cut 5
  exact ⟨A61, c62, A65, c66, A69, c70, A73, c74, A77, c78, rfl, k63, k67, k71, k75, k79, hS⟩
 replace H := Zo H hb
 refine Zr ?_
 refine Zb hK81 ?_
 refine Ze (fun K hK85 => ?_)
 refine Yi 16 [14, 15] (fun i b => (i = 14 → b = b6 ∨ b = b4 ∨ b = b2) ∧ (i = 15 → b = b6 ∨ b = b4 ∨ b = b2)) ⟨by kernel_rfl, by kernel_rfl⟩ hS (fun w hS hB => ?_)
 refine wpRF_start [⟨12, 5, 89, [.pointer none]⟩, ⟨13, 6, 89, [.pointer none]⟩] (.cons rfl zc_89 rfl rfl rfl (.cons rfl zc_89 rfl rfl rfl .nil)) hS (fun hok => ?_)
 dsimp only [List.cons_append, List.nil_append]
 refine Zb9 [true, true, true, true, true, true] [] (fun _ => True) (by decide +kernel) (fun _ h => by cases h) PFC.h (fun X Y tk ht w hS => ?_)
 refine LtK.put rfl rfl rfl (Zd Vo rfl) ?_
 refine LtK.put rfl rfl rfl (Zh Xt rfl (Zgy _ _) hS hs7 trivial Jr) ?_
 refine LtK.put rfl rfl rfl (Zd Zby rfl) ?_
 refine LtK.put rfl rfl rfl (Zh Zw rfl (Zgy _ _) hS hs6 trivial Vp) ?_
 refine LtK.put rfl rfl rfl (Za6 rfl rfl) ?_
 obtain ⟨e86, hi88, H⟩ := bind_some H
 obtain ⟨j87, hi88a, hi88b, hi88c⟩ := Ym hi88
 refine LtK.put rfl rfl rfl (Y1 Xl rfl rfl hi88a hi88c (Rd.el (hS.row_rd Vf) Z9 hi88b)) ?_
 refine LtK_F' ht hS (by repeat (first | exact App.nil | apply App.cons)) (by repeat (first | exact App.nil | apply App.cons)) ?_
 dsimp only [List.cons_append, List.nil_append]
 refine Zb9 [false, false, false, false, false, false, true, true, true, true, true, true] [14] (fun b => (b = b6 ∨ b = b4 ∨ b = b2)) (by decide +kernel) (by intro j hj b hb; simp only [List.mem_cons, List.not_mem_nil, or_false] at hj; (try rcases hj with rfl | rfl | rfl | rfl | rfl) <;> first | (simp [hb]; done) | simp_all) PFC.h (fun X Y tk ht w hS => ?_)
 refine LtK.put rfl rfl rfl (Zd Vt rfl) ?_
 refine LtK.put rfl rfl rfl (Zh Xt rfl (Zgy _ _) hS hs7 (.inr (.inr (rfl))) Jz) ?_
 refine LtK.put rfl rfl rfl (Zd Zby rfl) ?_
 refine LtK.put rfl rfl rfl (Zh Zw rfl (Zgy _ _) hS hs6 (.inr (.inl rfl)) Vp) ?_
 refine LtK.put rfl rfl rfl (Za6 rfl rfl) ?_
 obtain ⟨e89, hi91, H⟩ := bind_some H
 obtain ⟨j90, hi91a, hi91b, hi91c⟩ := Ym hi91
 refine LtK.put rfl rfl rfl (Y1 Xl rfl rfl hi91a hi91c (Rd.el (hS.row_rd hs3) Z9 hi91b)) ?_
 refine LtK_F' ht hS (by repeat (first | exact App.nil | apply App.cons)) (by repeat (first | exact App.nil | apply App.cons)) ?_
 dsimp only [List.cons_append, List.nil_append]
 refine wpRF_done hok (by decide) (by decide +kernel) (fun _ => rfl) (fun _ => rfl) rfl (fun tk htk w hS => ?_)
 obtain ⟨b92, tkb92, rfl, htk94⟩ := tk_cons htk
 obtain ⟨b95, tkb95, rfl, htk97⟩ := tk_cons htk94
 obtain rfl := tk_nil htk97
 dsimp only [tkH, tkL, List.map] at hS ⊢
 refine Yu [false, false, false, false, false, false, false, false, false, false, false, false, false, false, true] 14 ⟨by decide, by kernel_rfl, by kernel_rfl⟩ rfl rfl ?_
 try dsimp only [Zy]
 refine Zm rfl rfl rfl CellsOf.ptr hS ps8 st0_1 (by kernel_rfl) rfl (fun w hS hB => ?_)
 refine Zg ?_
 refine Yk (hB.sub (fun b _ h => by have h0 : b = b6 ∨ b = b4 ∨ b = b2 := (by simpa using h); rcases h0 with h0 | h0 | h0; (rw [h0]; exact hS.ne 5 8 rfl rfl rfl); (rw [h0]; exact hS.ne 6 8 rfl rfl rfl); (rw [h0]; exact hS.ne 7 8 rfl rfl rfl))) ?_
 refine Yu [false, false, false, false, false, false, false, false, false, false, false, false, false, false, false, true] 15 ⟨by decide, by kernel_rfl, by kernel_rfl⟩ rfl rfl ?_
 try dsimp only [Zy]
 refine Zm rfl rfl rfl CellsOf.ptr hS ps9 st0_1 (by kernel_rfl) rfl (fun w hS hB => ?_)
 refine Zg ?_
 refine Yk (hB.sub (fun b _ h => by have h0 : b = b6 ∨ b = b4 ∨ b = b2 := (by simpa using h); rcases h0 with h0 | h0 | h0; (rw [h0]; exact hS.ne 5 9 rfl rfl rfl); (rw [h0]; exact hS.ne 6 9 rfl rfl rfl); (rw [h0]; exact hS.ne 7 9 rfl rfl rfl))) ?_
 refine Z4 (by kernel_rfl) ?_
 refine Zb hK85 ?_
 refine Ze (fun K hK98 => ?_)
 refine Zf ?_
 refine wpS_makeMap rfl rfl hS (fun b99 w hS hB => ?_)
 refine Za rfl rfl rfl (X8 rfl rfl) ?_
 refine wpS_insert (kt := 4) (e := 1) rfl rfl rfl rfl (by kernel_rfl) (by kernel_rfl) rfl hS ps0 (fun w hS hB => ?_)
 refine Za rfl rfl rfl (X8 rfl rfl) ?_
 refine wpS_insert (kt := 4) (e := 1) rfl rfl rfl rfl (by kernel_rfl) (by kernel_rfl) rfl hS ps0 (fun w hS hB => ?_)
 refine Zc 2 rfl ?_
 refine Zg ?_
 refine Zb hK98 ?_
 refine Ze (fun K hK101 => ?_)
 refine Zf ?_
 refine Zc 1 rfl ?_
 refine Za rfl rfl rfl (Zd Zel rfl) ?_
 refine Za rfl rfl rfl (Zh sc_4 rfl (Zgw _) hS hs7 trivial sg8_1) ?_
 refine Zs 52 rfl (fun hb => ?_) (fun hb => ?_)
 rotate_left
 ·replace H := Zo H hb
  refine Za rfl rfl rfl (yv_lookup (kt := 4) (e := 1) rfl rfl (by kernel_rfl) (by kernel_rfl) rfl (Zgw _) hS hs0 trivial) ?_
  refine Zbw rfl rfl rfl rfl (by kernel_rfl) rfl ?_
  show Calls _ _ #[_, _, _] _ _
  refine Zcj Tryz.func81 rfl Tryz.ntmps81 rfl ?_
  refine Yi 16 [15] (fun i b => (i = 15 → b = b6 ∨ b = b4 ∨ b = b2 ∨ b = b92 ∨ b = b95)) ⟨by kernel_rfl, by kernel_rfl⟩ hS (fun w hS hB => ?_)
  refine Zn [true, true, true, true, true, true, true, true, true, true, true, true, true, true, true] (by decide +kernel) PFC.h ?_
  refine LtK.put rfl rfl rfl (Zh sc_89 rfl (Zgx _) hS hs9 trivial Y8) ?_
  refine LtK.put rfl rfl rfl (Zh sc_89 rfl (Zgx _) hS Zex trivial Y8) ?_
  refine LtK.put rfl rfl rfl (Zbj rfl (Rd.el (hS.row_rd hs4) Z9 hi91b)) ?_
  refine LtK.put rfl rfl rfl (Xn Zw rfl (Zgx _) (Rd.el (hS.row_rd hs4) Z9 hi91b) rfl) ?_
  refine LtK.put rfl rfl rfl (Xc rfl rfl) ?_
  refine LtK.put rfl rfl rfl (Zh sc_89 rfl (Zgx _) hS hs9 trivial Y8) ?_
  refine LtK.put rfl rfl rfl (Zbj rfl (Rd.el (hS.row_rd hs3) Z9 hi88b)) ?_
  refine LtK.put rfl rfl rfl (Xn Zw rfl (Zgx _) (Rd.el (hS.row_rd hs3) Z9 hi88b) rfl) ?_
  refine LtK.put rfl rfl rfl (Za6 rfl rfl) ?_
  refine LtK.put rfl rfl rfl (Zd Vu rfl) ?_
  refine LtK.put rfl rfl rfl (Zh Zw rfl (Zgx _) hS hs7 trivial V7) ?_
  refine LtK.put rfl rfl rfl (Xc rfl rfl) ?_
  refine LtK.put rfl rfl rfl (Ze3 rfl rfl) ?_
  refine LtK.put rfl rfl rfl (Ze0 rfl rfl) ?_
  refine LtK.put rfl rfl rfl (Zbj rfl (Rd.el (hS.row_rd hs3) Z9 hi88b)) ?_
  refine LtK.nil ?_
  refine Yu [false, false, false, false, false, false, false, false, false, false, false, false, false, false, false, true] 15 ⟨by decide, by kernel_rfl, by kernel_rfl⟩ rfl rfl ?_
  try dsimp only [Zy]
  refine Zf5 (a' := (max (IntKind.wrap .i64 (e89 + 1)) (min (IntKind.wrap .i64 (e86 - 1)) (IntKind.wrap .i64 (x1.last + 1))))) (zs := (Zeb r59.next (IntKind.wrap .i64 (x1.frm - 1)) (max (IntKind.wrap .i64 (e89 + 1)) (min (IntKind.wrap .i64 (e86 - 1)) (IntKind.wrap .i64 (x1.last + 1)))))) Z9 rfl rfl rfl CellsOf.int hS ps3 (Rd.el (hS.row_rd hs3) Z9 hi88b) hi88a hi88b rfl st0_1 (by kernel_rfl) rfl (fun w hS hB => ?_)
  have hi108b := setI_at (a := (max (IntKind.wrap .i64 (e89 + 1)) (min (IntKind.wrap .i64 (e86 - 1)) (IntKind.wrap .i64 (x1.last + 1))))) hi88a hi88b
  have hi108a := hi88a
  refine Zg ?_
  refine Yk (hB.sub (fun b _ h => by have h0 : b = b6 ∨ b = b4 ∨ b = b2 ∨ b = b92 ∨ b = b95 := (by simpa using h); rcases h0 with h0 | h0 | h0 | h0 | h0; (rw [h0]; exact hS.neRow 6 3 rfl rfl); (rw [h0]; exact hS.neRow 7 3 rfl rfl); (rw [h0]; exact hS.neRow 8 3 rfl rfl); (rw [h0]; exact hS.neRow 9 3 rfl rfl); (rw [h0]; exact hS.neRow 10 3 rfl rfl))) ?_
  refine Z4 (by kernel_rfl) ?_
  refine Zcs rfl RV.nil rfl ?_
  refine ⟨_, rfl, ?_⟩
  refine Zg ?_
  refine Zb hK101 ?_
  refine Ze (fun K hK109 => ?_)
  refine Zf ?_
  refine Za rfl rfl rfl (Zj Ye rfl (Zgw _) hS hs8 trivial Z3) ?_
  refine Zm rfl rfl rfl CellsOf.agg hS ps6 Yz (by kernel_rfl) rfl (fun w hS hB => ?_)
  refine Zg ?_
  refine Zb hK109 ?_
  refine Zk ?_
  refine Zl rfl (RV.cell rfl (Z0 Ye hS hs6 Z3) RV.nil) rfl ?_
  obtain rfl := QJ H
  have hS := hS.front 5 rfl
  have hS := hS.front 5 rfl
  have hS := hS.front 5 rfl
  have hS := hS.front 5 rfl
  have hS := hS.front 5 rfl
  replace hS := hS.cut 5
  exact ⟨A61, c62, A65, c66, A69, c70, A73, c74, A77, c78, by (repeat rw [(Zb4 rfl)]); rfl, k63, k67, (k_set k71), k75, k79, hS.eqv (by (repeat rw [(Zb4 rfl)]); rfl)⟩
 replace H := Zp H hb
 refine Za rfl rfl rfl (yv_lookup (kt := 4) (e := 1) rfl rfl (by kernel_rfl) (by kernel_rfl) rfl (Zgw _) hS hs0 trivial) ?_
 refine Zbw rfl rfl rfl rfl (by kernel_rfl) rfl ?_
 show Calls _ _ #[_, _, _, _] _ _
 refine gw_enter4 Tryz.func80 rfl Tryz.ntmps80 rfl ?_
 refine Ze (fun K hK102 => ?_)
 refine Yi 13 [12] (fun i b => (i = 12 → b = b6 ∨ b = b4 ∨ b = b2 ∨ b = b92 ∨ b = b95)) ⟨by kernel_rfl, by kernel_rfl⟩ hS (fun w hS hB => ?_)
 refine Zn [true, true, true, true, true, true, true, true] (by decide +kernel) PFC.h ?_
 refine LtK.put rfl rfl rfl (Zh sc_89 rfl (Zgx _) hS Zex trivial Y8) ?_
 refine LtK.put rfl rfl rfl (Zh sc_89 rfl (Zgx _) hS Zex trivial Y8) ?_
 refine LtK.put rfl rfl rfl (Zbj rfl (Rd.el (hS.row_rd hs4) Z9 hi91b)) ?_
 refine LtK.put rfl rfl rfl (Xn Zw rfl (Zgx _) (Rd.el (hS.row_rd hs4) Z9 hi91b) rfl) ?_
 refine LtK.put rfl rfl rfl (Zd Vu rfl) ?_
 refine LtK.put rfl rfl rfl (Zh Zw rfl (Zgx _) hS hs7 trivial V7) ?_
 refine LtK.put rfl rfl rfl (Zd Yr rfl) ?_
 refine LtK.put rfl rfl rfl (Zj Y7 rfl (Zgx _) hS hs8 trivial Zak) ?_
 refine LtK.nil ?_
 refine Z6 [false, false, false, false, false, false, false, false, true] 8 ⟨by decide, by kernel_rfl, by kernel_rfl⟩ rfl rfl ?_
 try dsimp only [Zy]
 obtain ⟨r103, hm104, H⟩ := bind_some H
 refine Zq rfl rfl rfl rfl (by kernel_rfl) rfl (Zdw r59.tuple A61 c62 _ (Zgz k63 (hS.rd Xw) (hS.rd_blk Xw)) hm104) ?_
 rintro e w ⟨rfl, hN⟩; refine ⟨_, rfl, ?_⟩; obtain ⟨hB, hS⟩ := hS.jn hN
 refine Zg ?_
 refine Z8 hB ?_
 refine Zn [false, false, false, false, false, false, false, false, false, true, true, true] (by decide +kernel) PFC.h ?_
 refine LtK.put rfl rfl rfl (Ze3 rfl rfl) ?_
 refine LtK.put rfl rfl rfl (Ze0 rfl rfl) ?_
 refine LtK.put rfl rfl rfl (Zbj rfl (Rd.el (hS.row_rd hs4) Z9 hi91b)) ?_
 refine LtK.nil ?_
 refine Yu [false, false, false, false, false, false, false, false, false, false, false, false, true] 12 ⟨by decide, by kernel_rfl, by kernel_rfl⟩ rfl rfl ?_
 try dsimp only [Zy]
 refine Zf5 (a' := (max e89 (min x1.last r103))) (zs := (Zeb r59.mtch (IntKind.wrap .i64 (x1.frm - 1)) (max e89 (min x1.last r103)))) Z9 rfl rfl rfl CellsOf.int hS ps4 (Rd.el (hS.row_rd hs4) Z9 hi91b) hi91a hi91b rfl st0_1 (by kernel_rfl) rfl (fun w hS hB => ?_)
 have hi105b := setI_at (a := (max e89 (min x1.last r103))) hi91a hi91b
 have hi105a := hi91a
 refine Zg ?_
 refine Yk (hB.sub (fun b _ h => by have h0 : b = b6 ∨ b = b4 ∨ b = b2 ∨ b = b92 ∨ b = b95 := (by simpa using h); rcases h0 with h0 | h0 | h0 | h0 | h0; (rw [h0]; exact hS.neRow 6 4 rfl rfl); (rw [h0]; exact hS.neRow 7 4 rfl rfl); (rw [h0]; exact hS.neRow 8 4 rfl rfl); (rw [h0]; exact hS.neRow 9 4 rfl rfl); (rw [h0]; exact hS.neRow 10 4 rfl rfl))) ?_
 refine Z4 (by kernel_rfl) ?_
 refine Zb hK102 ?_
 refine Yi 11 [10] (fun i b => (i = 10 → b = b6 ∨ b = b4 ∨ b = b2 ∨ b = b92 ∨ b = b95)) ⟨by kernel_rfl, by kernel_rfl⟩ hS (fun w hS hB => ?_)
 refine Zn [true, true, true, true, true, true, true, true, true, true] (by decide +kernel) PFC.h ?_
 refine LtK.put rfl rfl rfl (Zh sc_89 rfl (Zgx _) hS hs9 trivial Y8) ?_
 refine LtK.put rfl rfl rfl (Zh sc_89 rfl (Zgx _) hS hs9 trivial Y8) ?_
 refine LtK.put rfl rfl rfl (Zbj rfl (Rd.el (hS.row_rd hs3) Z9 hi88b)) ?_
 refine LtK.put rfl rfl rfl (Xn Zw rfl (Zgx _) (Rd.el (hS.row_rd hs3) Z9 hi88b) rfl) ?_
 refine LtK.put rfl rfl rfl (Zh sc_89 rfl (Zgx _) hS Zex trivial Y8) ?_
 refine LtK.put rfl rfl rfl (Zbj rfl (Rd.el (hS.row_rd hs4) Z9 hi105b)) ?_
 refine LtK.put rfl rfl rfl (Xn Zw rfl (Zgx _) (Rd.el (hS.row_rd hs4) Z9 hi105b) rfl) ?_
 refine LtK.put rfl rfl rfl (Xc rfl rfl) ?_
 refine LtK.put rfl rfl rfl (Ze0 rfl rfl) ?_
 refine LtK.put rfl rfl rfl (Zbj rfl (Rd.el (hS.row_rd hs3) Z9 hi88b)) ?_
 refine LtK.nil ?_
 refine Yu [false, false, false, false, false, false, false, false, false, false, true] 10 ⟨by decide, by kernel_rfl, by kernel_rfl⟩ rfl rfl ?_
 try dsimp only [Zy]
 refine Zf5 (a' := (max e86 (IntKind.wrap .i64 ((max e89 (min x1.last r103)) + 1)))) (zs := (Zeb r59.next (IntKind.wrap .i64 (x1.frm - 1)) (max e86 (IntKind.wrap .i64 ((max e89 (min x1.last r103)) + 1))))) Z9 rfl rfl rfl CellsOf.int hS ps3 (Rd.el (hS.row_rd hs3) Z9 hi88b) hi88a hi88b rfl st0_1 (by kernel_rfl) rfl (fun w hS hB => ?_)
 have hi106b := setI_at (a := (max e86 (IntKind.wrap .i64 ((max e89 (min x1.last r103)) + 1)))) hi88a hi88b
 have hi106a := hi88a
 refine Zg ?_
 refine Yk (hB.sub (fun b _ h => by have h0 : b = b6 ∨ b = b4 ∨ b = b2 ∨ b = b92 ∨ b = b95 := (by simpa using h); rcases h0 with h0 | h0 | h0 | h0 | h0; (rw [h0]; exact hS.neRow 6 3 rfl rfl); (rw [h0]; exact hS.neRow 7 3 rfl rfl); (rw [h0]; exact hS.neRow 8 3 rfl rfl); (rw [h0]; exact hS.neRow 9 3 rfl rfl); (rw [h0]; exact hS.neRow 10 3 rfl rfl))) ?_
 refine Z4 (by kernel_rfl) ?_
 refine Zcs rfl RV.nil rfl ?_
 refine ⟨_, rfl, ?_⟩
 refine Zg ?_
 refine Zb hK101 ?_
 refine Ze (fun K hK107 => ?_)
 refine Zf ?_
 refine Za rfl rfl rfl (Zj Ye rfl (Zgw _) hS hs8 trivial Z3) ?_
 refine Zm rfl rfl rfl CellsOf.agg hS ps6 Yz (by kernel_rfl) rfl (fun w hS hB => ?_)
 refine Zg ?_
 refine Zb hK107 ?_
 refine Zk ?_
 refine Zl rfl (RV.cell rfl (Z0 Ye hS hs6 Z3) RV.nil) rfl ?_
 obtain rfl := QJ H
 have hS := hS.front 5 rfl
 have hS := hS.front 5 rfl
 have hS := hS.front 5 rfl
 have hS := hS.front 5 rfl
 have hS := hS.front 5 rfl
 replace hS := hS.cut 5
 exact ⟨A61, c62, A65, c66, A69, c70, A73, c74, A77, c78, by (repeat rw [(Zb4 rfl)]); rfl, k63, k67, (k_set k71), (k_set k75), k79, hS.eqv (by (repeat rw [(Zb4 rfl)]); rfl)⟩
theorem c_repl_Beat (x0 : Co) (A0_ : OA) (c0_ : Nat) (A1_ : OA) (c1_ : Nat) (A2_ : OA) (c2_ : Nat) (A3_ : OA) (c3_ : Nat) (A4_ : OA) (c4_ : Nat) (w0 : World) (s0_ : SlI w0 Jj A0_ c0_ x0.tuple.log) (s1_ : SlI w0 enO A1_ c1_ x0.votes) (s2_ : SlI w0 V1 A2_ c2_ x0.next) (s3_ : SlI w0 V1 A3_ c3_ x0.mtch) (s4_ : SlI w0 V1 A4_ c4_ x0.caps) {r : List Ms} (H : m_repl_Beat x0 = some r) : Calls Tryz.prog 32 #[.agg #[.int .i64 x0.id, .int .i64 x0.n, .int .u8 x0.role, .int .i64 x0.binary, .int .i64 x0.tuple.snap.index, .int .i64 x0.tuple.snap.term, .int .i64 x0.tuple.snap.sum, .int .i64 x0.tuple.snap.level, .bool x0.tuple.snap.final, .slice A0_ x0.tuple.log.length c0_, .int .i64 x0.tuple.term, .int .i64 x0.tuple.vote, .int .i64 x0.commit, .int .i64 x0.applied.index, .int .i64 x0.applied.term, .int .i64 x0.applied.sum, .int .i64 x0.applied.level, .bool x0.applied.final, .slice A1_ x0.votes.length c1_, .slice A2_ x0.next.length c2_, .slice A3_ x0.mtch.length c3_, .slice A4_ x0.caps.length c4_]] w0 fun e w' => ∃ (A0 : OA) (c0 : Nat) (q0 : List Mq), e = .returned (.slice A0 r.length c0) ∧ (r.length ≤ c0 ∧ c0 ≤ maxLen) ∧ q0.map Mq.m = r ∧ (∀ y ∈ q0, okQ y) ∧ St0 All w0 w' [.rd A0 (Yl enQ q0), .rds (q0.map subQ)] := by
 unfold m_repl_Beat at H
 refine Yo Tryz.func32 rfl Tryz.ntmps32 rfl ?_
 have hS := St0.start All w0
 refine Ze (fun K hK1 => ?_)
 refine Zf ?_
 refine Yd rfl rfl rfl CellsOf.agg hS (fun b2 w hS hB => ?_)
 refine Zc 1 rfl ?_
 refine Zg ?_
 refine Zb hK1 ?_
 refine Ze (fun K hK4 => ?_)
 refine Ze (fun K hK5 => ?_)
 refine Zf ?_
 refine Za rfl rfl rfl (Zd Ja rfl) ?_
 refine Za rfl rfl rfl (Zh Zw rfl (Zgw _) hS hs0 trivial Vp) ?_
 refine Za rfl rfl rfl (Ze0 rfl rfl) ?_
 refine Za rfl rfl rfl (Ze3 rfl rfl) ?_
 refine Zc 1 rfl ?_
 refine Zg ?_
 refine Zb hK5 ?_
 refine Yf ?_
 replace hS := hS.nilRds
 replace hS := hS.nilRow 32 15
 refine Vz (X := Nat × List Ms × OA × Nat × List Mq × Int) (fun x => (1, .pointer (some ⟨b2, 0, none⟩)) :: (2, .slice x.2.2.1 x.2.1.length x.2.2.2.1) :: (9, .int .i64 (min (max x0.n 0) 5)) :: (10, .int .i64 x.2.2.2.2.2) :: []) (fun x w => St0 All w0 w (.row (.slice x.2.2.1 x.2.1.length x.2.2.2.1) 32 15 x.2.1.length (Yl enQ x.2.2.2.2.1) :: .rds (x.2.2.2.2.1.map subQ) :: .box b2 [.int .i64 x0.id, .int .i64 x0.n, .int .u8 x0.role, .int .i64 x0.binary, .int .i64 x0.tuple.snap.index, .int .i64 x0.tuple.snap.term, .int .i64 x0.tuple.snap.sum, .int .i64 x0.tuple.snap.level, .bool x0.tuple.snap.final, .slice A0_ x0.tuple.log.length c0_, .int .i64 x0.tuple.term, .int .i64 x0.tuple.vote, .int .i64 x0.commit, .int .i64 x0.applied.index, .int .i64 x0.applied.term, .int .i64 x0.applied.sum, .int .i64 x0.applied.level, .bool x0.applied.final, .slice A1_ x0.votes.length c1_, .slice A2_ x0.next.length c2_, .slice A3_ x0.mtch.length c3_, .slice A4_ x0.caps.length c4_] 30 :: []) ∧ (x.2.1.length ≤ x.2.2.2.1 ∧ x.2.2.2.1 ≤ maxLen) ∧ (x.2.2.2.2.1.map Mq.m = x.2.1) ∧ (∀ y ∈ x.2.2.2.2.1, okQ y) ∧ Zcc x0 x.1 x.2.1 x.2.2.2.2.2 = some r) (fun x => x.1) (Xo, [], none, 0, ([] : List Mq), 0) (by repeat (first | exact Sub.nil | refine Sub.cons rfl ?_)) ⟨hS, ⟨Nat.le_refl _, Nat.zero_le _⟩, rfl, Vj, H⟩ ?_
 rintro ⟨n, v6, A7, c8, q10, v15⟩ w ⟨hS, k9, hq11, okq12, H⟩
 dsimp only at hS k9 hq11 okq12 H ⊢
 obtain _ | n := n
 ·have H0 : none = some r := H
  cases H0
 rw [Zcc] at H
 refine Ze (fun K hK16 => ?_)
 refine Zf ?_
 refine Za rfl rfl rfl (Xe rfl rfl) ?_
 refine Zg ?_
 refine Zb hK16 ?_
 refine Ze (fun K hK17 => ?_)
 refine Zz rfl (fun hb => ?_) (fun hb => ?_)
 rotate_left
 ·replace H := Zo H hb
  refine Vl ?_
  refine Yb ?_
  refine Yb ?_
  refine Y6 ?_
  refine Zb hK4 ?_
  refine Ze (fun K hK39 => ?_)
  refine Zf ?_
  refine Zc 2 rfl ?_
  refine Zg ?_
  refine Zb hK39 ?_
  refine Zk ?_
  refine Zl rfl (RV.tmp rfl RV.nil) rfl ?_
  obtain rfl := QJ H
  have hS := hS.front 1 rfl
  replace hS := hS.front 1 rfl
  replace hS := hS.weak Weak.rowRd
  replace hS := hS.cut 2
  exact ⟨A7, c8, q10, rfl, k9, hq11, okq12, hS⟩
 replace H := Zp H hb
 refine Zr ?_
 refine Zb hK17 ?_
 refine Ze (fun K hK18 => ?_)
 refine Yf ?_
 refine Ze (fun K hK19 => ?_)
 refine Zf ?_
 refine Zc 2 rfl ?_
 refine Zg ?_
 refine Zb hK19 ?_
 refine Ze (fun K hK20 => ?_)
 refine Zf ?_
 refine Za rfl rfl rfl (Zj Ye rfl (Zgw _) hS Vf trivial Z3) ?_
 refine Zc 1 rfl ?_
 refine Za rfl rfl rfl (Xc rfl rfl) ?_
 obtain ⟨r21, hm22, H⟩ := bind_some H
 refine Zq rfl rfl rfl rfl (by kernel_rfl) rfl (Zfq x0 (IntKind.wrap .i64 (v15 + 1)) A0_ c0_ A1_ c1_ A2_ c2_ A3_ c3_ A4_ c4_ _ (Zgz s0_.k (hS.rd0 s0_.rd) (hS.blk0 s0_.blk)) (Zgz s1_.k (hS.rd0 s1_.rd) (hS.blk0 s1_.blk)) (Zgz s2_.k (hS.rd0 s2_.rd) (hS.blk0 s2_.blk)) (Zgz s3_.k (hS.rd0 s3_.rd) (hS.blk0 s3_.blk)) (Zgz s4_.k (hS.rd0 s4_.rd) (hS.blk0 s4_.blk)) hm22) ?_
 rintro e w ⟨A23, c24, rfl, k25, hN⟩; refine ⟨_, rfl, ?_⟩; obtain ⟨hB, hS⟩ := hS.jn hN
 refine Zc 1 rfl ?_
 refine Za rfl rfl rfl (Z7 rfl rfl) ?_
 refine Za rfl rfl rfl (Z7 rfl rfl) ?_
 refine Yh rfl rfl Zai hS (fun b27 w hS hB => ?_)
 refine Zm rfl rfl rfl CellsOf.agg hS ps0 Ze5 (by kernel_rfl) rfl (fun w hS hB => ?_)
 refine Zc 1 rfl ?_
 refine Zg ?_
 refine Zb hK20 ?_
 refine Ze (fun K hK29 => ?_)
 refine Zf ?_
 refine Zc 1 rfl ?_
 refine Zg ?_
 refine Zb hK29 ?_
 refine Zz rfl (fun hb => ?_) (fun hb => ?_)
 rotate_left
 ·replace H := Zo H hb
  refine Zr ?_
  refine Z1 ?_
  refine Zb hK18 ?_
  refine Zf ?_
  refine Za rfl rfl rfl (Xc rfl rfl) ?_
  refine Zc 1 rfl ?_
  refine Zg ?_
  exact X3 (n, v6, A7, c8, q10, (IntKind.wrap .i64 (v15 + 1))) (by repeat (first | exact Sub.nil | refine Sub.cons rfl ?_)) ⟨(hS.sub (List.Sublist.cons _ (List.Sublist.cons _ (List.Sublist.cons_cons _ (List.Sublist.cons_cons _ (List.Sublist.cons_cons _ List.Sublist.slnil)))))), k9, hq11, okq12, H⟩ (Nat.lt_succ_self _)
 replace H := Zp H hb
 refine Zf ?_
 refine Zc 1 rfl ?_
 refine Za rfl rfl rfl (Zj Vi rfl (Zgw _) hS hs0 trivial Xp) ?_
 refine Y0 (ps := [(0, .tmp 22)]) [.int .u8 r21.1.kind, .int .i64 r21.1.frm, .int .i64 r21.1.dst, .int .i64 r21.1.term, .int .i64 r21.1.cap, .int .i64 r21.1.last, .int .i64 r21.1.lastTerm, .int .i64 r21.1.commit, .bool r21.1.okk, .slice A23 r21.1.entries.length c24, .int .i64 r21.1.snap.index, .int .i64 r21.1.snap.term, .int .i64 r21.1.snap.sum, .int .i64 r21.1.snap.level, .bool r21.1.snap.final] V0 Zai rfl rfl rfl rfl rfl (by kernel_rfl) hS (fun b30 w hS hB => ?_)
 obtain ⟨l32, hf33, H⟩ := bind_some H
 refine wpX_appendQ (l := v6) (q := q10) (y := ⟨r21.1, A23, c24⟩) em_35 (by decide) rfl rfl rfl rfl hS hq11 (fun _ => ps3) (hS.box_rd hs0) hf33 (fun A34 c35 w k36 hS hq37 hB => ?_)
 have okq38 := okq_snoc okq12 (show okQ ⟨r21.1, A23, c24⟩ from k25)
 replace hS := hS.front 4 rfl
 replace hS := hS.front 3 rfl
 replace hS := hS.weak Weak.rowRd
 replace hS := hS.absorbQ ⟨r21.1, A23, c24⟩
 replace hS := hS.front 3 rfl
 refine Zc 1 rfl ?_
 refine Zg ?_
 refine Z1 ?_
 refine Zb hK18 ?_
 refine Zf ?_
 refine Za rfl rfl rfl (Xc rfl rfl) ?_
 refine Zc 1 rfl ?_
 refine Zg ?_
 exact X3 (n, l32, A34, c35, (q10 ++ [⟨r21.1, A23, c24⟩]), (IntKind.wrap .i64 (v15 + 1))) (by repeat (first | exact Sub.nil | refine Sub.cons rfl ?_)) ⟨(hS.sub (List.Sublist.cons_cons _ (List.Sublist.cons_cons _ (List.Sublist.cons _ (List.Sublist.cons _ (List.Sublist.cons_cons _ List.Sublist.slnil)))))), k36, hq37, okq38, H⟩ (Nat.lt_succ_self _)
theorem Vc (w0 : World) {r : Bool} (H : Xv = some r) : Calls Tryz.prog 26 #[] w0 fun e w' => e = .returned (.bool r) ∧ St0 All w0 w' [] := by
 unfold Xv at H
 refine gw_enter0 Tryz.func26 rfl Tryz.ntmps26 rfl ?_
 have hS := St0.start All w0
 refine Ze (fun K hK1 => ?_)
 refine Zf ?_
 refine Zc 1 rfl ?_
 refine Zg ?_
 refine Zb hK1 ?_
 refine Ze (fun K hK2 => ?_)
 refine Zf ?_
 refine Za rfl rfl rfl (X1 (cells := [.int .i64 0, .int .i64 0, .int .i64 0, .int .i64 1, .bool false]) rfl (by kernel_rfl)) ?_
 refine Za rfl rfl rfl (X1 (cells := [.int .i64 1, .int .i64 0, .int .i64 0]) rfl (by kernel_rfl)) ?_
 refine Y0 (ps := [(0, .tmp 11)]) [.int .i64 1, .int .i64 0, .int .i64 0] Y4 Zcr rfl rfl rfl rfl rfl (by kernel_rfl) hS (fun b3 w hS hB => ?_)
 refine Za rfl rfl rfl (X1 (cells := [.int .i64 0, .int .i64 0, .int .i64 0, .int .i64 1, .bool false, .slice (some ⟨b3, 0, none⟩) ([(⟨1, 0, 0⟩ : En)] : List En).length 1, .int .i64 1, .int .i64 1]) rfl (by kernel_rfl)) ?_
 refine Yh rfl rfl zc_26 hS (fun b5 w hS hB => ?_)
 refine Zm rfl rfl rfl CellsOf.agg hS ps0 st0_8 (by kernel_rfl) rfl (fun w hS hB => ?_)
 refine Zg ?_
 refine Zb hK2 ?_
 refine Ze (fun K hK7 => ?_)
 refine Zf ?_
 refine Za rfl rfl rfl (Zj Y7 rfl (Zgw _) hS hs0 trivial Zbr) ?_
 obtain ⟨r8, hm9, H⟩ := bind_some H
 refine Zq rfl rfl rfl rfl (by kernel_rfl) rfl (c_ref20_New 1 3 2 (⟨(⟨0, 0, 0, 1, false⟩ : St), ([(⟨1, 0, 0⟩ : En)] : List En), 1, 1⟩ : Tu) (some ⟨b3, 0, none⟩) 1 _ (Zgz ⟨Nat.le_refl 1, by decide⟩ (hS.box_rd Xw) (hS.box_blk Xw)) hm9) ?_
 rintro e w ⟨A10, c11, A14, c15, A18, c19, A22, c23, A26, c27, rfl, k12, k16, k20, k24, k28, hN⟩; refine ⟨_, rfl, ?_⟩; obtain ⟨hB, hS⟩ := hS.jn hN
 refine Yh rfl rfl Zd5 hS (fun b30 w hS hB => ?_)
 refine Zm rfl rfl rfl CellsOf.agg hS ps0 Yz (by kernel_rfl) rfl (fun w hS hB => ?_)
 refine Zg ?_
 refine Zb hK7 ?_
 refine Ze (fun K hK32 => ?_)
 refine Zf ?_
 refine Za rfl rfl rfl (Zj Ye rfl (Zgw _) hS hs0 trivial Z3) ?_
 obtain ⟨r33, hm34, H⟩ := bind_some H
 refine Zq rfl rfl rfl rfl (by kernel_rfl) rfl (Zfq r8 2 A10 c11 A14 c15 A18 c19 A22 c23 A26 c27 _ (Zgz k12 (hS.row_rd Xw) (hS.row_blk Xw)) (Zgz k16 (hS.row_rd Vf) (hS.row_blk Vf)) (Zgz k20 (hS.row_rd hs3) (hS.row_blk hs3)) (Zgz k24 (hS.row_rd hs4) (hS.row_blk hs4)) (Zgz k28 (hS.row_rd hs5) (hS.row_blk hs5)) hm34) ?_
 rintro e w ⟨A35, c36, rfl, k37, hN⟩; refine ⟨_, rfl, ?_⟩; obtain ⟨hB, hS⟩ := hS.jn hN
 refine Zc 1 rfl ?_
 refine Za rfl rfl rfl (Z7 rfl rfl) ?_
 refine Za rfl rfl rfl (Z7 rfl rfl) ?_
 refine Yh rfl rfl Zai hS (fun b39 w hS hB => ?_)
 refine Zm rfl rfl rfl CellsOf.agg hS ps0 Ze5 (by kernel_rfl) rfl (fun w hS hB => ?_)
 refine Zc 1 rfl ?_
 refine Zg ?_
 refine Zb hK32 ?_
 refine Ze (fun K hK41 => ?_)
 refine Zf ?_
 refine Za rfl rfl rfl (Zd Zb0 rfl) ?_
 refine Zm rfl rfl rfl CellsOf.int hS ps2 st2_1 (by kernel_rfl) rfl (fun w hS hB => ?_)
 refine Zg ?_
 refine Zb hK41 ?_
 refine Ze (fun K hK42 => ?_)
 refine Zf ?_
 refine Y0 (ps := [(0, .const (.int .i64 1)), (1, .const (.int .i64 1)), (2, .const (.int .i64 1))]) [.int .i64 1, .int .i64 1, .int .i64 1] Xl zc_3 rfl rfl rfl rfl rfl (by kernel_rfl) hS (fun b43 w hS hB => ?_)
 refine Za rfl rfl rfl (Zd Vo rfl) ?_
 refine Zm rfl rfl rfl CellsOf.slice hS ps3 st19_1 (by kernel_rfl) rfl (fun w hS hB => ?_)
 refine Zg ?_
 refine Zb hK42 ?_
 refine Ze (fun K hK45 => ?_)
 refine Zf ?_
 refine Za rfl rfl rfl (Zj Ye rfl (Zgw _) hS hs3 trivial Z3) ?_
 obtain ⟨r46, hm47, H⟩ := bind_some H
 refine Zq rfl rfl rfl rfl (by kernel_rfl) rfl (Zfq (⟨r8.id, r8.n, 2, r8.binary, r8.tuple, r8.commit, r8.applied, r8.votes, ([1, 1, 1] : List Int), r8.mtch, r8.caps⟩ : Co) 2 A10 c11 A14 c15 (some ⟨b43, 0, none⟩) 3 A22 c23 A26 c27 _ (Zgz k12 (hS.row_rd hs4) (hS.row_blk hs4)) (Zgz k16 (hS.row_rd hs5) (hS.row_blk hs5)) (Zgz ⟨Nat.le_refl 3, by decide⟩ (hS.box_rd hs0) (hS.box_blk hs0)) (Zgz k24 (hS.row_rd hs7) (hS.row_blk hs7)) (Zgz k28 (hS.row_rd hs8) (hS.row_blk hs8)) hm47) ?_
 rintro e w ⟨A48, c49, rfl, k50, hN⟩; refine ⟨_, rfl, ?_⟩; obtain ⟨hB, hS⟩ := hS.jn hN
 refine Zc 1 rfl ?_
 refine Za rfl rfl rfl (Z7 rfl rfl) ?_
 refine Za rfl rfl rfl (Z7 rfl rfl) ?_
 refine Yh rfl rfl Zai hS (fun b52 w hS hB => ?_)
 refine Zm rfl rfl rfl CellsOf.agg hS ps0 Ze5 (by kernel_rfl) rfl (fun w hS hB => ?_)
 refine Zc 1 rfl ?_
 refine Zg ?_
 refine Zb hK45 ?_
 refine Ze (fun K hK54 => ?_)
 refine Yi 10 [8] (fun i b => (i = 8 → b = b52 ∨ b = b43 ∨ b = b39 ∨ b = b30 ∨ b = b5 ∨ b = b3)) ⟨by kernel_rfl, by kernel_rfl⟩ hS (fun w hS hB => ?_)
 refine wpRF_start [⟨7, 7, 30, [.int .i64 0, .int .i64 0, .int .u8 0, .int .i64 0, .int .i64 0, .int .i64 0, .int .i64 0, .int .i64 0, .bool false, .slice none 0 0, .int .i64 0, .int .i64 0, .int .i64 0, .int .i64 0, .int .i64 0, .int .i64 0, .int .i64 0, .bool false, .slice none 0 0, .slice none 0 0, .slice none 0 0, .slice none 0 0]⟩] (.cons rfl Zd5 rfl rfl rfl .nil) hS (fun hok => ?_)
 dsimp only [List.cons_append, List.nil_append]
 refine Zb9 [false, false, true] [] (fun _ => True) (by decide +kernel) (fun _ h => by cases h) PFC.h (fun X Y tk ht w hS => ?_)
 refine LtK.put rfl rfl rfl (Zj Vi rfl (Zgy _ _) hS hs0 trivial Xp) ?_
 refine LtK_F' ht hS (by repeat (first | exact App.nil | apply App.cons)) (by repeat (first | exact App.nil | apply App.cons)) ?_
 dsimp only [List.cons_append, List.nil_append]
 refine Zgv [true] 0 hok ⟨by decide, by decide +kernel, by decide, by decide⟩ rfl rfl (fun _ => rfl) (fun _ => rfl) rfl (hend_of (by decide +kernel)) (fun X Y tk ht w hS => ?_)
 try dsimp only [Zy]
 obtain ⟨r55, hm56, H⟩ := bind_some H
 refine Zq rfl rfl rfl rfl (by kernel_rfl) rfl (c_ref12_First _ hm56) ?_
 rintro e w ⟨A57, c58, rfl, k59, hN⟩; refine ⟨_, rfl, ?_⟩; obtain ⟨hB, hS⟩ := hS.jn hN
 refine Zg ?_
 refine Zgp ht hS hB (by repeat (first | exact App.nil | apply App.cons)) (by repeat (first | exact App.nil | apply App.cons)) ?_
 dsimp only [List.cons_append, List.nil_append]
 refine Zgv [false, true] 1 hok ⟨by decide, by decide +kernel, by decide, by decide⟩ rfl rfl (fun _ => rfl) (fun _ => rfl) rfl (hend_of (by decide +kernel)) (fun X Y tk ht w hS => ?_)
 try dsimp only [Zy]
 obtain ⟨r61, hm62, H⟩ := bind_some H
 refine Zq rfl rfl rfl rfl (by kernel_rfl) rfl (c_ref20_New 2 3 1 r55 A57 c58 _ (Zgz k59 (hS.rd hs0) (hS.rd_blk hs0)) hm62) ?_
 rintro e w ⟨A63, c64, A67, c68, A71, c72, A75, c76, A79, c80, rfl, k65, k69, k73, k77, k81, hN⟩; refine ⟨_, rfl, ?_⟩; obtain ⟨hB, hS⟩ := hS.jn hN
 refine Zg ?_
 refine Zgp ht hS hB (by repeat (first | exact App.nil | apply App.cons)) (by repeat (first | exact App.nil | apply App.cons)) ?_
 dsimp only [List.cons_append, List.nil_append]
 refine Zgv [false, false, false, true] 3 hok ⟨by decide, by decide +kernel, by decide, by decide⟩ rfl rfl (fun _ => rfl) (fun _ => rfl) rfl (hend_of (by decide +kernel)) (fun X Y tk ht w hS => ?_)
 try dsimp only [Zy]
 obtain ⟨r83, hm84, H⟩ := bind_some H
 refine Zq rfl rfl rfl rfl (by kernel_rfl) rfl (Zgg r61 r46.1 A63 c64 A67 c68 A71 c72 A75 c76 A79 c80 A48 c49 _ (Zgz k65 (hS.row_rd hs0) (hS.row_blk hs0)) (Zgz k69 (hS.row_rd Xw) (hS.row_blk Xw)) (Zgz k73 (hS.row_rd Vf) (hS.row_blk Vf)) (Zgz k77 (hS.row_rd hs3) (hS.row_blk hs3)) (Zgz k81 (hS.row_rd hs4) (hS.row_blk hs4)) (Zgz k50 (hS.row_rd hs7) (hS.row_blk hs7)) hm84) ?_
 rintro e w ⟨A85, c86, A89, c90, A93, c94, A97, c98, A101, c102, A105, c106, q109, rfl, k87, k91, k95, k99, k103, k107, hq110, okq111, hN⟩; refine ⟨_, rfl, ?_⟩; obtain ⟨hB, hS⟩ := hS.jn hN
 refine Zg ?_
 refine Zgp ht hS hB (by repeat (first | exact App.nil | apply App.cons)) (by repeat (first | exact App.nil | apply App.cons)) ?_
 dsimp only [List.cons_append, List.nil_append]
 refine Zb9 [false, false, false, false, true, true] [] (fun _ => True) (by decide +kernel) (fun _ h => by cases h) PFC.h (fun X Y tk ht w hS => ?_)
 refine LtK.put rfl rfl rfl (Zu rfl) ?_
 refine LtK.put rfl rfl rfl (Z7 rfl rfl) ?_
 refine LtK_F' ht hS (by repeat (first | exact App.nil | apply App.cons)) (by repeat (first | exact App.nil | apply App.cons)) ?_
 dsimp only [List.cons_append, List.nil_append]
 refine Zb9 [false, false, false, false, false, false, true] [8] (fun b => (b = b52 ∨ b = b43 ∨ b = b39 ∨ b = b30 ∨ b = b5 ∨ b = b3)) (by decide +kernel) (by intro j hj b hb; simp only [List.mem_cons, List.not_mem_nil, or_false] at hj; (try rcases hj with rfl | rfl | rfl | rfl | rfl) <;> first | (simp [hb]; done) | simp_all) PFC.h (fun X Y tk ht w hS => ?_)
 refine LtK.put rfl rfl rfl (Z7 rfl rfl) ?_
 refine LtK_F' ht hS (by repeat (first | exact App.nil | apply App.cons)) (by repeat (first | exact App.nil | apply App.cons)) ?_
 dsimp only [List.cons_append, List.nil_append]
 refine wpRF_done hok (by decide) (by decide +kernel) (fun _ => rfl) (fun _ => rfl) rfl (fun tk htk w hS => ?_)
 obtain ⟨b113, tkb113, rfl, htk115⟩ := tk_cons htk
 obtain rfl := tk_nil htk115
 dsimp only [tkH, tkL, List.map] at hS ⊢
 refine Yu [false, false, false, false, false, false, false, false, true] 8 ⟨by decide, by kernel_rfl, by kernel_rfl⟩ rfl rfl ?_
 try dsimp only [Zy]
 refine Zm rfl rfl rfl CellsOf.agg hS ps26 Yz (by kernel_rfl) rfl (fun w hS hB => ?_)
 refine Zg ?_
 refine Yk (hB.sub (fun b _ h => by have h0 : b = b52 ∨ b = b43 ∨ b = b39 ∨ b = b30 ∨ b = b5 ∨ b = b3 := (by simpa using h); rcases h0 with h0 | h0 | h0 | h0 | h0 | h0; (rw [h0]; exact hS.ne 13 26 rfl rfl rfl); (rw [h0]; exact hS.ne 15 26 rfl rfl rfl); (rw [h0]; exact hS.ne 16 26 rfl rfl rfl); (rw [h0]; exact hS.ne 18 26 rfl rfl rfl); (rw [h0]; exact hS.ne 24 26 rfl rfl rfl); (rw [h0]; exact hS.ne 25 26 rfl rfl rfl))) ?_
 refine Zn [false, false, false, false, false, false, false, false, false, true] (by decide +kernel) PFC.h ?_
 refine LtK.put rfl rfl rfl (Zx rfl) ?_
 refine LtK.nil ?_
 refine Z4 (by kernel_rfl) ?_
 refine Zb hK54 ?_
 refine Ze (fun K hK116 => ?_)
 refine Ze (fun K hK117 => ?_)
 refine Zf ?_
 refine Zc 1 rfl ?_
 refine Za rfl rfl rfl (Yw V0 rfl) ?_
 refine Za rfl rfl rfl (Xh rfl rfl) ?_
 refine Zg ?_
 refine Zb hK117 ?_
 refine Zz rfl (fun hb => ?_) (fun hb => ?_)
 ·replace H := Zp H hb
  refine Ze (fun K hK118 => ?_)
  refine Zf ?_
  refine Zc 1 rfl ?_
  refine Zg ?_
  refine Zb hK118 ?_
  refine Zk ?_
  refine Zi ?_
  refine Zl rfl (RV.tmp rfl RV.nil) rfl ?_
  obtain rfl := QJ H
  replace hS := hS.cut 0
  exact ⟨rfl, hS⟩
 replace H := Zo H hb
 refine Zr ?_
 refine Zb hK116 ?_
 refine Ze (fun K hK119 => ?_)
 refine Yi 7 [6] (fun i b => (i = 6 → b = b52 ∨ b = b43 ∨ b = b39 ∨ b = b30 ∨ b = b5 ∨ b = b3 ∨ b = b113)) ⟨by kernel_rfl, by kernel_rfl⟩ hS (fun w hS hB => ?_)
 refine wpRF_start [⟨5, 9, 30, [.int .i64 0, .int .i64 0, .int .u8 0, .int .i64 0, .int .i64 0, .int .i64 0, .int .i64 0, .int .i64 0, .bool false, .slice none 0 0, .int .i64 0, .int .i64 0, .int .i64 0, .int .i64 0, .int .i64 0, .int .i64 0, .int .i64 0, .bool false, .slice none 0 0, .slice none 0 0, .slice none 0 0, .slice none 0 0]⟩] (.cons rfl Zd5 rfl rfl rfl .nil) hS (fun hok => ?_)
 dsimp only [List.cons_append, List.nil_append]
 refine Zb9 [true, true, true, true] [] (fun _ => True) (by decide +kernel) (fun _ h => by cases h) PFC.h (fun X Y tk ht w hS => ?_)
 refine LtK.put rfl rfl rfl (Zj Ye rfl (Zgy _ _) hS hs18 trivial Z3) ?_
 refine LtK.put rfl rfl rfl (Zu rfl) ?_
 obtain ⟨e120, hi122, H⟩ := bind_some H
 obtain ⟨j121, A123, c124, hi122a, hi122b, hi122c⟩ := idxQ (q := q109) hq110 hi122
 refine LtK.put rfl rfl rfl (Y1 V0 rfl rfl hi122a hi122c (Rd.el (hS.rd hs5) Jb hi122b)) ?_
 refine LtK.put rfl rfl rfl (Zc8 Vi rfl (Zgy _ _) (Rd.el (hS.rd hs5) Jb hi122b) Xp) ?_
 refine LtK_F' ht hS (by repeat (first | exact App.nil | apply App.cons)) (by repeat (first | exact App.nil | apply App.cons)) ?_
 dsimp only [List.cons_append, List.nil_append]
 refine Zgv [false, false, false, false, true] 4 hok ⟨by decide, by decide +kernel, by decide, by decide⟩ rfl rfl (fun _ => rfl) (fun _ => rfl) rfl (hend_of (by decide +kernel)) (fun X Y tk ht w hS => ?_)
 try dsimp only [Zy]
 obtain ⟨r125, hm126, H⟩ := bind_some H
 refine Zq rfl rfl rfl rfl (by kernel_rfl) rfl (c_repl_Told (⟨r8.id, r8.n, 2, r8.binary, r8.tuple, r8.commit, r8.applied, r8.votes, ([1, 1, 1] : List Int), r8.mtch, r8.caps⟩ : Co) e120 A10 c11 A14 c15 (some ⟨b43, 0, none⟩) 3 A22 c23 A26 c27 A123 c124 _ (Zgz k12 (hS.row_rd hs19) (hS.row_blk hs19)) (Zgz k16 (hS.row_rd hs20) (hS.row_blk hs20)) (Zgz ⟨Nat.le_refl 3, by decide⟩ (hS.box_rd Zev) (hS.box_blk Zev)) (Zgz k24 (hS.row_rd hs22) (hS.row_blk hs22)) (Zgz k28 (hS.row_rd hs23) (hS.row_blk hs23)) (Zgz (okq111 _ (List.mem_of_getElem? hi122b)) (hS.rds_rd hs6 hi122b) (hS.rds_blk hs6 hi122b)) hm126) ?_
 rintro e w ⟨A127, c128, A131, c132, A135, c136, A139, c140, A143, c144, rfl, k129, k133, k137, k141, k145, hN⟩; refine ⟨_, rfl, ?_⟩; obtain ⟨hB, hS⟩ := hS.jn hN
 refine Zg ?_
 refine Zgp ht hS hB (by repeat (first | exact App.nil | apply App.cons)) (by repeat (first | exact App.nil | apply App.cons)) ?_
 dsimp only [List.cons_append, List.nil_append]
 refine wpRF_done hok (by decide) (by decide +kernel) (fun _ => rfl) (fun _ => rfl) rfl (fun tk htk w hS => ?_)
 obtain ⟨b147, tkb147, rfl, htk149⟩ := tk_cons htk
 obtain rfl := tk_nil htk149
 dsimp only [tkH, tkL, List.map] at hS ⊢
 refine Yu [false, false, false, false, false, false, true] 6 ⟨by decide, by kernel_rfl, by kernel_rfl⟩ rfl rfl ?_
 try dsimp only [Zy]
 refine Zm rfl rfl rfl CellsOf.agg hS ps32 Yz (by kernel_rfl) rfl (fun w hS hB => ?_)
 refine Zg ?_
 refine Yk (hB.sub (fun b _ h => by have h0 : b = b52 ∨ b = b43 ∨ b = b39 ∨ b = b30 ∨ b = b5 ∨ b = b3 ∨ b = b113 := (by simpa using h); rcases h0 with h0 | h0 | h0 | h0 | h0 | h0 | h0; (rw [h0]; exact hS.ne 18 32 rfl rfl rfl); (rw [h0]; exact hS.ne 20 32 rfl rfl rfl); (rw [h0]; exact hS.ne 21 32 rfl rfl rfl); (rw [h0]; exact hS.ne 23 32 rfl rfl rfl); (rw [h0]; exact hS.ne 29 32 rfl rfl rfl); (rw [h0]; exact hS.ne 30 32 rfl rfl rfl); (rw [h0]; exact hS.ne 31 32 rfl rfl rfl))) ?_
 refine Z4 (by kernel_rfl) ?_
 refine Zb hK119 ?_
 refine Ze (fun K hK150 => ?_)
 refine Ze (fun K hK151 => ?_)
 refine Zf ?_
 refine Za rfl rfl rfl (Zd Vt rfl) ?_
 refine Za rfl rfl rfl (Zh Xt rfl (Zgw _) hS hs32 trivial Jz) ?_
 refine Za rfl rfl rfl (Yw Xl rfl) ?_
 refine Za rfl rfl rfl (Xh rfl rfl) ?_
 refine Zc 1 rfl ?_
 refine Zs 48 rfl (fun hb => ?_) (fun hb => ?_)
 ·replace H := Zp H hb
  refine Zc 5 rfl ?_
  refine Zg ?_
  refine Zb hK151 ?_
  refine Zt rfl rfl ?_
  refine Ze (fun K hK152 => ?_)
  refine Zf ?_
  refine Zc 1 rfl ?_
  refine Zg ?_
  refine Zb hK152 ?_
  refine Zk ?_
  refine Zi ?_
  refine Zl rfl (RV.tmp rfl RV.nil) rfl ?_
  obtain rfl := QJ H
  replace hS := hS.cut 0
  exact ⟨rfl, hS⟩
 replace H := Zo H hb
 refine Za rfl rfl rfl (Zd Vo rfl) ?_
 refine Za rfl rfl rfl (Zh Xt rfl (Zgw _) hS hs32 trivial Jr) ?_
 refine Za rfl rfl rfl (Yw Xl rfl) ?_
 refine Za rfl rfl rfl (Xh rfl rfl) ?_
 refine Zc 1 rfl ?_
 refine Zg ?_
 refine Zb hK151 ?_
 refine Zz rfl (fun hb => ?_) (fun hb => ?_)
 ·replace H := Zp H hb
  refine Ze (fun K hK153 => ?_)
  refine Zf ?_
  refine Zc 1 rfl ?_
  refine Zg ?_
  refine Zb hK153 ?_
  refine Zk ?_
  refine Zi ?_
  refine Zl rfl (RV.tmp rfl RV.nil) rfl ?_
  obtain rfl := QJ H
  replace hS := hS.cut 0
  exact ⟨rfl, hS⟩
 replace H := Zo H hb
 refine Zr ?_
 refine Zb hK150 ?_
 refine Ze (fun K hK154 => ?_)
 refine Zf ?_
 refine Zc 1 rfl ?_
 refine Za rfl rfl rfl (Yy rfl) ?_
 refine Zc 1 rfl ?_
 refine Zs 56 rfl (fun hb => ?_) (fun hb => ?_)
 rotate_left
 ·replace H := Zo H hb
  refine Zc 60 rfl ?_
  refine Zg ?_
  refine Zb hK154 ?_
  refine Zk ?_
  refine Zl rfl (RV.tmp rfl RV.nil) rfl ?_
  obtain rfl := QJ H
  replace hS := hS.cut 0
  exact ⟨rfl, hS⟩
 replace H := Zp H hb
 refine Zc 3 rfl ?_
 refine Zs 59 rfl (fun hb => ?_) (fun hb => ?_)
 rotate_left
 ·replace H := Zo H hb
  refine Zc 57 rfl ?_
  refine Zg ?_
  refine Zb hK154 ?_
  refine Zk ?_
  refine Zl rfl (RV.tmp rfl RV.nil) rfl ?_
  obtain rfl := QJ H
  replace hS := hS.cut 0
  exact ⟨rfl, hS⟩
 replace H := Zp H hb
 refine Za rfl rfl rfl (Zd X5 rfl) ?_
 refine Za rfl rfl rfl (Zh Xq rfl (Zgw _) hS hs18 trivial Jg) ?_
 refine Za rfl rfl rfl (Yw Y4 rfl) ?_
 refine Za rfl rfl rfl (Y5 rfl rfl) ?_
 refine Zc 2 rfl ?_
 refine Zs 65 rfl (fun hb => ?_) (fun hb => ?_)
 rotate_left
 ·replace H := Zo H hb
  refine Zc 51 rfl ?_
  refine Zg ?_
  refine Zb hK154 ?_
  refine Zk ?_
  refine Zl rfl (RV.tmp rfl RV.nil) rfl ?_
  obtain rfl := QJ H
  replace hS := hS.cut 0
  exact ⟨rfl, hS⟩
 replace H := Zp H hb
 refine Za rfl rfl rfl (Zd Vu rfl) ?_
 refine Za rfl rfl rfl (Zh Zw rfl (Zgw _) hS hs18 trivial V7) ?_
 refine Za rfl rfl rfl (Y5 rfl rfl) ?_
 refine Zc 2 rfl ?_
 refine Zs 70 rfl (fun hb => ?_) (fun hb => ?_)
 rotate_left
 ·replace H := Zo H hb
  refine Zc 46 rfl ?_
  refine Zg ?_
  refine Zb hK154 ?_
  refine Zk ?_
  refine Zl rfl (RV.tmp rfl RV.nil) rfl ?_
  obtain rfl := QJ H
  replace hS := hS.cut 0
  exact ⟨rfl, hS⟩
 replace H := Zp H hb
 refine Za rfl rfl rfl (Zd Yr rfl) ?_
 refine Za rfl rfl rfl (Zd X0 rfl) ?_
 refine Za rfl rfl rfl (Zh Xq rfl (Zgw _) hS hs31 trivial Jg) ?_
 refine Za rfl rfl rfl (Yw Y4 rfl) ?_
 refine Za rfl rfl rfl (Y5 rfl rfl) ?_
 refine Zc 2 rfl ?_
 refine Zs 77 rfl (fun hb => ?_) (fun hb => ?_)
 rotate_left
 ·replace H := Zo H hb
  refine Zc 39 rfl ?_
  refine Zg ?_
  refine Zb hK154 ?_
  refine Zk ?_
  refine Zl rfl (RV.tmp rfl RV.nil) rfl ?_
  obtain rfl := QJ H
  replace hS := hS.cut 0
  exact ⟨rfl, hS⟩
 replace H := Zp H hb
 refine Za rfl rfl rfl (Zd Yr rfl) ?_
 refine Za rfl rfl rfl (Zd Vr rfl) ?_
 refine Za rfl rfl rfl (Zh Zw rfl (Zgw _) hS hs31 trivial J7) ?_
 refine Za rfl rfl rfl (Y5 rfl rfl) ?_
 refine Zc 2 rfl ?_
 refine Zs 83 rfl (fun hb => ?_) (fun hb => ?_)
 rotate_left
 ·replace H := Zo H hb
  refine Zc 33 rfl ?_
  refine Zg ?_
  refine Zb hK154 ?_
  refine Zk ?_
  refine Zl rfl (RV.tmp rfl RV.nil) rfl ?_
  obtain rfl := QJ H
  replace hS := hS.cut 0
  exact ⟨rfl, hS⟩
 replace H := Zp H hb
 refine Zc 1 rfl ?_
 obtain ⟨e155, hi157, H⟩ := bind_some H
 obtain ⟨j156, A158, c159, hi157a, hi157b, hi157c⟩ := idxQ (q := q109) hq110 hi157
 refine Za rfl rfl rfl (Y1 V0 rfl rfl hi157a hi157c (Rd.el (hS.rd Zex) Jb hi157b)) ?_
 refine Za rfl rfl rfl (Vv Zel rfl (Rd.el (hS.rd Zex) Jb hi157b)) ?_
 refine Za rfl rfl rfl (yx_ld sc_4 rfl (Zgw _) (Rd.el (hS.rd Zex) Jb hi157b) rfl) ?_
 refine Zc 2 rfl ?_
 refine Zs 89 rfl (fun hb => ?_) (fun hb => ?_)
 rotate_left
 ·replace H := Zo H hb
  refine Zc 27 rfl ?_
  refine Zg ?_
  refine Zb hK154 ?_
  refine Zk ?_
  refine Zl rfl (RV.tmp rfl RV.nil) rfl ?_
  obtain rfl := QJ H
  replace hS := hS.cut 0
  exact ⟨rfl, hS⟩
 replace H := Zp H hb
 refine Zc 1 rfl ?_
 obtain ⟨e160, hi162, H⟩ := bind_some H
 obtain ⟨j161, A163, c164, hi162a, hi162b, hi162c⟩ := idxQ (q := q109) hq110 hi162
 refine Za rfl rfl rfl (Y1 V0 rfl rfl hi162a hi162c (Rd.el (hS.rd Zex) Jb hi162b)) ?_
 refine Za rfl rfl rfl (Vv Vu rfl (Rd.el (hS.rd Zex) Jb hi162b)) ?_
 refine Za rfl rfl rfl (yx_ld Zw rfl (Zgw _) (Rd.el (hS.rd Zex) Jb hi162b) rfl) ?_
 refine Za rfl rfl rfl (Y5 rfl rfl) ?_
 refine Zc 2 rfl ?_
 refine Zs 96 rfl (fun hb => ?_) (fun hb => ?_)
 rotate_left
 ·replace H := Zo H hb
  refine Zc 20 rfl ?_
  refine Zg ?_
  refine Zb hK154 ?_
  refine Zk ?_
  refine Zl rfl (RV.tmp rfl RV.nil) rfl ?_
  obtain rfl := QJ H
  replace hS := hS.cut 0
  exact ⟨rfl, hS⟩
 replace H := Zp H hb
 refine Za rfl rfl rfl (Zd Vt rfl) ?_
 refine Za rfl rfl rfl (Zh Xt rfl (Zgw _) hS hs32 trivial Jz) ?_
 obtain ⟨e165, hi167, H⟩ := bind_some H
 obtain ⟨j166, hi167a, hi167b, hi167c⟩ := Ym hi167
 refine Za rfl rfl rfl (Y1 Xl rfl rfl hi167a hi167c (Rd.el (hS.row_rd hs3) Z9 hi167b)) ?_
 refine Za rfl rfl rfl (Xn Zw rfl (Zgw _) (Rd.el (hS.row_rd hs3) Z9 hi167b) rfl) ?_
 refine Za rfl rfl rfl (Y5 rfl rfl) ?_
 refine Zc 2 rfl ?_
 refine Zs 103 rfl (fun hb => ?_) (fun hb => ?_)
 rotate_left
 ·replace H := Zo H hb
  refine Zc 13 rfl ?_
  refine Zg ?_
  refine Zb hK154 ?_
  refine Zk ?_
  refine Zl rfl (RV.tmp rfl RV.nil) rfl ?_
  obtain rfl := QJ H
  replace hS := hS.cut 0
  exact ⟨rfl, hS⟩
 replace H := Zp H hb
 refine Za rfl rfl rfl (Zd Vo rfl) ?_
 refine Za rfl rfl rfl (Zh Xt rfl (Zgw _) hS hs32 trivial Jr) ?_
 obtain ⟨e168, hi170, H⟩ := bind_some H
 obtain ⟨j169, hi170a, hi170b, hi170c⟩ := Ym hi170
 refine Za rfl rfl rfl (Y1 Xl rfl rfl hi170a hi170c (Rd.el (hS.row_rd Vf) Z9 hi170b)) ?_
 refine Za rfl rfl rfl (Xn Zw rfl (Zgw _) (Rd.el (hS.row_rd Vf) Z9 hi170b) rfl) ?_
 refine Za rfl rfl rfl (Y5 rfl rfl) ?_
 refine Zc 2 rfl ?_
 refine Zs 110 rfl (fun hb => ?_) (fun hb => ?_)
 rotate_left
 ·replace H := Zo H hb
  refine Zc 6 rfl ?_
  refine Zg ?_
  refine Zb hK154 ?_
  refine Zk ?_
  refine Zl rfl (RV.tmp rfl RV.nil) rfl ?_
  obtain rfl := QJ H
  replace hS := hS.cut 0
  exact ⟨rfl, hS⟩
 replace H := Zp H hb
 refine Za rfl rfl rfl (Zj Ye rfl (Zgw _) hS hs23 trivial Z3) ?_
 obtain ⟨r171, hm172, H⟩ := bind_some H
 refine Zq rfl rfl rfl rfl (by kernel_rfl) rfl (c_repl_Beat (⟨r8.id, r8.n, 2, r8.binary, r8.tuple, r8.commit, r8.applied, r8.votes, ([1, 1, 1] : List Int), r8.mtch, r8.caps⟩ : Co) A10 c11 A14 c15 (some ⟨b43, 0, none⟩) 3 A22 c23 A26 c27 _ (Zgz k12 (hS.row_rd hs24) (hS.row_blk hs24)) (Zgz k16 (hS.row_rd hs25) (hS.row_blk hs25)) (Zgz ⟨Nat.le_refl 3, by decide⟩ (hS.box_rd hs20) (hS.box_blk hs20)) (Zgz k24 (hS.row_rd hs27) (hS.row_blk hs27)) (Zgz k28 (hS.row_rd hs28) (hS.row_blk hs28)) hm172) ?_
 rintro e w ⟨A173, c174, q177, rfl, k175, hq178, okq179, hN⟩; refine ⟨_, rfl, ?_⟩; obtain ⟨hB, hS⟩ := hS.jn hN
 refine Za rfl rfl rfl (Yw V0 rfl) ?_
 refine Za rfl rfl rfl (Y5 rfl rfl) ?_
 refine Zc 2 rfl ?_
 refine Zg ?_
 refine Zb hK154 ?_
 refine Zk ?_
 refine Zl rfl (RV.tmp rfl RV.nil) rfl ?_
 obtain rfl := QJ H
 replace hS := hS.cut 0
 exact ⟨rfl, hS⟩
theorem c_law23_entryAt (x0 : Tu) (x1 : Int) (A0_ : OA) (c0_ : Nat) (w0 : World) (s0_ : SlI w0 Jj A0_ c0_ x0.log) {r : En × Bool} (H : Ji x0 x1 = some r) : Calls Tryz.prog 41 #[.agg #[.int .i64 x0.snap.index, .int .i64 x0.snap.term, .int .i64 x0.snap.sum, .int .i64 x0.snap.level, .bool x0.snap.final, .slice A0_ x0.log.length c0_, .int .i64 x0.term, .int .i64 x0.vote], .int .i64 x1] w0 fun e w' => e = .returned (.tuple #[.agg #[.int .i64 r.1.term, .int .i64 r.1.kind, .int .i64 r.1.value], .bool r.2]) ∧ St0 All w0 w' [] := by
 unfold Ji at H
 refine Yt Tryz.func41 rfl Tryz.ntmps41 rfl ?_
 have hS := St0.start All w0
 refine Ze (fun K hK1 => ?_)
 refine Zf ?_
 refine Yd rfl rfl rfl CellsOf.agg hS (fun b2 w hS hB => ?_)
 refine Yh rfl rfl Zcr hS (fun b4 w hS hB => ?_)
 refine Zc 1 rfl ?_
 refine Zg ?_
 refine Zb hK1 ?_
 refine Ze (fun K hK6 => ?_)
 refine Ze (fun K hK7 => ?_)
 refine Zf ?_
 refine Za rfl rfl rfl (Zd X0 rfl) ?_
 refine Za rfl rfl rfl (Zh Xq rfl (Zgw _) hS Xw trivial V7) ?_
 refine Za rfl rfl rfl (Yw Y4 rfl) ?_
 refine Za rfl rfl rfl (Y5 rfl rfl) ?_
 refine Zg ?_
 refine Zb hK7 ?_
 refine Zz rfl (fun hb => ?_) (fun hb => ?_)
 ·replace H := Zp H hb
  refine Ze (fun K hK8 => ?_)
  refine Zf ?_
  refine Za rfl rfl rfl (X1 (cells := [.int .i64 0, .int .i64 0, .int .i64 0]) rfl (by kernel_rfl)) ?_
  refine Zm rfl rfl rfl CellsOf.agg hS ps0 Zf8 (by kernel_rfl) rfl (fun w hS hB => ?_)
  refine Zc 1 rfl ?_
  refine Zg ?_
  refine Zb hK8 ?_
  refine Zk ?_
  refine Zi ?_
  refine Zl rfl (RV.cell rfl (Z0 V8 hS hs0 Zb8) (RV.tmp rfl RV.nil)) rfl ?_
  obtain rfl := QJ H
  replace hS := hS.cut 0
  exact ⟨rfl, hS⟩
 replace H := Zo H hb
 refine Zr ?_
 refine Zb hK6 ?_
 refine Ze (fun K hK9 => ?_)
 refine Zf ?_
 refine Za rfl rfl rfl (Zj Y7 rfl (Zgw _) hS Xw trivial Zbr) ?_
 refine Zc 1 rfl ?_
 obtain ⟨r10, hm11, H⟩ := bind_some H
 refine Zq rfl rfl rfl rfl (by kernel_rfl) rfl (c_ref12_At x0 x1 A0_ c0_ _ (Zgz s0_.k (hS.rd0 s0_.rd) (hS.blk0 s0_.blk)) hm11) ?_
 rintro e w ⟨rfl, hN⟩; refine ⟨_, rfl, ?_⟩; obtain ⟨hB, hS⟩ := hS.jn hN
 refine Za rfl rfl rfl (Z7 rfl rfl) ?_
 refine Za rfl rfl rfl (Z7 rfl rfl) ?_
 refine Zm rfl rfl rfl CellsOf.agg hS ps0 Zf8 (by kernel_rfl) rfl (fun w hS hB => ?_)
 refine Zc 1 rfl ?_
 refine Zg ?_
 refine Zb hK9 ?_
 refine Zk ?_
 refine Zl rfl (RV.cell rfl (Z0 V8 hS hs0 Zb8) (RV.tmp rfl RV.nil)) rfl ?_
 obtain rfl := QJ H
 replace hS := hS.cut 0
 exact ⟨rfl, hS⟩
end
section
open Go Go.RowKit
set_option maxRecDepth 100000
theorem lastT_app (t : Int) (a b : List En) : Zbx t (a ++ b) = Zbx (Zbx t a) b := by
 induction a generalizing t with
 | nil => rfl
 | cons e a ih => exact ih _
theorem logB_app (t : Int) (a b : List En) : Zdd t (a ++ b) = (Zdd t a && Zdd (Zbx t a) b) := by
 induction a generalizing t with
 | nil => simp [Zdd, Zbx]
 | cons e a ih => simp [Zdd, Zbx, ih, Bool.and_assoc]
theorem logB_drop (t : Int) (l : List En) (k : Nat) (h : Zdd t l = true) : Zdd (Zbx t (l.take k)) (l.drop k) = true := by
 have h' := h
 rw [← List.take_append_drop k l, logB_app, Bool.and_eq_true] at h'
 exact h'.2
theorem lastT_cut (t : Int) (l : List En) (k : Nat) : Zbx (Zbx t (l.take k)) (l.drop k) = Zbx t l := by rw [← lastT_app, List.take_append_drop]
theorem lastT_mono (t : Int) (l : List En) (h : Zdd t l = true) : t ≤ Zbx t l := by
 induction l generalizing t with
 | nil => exact Int.le_refl _
 | cons e l ih =>
  simp only [Zdd, Bool.and_eq_true, decide_eq_true_eq] at h
  exact Int.le_trans h.1.2 (ih _ h.2)
theorem Zfm (t : Tu) : Jm t = true ↔ FineP t.snap ∧ (t.snap.index ≤ 1073740824 ∧ t.log.length ≤ 200 ∧ 0 ≤ t.vote ∧ t.vote ≤ 5 ∧ t.term ≤ 1073741824) ∧ Zdd t.snap.term t.log = true ∧ Zbx t.snap.term t.log ≤ t.term := by
 unfold Jm
 simp only [Bool.and_eq_true, decide_eq_true_eq, Zcg, and_assoc]
theorem chg_yes (x y : Tu) (res : Option Tu) (hx : Jm x = true) (h : res = some y) (hy : Jm y = true) : Zcn x res = y ∧ chgE x res = 0 := by
 have : Zce x res = some y := by unfold Zce; rw [if_pos hx, h]; exact if_pos hy
 unfold Zcn chgE
 rw [this]
 exact ⟨rfl, rfl⟩
theorem cut_yes (x : Tu) (k : Nat) (hx : Jm x = true) (hk : k ≤ x.log.length) :
  Zcn x (cutR x (x.snap.index + 1 + k)) = { x with log := x.log.take k } ∧ chgE x (cutR x (x.snap.index + 1 + k)) = 0 ∧ Jm { x with log := x.log.take k } = true := by
 obtain ⟨g1, g2, g3, g4⟩ := (Zfm x).1 hx
 have hT : Jm { x with log := x.log.take k } = true := by
  refine (Zfm _).2 ⟨g1, ⟨g2.1, ?_, g2.2.2⟩, logB_take _ _ _ g3, ?_⟩
  ·dsimp only; rw [List.length_take]; omega
  ·dsimp only
   refine Int.le_trans ?_ g4
   have h := lastT_mono _ _ (logB_drop x.snap.term x.log k g3)
   rw [lastT_cut] at h
   exact h
 have hr : cutR x (x.snap.index + 1 + k) = some { x with log := x.log.take k } := by
  unfold cutR Tu.last
  rw [if_pos (by omega)]
  have : (x.snap.index + 1 + (k : Int) - x.snap.index - 1).toNat = k := by omega
  rw [this]
 have := chg_yes x _ _ hx hr hT
 exact ⟨this.1, this.2, hT⟩
end

end Go.Proofs.YtamjlcaoieliaaaGreat
