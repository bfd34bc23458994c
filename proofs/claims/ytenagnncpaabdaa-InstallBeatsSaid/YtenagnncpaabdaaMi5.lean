/- Texts of one claim put together. -/
import Derived.Test.YtenagnncpaabdaaMi4
import Derived.Test.YtenagnncpaabdaaMi2
namespace Go.Proofs.Ytenagnncpaabdaa
open Go Go.RowKit
set_option maxRecDepth 100000
set_option maxHeartbeats 4000000
theorem c_ref12_Great (x0 : Tu) (A0_ : Option Addr) (c0_ : Nat) (w0 : World) (s0_ : SlI w0 Jv A0_ c0_ x0.log) {r : Bool} (H : Zcm x0 = some r) : Calls Try.prog 41 #[.agg #[.int .i64 x0.snap.index, .int .i64 x0.snap.term, .int .i64 x0.snap.sum, .int .i64 x0.snap.level, .bool x0.snap.final, .slice A0_ x0.log.length c0_, .int .i64 x0.term, .int .i64 x0.vote]] w0 fun e w' => e = .returned (.bool r) ∧ St0 All w0 w' [] := by
 unfold Zcm at H
 refine Yl Try.func41 rfl Try.ntmps41 rfl ?_
 have hS := St0.start All w0
 refine Zd (fun K hK1 => ?_)
 refine Zf ?_
 refine Z9 rfl rfl rfl CellsOf.agg hS (fun b2 w hS hB => ?_)
 refine Zb 1 rfl ?_
 refine Zg ?_
 refine Zc hK1 ?_
 refine Zd (fun K hK4 => ?_)
 refine Zf ?_
 refine Za rfl rfl rfl (Ze X5 rfl) ?_
 refine Za rfl rfl rfl (Zh V8 rfl (RW.here _) hS hs0 trivial Zdw) ?_
 refine Za rfl rfl rfl (Y1 Va rfl) ?_
 refine Za rfl rfl rfl (Xa rfl rfl) ?_
 refine Zb 1 rfl ?_
 refine Zg ?_
 refine Zc hK4 ?_
 refine Zk ?_
 refine Zl rfl (RV.tmp rfl RV.nil) rfl ?_
 obtain rfl := Option.some.inj H
 replace hS := hS.cut 0
 exact ⟨rfl, hS⟩
theorem Zfh (x0 : Co) (A0_ : Option Addr) (c0_ : Nat) (A1_ : Option Addr) (c1_ : Nat) (A2_ : Option Addr) (c2_ : Nat) (A3_ : Option Addr) (c3_ : Nat) (A4_ : Option Addr) (c4_ : Nat) (w0 : World) (s0_ : SlI w0 Jv A0_ c0_ x0.tuple.log) (s1_ : SlI w0 enO A1_ c1_ x0.votes) (s2_ : SlI w0 Vu A2_ c2_ x0.next) (s3_ : SlI w0 Vu A3_ c3_ x0.mtch) (s4_ : SlI w0 Vu A4_ c4_ x0.caps) {r : Bool} (H : Jj x0 = some r) : Calls Try.prog 17 #[.agg #[.int .i64 x0.id, .int .i64 x0.n, .int .u8 x0.role, .int .i64 x0.binary, .int .i64 x0.tuple.snap.index, .int .i64 x0.tuple.snap.term, .int .i64 x0.tuple.snap.sum, .int .i64 x0.tuple.snap.level, .bool x0.tuple.snap.final, .slice A0_ x0.tuple.log.length c0_, .int .i64 x0.tuple.term, .int .i64 x0.tuple.vote, .int .i64 x0.commit, .int .i64 x0.applied.index, .int .i64 x0.applied.term, .int .i64 x0.applied.sum, .int .i64 x0.applied.level, .bool x0.applied.final, .slice A1_ x0.votes.length c1_, .slice A2_ x0.next.length c2_, .slice A3_ x0.mtch.length c3_, .slice A4_ x0.caps.length c4_]] w0 fun e w' => e = .returned (.bool r) ∧ St0 All w0 w' [] := by
 unfold Jj at H
 refine Yl Try.func17 rfl Try.ntmps17 rfl ?_
 have hS := St0.start All w0
 refine Zd (fun K hK1 => ?_)
 refine Zf ?_
 refine Z9 rfl rfl rfl CellsOf.agg hS (fun b2 w hS hB => ?_)
 refine Zb 1 rfl ?_
 refine Zg ?_
 refine Zc hK1 ?_
 refine Zd (fun K hK4 => ?_)
 refine Zf ?_
 refine Za rfl rfl rfl (Ze Yu rfl) ?_
 refine Za rfl rfl rfl (Zj Xg rfl (RW.here _) hS hs0 trivial Zbl) ?_
 obtain ⟨r5, hm6, H⟩ := bind_some H
 refine Zr rfl rfl rfl rfl (by kernel_rfl) rfl (c_ref12_Great x0.tuple A0_ c0_ _ (SlI.of_rd s0_.k (hS.rd0 s0_.rd) (hS.blk0 s0_.blk)) hm6) ?_
 rintro e w ⟨rfl, hN⟩; refine ⟨_, rfl, ?_⟩; have hB := hN.pure; have hS := hS.join hN; clear hN
 refine Zb 1 rfl ?_
 refine Zt 6 rfl (fun hb => ?_) (fun hb => ?_)
 ·replace H := Zq H hb
  refine Zb 38 rfl ?_
  refine Zg ?_
  refine Zc hK4 ?_
  refine Zk ?_
  refine Zl rfl (RV.tmp rfl RV.nil) rfl ?_
  obtain rfl := Option.some.inj H
  replace hS := hS.cut 0
  exact ⟨rfl, hS⟩
 replace H := Zp H hb
 refine Za rfl rfl rfl (Ze Zbm rfl) ?_
 refine Za rfl rfl rfl (Zh sc_27 rfl (RW.here _) hS hs0 trivial Zfe) ?_
 refine Za rfl rfl rfl (Y1 el_27 rfl) ?_
 refine Za rfl rfl rfl (Xa rfl rfl) ?_
 refine Zb 2 rfl ?_
 refine Zt 12 rfl (fun hb => ?_) (fun hb => ?_)
 ·replace H := Zq H hb
  refine Zb 32 rfl ?_
  refine Zg ?_
  refine Zc hK4 ?_
  refine Zk ?_
  refine Zl rfl (RV.tmp rfl RV.nil) rfl ?_
  obtain rfl := Option.some.inj H
  replace hS := hS.cut 0
  exact ⟨rfl, hS⟩
 replace H := Zp H hb
 refine Za rfl rfl rfl (Ze Zao rfl) ?_
 refine Za rfl rfl rfl (Zh V1 rfl (RW.here _) hS hs0 trivial Zdn) ?_
 refine Za rfl rfl rfl (Y1 Vd rfl) ?_
 refine Za rfl rfl rfl (Xa rfl rfl) ?_
 refine Zb 2 rfl ?_
 refine Zt 18 rfl (fun hb => ?_) (fun hb => ?_)
 ·replace H := Zq H hb
  refine Zb 26 rfl ?_
  refine Zg ?_
  refine Zc hK4 ?_
  refine Zk ?_
  refine Zl rfl (RV.tmp rfl RV.nil) rfl ?_
  obtain rfl := Option.some.inj H
  replace hS := hS.cut 0
  exact ⟨rfl, hS⟩
 replace H := Zp H hb
 refine Za rfl rfl rfl (Ze Zco rfl) ?_
 refine Za rfl rfl rfl (Zh V1 rfl (RW.here _) hS hs0 trivial Zfg) ?_
 refine Za rfl rfl rfl (Y1 Vd rfl) ?_
 refine Za rfl rfl rfl (Xa rfl rfl) ?_
 refine Zb 2 rfl ?_
 refine Zt 24 rfl (fun hb => ?_) (fun hb => ?_)
 ·replace H := Zq H hb
  refine Zb 20 rfl ?_
  refine Zg ?_
  refine Zc hK4 ?_
  refine Zk ?_
  refine Zl rfl (RV.tmp rfl RV.nil) rfl ?_
  obtain rfl := Option.some.inj H
  replace hS := hS.cut 0
  exact ⟨rfl, hS⟩
 replace H := Zp H hb
 refine Za rfl rfl rfl (Ze J3 rfl) ?_
 refine Za rfl rfl rfl (Zh V1 rfl (RW.here _) hS hs0 trivial Zc9) ?_
 refine Za rfl rfl rfl (Y1 Vd rfl) ?_
 refine Za rfl rfl rfl (Xa rfl rfl) ?_
 refine Zb 2 rfl ?_
 refine Zt 30 rfl (fun hb => ?_) (fun hb => ?_)
 ·replace H := Zq H hb
  refine Zb 14 rfl ?_
  refine Zg ?_
  refine Zc hK4 ?_
  refine Zk ?_
  refine Zl rfl (RV.tmp rfl RV.nil) rfl ?_
  obtain rfl := Option.some.inj H
  replace hS := hS.cut 0
  exact ⟨rfl, hS⟩
 replace H := Zp H hb
 refine Za rfl rfl rfl (Ze Yu rfl) ?_
 refine Za rfl rfl rfl (Ze Yx rfl) ?_
 refine Za rfl rfl rfl (Ze Z5 rfl) ?_
 refine Za rfl rfl rfl (Zh Zx rfl (RW.here _) hS hs0 trivial Zeg) ?_
 refine Za rfl rfl rfl (Xa rfl rfl) ?_
 refine Zb 2 rfl ?_
 refine Zt 37 rfl (fun hb => ?_) (fun hb => ?_)
 ·replace H := Zq H hb
  refine Zb 7 rfl ?_
  refine Zg ?_
  refine Zc hK4 ?_
  refine Zk ?_
  refine Zl rfl (RV.tmp rfl RV.nil) rfl ?_
  obtain rfl := Option.some.inj H
  replace hS := hS.cut 0
  exact ⟨rfl, hS⟩
 replace H := Zp H hb
 refine Za rfl rfl rfl (Ze Yu rfl) ?_
 refine Za rfl rfl rfl (Ze Yx rfl) ?_
 refine Za rfl rfl rfl (Ze Z5 rfl) ?_
 refine Za rfl rfl rfl (Zh Zx rfl (RW.here _) hS hs0 trivial Zeg) ?_
 refine Za rfl rfl rfl (Xv rfl rfl) ?_
 refine Zb 2 rfl ?_
 refine Zg ?_
 refine Zc hK4 ?_
 refine Zk ?_
 refine Zl rfl (RV.tmp rfl RV.nil) rfl ?_
 obtain rfl := Option.some.inj H
 replace hS := hS.cut 0
 exact ⟨rfl, hS⟩
theorem c_law25_great (x0 : Co) (x1 : Ms) (A0_ : Option Addr) (c0_ : Nat) (A1_ : Option Addr) (c1_ : Nat) (A2_ : Option Addr) (c2_ : Nat) (A3_ : Option Addr) (c3_ : Nat) (A4_ : Option Addr) (c4_ : Nat) (A5_ : Option Addr) (c5_ : Nat) (w0 : World) (s0_ : SlI w0 Jv A0_ c0_ x0.tuple.log) (s1_ : SlI w0 enO A1_ c1_ x0.votes) (s2_ : SlI w0 Vu A2_ c2_ x0.next) (s3_ : SlI w0 Vu A3_ c3_ x0.mtch) (s4_ : SlI w0 Vu A4_ c4_ x0.caps) (s5_ : SlI w0 Jv A5_ c5_ x1.entries) {r : Bool} (H : Zcc x0 x1 = some r) : Calls Try.prog 7 #[.agg #[.int .i64 x0.id, .int .i64 x0.n, .int .u8 x0.role, .int .i64 x0.binary, .int .i64 x0.tuple.snap.index, .int .i64 x0.tuple.snap.term, .int .i64 x0.tuple.snap.sum, .int .i64 x0.tuple.snap.level, .bool x0.tuple.snap.final, .slice A0_ x0.tuple.log.length c0_, .int .i64 x0.tuple.term, .int .i64 x0.tuple.vote, .int .i64 x0.commit, .int .i64 x0.applied.index, .int .i64 x0.applied.term, .int .i64 x0.applied.sum, .int .i64 x0.applied.level, .bool x0.applied.final, .slice A1_ x0.votes.length c1_, .slice A2_ x0.next.length c2_, .slice A3_ x0.mtch.length c3_, .slice A4_ x0.caps.length c4_], .agg #[.int .u8 x1.kind, .int .i64 x1.frm, .int .i64 x1.dst, .int .i64 x1.term, .int .i64 x1.cap, .int .i64 x1.last, .int .i64 x1.lastTerm, .int .i64 x1.commit, .bool x1.okk, .slice A5_ x1.entries.length c5_, .int .i64 x1.snap.index, .int .i64 x1.snap.term, .int .i64 x1.snap.sum, .int .i64 x1.snap.level, .bool x1.snap.final]] w0 fun e w' => e = .returned (.bool r) ∧ St0 All w0 w' [] := by
 unfold Zcc at H
 refine Yw Try.func7 rfl Try.ntmps7 rfl ?_
 have hS := St0.start All w0
 refine Zd (fun K hK1 => ?_)
 refine Zf ?_
 refine Z9 rfl rfl rfl CellsOf.agg hS (fun b2 w hS hB => ?_)
 refine Z9 rfl rfl rfl CellsOf.agg hS (fun b4 w hS hB => ?_)
 refine Zb 1 rfl ?_
 refine Zg ?_
 refine Zc hK1 ?_
 refine Zd (fun K hK6 => ?_)
 refine Zf ?_
 refine Za rfl rfl rfl (Zj Yp rfl (RW.here _) hS Xt trivial Yb) ?_
 obtain ⟨r7, hm8, H⟩ := bind_some H
 refine Zr rfl rfl rfl rfl (by kernel_rfl) rfl (Zfh x0 A0_ c0_ A1_ c1_ A2_ c2_ A3_ c3_ A4_ c4_ _ (SlI.of_rd s0_.k (hS.rd0 s0_.rd) (hS.blk0 s0_.blk)) (SlI.of_rd s1_.k (hS.rd0 s1_.rd) (hS.blk0 s1_.blk)) (SlI.of_rd s2_.k (hS.rd0 s2_.rd) (hS.blk0 s2_.blk)) (SlI.of_rd s3_.k (hS.rd0 s3_.rd) (hS.blk0 s3_.blk)) (SlI.of_rd s4_.k (hS.rd0 s4_.rd) (hS.blk0 s4_.blk)) hm8) ?_
 rintro e w ⟨rfl, hN⟩; refine ⟨_, rfl, ?_⟩; have hB := hN.pure; have hS := hS.join hN; clear hN
 refine Zb 1 rfl ?_
 refine Zt 7 rfl (fun hb => ?_) (fun hb => ?_)
 ·replace H := Zq H hb
  refine Zb 6 rfl ?_
  refine Zg ?_
  refine Zc hK6 ?_
  refine Zk ?_
  refine Zl rfl (RV.tmp rfl RV.nil) rfl ?_
  obtain rfl := Option.some.inj H
  replace hS := hS.cut 0
  exact ⟨rfl, hS⟩
 replace H := Zp H hb
 refine Za rfl rfl rfl (Ze Zb5 rfl) ?_
 refine Za rfl rfl rfl (Zh V8 rfl (RW.here _) hS hs0 trivial sg9_1) ?_
 refine Za rfl rfl rfl (Y1 Va rfl) ?_
 refine Za rfl rfl rfl (Xa rfl rfl) ?_
 refine Zb 2 rfl ?_
 refine Zg ?_
 refine Zc hK6 ?_
 refine Zk ?_
 refine Zl rfl (RV.tmp rfl RV.nil) rfl ?_
 obtain rfl := Option.some.inj H
 replace hS := hS.cut 0
 exact ⟨rfl, hS⟩
theorem Zbw (x0 : Int) (w0 : World) {r : Bool} (H : V5 x0 = some r) : Calls Try.prog 63 #[.int .i64 x0] w0 fun e w' => e = .returned (.bool r) ∧ St0 All w0 w' [] := by
 unfold V5 at H
 refine Yl Try.func63 rfl Try.ntmps63 rfl ?_
 have hS := St0.start All w0
 refine Zd (fun K hK1 => ?_)
 refine Zf ?_
 refine Zb 1 rfl ?_
 refine Zg ?_
 refine Zc hK1 ?_
 refine Zd (fun K hK2 => ?_)
 refine Zf ?_
 refine Zb 1 rfl ?_
 refine Za rfl rfl rfl (Zbk rfl rfl) ?_
 refine Zb 1 rfl ?_
 refine Zt 5 rfl (fun hb => ?_) (fun hb => ?_)
 rotate_left
 ·replace H := Zp H hb
  refine Zb 4 rfl ?_
  refine Zg ?_
  refine Zc hK2 ?_
  refine Zk ?_
  refine Zl rfl (RV.tmp rfl RV.nil) rfl ?_
  obtain rfl := Option.some.inj H
  replace hS := hS.cut 0
  exact ⟨rfl, hS⟩
 replace H := Zq H hb
 refine Zb 1 rfl ?_
 refine Za rfl rfl rfl (Za1 rfl rfl) ?_
 refine Zb 2 rfl ?_
 refine Zg ?_
 refine Zc hK2 ?_
 refine Zk ?_
 refine Zl rfl (RV.tmp rfl RV.nil) rfl ?_
 obtain rfl := Option.some.inj H
 replace hS := hS.cut 0
 exact ⟨rfl, hS⟩
theorem Zce (w0 : World) {r : St} (H : J8 = some r) : Calls Try.prog 49 #[] w0 fun e w' => e = .returned (.agg #[.int .i64 r.index, .int .i64 r.term, .int .i64 r.sum, .int .i64 r.level, .bool r.final]) ∧ St0 All w0 w' [] := by
 unfold J8 at H
 refine gw_enter0 Try.func49 rfl Try.ntmps49 rfl ?_
 have hS := St0.start All w0
 refine Zd (fun K hK1 => ?_)
 refine Zf ?_
 refine Z6 rfl rfl zc_23 hS (fun b2 w hS hB => ?_)
 refine Zg ?_
 refine Zc hK1 ?_
 refine Zd (fun K hK4 => ?_)
 refine Zf ?_
 refine Za rfl rfl rfl (Xx (cells := [.int .i64 0, .int .i64 0, .int .i64 0, .int .i64 1, .bool false]) rfl (by kernel_rfl)) ?_
 refine Zo rfl rfl rfl CellsOf.agg hS ps0 Zdm (by kernel_rfl) rfl (fun w hS hB => ?_)
 refine Zg ?_
 refine Zc hK4 ?_
 refine Zk ?_
 refine Zl rfl (RV.cell rfl (Z3 Yn hS hs0 Vw) RV.nil) rfl ?_
 obtain rfl := Option.some.inj H
 replace hS := hS.cut 0
 exact ⟨rfl, hS⟩
theorem Zap (x0 : St) (w0 : World) {r : Bool} (H : Vx x0 = some r) : Calls Try.prog 37 #[.agg #[.int .i64 x0.index, .int .i64 x0.term, .int .i64 x0.sum, .int .i64 x0.level, .bool x0.final]] w0 fun e w' => e = .returned (.bool r) ∧ St0 All w0 w' [] := by
 unfold Vx at H
 refine Yl Try.func37 rfl Try.ntmps37 rfl ?_
 have hS := St0.start All w0
 refine Zd (fun K hK1 => ?_)
 refine Zf ?_
 refine Z9 rfl rfl rfl CellsOf.agg hS (fun b2 w hS hB => ?_)
 refine Zb 1 rfl ?_
 refine Zg ?_
 refine Zc hK1 ?_
 refine Zd (fun K hK4 => ?_)
 refine Zd (fun K hK5 => ?_)
 refine Zf ?_
 refine Za rfl rfl rfl (Ze Z5 rfl) ?_
 refine Za rfl rfl rfl (Zh Zx rfl (RW.here _) hS hs0 trivial Y2) ?_
 obtain ⟨r6, hm7, H⟩ := bind_some H
 refine Zr rfl rfl rfl rfl (by kernel_rfl) rfl (Zbw x0.index _ hm7) ?_
 rintro e w ⟨rfl, hN⟩; refine ⟨_, rfl, ?_⟩; have hB := hN.pure; have hS := hS.join hN; clear hN
 refine Za rfl rfl rfl (Yt rfl) ?_
 refine Zb 1 rfl ?_
 refine Zt 7 rfl (fun hb => ?_) (fun hb => ?_)
 ·replace H := Zq H hb
  refine Zb 39 rfl ?_
  refine Zg ?_
  refine Zc hK5 ?_
  refine Zs rfl rfl ?_
  refine Zd (fun K hK8 => ?_)
  refine Zf ?_
  refine Zb 1 rfl ?_
  refine Zg ?_
  refine Zc hK8 ?_
  refine Zk ?_
  refine Zi ?_
  refine Zl rfl (RV.tmp rfl RV.nil) rfl ?_
  obtain rfl := Option.some.inj H
  replace hS := hS.cut 0
  exact ⟨rfl, hS⟩
 replace H := Zp H hb
 refine Za rfl rfl rfl (Ze V7 rfl) ?_
 refine Za rfl rfl rfl (Zh Zx rfl (RW.here _) hS hs0 trivial Vn) ?_
 obtain ⟨r9, hm10, H⟩ := bind_some H
 refine Zr rfl rfl rfl rfl (by kernel_rfl) rfl (Zbw x0.term _ hm10) ?_
 rintro e w ⟨rfl, hN⟩; refine ⟨_, rfl, ?_⟩; have hB := hN.pure; have hS := hS.join hN; clear hN
 refine Za rfl rfl rfl (Yt rfl) ?_
 refine Zb 2 rfl ?_
 refine Zt 13 rfl (fun hb => ?_) (fun hb => ?_)
 ·replace H := Zq H hb
  refine Zb 33 rfl ?_
  refine Zg ?_
  refine Zc hK5 ?_
  refine Zs rfl rfl ?_
  refine Zd (fun K hK11 => ?_)
  refine Zf ?_
  refine Zb 1 rfl ?_
  refine Zg ?_
  refine Zc hK11 ?_
  refine Zk ?_
  refine Zi ?_
  refine Zl rfl (RV.tmp rfl RV.nil) rfl ?_
  obtain rfl := Option.some.inj H
  replace hS := hS.cut 0
  exact ⟨rfl, hS⟩
 replace H := Zp H hb
 refine Za rfl rfl rfl (Ze fo_23_2 rfl) ?_
 refine Za rfl rfl rfl (Zh Zx rfl (RW.here _) hS hs0 trivial J9) ?_
 obtain ⟨r12, hm13, H⟩ := bind_some H
 refine Zr rfl rfl rfl rfl (by kernel_rfl) rfl (Zbw x0.sum _ hm13) ?_
 rintro e w ⟨rfl, hN⟩; refine ⟨_, rfl, ?_⟩; have hB := hN.pure; have hS := hS.join hN; clear hN
 refine Za rfl rfl rfl (Yt rfl) ?_
 refine Zb 2 rfl ?_
 refine Zt 19 rfl (fun hb => ?_) (fun hb => ?_)
 ·replace H := Zq H hb
  refine Zb 27 rfl ?_
  refine Zg ?_
  refine Zc hK5 ?_
  refine Zs rfl rfl ?_
  refine Zd (fun K hK14 => ?_)
  refine Zf ?_
  refine Zb 1 rfl ?_
  refine Zg ?_
  refine Zc hK14 ?_
  refine Zk ?_
  refine Zi ?_
  refine Zl rfl (RV.tmp rfl RV.nil) rfl ?_
  obtain rfl := Option.some.inj H
  replace hS := hS.cut 0
  exact ⟨rfl, hS⟩
 replace H := Zp H hb
 refine Za rfl rfl rfl (Ze V7 rfl) ?_
 refine Za rfl rfl rfl (Zh Zx rfl (RW.here _) hS hs0 trivial Vn) ?_
 refine Za rfl rfl rfl (Yy rfl rfl) ?_
 refine Za rfl rfl rfl (Ze Z5 rfl) ?_
 refine Za rfl rfl rfl (Zh Zx rfl (RW.here _) hS hs0 trivial Y2) ?_
 refine Za rfl rfl rfl (Yy rfl rfl) ?_
 refine Za rfl rfl rfl (yv_neqB (by kernel_rfl) rfl rfl) ?_
 refine Zb 2 rfl ?_
 refine Zt 28 rfl (fun hb => ?_) (fun hb => ?_)
 ·replace H := Zq H hb
  refine Zb 18 rfl ?_
  refine Zg ?_
  refine Zc hK5 ?_
  refine Zs rfl rfl ?_
  refine Zd (fun K hK15 => ?_)
  refine Zf ?_
  refine Zb 1 rfl ?_
  refine Zg ?_
  refine Zc hK15 ?_
  refine Zk ?_
  refine Zi ?_
  refine Zl rfl (RV.tmp rfl RV.nil) rfl ?_
  obtain rfl := Option.some.inj H
  replace hS := hS.cut 0
  exact ⟨rfl, hS⟩
 replace H := Zp H hb
 refine Za rfl rfl rfl (Ze Zd6 rfl) ?_
 refine Za rfl rfl rfl (Zh Zx rfl (RW.here _) hS hs0 trivial Zag) ?_
 refine Za rfl rfl rfl (Xk rfl rfl) ?_
 refine Zb 1 rfl ?_
 refine Zt 32 rfl (fun hb => ?_) (fun hb => ?_)
 rotate_left
 ·replace H := Zp H hb
  refine Zb 6 rfl ?_
  refine Za rfl rfl rfl (Ze fo_23_4 rfl) ?_
  refine Za rfl rfl rfl (Zh sc_4 rfl (RW.here _) hS hs0 trivial Zeg) ?_
  refine Zb 1 rfl ?_
  refine Zt 41 rfl (fun hb => ?_) (fun hb => ?_)
  rotate_left
  ·replace H := Zp H hb
   refine Zb 5 rfl ?_
   refine Zg ?_
   refine Zc hK5 ?_
   refine Yq rfl rfl ?_
   refine Zu ?_
   refine Zc hK4 ?_
   refine Zd (fun K hK28 => ?_)
   refine Yo 9 [] (fun _ _ => True) ⟨by kernel_rfl, by kernel_rfl⟩ hS (fun w hS hB => ?_)
   refine Zm [true, true, true, true] (by decide +kernel) (by repeat (first | exact PF.body | exact PF.round | apply PF.then | apply PF.inBlock | apply PF.jump)) ?_
   refine LtK.put rfl rfl rfl (Ze Z5 rfl) ?_
   refine LtK.put rfl rfl rfl (Zh Zx rfl (RW.below _) hS hs0 trivial Y2) ?_
   refine LtK.put rfl rfl rfl (Xa rfl rfl) ?_
   refine LtK.put rfl rfl rfl (Zn rfl) ?_
   refine LtK.nil ?_
   refine Y8 50 rfl (fun hb => ?_) (fun hb => ?_)
   ·replace H := Zq H hb
    refine Zm [false, false, false, false, true] (by decide +kernel) (by repeat (first | exact PF.body | exact PF.round | apply PF.then | apply PF.inBlock | apply PF.jump)) ?_
    refine LtK.skip rfl rfl rfl ?_
    refine LtK.nil ?_
    refine Z7 [false, false, false, false, false, true] 5 ⟨by decide, by kernel_rfl, by kernel_rfl⟩ rfl rfl ?_
    try dsimp only [Z2]
    refine Yz rfl rfl rfl ?_
    refine Zg ?_
    refine Yf (Below.refl _ _) ?_
    refine Zm [false, false, false, false, false, false, true, true, true] (by decide +kernel) (by repeat (first | exact PF.body | exact PF.round | apply PF.then | apply PF.inBlock | apply PF.jump)) ?_
    refine LtK.skip rfl rfl rfl ?_
    refine LtK.put rfl rfl rfl (Zw rfl rfl rfl) ?_
    refine LtK.put rfl rfl rfl (Z4 rfl) ?_
    refine LtK.nil ?_
    refine Z8 (by kernel_rfl) ?_
    refine Zc hK28 ?_
    refine Zk ?_
    refine Zl rfl (RV.tmp rfl RV.nil) rfl ?_
    obtain rfl := Option.some.inj H
    replace hS := hS.cut 0
    exact ⟨rfl, hS⟩
   replace H := Zp H hb
   refine Zm [false, false, false, false, true] (by decide +kernel) (by repeat (first | exact PF.body | exact PF.round | apply PF.then | apply PF.inBlock | apply PF.jump)) ?_
   refine LtK.put rfl rfl rfl (Zj Yn rfl (RW.below _) hS hs0 trivial Vw) ?_
   refine LtK.nil ?_
   refine Z7 [false, false, false, false, false, true] 5 ⟨by decide, by kernel_rfl, by kernel_rfl⟩ rfl rfl ?_
   try dsimp only [Z2]
   obtain ⟨r29, hm30, H⟩ := bind_some H
   refine Zr rfl rfl rfl rfl (by kernel_rfl) rfl (Zce _ hm30) ?_
   rintro e w ⟨rfl, hN⟩; refine ⟨_, rfl, ?_⟩; have hB := hN.pure; have hS := hS.join hN; clear hN
   refine Zg ?_
   refine Yf hB ?_
   refine Zm [false, false, false, false, false, false, true, true, true] (by decide +kernel) (by repeat (first | exact PF.body | exact PF.round | apply PF.then | apply PF.inBlock | apply PF.jump)) ?_
   refine LtK.put rfl rfl rfl (Jb (by kernel_rfl) rfl rfl (Jg _ _ _ _ _ _ _ _ _ _)) ?_
   refine LtK.put rfl rfl rfl (Zz rfl rfl rfl) ?_
   refine LtK.put rfl rfl rfl (Z4 rfl) ?_
   refine LtK.nil ?_
   refine Z8 (by kernel_rfl) ?_
   refine Zc hK28 ?_
   refine Zk ?_
   refine Zl rfl (RV.tmp rfl RV.nil) rfl ?_
   obtain rfl := Option.some.inj H
   replace hS := hS.cut 0
   exact ⟨rfl, hS⟩
  replace H := Zq H hb
  refine Za rfl rfl rfl (Ze Zd6 rfl) ?_
  refine Za rfl rfl rfl (Zh Zx rfl (RW.here _) hS hs0 trivial Zag) ?_
  refine Za rfl rfl rfl (Xk rfl rfl) ?_
  refine Zb 2 rfl ?_
  refine Zg ?_
  refine Zc hK5 ?_
  refine Z0 rfl (fun hb => ?_) (fun hb => ?_)
  ·replace H := Zq H hb
   refine Zd (fun K hK24 => ?_)
   refine Zf ?_
   refine Zb 1 rfl ?_
   refine Zg ?_
   refine Zc hK24 ?_
   refine Zk ?_
   refine Zi ?_
   refine Zl rfl (RV.tmp rfl RV.nil) rfl ?_
   obtain rfl := Option.some.inj H
   replace hS := hS.cut 0
   exact ⟨rfl, hS⟩
  replace H := Zp H hb
  refine Zu ?_
  refine Zc hK4 ?_
  refine Zd (fun K hK25 => ?_)
  refine Yo 9 [] (fun _ _ => True) ⟨by kernel_rfl, by kernel_rfl⟩ hS (fun w hS hB => ?_)
  refine Zm [true, true, true, true] (by decide +kernel) (by repeat (first | exact PF.body | exact PF.round | apply PF.then | apply PF.inBlock | apply PF.jump)) ?_
  refine LtK.put rfl rfl rfl (Ze Z5 rfl) ?_
  refine LtK.put rfl rfl rfl (Zh Zx rfl (RW.below _) hS hs0 trivial Y2) ?_
  refine LtK.put rfl rfl rfl (Xa rfl rfl) ?_
  refine LtK.put rfl rfl rfl (Zn rfl) ?_
  refine LtK.nil ?_
  refine Y8 50 rfl (fun hb => ?_) (fun hb => ?_)
  ·replace H := Zq H hb
   refine Zm [false, false, false, false, true] (by decide +kernel) (by repeat (first | exact PF.body | exact PF.round | apply PF.then | apply PF.inBlock | apply PF.jump)) ?_
   refine LtK.skip rfl rfl rfl ?_
   refine LtK.nil ?_
   refine Z7 [false, false, false, false, false, true] 5 ⟨by decide, by kernel_rfl, by kernel_rfl⟩ rfl rfl ?_
   try dsimp only [Z2]
   refine Yz rfl rfl rfl ?_
   refine Zg ?_
   refine Yf (Below.refl _ _) ?_
   refine Zm [false, false, false, false, false, false, true, true, true] (by decide +kernel) (by repeat (first | exact PF.body | exact PF.round | apply PF.then | apply PF.inBlock | apply PF.jump)) ?_
   refine LtK.skip rfl rfl rfl ?_
   refine LtK.put rfl rfl rfl (Zw rfl rfl rfl) ?_
   refine LtK.put rfl rfl rfl (Z4 rfl) ?_
   refine LtK.nil ?_
   refine Z8 (by kernel_rfl) ?_
   refine Zc hK25 ?_
   refine Zk ?_
   refine Zl rfl (RV.tmp rfl RV.nil) rfl ?_
   obtain rfl := Option.some.inj H
   replace hS := hS.cut 0
   exact ⟨rfl, hS⟩
  replace H := Zp H hb
  refine Zm [false, false, false, false, true] (by decide +kernel) (by repeat (first | exact PF.body | exact PF.round | apply PF.then | apply PF.inBlock | apply PF.jump)) ?_
  refine LtK.put rfl rfl rfl (Zj Yn rfl (RW.below _) hS hs0 trivial Vw) ?_
  refine LtK.nil ?_
  refine Z7 [false, false, false, false, false, true] 5 ⟨by decide, by kernel_rfl, by kernel_rfl⟩ rfl rfl ?_
  try dsimp only [Z2]
  obtain ⟨r26, hm27, H⟩ := bind_some H
  refine Zr rfl rfl rfl rfl (by kernel_rfl) rfl (Zce _ hm27) ?_
  rintro e w ⟨rfl, hN⟩; refine ⟨_, rfl, ?_⟩; have hB := hN.pure; have hS := hS.join hN; clear hN
  refine Zg ?_
  refine Yf hB ?_
  refine Zm [false, false, false, false, false, false, true, true, true] (by decide +kernel) (by repeat (first | exact PF.body | exact PF.round | apply PF.then | apply PF.inBlock | apply PF.jump)) ?_
  refine LtK.put rfl rfl rfl (Jb (by kernel_rfl) rfl rfl (Jg _ _ _ _ _ _ _ _ _ _)) ?_
  refine LtK.put rfl rfl rfl (Zz rfl rfl rfl) ?_
  refine LtK.put rfl rfl rfl (Z4 rfl) ?_
  refine LtK.nil ?_
  refine Z8 (by kernel_rfl) ?_
  refine Zc hK25 ?_
  refine Zk ?_
  refine Zl rfl (RV.tmp rfl RV.nil) rfl ?_
  obtain rfl := Option.some.inj H
  replace hS := hS.cut 0
  exact ⟨rfl, hS⟩
 replace H := Zq H hb
 refine Za rfl rfl rfl (Ze Zd6 rfl) ?_
 refine Za rfl rfl rfl (Zh Zx rfl (RW.here _) hS hs0 trivial Zag) ?_
 refine Za rfl rfl rfl (Xk rfl rfl) ?_
 refine Zb 3 rfl ?_
 refine Zt 38 rfl (fun hb => ?_) (fun hb => ?_)
 ·replace H := Zq H hb
  refine Zb 8 rfl ?_
  refine Zg ?_
  refine Zc hK5 ?_
  refine Zs rfl rfl ?_
  refine Zd (fun K hK16 => ?_)
  refine Zf ?_
  refine Zb 1 rfl ?_
  refine Zg ?_
  refine Zc hK16 ?_
  refine Zk ?_
  refine Zi ?_
  refine Zl rfl (RV.tmp rfl RV.nil) rfl ?_
  obtain rfl := Option.some.inj H
  replace hS := hS.cut 0
  exact ⟨rfl, hS⟩
 replace H := Zp H hb
 refine Za rfl rfl rfl (Ze fo_23_4 rfl) ?_
 refine Za rfl rfl rfl (Zh sc_4 rfl (RW.here _) hS hs0 trivial Zeg) ?_
 refine Zb 1 rfl ?_
 refine Zt 41 rfl (fun hb => ?_) (fun hb => ?_)
 rotate_left
 ·replace H := Zp H hb
  refine Zb 5 rfl ?_
  refine Zg ?_
  refine Zc hK5 ?_
  refine Yq rfl rfl ?_
  refine Zu ?_
  refine Zc hK4 ?_
  refine Zd (fun K hK21 => ?_)
  refine Yo 9 [] (fun _ _ => True) ⟨by kernel_rfl, by kernel_rfl⟩ hS (fun w hS hB => ?_)
  refine Zm [true, true, true, true] (by decide +kernel) (by repeat (first | exact PF.body | exact PF.round | apply PF.then | apply PF.inBlock | apply PF.jump)) ?_
  refine LtK.put rfl rfl rfl (Ze Z5 rfl) ?_
  refine LtK.put rfl rfl rfl (Zh Zx rfl (RW.below _) hS hs0 trivial Y2) ?_
  refine LtK.put rfl rfl rfl (Xa rfl rfl) ?_
  refine LtK.put rfl rfl rfl (Zn rfl) ?_
  refine LtK.nil ?_
  refine Y8 50 rfl (fun hb => ?_) (fun hb => ?_)
  ·replace H := Zq H hb
   refine Zm [false, false, false, false, true] (by decide +kernel) (by repeat (first | exact PF.body | exact PF.round | apply PF.then | apply PF.inBlock | apply PF.jump)) ?_
   refine LtK.skip rfl rfl rfl ?_
   refine LtK.nil ?_
   refine Z7 [false, false, false, false, false, true] 5 ⟨by decide, by kernel_rfl, by kernel_rfl⟩ rfl rfl ?_
   try dsimp only [Z2]
   refine Yz rfl rfl rfl ?_
   refine Zg ?_
   refine Yf (Below.refl _ _) ?_
   refine Zm [false, false, false, false, false, false, true, true, true] (by decide +kernel) (by repeat (first | exact PF.body | exact PF.round | apply PF.then | apply PF.inBlock | apply PF.jump)) ?_
   refine LtK.skip rfl rfl rfl ?_
   refine LtK.put rfl rfl rfl (Zw rfl rfl rfl) ?_
   refine LtK.put rfl rfl rfl (Z4 rfl) ?_
   refine LtK.nil ?_
   refine Z8 (by kernel_rfl) ?_
   refine Zc hK21 ?_
   refine Zk ?_
   refine Zl rfl (RV.tmp rfl RV.nil) rfl ?_
   obtain rfl := Option.some.inj H
   replace hS := hS.cut 0
   exact ⟨rfl, hS⟩
  replace H := Zp H hb
  refine Zm [false, false, false, false, true] (by decide +kernel) (by repeat (first | exact PF.body | exact PF.round | apply PF.then | apply PF.inBlock | apply PF.jump)) ?_
  refine LtK.put rfl rfl rfl (Zj Yn rfl (RW.below _) hS hs0 trivial Vw) ?_
  refine LtK.nil ?_
  refine Z7 [false, false, false, false, false, true] 5 ⟨by decide, by kernel_rfl, by kernel_rfl⟩ rfl rfl ?_
  try dsimp only [Z2]
  obtain ⟨r22, hm23, H⟩ := bind_some H
  refine Zr rfl rfl rfl rfl (by kernel_rfl) rfl (Zce _ hm23) ?_
  rintro e w ⟨rfl, hN⟩; refine ⟨_, rfl, ?_⟩; have hB := hN.pure; have hS := hS.join hN; clear hN
  refine Zg ?_
  refine Yf hB ?_
  refine Zm [false, false, false, false, false, false, true, true, true] (by decide +kernel) (by repeat (first | exact PF.body | exact PF.round | apply PF.then | apply PF.inBlock | apply PF.jump)) ?_
  refine LtK.put rfl rfl rfl (Jb (by kernel_rfl) rfl rfl (Jg _ _ _ _ _ _ _ _ _ _)) ?_
  refine LtK.put rfl rfl rfl (Zz rfl rfl rfl) ?_
  refine LtK.put rfl rfl rfl (Z4 rfl) ?_
  refine LtK.nil ?_
  refine Z8 (by kernel_rfl) ?_
  refine Zc hK21 ?_
  refine Zk ?_
  refine Zl rfl (RV.tmp rfl RV.nil) rfl ?_
  obtain rfl := Option.some.inj H
  replace hS := hS.cut 0
  exact ⟨rfl, hS⟩
 replace H := Zq H hb
 refine Za rfl rfl rfl (Ze Zd6 rfl) ?_
 refine Za rfl rfl rfl (Zh Zx rfl (RW.here _) hS hs0 trivial Zag) ?_
 refine Za rfl rfl rfl (Xk rfl rfl) ?_
 refine Zb 2 rfl ?_
 refine Zg ?_
 refine Zc hK5 ?_
 refine Z0 rfl (fun hb => ?_) (fun hb => ?_)
 ·replace H := Zq H hb
  refine Zd (fun K hK17 => ?_)
  refine Zf ?_
  refine Zb 1 rfl ?_
  refine Zg ?_
  refine Zc hK17 ?_
  refine Zk ?_
  refine Zi ?_
  refine Zl rfl (RV.tmp rfl RV.nil) rfl ?_
  obtain rfl := Option.some.inj H
  replace hS := hS.cut 0
  exact ⟨rfl, hS⟩
 replace H := Zp H hb
 refine Zu ?_
 refine Zc hK4 ?_
 refine Zd (fun K hK18 => ?_)
 refine Yo 9 [] (fun _ _ => True) ⟨by kernel_rfl, by kernel_rfl⟩ hS (fun w hS hB => ?_)
 refine Zm [true, true, true, true] (by decide +kernel) (by repeat (first | exact PF.body | exact PF.round | apply PF.then | apply PF.inBlock | apply PF.jump)) ?_
 refine LtK.put rfl rfl rfl (Ze Z5 rfl) ?_
 refine LtK.put rfl rfl rfl (Zh Zx rfl (RW.below _) hS hs0 trivial Y2) ?_
 refine LtK.put rfl rfl rfl (Xa rfl rfl) ?_
 refine LtK.put rfl rfl rfl (Zn rfl) ?_
 refine LtK.nil ?_
 refine Y8 50 rfl (fun hb => ?_) (fun hb => ?_)
 ·replace H := Zq H hb
  refine Zm [false, false, false, false, true] (by decide +kernel) (by repeat (first | exact PF.body | exact PF.round | apply PF.then | apply PF.inBlock | apply PF.jump)) ?_
  refine LtK.skip rfl rfl rfl ?_
  refine LtK.nil ?_
  refine Z7 [false, false, false, false, false, true] 5 ⟨by decide, by kernel_rfl, by kernel_rfl⟩ rfl rfl ?_
  try dsimp only [Z2]
  refine Yz rfl rfl rfl ?_
  refine Zg ?_
  refine Yf (Below.refl _ _) ?_
  refine Zm [false, false, false, false, false, false, true, true, true] (by decide +kernel) (by repeat (first | exact PF.body | exact PF.round | apply PF.then | apply PF.inBlock | apply PF.jump)) ?_
  refine LtK.skip rfl rfl rfl ?_
  refine LtK.put rfl rfl rfl (Zw rfl rfl rfl) ?_
  refine LtK.put rfl rfl rfl (Z4 rfl) ?_
  refine LtK.nil ?_
  refine Z8 (by kernel_rfl) ?_
  refine Zc hK18 ?_
  refine Zk ?_
  refine Zl rfl (RV.tmp rfl RV.nil) rfl ?_
  obtain rfl := Option.some.inj H
  replace hS := hS.cut 0
  exact ⟨rfl, hS⟩
 replace H := Zp H hb
 refine Zm [false, false, false, false, true] (by decide +kernel) (by repeat (first | exact PF.body | exact PF.round | apply PF.then | apply PF.inBlock | apply PF.jump)) ?_
 refine LtK.put rfl rfl rfl (Zj Yn rfl (RW.below _) hS hs0 trivial Vw) ?_
 refine LtK.nil ?_
 refine Z7 [false, false, false, false, false, true] 5 ⟨by decide, by kernel_rfl, by kernel_rfl⟩ rfl rfl ?_
 try dsimp only [Z2]
 obtain ⟨r19, hm20, H⟩ := bind_some H
 refine Zr rfl rfl rfl rfl (by kernel_rfl) rfl (Zce _ hm20) ?_
 rintro e w ⟨rfl, hN⟩; refine ⟨_, rfl, ?_⟩; have hB := hN.pure; have hS := hS.join hN; clear hN
 refine Zg ?_
 refine Yf hB ?_
 refine Zm [false, false, false, false, false, false, true, true, true] (by decide +kernel) (by repeat (first | exact PF.body | exact PF.round | apply PF.then | apply PF.inBlock | apply PF.jump)) ?_
 refine LtK.put rfl rfl rfl (Jb (by kernel_rfl) rfl rfl (Jg _ _ _ _ _ _ _ _ _ _)) ?_
 refine LtK.put rfl rfl rfl (Zz rfl rfl rfl) ?_
 refine LtK.put rfl rfl rfl (Z4 rfl) ?_
 refine LtK.nil ?_
 refine Z8 (by kernel_rfl) ?_
 refine Zc hK18 ?_
 refine Zk ?_
 refine Zl rfl (RV.tmp rfl RV.nil) rfl ?_
 obtain rfl := Option.some.inj H
 replace hS := hS.cut 0
 exact ⟨rfl, hS⟩
theorem Zfj (x0 : En) (w0 : World) {r : Bool} (H : Zas x0 = some r) : Calls Try.prog 46 #[.agg #[.int .i64 x0.term, .int .i64 x0.kind, .int .i64 x0.value]] w0 fun e w' => e = .returned (.bool r) ∧ St0 All w0 w' [] := by
 unfold Zas at H
 refine Yl Try.func46 rfl Try.ntmps46 rfl ?_
 have hS := St0.start All w0
 refine Zd (fun K hK1 => ?_)
 refine Zf ?_
 refine Z9 rfl rfl rfl CellsOf.agg hS (fun b2 w hS hB => ?_)
 refine Zb 1 rfl ?_
 refine Zg ?_
 refine Zc hK1 ?_
 refine Zd (fun K hK4 => ?_)
 refine Zf ?_
 refine Za rfl rfl rfl (Ze Zaz rfl) ?_
 refine Za rfl rfl rfl (Zh Zx rfl (RW.here _) hS hs0 trivial Y2) ?_
 refine Za rfl rfl rfl (Zbk rfl rfl) ?_
 refine Zb 1 rfl ?_
 refine Zt 6 rfl (fun hb => ?_) (fun hb => ?_)
 rotate_left
 ·replace H := Zp H hb
  refine Zb 30 rfl ?_
  refine Zg ?_
  refine Zc hK4 ?_
  refine Zk ?_
  refine Zl rfl (RV.tmp rfl RV.nil) rfl ?_
  obtain rfl := Option.some.inj H
  replace hS := hS.cut 0
  exact ⟨rfl, hS⟩
 replace H := Zq H hb
 refine Za rfl rfl rfl (Ze Zaz rfl) ?_
 refine Za rfl rfl rfl (Zh Zx rfl (RW.here _) hS hs0 trivial Y2) ?_
 obtain ⟨r5, hm6, H⟩ := bind_some H
 refine Zr rfl rfl rfl rfl (by kernel_rfl) rfl (Zbw x0.term _ hm6) ?_
 rintro e w ⟨rfl, hN⟩; refine ⟨_, rfl, ?_⟩; have hB := hN.pure; have hS := hS.join hN; clear hN
 refine Zb 2 rfl ?_
 refine Zt 11 rfl (fun hb => ?_) (fun hb => ?_)
 rotate_left
 ·replace H := Zp H hb
  refine Zb 25 rfl ?_
  refine Zg ?_
  refine Zc hK4 ?_
  refine Zk ?_
  refine Zl rfl (RV.tmp rfl RV.nil) rfl ?_
  obtain rfl := Option.some.inj H
  replace hS := hS.cut 0
  exact ⟨rfl, hS⟩
 replace H := Zq H hb
 refine Za rfl rfl rfl (Ze fo_46_1 rfl) ?_
 refine Za rfl rfl rfl (Zh Zx rfl (RW.here _) hS hs0 trivial Vn) ?_
 refine Za rfl rfl rfl (Zbk rfl rfl) ?_
 refine Zb 2 rfl ?_
 refine Zt 16 rfl (fun hb => ?_) (fun hb => ?_)
 rotate_left
 ·replace H := Zp H hb
  refine Zb 20 rfl ?_
  refine Zg ?_
  refine Zc hK4 ?_
  refine Zk ?_
  refine Zl rfl (RV.tmp rfl RV.nil) rfl ?_
  obtain rfl := Option.some.inj H
  replace hS := hS.cut 0
  exact ⟨rfl, hS⟩
 replace H := Zq H hb
 refine Za rfl rfl rfl (Ze fo_46_1 rfl) ?_
 refine Za rfl rfl rfl (Zh Zx rfl (RW.here _) hS hs0 trivial Vn) ?_
 refine Za rfl rfl rfl (Xv rfl rfl) ?_
 refine Zb 2 rfl ?_
 refine Zt 21 rfl (fun hb => ?_) (fun hb => ?_)
 rotate_left
 ·replace H := Zp H hb
  refine Zb 15 rfl ?_
  refine Zg ?_
  refine Zc hK4 ?_
  refine Zk ?_
  refine Zl rfl (RV.tmp rfl RV.nil) rfl ?_
  obtain rfl := Option.some.inj H
  replace hS := hS.cut 0
  exact ⟨rfl, hS⟩
 replace H := Zq H hb
 refine Za rfl rfl rfl (Ze fo_46_2 rfl) ?_
 refine Za rfl rfl rfl (Zh Zx rfl (RW.here _) hS hs0 trivial J9) ?_
 obtain ⟨r7, hm8, H⟩ := bind_some H
 refine Zr rfl rfl rfl rfl (by kernel_rfl) rfl (Zbw x0.value _ hm8) ?_
 rintro e w ⟨rfl, hN⟩; refine ⟨_, rfl, ?_⟩; have hB := hN.pure; have hS := hS.join hN; clear hN
 refine Zb 2 rfl ?_
 refine Zt 26 rfl (fun hb => ?_) (fun hb => ?_)
 rotate_left
 ·replace H := Zp H hb
  refine Zb 10 rfl ?_
  refine Zg ?_
  refine Zc hK4 ?_
  refine Zk ?_
  refine Zl rfl (RV.tmp rfl RV.nil) rfl ?_
  obtain rfl := Option.some.inj H
  replace hS := hS.cut 0
  exact ⟨rfl, hS⟩
 replace H := Zq H hb
 refine Za rfl rfl rfl (Ze fo_46_1 rfl) ?_
 refine Za rfl rfl rfl (Zh Zx rfl (RW.here _) hS hs0 trivial Vn) ?_
 refine Za rfl rfl rfl (Yy rfl rfl) ?_
 refine Zb 1 rfl ?_
 refine Zt 30 rfl (fun hb => ?_) (fun hb => ?_)
 ·replace H := Zq H hb
  refine Zb 6 rfl ?_
  refine Zg ?_
  refine Zc hK4 ?_
  refine Zk ?_
  refine Zl rfl (RV.tmp rfl RV.nil) rfl ?_
  obtain rfl := Option.some.inj H
  replace hS := hS.cut 0
  exact ⟨rfl, hS⟩
 replace H := Zp H hb
 refine Za rfl rfl rfl (Ze fo_46_2 rfl) ?_
 refine Za rfl rfl rfl (Zh Zx rfl (RW.here _) hS hs0 trivial J9) ?_
 refine Za rfl rfl rfl (Yy rfl rfl) ?_
 refine Zb 3 rfl ?_
 refine Zg ?_
 refine Zc hK4 ?_
 refine Zk ?_
 refine Zl rfl (RV.tmp rfl RV.nil) rfl ?_
 obtain rfl := Option.some.inj H
 replace hS := hS.cut 0
 exact ⟨rfl, hS⟩
theorem c_ref12_Right (x0 : Tu) (A0_ : Option Addr) (c0_ : Nat) (w0 : World) (s0_ : SlI w0 Jv A0_ c0_ x0.log) {r : Bool} (H : Zck x0 = some r) : Calls Try.prog 22 #[.agg #[.int .i64 x0.snap.index, .int .i64 x0.snap.term, .int .i64 x0.snap.sum, .int .i64 x0.snap.level, .bool x0.snap.final, .slice A0_ x0.log.length c0_, .int .i64 x0.term, .int .i64 x0.vote]] w0 fun e w' => e = .returned (.bool r) ∧ St0 All w0 w' [] := by
 unfold Zck at H
 refine Yl Try.func22 rfl Try.ntmps22 rfl ?_
 have hS := St0.start All w0
 refine Zd (fun K hK1 => ?_)
 refine Zf ?_
 refine Z9 rfl rfl rfl CellsOf.agg hS (fun b2 w hS hB => ?_)
 refine Zb 1 rfl ?_
 refine Zg ?_
 refine Zc hK1 ?_
 refine Zd (fun K hK4 => ?_)
 refine Zd (fun K hK5 => ?_)
 refine Zf ?_
 refine Za rfl rfl rfl (Ze Yx rfl) ?_
 refine Za rfl rfl rfl (Zj Yn rfl (RW.here _) hS hs0 trivial Vw) ?_
 obtain ⟨r6, hm7, H⟩ := bind_some H
 refine Zr rfl rfl rfl rfl (by kernel_rfl) rfl (Zap x0.snap _ hm7) ?_
 rintro e w ⟨rfl, hN⟩; refine ⟨_, rfl, ?_⟩; have hB := hN.pure; have hS := hS.join hN; clear hN
 refine Za rfl rfl rfl (Yt rfl) ?_
 refine Zb 1 rfl ?_
 refine Zt 9 rfl (fun hb => ?_) (fun hb => ?_)
 ·replace H := Zq H hb
  refine Zb 21 rfl ?_
  refine Zg ?_
  refine Zc hK5 ?_
  refine Zs rfl rfl ?_
  refine Zd (fun K hK8 => ?_)
  refine Zf ?_
  refine Zb 1 rfl ?_
  refine Zg ?_
  refine Zc hK8 ?_
  refine Zk ?_
  refine Zi ?_
  refine Zl rfl (RV.tmp rfl RV.nil) rfl ?_
  obtain rfl := Option.some.inj H
  replace hS := hS.cut 0
  exact ⟨rfl, hS⟩
 replace H := Zp H hb
 refine Za rfl rfl rfl (Ze Yx rfl) ?_
 refine Za rfl rfl rfl (Ze Z5 rfl) ?_
 refine Za rfl rfl rfl (Zh Zx rfl (RW.here _) hS hs0 trivial Y2) ?_
 refine Za rfl rfl rfl (Xa rfl rfl) ?_
 refine Zb 2 rfl ?_
 refine Zt 15 rfl (fun hb => ?_) (fun hb => ?_)
 ·replace H := Zq H hb
  refine Zb 15 rfl ?_
  refine Zg ?_
  refine Zc hK5 ?_
  refine Zs rfl rfl ?_
  refine Zd (fun K hK9 => ?_)
  refine Zf ?_
  refine Zb 1 rfl ?_
  refine Zg ?_
  refine Zc hK9 ?_
  refine Zk ?_
  refine Zi ?_
  refine Zl rfl (RV.tmp rfl RV.nil) rfl ?_
  obtain rfl := Option.some.inj H
  replace hS := hS.cut 0
  exact ⟨rfl, hS⟩
 replace H := Zp H hb
 refine Za rfl rfl rfl (Ze X5 rfl) ?_
 refine Za rfl rfl rfl (Zh V8 rfl (RW.here _) hS hs0 trivial Zdw) ?_
 refine Za rfl rfl rfl (Y1 Va rfl) ?_
 refine Za rfl rfl rfl (Xa rfl rfl) ?_
 refine Zb 2 rfl ?_
 refine Zt 21 rfl (fun hb => ?_) (fun hb => ?_)
 ·replace H := Zq H hb
  refine Zb 9 rfl ?_
  refine Zg ?_
  refine Zc hK5 ?_
  refine Zs rfl rfl ?_
  refine Zd (fun K hK10 => ?_)
  refine Zf ?_
  refine Zb 1 rfl ?_
  refine Zg ?_
  refine Zc hK10 ?_
  refine Zk ?_
  refine Zi ?_
  refine Zl rfl (RV.tmp rfl RV.nil) rfl ?_
  obtain rfl := Option.some.inj H
  replace hS := hS.cut 0
  exact ⟨rfl, hS⟩
 replace H := Zp H hb
 refine Za rfl rfl rfl (Ze Jy rfl) ?_
 refine Za rfl rfl rfl (Zh Zx rfl (RW.here _) hS hs0 trivial sg7_1) ?_
 refine Za rfl rfl rfl (Xv rfl rfl) ?_
 refine Zb 2 rfl ?_
 refine Zt 26 rfl (fun hb => ?_) (fun hb => ?_)
 ·replace H := Zq H hb
  refine Zb 4 rfl ?_
  refine Zg ?_
  refine Zc hK5 ?_
  refine Zs rfl rfl ?_
  refine Zd (fun K hK11 => ?_)
  refine Zf ?_
  refine Zb 1 rfl ?_
  refine Zg ?_
  refine Zc hK11 ?_
  refine Zk ?_
  refine Zi ?_
  refine Zl rfl (RV.tmp rfl RV.nil) rfl ?_
  obtain rfl := Option.some.inj H
  replace hS := hS.cut 0
  exact ⟨rfl, hS⟩
 replace H := Zp H hb
 refine Za rfl rfl rfl (Ze Jy rfl) ?_
 refine Za rfl rfl rfl (Zh Zx rfl (RW.here _) hS hs0 trivial sg7_1) ?_
 refine Za rfl rfl rfl (Xa rfl rfl) ?_
 refine Zb 1 rfl ?_
 refine Zg ?_
 refine Zc hK5 ?_
 refine Z0 rfl (fun hb => ?_) (fun hb => ?_)
 ·replace H := Zq H hb
  refine Zd (fun K hK12 => ?_)
  refine Zf ?_
  refine Zb 1 rfl ?_
  refine Zg ?_
  refine Zc hK12 ?_
  refine Zk ?_
  refine Zi ?_
  refine Zl rfl (RV.tmp rfl RV.nil) rfl ?_
  obtain rfl := Option.some.inj H
  replace hS := hS.cut 0
  exact ⟨rfl, hS⟩
 replace H := Zp H hb
 refine Zu ?_
 refine Zc hK4 ?_
 refine Zd (fun K hK13 => ?_)
 refine Zf ?_
 refine Za rfl rfl rfl (Ze Yx rfl) ?_
 refine Za rfl rfl rfl (Ze V7 rfl) ?_
 refine Za rfl rfl rfl (Zh Zx rfl (RW.here _) hS hs0 trivial Vn) ?_
 refine Zb 1 rfl ?_
 refine Zg ?_
 refine Zc hK13 ?_
 refine Zd (fun K hK14 => ?_)
 refine Zd (fun K hK15 => ?_)
 refine Zf ?_
 refine Zb 1 rfl ?_
 refine Zg ?_
 refine Zc hK15 ?_
 refine Yj ?_
 refine Jq (X := Nat × Bool × Int × Int) (fun x => (1, .pointer (some ⟨b2, 0, none⟩)) :: (2, .bool x.2.1) :: (3, .int .i64 x.2.2.1) :: (4, .int .i64 x.2.2.2) :: []) (fun x w => St0 All w0 w (.box b2 [.int .i64 x0.snap.index, .int .i64 x0.snap.term, .int .i64 x0.snap.sum, .int .i64 x0.snap.level, .bool x0.snap.final, .slice A0_ x0.log.length c0_, .int .i64 x0.term, .int .i64 x0.vote] 26 :: []) ∧ Jf x0 x.1 x.2.1 x.2.2.1 x.2.2.2 = some r) (fun x => x.1) (X6, false, x0.snap.term, 0) (by repeat (first | exact Sub.nil | refine Sub.cons rfl ?_)) ⟨hS, H⟩ ?_
 rintro ⟨n, v16, v17, v18⟩ w ⟨hS, H⟩
 dsimp only at hS H ⊢
 obtain _ | n := n
 ·have H0 : none = some r := H
  cases H0
 rw [Jf] at H
 refine Zd (fun K hK19 => ?_)
 refine Zd (fun K hK20 => ?_)
 refine Zf ?_
 refine Zb 1 rfl ?_
 refine Za rfl rfl rfl (Ze X5 rfl) ?_
 refine Za rfl rfl rfl (Zh V8 rfl (RW.here _) hS hs0 trivial Zdw) ?_
 refine Za rfl rfl rfl (Y1 Va rfl) ?_
 refine Za rfl rfl rfl (Xv rfl rfl) ?_
 refine Zg ?_
 refine Zc hK20 ?_
 refine Z0 rfl (fun hb => ?_) (fun hb => ?_)
 rotate_left
 ·replace H := Zp H hb
  refine Vo ?_
  refine Ye ?_
  refine Ye ?_
  refine Xf ?_
  refine Zc hK14 ?_
  refine Zd (fun K hK37 => ?_)
  refine Zf ?_
  refine Za rfl rfl rfl (Ze Xs rfl) ?_
  refine Za rfl rfl rfl (Zh Zx rfl (RW.here _) hS hs0 trivial sg6_1) ?_
  refine Zb 1 rfl ?_
  refine Za rfl rfl rfl (Zbk rfl rfl) ?_
  refine Zb 1 rfl ?_
  refine Zt 68 rfl (fun hb => ?_) (fun hb => ?_)
  rotate_left
  ·replace H := Zp H hb
   refine Zb 10 rfl ?_
   refine Zg ?_
   refine Zc hK37 ?_
   refine Zk ?_
   refine Zl rfl (RV.tmp rfl RV.nil) rfl ?_
   obtain rfl := Option.some.inj H
   replace hS := hS.cut 0
   exact ⟨rfl, hS⟩
  replace H := Zq H hb
  refine Za rfl rfl rfl (Ze Xs rfl) ?_
  refine Za rfl rfl rfl (Zh Zx rfl (RW.here _) hS hs0 trivial sg6_1) ?_
  refine Za rfl rfl rfl (Zbk rfl rfl) ?_
  refine Zb 2 rfl ?_
  refine Zt 73 rfl (fun hb => ?_) (fun hb => ?_)
  rotate_left
  ·replace H := Zp H hb
   refine Zb 5 rfl ?_
   refine Zg ?_
   refine Zc hK37 ?_
   refine Zk ?_
   refine Zl rfl (RV.tmp rfl RV.nil) rfl ?_
   obtain rfl := Option.some.inj H
   replace hS := hS.cut 0
   exact ⟨rfl, hS⟩
  replace H := Zq H hb
  refine Za rfl rfl rfl (Ze Xs rfl) ?_
  refine Za rfl rfl rfl (Zh Zx rfl (RW.here _) hS hs0 trivial sg6_1) ?_
  refine Za rfl rfl rfl (Za1 rfl rfl) ?_
  refine Zb 2 rfl ?_
  refine Zg ?_
  refine Zc hK37 ?_
  refine Zk ?_
  refine Zl rfl (RV.tmp rfl RV.nil) rfl ?_
  obtain rfl := Option.some.inj H
  replace hS := hS.cut 0
  exact ⟨rfl, hS⟩
 replace H := Zq H hb
 refine Zu ?_
 refine Zc hK19 ?_
 refine Zd (fun K hK21 => ?_)
 refine Yj ?_
 refine Zd (fun K hK22 => ?_)
 refine Zd (fun K hK23 => ?_)
 refine Zf ?_
 refine Za rfl rfl rfl (Ze X5 rfl) ?_
 refine Za rfl rfl rfl (Zh V8 rfl (RW.here _) hS hs0 trivial Zdw) ?_
 refine Zb 1 rfl ?_
 obtain ⟨e24, hi26, H⟩ := bind_some H
 obtain ⟨j25, hi26a, hi26b, hi26c⟩ := Y9 hi26
 refine Za rfl rfl rfl (Xo Va rfl rfl hi26a hi26c (Rd.el (hS.rd0 s0_.rd) Vi hi26b)) ?_
 refine Za rfl rfl rfl (Zei V3 rfl (RW.here _) (Rd.el (hS.rd0 s0_.rd) Vi hi26b) Zcl) ?_
 obtain ⟨r27, hm28, H⟩ := bind_some H
 refine Zr rfl rfl rfl rfl (by kernel_rfl) rfl (Zfj e24 _ hm28) ?_
 rintro e w ⟨rfl, hN⟩; refine ⟨_, rfl, ?_⟩; have hB := hN.pure; have hS := hS.join hN; clear hN
 refine Za rfl rfl rfl (Yt rfl) ?_
 refine Zb 1 rfl ?_
 refine Zt 48 rfl (fun hb => ?_) (fun hb => ?_)
 ·replace H := Zq H hb
  refine Zb 9 rfl ?_
  refine Zg ?_
  refine Zc hK23 ?_
  refine Zs rfl rfl ?_
  refine Zd (fun K hK29 => ?_)
  refine Zf ?_
  refine Zb 1 rfl ?_
  refine Zg ?_
  refine Zc hK29 ?_
  refine Zk ?_
  refine Zi ?_
  refine Zv ?_
  refine Zi ?_
  refine Zi ?_
  refine Zv ?_
  refine Zi ?_
  refine Zl rfl (RV.tmp rfl RV.nil) rfl ?_
  obtain rfl := Option.some.inj H
  replace hS := hS.cut 0
  exact ⟨rfl, hS⟩
 replace H := Zp H hb
 refine Za rfl rfl rfl (Ze X5 rfl) ?_
 refine Za rfl rfl rfl (Zh V8 rfl (RW.here _) hS hs0 trivial Zdw) ?_
 refine Zb 1 rfl ?_
 obtain ⟨e30, hi32, H⟩ := bind_some H
 obtain ⟨j31, hi32a, hi32b, hi32c⟩ := Y9 hi32
 refine Za rfl rfl rfl (Xo Va rfl rfl hi32a hi32c (Rd.el (hS.rd0 s0_.rd) Vi hi32b)) ?_
 refine Za rfl rfl rfl (Vc Zaz rfl (Rd.el (hS.rd0 s0_.rd) Vi hi32b)) ?_
 refine Za rfl rfl rfl (V4 Zx rfl (RW.here _) (Rd.el (hS.rd0 s0_.rd) Vi hi32b) rfl) ?_
 refine Zb 1 rfl ?_
 refine Za rfl rfl rfl (Xv rfl rfl) ?_
 refine Zb 1 rfl ?_
 refine Zg ?_
 refine Zc hK23 ?_
 refine Z0 rfl (fun hb => ?_) (fun hb => ?_)
 ·replace H := Zq H hb
  refine Zd (fun K hK33 => ?_)
  refine Zf ?_
  refine Zb 1 rfl ?_
  refine Zg ?_
  refine Zc hK33 ?_
  refine Zk ?_
  refine Zi ?_
  refine Zv ?_
  refine Zi ?_
  refine Zi ?_
  refine Zv ?_
  refine Zi ?_
  refine Zl rfl (RV.tmp rfl RV.nil) rfl ?_
  obtain rfl := Option.some.inj H
  replace hS := hS.cut 0
  exact ⟨rfl, hS⟩
 replace H := Zp H hb
 refine Zu ?_
 refine Zc hK22 ?_
 refine Zf ?_
 refine Za rfl rfl rfl (Ze X5 rfl) ?_
 refine Za rfl rfl rfl (Zh V8 rfl (RW.here _) hS hs0 trivial Zdw) ?_
 refine Zb 1 rfl ?_
 obtain ⟨e34, hi36, H⟩ := bind_some H
 obtain ⟨j35, hi36a, hi36b, hi36c⟩ := Y9 hi36
 refine Za rfl rfl rfl (Xo Va rfl rfl hi36a hi36c (Rd.el (hS.rd0 s0_.rd) Vi hi36b)) ?_
 refine Za rfl rfl rfl (Vc Zaz rfl (Rd.el (hS.rd0 s0_.rd) Vi hi36b)) ?_
 refine Za rfl rfl rfl (V4 Zx rfl (RW.here _) (Rd.el (hS.rd0 s0_.rd) Vi hi36b) rfl) ?_
 refine Zb 1 rfl ?_
 refine Zg ?_
 refine Z1 ?_
 refine Zc hK21 ?_
 refine Zf ?_
 refine Zb 1 rfl ?_
 refine Za rfl rfl rfl (X1 rfl rfl) ?_
 refine Zb 1 rfl ?_
 refine Zg ?_
 exact Vp (n, v16, e34.term, (IntKind.wrap .i64 (v18 + 1))) (by repeat (first | exact Sub.nil | refine Sub.cons rfl ?_)) ⟨hS, H⟩ (Nat.lt_succ_self _)
theorem Za7 (x0 : Tu) (A0_ : Option Addr) (c0_ : Nat) (w0 : World) (s0_ : SlI w0 Jv A0_ c0_ x0.log) {r : Int} (H : Jn x0 = some r) : Calls Try.prog 11 #[.agg #[.int .i64 x0.snap.index, .int .i64 x0.snap.term, .int .i64 x0.snap.sum, .int .i64 x0.snap.level, .bool x0.snap.final, .slice A0_ x0.log.length c0_, .int .i64 x0.term, .int .i64 x0.vote]] w0 fun e w' => e = .returned (.int .i64 r) ∧ St0 All w0 w' [] := by
 unfold Jn at H
 refine Yl Try.func11 rfl Try.ntmps11 rfl ?_
 have hS := St0.start All w0
 refine Zd (fun K hK1 => ?_)
 refine Zf ?_
 refine Z9 rfl rfl rfl CellsOf.agg hS (fun b2 w hS hB => ?_)
 refine Zb 1 rfl ?_
 refine Zg ?_
 refine Zc hK1 ?_
 refine Zd (fun K hK4 => ?_)
 refine Zf ?_
 refine Za rfl rfl rfl (Ze Yx rfl) ?_
 refine Za rfl rfl rfl (Ze Z5 rfl) ?_
 refine Za rfl rfl rfl (Zh Zx rfl (RW.here _) hS hs0 trivial Y2) ?_
 refine Za rfl rfl rfl (Ze X5 rfl) ?_
 refine Za rfl rfl rfl (Zh V8 rfl (RW.here _) hS hs0 trivial Zdw) ?_
 refine Za rfl rfl rfl (Y1 Va rfl) ?_
 refine Za rfl rfl rfl (X1 rfl rfl) ?_
 refine Zb 1 rfl ?_
 refine Zg ?_
 refine Zc hK4 ?_
 refine Zk ?_
 refine Zl rfl (RV.tmp rfl RV.nil) rfl ?_
 obtain rfl := Option.some.inj H
 replace hS := hS.cut 0
 exact ⟨rfl, hS⟩
theorem c_ref06_Next (x0 : St) (x1 : En) (w0 : World) {r : St} (H : Zb2 x0 x1 = some r) : Calls Try.prog 78 #[.agg #[.int .i64 x0.index, .int .i64 x0.term, .int .i64 x0.sum, .int .i64 x0.level, .bool x0.final], .agg #[.int .i64 x1.term, .int .i64 x1.kind, .int .i64 x1.value]] w0 fun e w' => e = .returned (.agg #[.int .i64 r.index, .int .i64 r.term, .int .i64 r.sum, .int .i64 r.level, .bool r.final]) ∧ St0 All w0 w' [] := by
 unfold Zb2 at H
 refine Yw Try.func78 rfl Try.ntmps78 rfl ?_
 have hS := St0.start All w0
 refine Zd (fun K hK1 => ?_)
 refine Zf ?_
 refine Z9 rfl rfl rfl CellsOf.agg hS (fun b2 w hS hB => ?_)
 refine Z9 rfl rfl rfl CellsOf.agg hS (fun b4 w hS hB => ?_)
 refine Z6 rfl rfl zc_23 hS (fun b6 w hS hB => ?_)
 refine Zg ?_
 refine Zc hK1 ?_
 refine Zd (fun K hK8 => ?_)
 refine Zd (fun K hK9 => ?_)
 refine Zf ?_
 refine Za rfl rfl rfl (Zj V3 rfl (RW.here _) hS Xt trivial Zcl) ?_
 obtain ⟨r10, hm11, H⟩ := bind_some H
 refine Zr rfl rfl rfl rfl (by kernel_rfl) rfl (Zfj x1 _ hm11) ?_
 rintro e w ⟨rfl, hN⟩; refine ⟨_, rfl, ?_⟩; have hB := hN.pure; have hS := hS.join hN; clear hN
 refine Za rfl rfl rfl (Yt rfl) ?_
 refine Zb 1 rfl ?_
 refine Zt 8 rfl (fun hb => ?_) (fun hb => ?_)
 ·replace H := Zq H hb
  refine Zb 9 rfl ?_
  refine Zg ?_
  refine Zc hK9 ?_
  refine Zs rfl rfl ?_
  refine Zd (fun K hK12 => ?_)
  refine Zf ?_
  refine Za rfl rfl rfl (Zj Yn rfl (RW.here _) hS Vh trivial Vw) ?_
  refine Zo rfl rfl rfl CellsOf.agg hS ps0 Zdm (by kernel_rfl) rfl (fun w hS hB => ?_)
  refine Zg ?_
  refine Zc hK12 ?_
  refine Zk ?_
  refine Zi ?_
  refine Zl rfl (RV.cell rfl (Z3 Yn hS hs0 Vw) RV.nil) rfl ?_
  obtain rfl := Option.some.inj H
  replace hS := hS.cut 0
  exact ⟨rfl, hS⟩
 replace H := Zp H hb
 refine Za rfl rfl rfl (Zj Yn rfl (RW.here _) hS Vh trivial Vw) ?_
 obtain ⟨r13, hm14, H⟩ := bind_some H
 refine Zr rfl rfl rfl rfl (by kernel_rfl) rfl (Zap x0 _ hm14) ?_
 rintro e w ⟨rfl, hN⟩; refine ⟨_, rfl, ?_⟩; have hB := hN.pure; have hS := hS.join hN; clear hN
 refine Za rfl rfl rfl (Yt rfl) ?_
 refine Zb 2 rfl ?_
 refine Zt 13 rfl (fun hb => ?_) (fun hb => ?_)
 ·replace H := Zq H hb
  refine Zb 4 rfl ?_
  refine Zg ?_
  refine Zc hK9 ?_
  refine Zs rfl rfl ?_
  refine Zd (fun K hK15 => ?_)
  refine Zf ?_
  refine Za rfl rfl rfl (Zj Yn rfl (RW.here _) hS Vh trivial Vw) ?_
  refine Zo rfl rfl rfl CellsOf.agg hS ps0 Zdm (by kernel_rfl) rfl (fun w hS hB => ?_)
  refine Zg ?_
  refine Zc hK15 ?_
  refine Zk ?_
  refine Zi ?_
  refine Zl rfl (RV.cell rfl (Z3 Yn hS hs0 Vw) RV.nil) rfl ?_
  obtain rfl := Option.some.inj H
  replace hS := hS.cut 0
  exact ⟨rfl, hS⟩
 replace H := Zp H hb
 refine Za rfl rfl rfl (Ze Z5 rfl) ?_
 refine Za rfl rfl rfl (Zh Zx rfl (RW.here _) hS Vh trivial Y2) ?_
 refine Za rfl rfl rfl (Zbk rfl rfl) ?_
 refine Zb 1 rfl ?_
 refine Zg ?_
 refine Zc hK9 ?_
 refine Z0 rfl (fun hb => ?_) (fun hb => ?_)
 ·replace H := Zq H hb
  refine Zd (fun K hK16 => ?_)
  refine Zf ?_
  refine Za rfl rfl rfl (Zj Yn rfl (RW.here _) hS Vh trivial Vw) ?_
  refine Zo rfl rfl rfl CellsOf.agg hS ps0 Zdm (by kernel_rfl) rfl (fun w hS hB => ?_)
  refine Zg ?_
  refine Zc hK16 ?_
  refine Zk ?_
  refine Zi ?_
  refine Zl rfl (RV.cell rfl (Z3 Yn hS hs0 Vw) RV.nil) rfl ?_
  obtain rfl := Option.some.inj H
  replace hS := hS.cut 0
  exact ⟨rfl, hS⟩
 replace H := Zp H hb
 refine Zu ?_
 refine Zc hK8 ?_
 refine Zd (fun K hK17 => ?_)
 refine Zf ?_
 refine Za rfl rfl rfl (Ze Z5 rfl) ?_
 refine Za rfl rfl rfl (Zh Zx rfl (RW.here _) hS Vh trivial Y2) ?_
 refine Za rfl rfl rfl (X1 rfl rfl) ?_
 refine Za rfl rfl rfl (Ze Z5 rfl) ?_
 refine Zo rfl rfl rfl CellsOf.int hS ps2 st0_1 (by kernel_rfl) rfl (fun w hS hB => ?_)
 refine Zg ?_
 refine Zc hK17 ?_
 refine Zd (fun K hK18 => ?_)
 refine Zf ?_
 refine Za rfl rfl rfl (Ze Zaz rfl) ?_
 refine Za rfl rfl rfl (Zh Zx rfl (RW.here _) hS Xt trivial Y2) ?_
 refine Za rfl rfl rfl (Ze V7 rfl) ?_
 refine Zo rfl rfl rfl CellsOf.int hS ps2 st1_1 (by kernel_rfl) rfl (fun w hS hB => ?_)
 refine Zg ?_
 refine Zc hK18 ?_
 refine Zd (fun K hK19 => ?_)
 refine Zd (fun K hK20 => ?_)
 refine Zf ?_
 refine Za rfl rfl rfl (Ze fo_46_1 rfl) ?_
 refine Za rfl rfl rfl (Zh Zx rfl (RW.here _) hS Xt trivial Vn) ?_
 refine Zg ?_
 refine Zc hK20 ?_
 refine Yj ?_
 refine Zd (fun K hK21 => ?_)
 refine Zf ?_
 refine Za rfl rfl rfl (Yy rfl rfl) ?_
 refine Zb 1 rfl ?_
 refine Zg ?_
 refine Zc hK21 ?_
 refine Z0 rfl (fun hb => ?_) (fun hb => ?_)
 ·replace H := Zq H hb
  refine Zf ?_
  refine Za rfl rfl rfl (Ze fo_23_2 rfl) ?_
  refine Za rfl rfl rfl (Zh Zx rfl (RW.here _) hS Vh trivial J9) ?_
  refine Za rfl rfl rfl (yx_mul rfl rfl) ?_
  refine Za rfl rfl rfl (Ze fo_46_2 rfl) ?_
  refine Za rfl rfl rfl (Zh Zx rfl (RW.here _) hS Xt trivial J9) ?_
  refine Za rfl rfl rfl (X1 rfl rfl) ?_
  refine Za rfl rfl rfl (X1 rfl rfl) ?_
  refine Za rfl rfl rfl (yx_rem rfl rfl (by decide)) ?_
  refine Za rfl rfl rfl (Ze fo_23_2 rfl) ?_
  refine Zo rfl rfl rfl CellsOf.int hS ps2 st2_1 (by kernel_rfl) rfl (fun w hS hB => ?_)
  refine Zg ?_
  refine Z1 ?_
  refine Zc hK19 ?_
  refine Zd (fun K hK22 => ?_)
  refine Zf ?_
  refine Za rfl rfl rfl (Zj Yn rfl (RW.here _) hS Vh trivial Vw) ?_
  refine Zo rfl rfl rfl CellsOf.agg hS ps0 Zdm (by kernel_rfl) rfl (fun w hS hB => ?_)
  refine Zg ?_
  refine Zc hK22 ?_
  refine Zk ?_
  refine Zl rfl (RV.cell rfl (Z3 Yn hS hs0 Vw) RV.nil) rfl ?_
  obtain rfl := Option.some.inj H
  replace hS := hS.cut 0
  exact ⟨rfl, hS⟩
 replace H := Zp H hb
 refine Zd (fun K hK23 => ?_)
 refine Zf ?_
 refine Za rfl rfl rfl (Yy rfl rfl) ?_
 refine Zb 1 rfl ?_
 refine Zg ?_
 refine Zc hK23 ?_
 refine Z0 rfl (fun hb => ?_) (fun hb => ?_)
 ·replace H := Zq H hb
  refine Zf ?_
  refine Za rfl rfl rfl (Ze Zd6 rfl) ?_
  refine Zo rfl rfl rfl CellsOf.int hS ps2 st3_1 (by kernel_rfl) rfl (fun w hS hB => ?_)
  refine Zg ?_
  refine Z1 ?_
  refine Zc hK19 ?_
  refine Zd (fun K hK24 => ?_)
  refine Zf ?_
  refine Za rfl rfl rfl (Zj Yn rfl (RW.here _) hS Vh trivial Vw) ?_
  refine Zo rfl rfl rfl CellsOf.agg hS ps0 Zdm (by kernel_rfl) rfl (fun w hS hB => ?_)
  refine Zg ?_
  refine Zc hK24 ?_
  refine Zk ?_
  refine Zl rfl (RV.cell rfl (Z3 Yn hS hs0 Vw) RV.nil) rfl ?_
  obtain rfl := Option.some.inj H
  replace hS := hS.cut 0
  exact ⟨rfl, hS⟩
 replace H := Zp H hb
 refine Zd (fun K hK25 => ?_)
 refine Zf ?_
 refine Za rfl rfl rfl (Yy rfl rfl) ?_
 refine Zb 1 rfl ?_
 refine Zg ?_
 refine Zc hK25 ?_
 refine Z0 rfl (fun hb => ?_) (fun hb => ?_)
 ·replace H := Zq H hb
  refine Zd (fun K hK26 => ?_)
  refine Zf ?_
  refine Za rfl rfl rfl (Ze fo_23_4 rfl) ?_
  refine Za rfl rfl rfl (Zh sc_4 rfl (RW.here _) hS Vh trivial Zeg) ?_
  refine Za rfl rfl rfl (Yt rfl) ?_
  refine Zg ?_
  refine Zc hK26 ?_
  refine Z0 rfl (fun hb => ?_) (fun hb => ?_)
  rotate_left
  ·replace H := Zp H hb
   refine Zu ?_
   refine Z1 ?_
   refine Zc hK19 ?_
   refine Zd (fun K hK28 => ?_)
   refine Zf ?_
   refine Za rfl rfl rfl (Zj Yn rfl (RW.here _) hS Vh trivial Vw) ?_
   refine Zo rfl rfl rfl CellsOf.agg hS ps0 Zdm (by kernel_rfl) rfl (fun w hS hB => ?_)
   refine Zg ?_
   refine Zc hK28 ?_
   refine Zk ?_
   refine Zl rfl (RV.cell rfl (Z3 Yn hS hs0 Vw) RV.nil) rfl ?_
   obtain rfl := Option.some.inj H
   replace hS := hS.cut 0
   exact ⟨rfl, hS⟩
  replace H := Zq H hb
  refine Zf ?_
  refine Za rfl rfl rfl (Ze Zd6 rfl) ?_
  refine Zo rfl rfl rfl CellsOf.int hS ps2 st3_1 (by kernel_rfl) rfl (fun w hS hB => ?_)
  refine Zg ?_
  refine Z1 ?_
  refine Zc hK19 ?_
  refine Zd (fun K hK27 => ?_)
  refine Zf ?_
  refine Za rfl rfl rfl (Zj Yn rfl (RW.here _) hS Vh trivial Vw) ?_
  refine Zo rfl rfl rfl CellsOf.agg hS ps0 Zdm (by kernel_rfl) rfl (fun w hS hB => ?_)
  refine Zg ?_
  refine Zc hK27 ?_
  refine Zk ?_
  refine Zl rfl (RV.cell rfl (Z3 Yn hS hs0 Vw) RV.nil) rfl ?_
  obtain rfl := Option.some.inj H
  replace hS := hS.cut 0
  exact ⟨rfl, hS⟩
 replace H := Zp H hb
 refine Zd (fun K hK29 => ?_)
 refine Zf ?_
 refine Za rfl rfl rfl (Yy rfl rfl) ?_
 refine Zb 1 rfl ?_
 refine Zg ?_
 refine Zc hK29 ?_
 refine Z0 rfl (fun hb => ?_) (fun hb => ?_)
 rotate_left
 ·replace H := Zp H hb
  refine Zu ?_
  refine Z1 ?_
  refine Zc hK19 ?_
  refine Zd (fun K hK31 => ?_)
  refine Zf ?_
  refine Za rfl rfl rfl (Zj Yn rfl (RW.here _) hS Vh trivial Vw) ?_
  refine Zo rfl rfl rfl CellsOf.agg hS ps0 Zdm (by kernel_rfl) rfl (fun w hS hB => ?_)
  refine Zg ?_
  refine Zc hK31 ?_
  refine Zk ?_
  refine Zl rfl (RV.cell rfl (Z3 Yn hS hs0 Vw) RV.nil) rfl ?_
  obtain rfl := Option.some.inj H
  replace hS := hS.cut 0
  exact ⟨rfl, hS⟩
 replace H := Zq H hb
 refine Zf ?_
 refine Za rfl rfl rfl (Ze Zd6 rfl) ?_
 refine Za rfl rfl rfl (Zh Zx rfl (RW.here _) hS Vh trivial Zag) ?_
 refine Za rfl rfl rfl (Yy rfl rfl) ?_
 refine Za rfl rfl rfl (Ze fo_23_4 rfl) ?_
 refine Zo rfl rfl rfl CellsOf.bool hS ps2 st4_1 (by kernel_rfl) rfl (fun w hS hB => ?_)
 refine Zg ?_
 refine Z1 ?_
 refine Zc hK19 ?_
 refine Zd (fun K hK30 => ?_)
 refine Zf ?_
 refine Za rfl rfl rfl (Zj Yn rfl (RW.here _) hS Vh trivial Vw) ?_
 refine Zo rfl rfl rfl CellsOf.agg hS ps0 Zdm (by kernel_rfl) rfl (fun w hS hB => ?_)
 refine Zg ?_
 refine Zc hK30 ?_
 refine Zk ?_
 refine Zl rfl (RV.cell rfl (Z3 Yn hS hs0 Vw) RV.nil) rfl ?_
 obtain rfl := Option.some.inj H
 replace hS := hS.cut 0
 exact ⟨rfl, hS⟩
theorem c_ref06_All (x0 : St) (x1 : List En) (A0_ : Option Addr) (c0_ : Nat) (w0 : World) (s0_ : SlI w0 Jv A0_ c0_ x1) {r : St} (H : Zfa x0 x1 = some r) : Calls Try.prog 47 #[.agg #[.int .i64 x0.index, .int .i64 x0.term, .int .i64 x0.sum, .int .i64 x0.level, .bool x0.final], .slice A0_ x1.length c0_] w0 fun e w' => e = .returned (.agg #[.int .i64 r.index, .int .i64 r.term, .int .i64 r.sum, .int .i64 r.level, .bool r.final]) ∧ St0 All w0 w' [] := by
 unfold Zfa at H
 refine Yw Try.func47 rfl Try.ntmps47 rfl ?_
 have hS := St0.start All w0
 refine Zd (fun K hK1 => ?_)
 refine Zf ?_
 refine Z9 rfl rfl rfl CellsOf.agg hS (fun b2 w hS hB => ?_)
 refine Z6 rfl rfl zc_23 hS (fun b4 w hS hB => ?_)
 refine Zg ?_
 refine Zc hK1 ?_
 refine Zd (fun K hK6 => ?_)
 refine Zd (fun K hK7 => ?_)
 refine Zf ?_
 refine Zb 1 rfl ?_
 refine Zg ?_
 refine Zc hK7 ?_
 refine Yj ?_
 refine Jq (X := Nat × Int × Int × Int × Int × Int × Bool) (fun x => (1, .slice A0_ x1.length c0_) :: (2, .pointer (some ⟨b2, 0, none⟩)) :: (4, .pointer (some ⟨b4, 0, none⟩)) :: (5, .int .i64 x.2.1) :: []) (fun x w => St0 All w0 w (.box b4 [.int .i64 0, .int .i64 0, .int .i64 0, .int .i64 0, .bool false] 23 :: .box b2 [.int .i64 x.2.2.1, .int .i64 x.2.2.2.1, .int .i64 x.2.2.2.2.1, .int .i64 x.2.2.2.2.2.1, .bool x.2.2.2.2.2.2] 23 :: []) ∧ Zad x1 x.1 x.2.1 x.2.2.1 x.2.2.2.1 x.2.2.2.2.1 x.2.2.2.2.2.1 x.2.2.2.2.2.2 = some r) (fun x => x.1) (X6, 0, x0.index, x0.term, x0.sum, x0.level, x0.final) (by repeat (first | exact Sub.nil | refine Sub.cons rfl ?_)) ⟨hS, H⟩ ?_
 rintro ⟨n, v8, v9, v10, v11, v12, v13⟩ w ⟨hS, H⟩
 dsimp only at hS H ⊢
 obtain _ | n := n
 ·have H0 : none = some r := H
  cases H0
 rw [Zad] at H
 refine Zd (fun K hK14 => ?_)
 refine Zd (fun K hK15 => ?_)
 refine Zf ?_
 refine Zb 2 rfl ?_
 refine Za rfl rfl rfl (Y1 Va rfl) ?_
 refine Za rfl rfl rfl (Xv rfl rfl) ?_
 refine Zg ?_
 refine Zc hK15 ?_
 refine Z0 rfl (fun hb => ?_) (fun hb => ?_)
 rotate_left
 ·replace H := Zp H hb
  refine Vo ?_
  refine Ye ?_
  refine Ye ?_
  refine Xf ?_
  refine Zc hK6 ?_
  refine Zd (fun K hK22 => ?_)
  refine Zf ?_
  refine Za rfl rfl rfl (Zj Yn rfl (RW.here _) hS Xt trivial Vw) ?_
  refine Zo rfl rfl rfl CellsOf.agg hS ps0 Zdm (by kernel_rfl) rfl (fun w hS hB => ?_)
  refine Zg ?_
  refine Zc hK22 ?_
  refine Zk ?_
  refine Zl rfl (RV.cell rfl (Z3 Yn hS hs0 Vw) RV.nil) rfl ?_
  obtain rfl := Option.some.inj H
  replace hS := hS.cut 0
  exact ⟨rfl, hS⟩
 replace H := Zq H hb
 refine Zu ?_
 refine Zc hK14 ?_
 refine Zd (fun K hK16 => ?_)
 refine Yj ?_
 refine Yo 7 [6] (fun i b => (i = 6 → b ≠ b2)) ⟨by kernel_rfl, by kernel_rfl⟩ hS (fun w hS hB => ?_)
 refine Zm [true, true, true, true, true] (by decide +kernel) (by repeat (first | exact PF.body | exact PF.round | apply PF.then | apply PF.inBlock | apply PF.jump)) ?_
 refine LtK.put rfl rfl rfl (Zj Yn rfl (RW.below _) hS Xt trivial Vw) ?_
 refine LtK.put rfl rfl rfl (Zn rfl) ?_
 refine LtK.put rfl rfl rfl (Zn rfl) ?_
 obtain ⟨e17, hi19, H⟩ := bind_some H
 obtain ⟨j18, hi19a, hi19b, hi19c⟩ := Y9 hi19
 refine LtK.put rfl rfl rfl (Xo Va rfl rfl hi19a hi19c (Rd.el (hS.rd0 s0_.rd) Vi hi19b)) ?_
 refine LtK.put rfl rfl rfl (Zei V3 rfl (RW.below _) (Rd.el (hS.rd0 s0_.rd) Vi hi19b) Zcl) ?_
 refine LtK.nil ?_
 refine Z7 [false, false, false, false, false, true] 5 ⟨by decide, by kernel_rfl, by kernel_rfl⟩ rfl rfl ?_
 try dsimp only [Z2]
 obtain ⟨r20, hm21, H⟩ := bind_some H
 refine Zr rfl rfl rfl rfl (by kernel_rfl) rfl (c_ref06_Next (⟨v9, v10, v11, v12, v13⟩ : St) e17 _ hm21) ?_
 rintro e w ⟨rfl, hN⟩; refine ⟨_, rfl, ?_⟩; have hB := hN.pure; have hS := hS.join hN; clear hN
 refine Zg ?_
 refine Yf hB ?_
 refine Xh [false, false, false, false, false, false, true] 6 ⟨by decide, by kernel_rfl, by kernel_rfl⟩ rfl rfl ?_
 try dsimp only [Z2]
 refine Zo rfl rfl rfl CellsOf.agg hS ps1 Zdm (by kernel_rfl) rfl (fun w hS hB => ?_)
 refine Zg ?_
 refine Xc (hB.sub (fun _ _ h => by simpa using h)) ?_
 refine Z8 (by kernel_rfl) ?_
 refine Z1 ?_
 refine Zc hK16 ?_
 refine Zf ?_
 refine Zb 1 rfl ?_
 refine Za rfl rfl rfl (X1 rfl rfl) ?_
 refine Zb 1 rfl ?_
 refine Zg ?_
 exact Vp (n, (IntKind.wrap .i64 (v8 + 1)), r20.index, r20.term, r20.sum, r20.level, r20.final) (by repeat (first | exact Sub.nil | refine Sub.cons rfl ?_)) ⟨hS, H⟩ (Nat.lt_succ_self _)
theorem c_ref12_State (x0 : Tu) (x1 : Int) (A0_ : Option Addr) (c0_ : Nat) (w0 : World) (s0_ : SlI w0 Jv A0_ c0_ x0.log) {r : St × Bool} (H : Zbg x0 x1 = some r) : Calls Try.prog 23 #[.agg #[.int .i64 x0.snap.index, .int .i64 x0.snap.term, .int .i64 x0.snap.sum, .int .i64 x0.snap.level, .bool x0.snap.final, .slice A0_ x0.log.length c0_, .int .i64 x0.term, .int .i64 x0.vote], .int .i64 x1] w0 fun e w' => e = .returned (.tuple #[.agg #[.int .i64 r.1.index, .int .i64 r.1.term, .int .i64 r.1.sum, .int .i64 r.1.level, .bool r.1.final], .bool r.2]) ∧ St0 All w0 w' [] := by
 unfold Zbg at H
 refine Yw Try.func23 rfl Try.ntmps23 rfl ?_
 have hS := St0.start All w0
 refine Zd (fun K hK1 => ?_)
 refine Zf ?_
 refine Z9 rfl rfl rfl CellsOf.agg hS (fun b2 w hS hB => ?_)
 refine Z6 rfl rfl zc_23 hS (fun b4 w hS hB => ?_)
 refine Zb 1 rfl ?_
 refine Zg ?_
 refine Zc hK1 ?_
 refine Zd (fun K hK6 => ?_)
 refine Zd (fun K hK7 => ?_)
 refine Zf ?_
 refine Zb 1 rfl ?_
 refine Za rfl rfl rfl (Ze Yx rfl) ?_
 refine Za rfl rfl rfl (Ze Z5 rfl) ?_
 refine Za rfl rfl rfl (Zh Zx rfl (RW.here _) hS Xt trivial Y2) ?_
 refine Za rfl rfl rfl (Xv rfl rfl) ?_
 refine Zb 1 rfl ?_
 refine Zt 11 rfl (fun hb => ?_) (fun hb => ?_)
 ·replace H := Zq H hb
  refine Zb 5 rfl ?_
  refine Zg ?_
  refine Zc hK7 ?_
  refine Zs rfl rfl ?_
  refine Zd (fun K hK8 => ?_)
  refine Zf ?_
  refine Za rfl rfl rfl (Xx (cells := [.int .i64 0, .int .i64 0, .int .i64 0, .int .i64 0, .bool false]) rfl (by kernel_rfl)) ?_
  refine Zo rfl rfl rfl CellsOf.agg hS ps0 Zdm (by kernel_rfl) rfl (fun w hS hB => ?_)
  refine Zb 1 rfl ?_
  refine Zg ?_
  refine Zc hK8 ?_
  refine Zk ?_
  refine Zi ?_
  refine Zl rfl (RV.cell rfl (Z3 Yn hS hs0 Vw) (RV.tmp rfl RV.nil)) rfl ?_
  obtain rfl := Option.some.inj H
  replace hS := hS.cut 0
  exact ⟨rfl, hS⟩
 replace H := Zp H hb
 refine Zb 1 rfl ?_
 refine Za rfl rfl rfl (Zj Xg rfl (RW.here _) hS Xt trivial Zfp) ?_
 obtain ⟨r9, hm10, H⟩ := bind_some H
 refine Zr rfl rfl rfl rfl (by kernel_rfl) rfl (Za7 x0 A0_ c0_ _ (SlI.of_rd s0_.k (hS.rd0 s0_.rd) (hS.blk0 s0_.blk)) hm10) ?_
 rintro e w ⟨rfl, hN⟩; refine ⟨_, rfl, ?_⟩; have hB := hN.pure; have hS := hS.join hN; clear hN
 refine Za rfl rfl rfl (Xa rfl rfl) ?_
 refine Zb 1 rfl ?_
 refine Zg ?_
 refine Zc hK7 ?_
 refine Z0 rfl (fun hb => ?_) (fun hb => ?_)
 ·replace H := Zq H hb
  refine Zd (fun K hK11 => ?_)
  refine Zf ?_
  refine Za rfl rfl rfl (Xx (cells := [.int .i64 0, .int .i64 0, .int .i64 0, .int .i64 0, .bool false]) rfl (by kernel_rfl)) ?_
  refine Zo rfl rfl rfl CellsOf.agg hS ps0 Zdm (by kernel_rfl) rfl (fun w hS hB => ?_)
  refine Zb 1 rfl ?_
  refine Zg ?_
  refine Zc hK11 ?_
  refine Zk ?_
  refine Zi ?_
  refine Zl rfl (RV.cell rfl (Z3 Yn hS hs0 Vw) (RV.tmp rfl RV.nil)) rfl ?_
  obtain rfl := Option.some.inj H
  replace hS := hS.cut 0
  exact ⟨rfl, hS⟩
 replace H := Zp H hb
 refine Zu ?_
 refine Zc hK6 ?_
 refine Zd (fun K hK12 => ?_)
 refine Yo 13 [11] (fun i b => (i = 11 → b ≠ b4)) ⟨by kernel_rfl, by kernel_rfl⟩ hS (fun w hS hB => ?_)
 refine Zm [true, true, true, true, true, true, true, true, true, true] (by decide +kernel) (by repeat (first | exact PF.body | exact PF.round | apply PF.then | apply PF.inBlock | apply PF.jump)) ?_
 refine LtK.put rfl rfl rfl (Ze Yx rfl) ?_
 refine LtK.put rfl rfl rfl (Zj Yn rfl (RW.below _) hS Xt trivial Vw) ?_
 refine LtK.put rfl rfl rfl (Ze X5 rfl) ?_
 refine LtK.put rfl rfl rfl (Zh V8 rfl (RW.below _) hS Xt trivial Zdw) ?_
 refine LtK.put rfl rfl rfl (Zn rfl) ?_
 refine LtK.put rfl rfl rfl (Ze Yx rfl) ?_
 refine LtK.put rfl rfl rfl (Ze Z5 rfl) ?_
 refine LtK.put rfl rfl rfl (Zh Zx rfl (RW.below _) hS Xt trivial Y2) ?_
 refine LtK.put rfl rfl rfl (Zct rfl rfl) ?_
 obtain ⟨l13, ht14, H⟩ := bind_some H
 refine LtK.put rfl rfl rfl (yx_slice_h Va rfl rfl s0_.k.1 ht14) ?_
 refine LtK.nil ?_
 refine Z7 [false, false, false, false, false, false, false, false, false, false, true] 10 ⟨by decide, by kernel_rfl, by kernel_rfl⟩ rfl rfl ?_
 try dsimp only [Z2]
 obtain ⟨r15, hm16, H⟩ := bind_some H
 refine Zr rfl rfl rfl rfl (by kernel_rfl) rfl (c_ref06_All x0.snap l13 A0_ c0_ _ (SlI.of_rd (k_take s0_.k ht14) (Rd.takeI Vi (hS.rd0 s0_.rd) ht14) (hS.blk0 s0_.blk)) hm16) ?_
 rintro e w ⟨rfl, hN⟩; refine ⟨_, rfl, ?_⟩; have hB := hN.pure; have hS := hS.join hN; clear hN
 refine Zg ?_
 refine Yf hB ?_
 refine Xh [false, false, false, false, false, false, false, false, false, false, false, true] 11 ⟨by decide, by kernel_rfl, by kernel_rfl⟩ rfl rfl ?_
 try dsimp only [Z2]
 refine Zo rfl rfl rfl CellsOf.agg hS ps0 Zdm (by kernel_rfl) rfl (fun w hS hB => ?_)
 refine Zg ?_
 refine Xc (hB.sub (fun _ _ h => by simpa using h)) ?_
 refine Zm [false, false, false, false, false, false, false, false, false, false, false, false, true] (by decide +kernel) (by repeat (first | exact PF.body | exact PF.round | apply PF.then | apply PF.inBlock | apply PF.jump)) ?_
 refine LtK.put rfl rfl rfl (Z4 rfl) ?_
 refine LtK.nil ?_
 refine Z8 (by kernel_rfl) ?_
 refine Zc hK12 ?_
 refine Zk ?_
 refine Zl rfl (RV.cell rfl (Z3 Yn hS hs0 Vw) (RV.tmp rfl RV.nil)) rfl ?_
 obtain rfl := Option.some.inj H
 replace hS := hS.cut 0
 exact ⟨rfl, hS⟩
theorem Zd9 (x0 : Co) (A0_ : Option Addr) (c0_ : Nat) (A1_ : Option Addr) (c1_ : Nat) (A2_ : Option Addr) (c2_ : Nat) (A3_ : Option Addr) (c3_ : Nat) (A4_ : Option Addr) (c4_ : Nat) (w0 : World) (s0_ : SlI w0 Jv A0_ c0_ x0.tuple.log) (s1_ : SlI w0 enO A1_ c1_ x0.votes) (s2_ : SlI w0 Vu A2_ c2_ x0.next) (s3_ : SlI w0 Vu A3_ c3_ x0.mtch) (s4_ : SlI w0 Vu A4_ c4_ x0.caps) {r : Bool} (H : J7 x0 = some r) : Calls Try.prog 8 #[.agg #[.int .i64 x0.id, .int .i64 x0.n, .int .u8 x0.role, .int .i64 x0.binary, .int .i64 x0.tuple.snap.index, .int .i64 x0.tuple.snap.term, .int .i64 x0.tuple.snap.sum, .int .i64 x0.tuple.snap.level, .bool x0.tuple.snap.final, .slice A0_ x0.tuple.log.length c0_, .int .i64 x0.tuple.term, .int .i64 x0.tuple.vote, .int .i64 x0.commit, .int .i64 x0.applied.index, .int .i64 x0.applied.term, .int .i64 x0.applied.sum, .int .i64 x0.applied.level, .bool x0.applied.final, .slice A1_ x0.votes.length c1_, .slice A2_ x0.next.length c2_, .slice A3_ x0.mtch.length c3_, .slice A4_ x0.caps.length c4_]] w0 fun e w' => e = .returned (.bool r) ∧ St0 All w0 w' [] := by
 unfold J7 at H
 refine Yl Try.func8 rfl Try.ntmps8 rfl ?_
 have hS := St0.start All w0
 refine Zd (fun K hK1 => ?_)
 refine Zf ?_
 refine Z9 rfl rfl rfl CellsOf.agg hS (fun b2 w hS hB => ?_)
 refine Zb 1 rfl ?_
 refine Zg ?_
 refine Zc hK1 ?_
 refine Zd (fun K hK4 => ?_)
 refine Zd (fun K hK5 => ?_)
 refine Zf ?_
 refine Za rfl rfl rfl (Ze Vy rfl) ?_
 refine Za rfl rfl rfl (Zh Zx rfl (RW.here _) hS hs0 trivial Vn) ?_
 refine Za rfl rfl rfl (Xv rfl rfl) ?_
 refine Zb 1 rfl ?_
 refine Zt 10 rfl (fun hb => ?_) (fun hb => ?_)
 ·replace H := Zq H hb
  refine Zb 37 rfl ?_
  refine Zg ?_
  refine Zc hK5 ?_
  refine Zs rfl rfl ?_
  refine Zd (fun K hK6 => ?_)
  refine Zf ?_
  refine Zb 1 rfl ?_
  refine Zg ?_
  refine Zc hK6 ?_
  refine Zk ?_
  refine Zi ?_
  refine Zl rfl (RV.tmp rfl RV.nil) rfl ?_
  obtain rfl := Option.some.inj H
  replace hS := hS.cut 0
  exact ⟨rfl, hS⟩
 replace H := Zp H hb
 refine Za rfl rfl rfl (Ze Vy rfl) ?_
 refine Za rfl rfl rfl (Zh Zx rfl (RW.here _) hS hs0 trivial Vn) ?_
 refine Za rfl rfl rfl (Xa rfl rfl) ?_
 refine Zb 2 rfl ?_
 refine Zt 15 rfl (fun hb => ?_) (fun hb => ?_)
 ·replace H := Zq H hb
  refine Zb 32 rfl ?_
  refine Zg ?_
  refine Zc hK5 ?_
  refine Zs rfl rfl ?_
  refine Zd (fun K hK7 => ?_)
  refine Zf ?_
  refine Zb 1 rfl ?_
  refine Zg ?_
  refine Zc hK7 ?_
  refine Zk ?_
  refine Zi ?_
  refine Zl rfl (RV.tmp rfl RV.nil) rfl ?_
  obtain rfl := Option.some.inj H
  replace hS := hS.cut 0
  exact ⟨rfl, hS⟩
 replace H := Zp H hb
 refine Za rfl rfl rfl (Ze Ji rfl) ?_
 refine Za rfl rfl rfl (Zh Zx rfl (RW.here _) hS hs0 trivial Y2) ?_
 refine Za rfl rfl rfl (Xv rfl rfl) ?_
 refine Zb 2 rfl ?_
 refine Zt 20 rfl (fun hb => ?_) (fun hb => ?_)
 ·replace H := Zq H hb
  refine Zb 27 rfl ?_
  refine Zg ?_
  refine Zc hK5 ?_
  refine Zs rfl rfl ?_
  refine Zd (fun K hK8 => ?_)
  refine Zf ?_
  refine Zb 1 rfl ?_
  refine Zg ?_
  refine Zc hK8 ?_
  refine Zk ?_
  refine Zi ?_
  refine Zl rfl (RV.tmp rfl RV.nil) rfl ?_
  obtain rfl := Option.some.inj H
  replace hS := hS.cut 0
  exact ⟨rfl, hS⟩
 replace H := Zp H hb
 refine Za rfl rfl rfl (Ze Ji rfl) ?_
 refine Za rfl rfl rfl (Zh Zx rfl (RW.here _) hS hs0 trivial Y2) ?_
 refine Za rfl rfl rfl (Ze Vy rfl) ?_
 refine Za rfl rfl rfl (Zh Zx rfl (RW.here _) hS hs0 trivial Vn) ?_
 refine Za rfl rfl rfl (Xa rfl rfl) ?_
 refine Zb 2 rfl ?_
 refine Zt 27 rfl (fun hb => ?_) (fun hb => ?_)
 ·replace H := Zq H hb
  refine Zb 20 rfl ?_
  refine Zg ?_
  refine Zc hK5 ?_
  refine Zs rfl rfl ?_
  refine Zd (fun K hK9 => ?_)
  refine Zf ?_
  refine Zb 1 rfl ?_
  refine Zg ?_
  refine Zc hK9 ?_
  refine Zk ?_
  refine Zi ?_
  refine Zl rfl (RV.tmp rfl RV.nil) rfl ?_
  obtain rfl := Option.some.inj H
  replace hS := hS.cut 0
  exact ⟨rfl, hS⟩
 replace H := Zp H hb
 refine Za rfl rfl rfl (Ze J6 rfl) ?_
 refine Za rfl rfl rfl (Zh Zai rfl (RW.here _) hS hs0 trivial J9) ?_
 refine Za rfl rfl rfl (Xa rfl rfl) ?_
 refine Zb 2 rfl ?_
 refine Zt 32 rfl (fun hb => ?_) (fun hb => ?_)
 ·replace H := Zq H hb
  refine Zb 15 rfl ?_
  refine Zg ?_
  refine Zc hK5 ?_
  refine Zs rfl rfl ?_
  refine Zd (fun K hK10 => ?_)
  refine Zf ?_
  refine Zb 1 rfl ?_
  refine Zg ?_
  refine Zc hK10 ?_
  refine Zk ?_
  refine Zi ?_
  refine Zl rfl (RV.tmp rfl RV.nil) rfl ?_
  obtain rfl := Option.some.inj H
  replace hS := hS.cut 0
  exact ⟨rfl, hS⟩
 replace H := Zp H hb
 refine Za rfl rfl rfl (Ze Zdj rfl) ?_
 refine Za rfl rfl rfl (Zh Zx rfl (RW.here _) hS hs0 trivial Zag) ?_
 refine Za rfl rfl rfl (Xv rfl rfl) ?_
 refine Zb 2 rfl ?_
 refine Zt 37 rfl (fun hb => ?_) (fun hb => ?_)
 ·replace H := Zq H hb
  refine Zb 10 rfl ?_
  refine Zg ?_
  refine Zc hK5 ?_
  refine Zs rfl rfl ?_
  refine Zd (fun K hK11 => ?_)
  refine Zf ?_
  refine Zb 1 rfl ?_
  refine Zg ?_
  refine Zc hK11 ?_
  refine Zk ?_
  refine Zi ?_
  refine Zl rfl (RV.tmp rfl RV.nil) rfl ?_
  obtain rfl := Option.some.inj H
  replace hS := hS.cut 0
  exact ⟨rfl, hS⟩
 replace H := Zp H hb
 refine Za rfl rfl rfl (Ze Zdj rfl) ?_
 refine Za rfl rfl rfl (Zh Zx rfl (RW.here _) hS hs0 trivial Zag) ?_
 refine Za rfl rfl rfl (Xa rfl rfl) ?_
 refine Zb 2 rfl ?_
 refine Zt 42 rfl (fun hb => ?_) (fun hb => ?_)
 ·replace H := Zq H hb
  refine Zb 5 rfl ?_
  refine Zg ?_
  refine Zc hK5 ?_
  refine Zs rfl rfl ?_
  refine Zd (fun K hK12 => ?_)
  refine Zf ?_
  refine Zb 1 rfl ?_
  refine Zg ?_
  refine Zc hK12 ?_
  refine Zk ?_
  refine Zi ?_
  refine Zl rfl (RV.tmp rfl RV.nil) rfl ?_
  obtain rfl := Option.some.inj H
  replace hS := hS.cut 0
  exact ⟨rfl, hS⟩
 replace H := Zp H hb
 refine Za rfl rfl rfl (Ze Yu rfl) ?_
 refine Za rfl rfl rfl (Zj Xg rfl (RW.here _) hS hs0 trivial Zbl) ?_
 obtain ⟨r13, hm14, H⟩ := bind_some H
 refine Zr rfl rfl rfl rfl (by kernel_rfl) rfl (c_ref12_Right x0.tuple A0_ c0_ _ (SlI.of_rd s0_.k (hS.rd0 s0_.rd) (hS.blk0 s0_.blk)) hm14) ?_
 rintro e w ⟨rfl, hN⟩; refine ⟨_, rfl, ?_⟩; have hB := hN.pure; have hS := hS.join hN; clear hN
 refine Za rfl rfl rfl (Yt rfl) ?_
 refine Zb 1 rfl ?_
 refine Zg ?_
 refine Zc hK5 ?_
 refine Z0 rfl (fun hb => ?_) (fun hb => ?_)
 ·replace H := Zq H hb
  refine Zd (fun K hK15 => ?_)
  refine Zf ?_
  refine Zb 1 rfl ?_
  refine Zg ?_
  refine Zc hK15 ?_
  refine Zk ?_
  refine Zi ?_
  refine Zl rfl (RV.tmp rfl RV.nil) rfl ?_
  obtain rfl := Option.some.inj H
  replace hS := hS.cut 0
  exact ⟨rfl, hS⟩
 replace H := Zp H hb
 refine Zu ?_
 refine Zc hK4 ?_
 refine Zd (fun K hK16 => ?_)
 refine Zf ?_
 refine Za rfl rfl rfl (Ze Yu rfl) ?_
 refine Za rfl rfl rfl (Zj Xg rfl (RW.here _) hS hs0 trivial Zbl) ?_
 refine Za rfl rfl rfl (Ze Zah rfl) ?_
 refine Za rfl rfl rfl (Zh Zx rfl (RW.here _) hS hs0 trivial Zbs) ?_
 obtain ⟨r17, hm18, H⟩ := bind_some H
 refine Zr rfl rfl rfl rfl (by kernel_rfl) rfl (c_ref12_State x0.tuple x0.commit A0_ c0_ _ (SlI.of_rd s0_.k (hS.rd0 s0_.rd) (hS.blk0 s0_.blk)) hm18) ?_
 rintro e w ⟨rfl, hN⟩; refine ⟨_, rfl, ?_⟩; have hB := hN.pure; have hS := hS.join hN; clear hN
 refine Zb 1 rfl ?_
 refine Za rfl rfl rfl (Ya rfl rfl) ?_
 refine Za rfl rfl rfl (Ya rfl rfl) ?_
 refine Z6 rfl rfl zc_23 hS (fun b19 w hS hB => ?_)
 refine Zo rfl rfl rfl CellsOf.agg hS ps0 Zdm (by kernel_rfl) rfl (fun w hS hB => ?_)
 refine Zb 1 rfl ?_
 refine Zg ?_
 refine Zc hK16 ?_
 refine Zd (fun K hK21 => ?_)
 refine Zd (fun K hK22 => ?_)
 refine Zf ?_
 refine Zb 1 rfl ?_
 refine Za rfl rfl rfl (Yt rfl) ?_
 refine Zb 1 rfl ?_
 refine Zt 58 rfl (fun hb => ?_) (fun hb => ?_)
 ·replace H := Zq H hb
  refine Zb 37 rfl ?_
  refine Zg ?_
  refine Zc hK22 ?_
  refine Zs rfl rfl ?_
  refine Zd (fun K hK23 => ?_)
  refine Zf ?_
  refine Zb 1 rfl ?_
  refine Zg ?_
  refine Zc hK23 ?_
  refine Zk ?_
  refine Zi ?_
  refine Zl rfl (RV.tmp rfl RV.nil) rfl ?_
  obtain rfl := Option.some.inj H
  replace hS := hS.cut 0
  exact ⟨rfl, hS⟩
 replace H := Zp H hb
 refine Za rfl rfl rfl (Zj Yn rfl (RW.here _) hS hs0 trivial Vw) ?_
 refine Za rfl rfl rfl (Ze Zdt rfl) ?_
 refine Za rfl rfl rfl (Zj Yn rfl (RW.here _) hS Xt trivial sg13_5) ?_
 refine Za rfl rfl rfl (yv_neqS (by kernel_rfl) rfl rfl (Jg _ _ _ _ _ _ _ _ _ _)) ?_
 refine Zb 2 rfl ?_
 refine Zt 64 rfl (fun hb => ?_) (fun hb => ?_)
 ·replace H := Zq H hb
  refine Zb 31 rfl ?_
  refine Zg ?_
  refine Zc hK22 ?_
  refine Zs rfl rfl ?_
  refine Zd (fun K hK24 => ?_)
  refine Zf ?_
  refine Zb 1 rfl ?_
  refine Zg ?_
  refine Zc hK24 ?_
  refine Zk ?_
  refine Zi ?_
  refine Zl rfl (RV.tmp rfl RV.nil) rfl ?_
  obtain rfl := Option.some.inj H
  replace hS := hS.cut 0
  exact ⟨rfl, hS⟩
 replace H := Zp H hb
 refine Za rfl rfl rfl (Ze Zbm rfl) ?_
 refine Za rfl rfl rfl (Zh sc_27 rfl (RW.here _) hS Xt trivial Zfe) ?_
 refine Za rfl rfl rfl (Y1 el_27 rfl) ?_
 refine Za rfl rfl rfl (Ze Vy rfl) ?_
 refine Za rfl rfl rfl (Zh Zx rfl (RW.here _) hS Xt trivial Vn) ?_
 refine Za rfl rfl rfl (Xk rfl rfl) ?_
 refine Zb 2 rfl ?_
 refine Zt 72 rfl (fun hb => ?_) (fun hb => ?_)
 ·replace H := Zq H hb
  refine Zb 23 rfl ?_
  refine Zg ?_
  refine Zc hK22 ?_
  refine Zs rfl rfl ?_
  refine Zd (fun K hK25 => ?_)
  refine Zf ?_
  refine Zb 1 rfl ?_
  refine Zg ?_
  refine Zc hK25 ?_
  refine Zk ?_
  refine Zi ?_
  refine Zl rfl (RV.tmp rfl RV.nil) rfl ?_
  obtain rfl := Option.some.inj H
  replace hS := hS.cut 0
  exact ⟨rfl, hS⟩
 replace H := Zp H hb
 refine Za rfl rfl rfl (Ze Zao rfl) ?_
 refine Za rfl rfl rfl (Zh V1 rfl (RW.here _) hS Xt trivial Zdn) ?_
 refine Za rfl rfl rfl (Y1 Vd rfl) ?_
 refine Za rfl rfl rfl (Ze Vy rfl) ?_
 refine Za rfl rfl rfl (Zh Zx rfl (RW.here _) hS Xt trivial Vn) ?_
 refine Za rfl rfl rfl (Xk rfl rfl) ?_
 refine Zb 2 rfl ?_
 refine Zt 80 rfl (fun hb => ?_) (fun hb => ?_)
 ·replace H := Zq H hb
  refine Zb 15 rfl ?_
  refine Zg ?_
  refine Zc hK22 ?_
  refine Zs rfl rfl ?_
  refine Zd (fun K hK26 => ?_)
  refine Zf ?_
  refine Zb 1 rfl ?_
  refine Zg ?_
  refine Zc hK26 ?_
  refine Zk ?_
  refine Zi ?_
  refine Zl rfl (RV.tmp rfl RV.nil) rfl ?_
  obtain rfl := Option.some.inj H
  replace hS := hS.cut 0
  exact ⟨rfl, hS⟩
 replace H := Zp H hb
 refine Za rfl rfl rfl (Ze Zco rfl) ?_
 refine Za rfl rfl rfl (Zh V1 rfl (RW.here _) hS Xt trivial Zfg) ?_
 refine Za rfl rfl rfl (Y1 Vd rfl) ?_
 refine Za rfl rfl rfl (Ze Vy rfl) ?_
 refine Za rfl rfl rfl (Zh Zx rfl (RW.here _) hS Xt trivial Vn) ?_
 refine Za rfl rfl rfl (Xk rfl rfl) ?_
 refine Zb 2 rfl ?_
 refine Zt 88 rfl (fun hb => ?_) (fun hb => ?_)
 ·replace H := Zq H hb
  refine Zb 7 rfl ?_
  refine Zg ?_
  refine Zc hK22 ?_
  refine Zs rfl rfl ?_
  refine Zd (fun K hK27 => ?_)
  refine Zf ?_
  refine Zb 1 rfl ?_
  refine Zg ?_
  refine Zc hK27 ?_
  refine Zk ?_
  refine Zi ?_
  refine Zl rfl (RV.tmp rfl RV.nil) rfl ?_
  obtain rfl := Option.some.inj H
  replace hS := hS.cut 0
  exact ⟨rfl, hS⟩
 replace H := Zp H hb
 refine Za rfl rfl rfl (Ze J3 rfl) ?_
 refine Za rfl rfl rfl (Zh V1 rfl (RW.here _) hS Xt trivial Zc9) ?_
 refine Za rfl rfl rfl (Y1 Vd rfl) ?_
 refine Za rfl rfl rfl (Ze Vy rfl) ?_
 refine Za rfl rfl rfl (Zh Zx rfl (RW.here _) hS Xt trivial Vn) ?_
 refine Za rfl rfl rfl (Xk rfl rfl) ?_
 refine Zb 1 rfl ?_
 refine Zg ?_
 refine Zc hK22 ?_
 refine Z0 rfl (fun hb => ?_) (fun hb => ?_)
 ·replace H := Zq H hb
  refine Zd (fun K hK28 => ?_)
  refine Zf ?_
  refine Zb 1 rfl ?_
  refine Zg ?_
  refine Zc hK28 ?_
  refine Zk ?_
  refine Zi ?_
  refine Zl rfl (RV.tmp rfl RV.nil) rfl ?_
  obtain rfl := Option.some.inj H
  replace hS := hS.cut 0
  exact ⟨rfl, hS⟩
 replace H := Zp H hb
 refine Zu ?_
 refine Zc hK21 ?_
 refine Zd (fun K hK29 => ?_)
 refine Zf ?_
 refine Za rfl rfl rfl (Ze Yu rfl) ?_
 refine Za rfl rfl rfl (Zj Xg rfl (RW.here _) hS Xt trivial Zbl) ?_
 obtain ⟨r30, hm31, H⟩ := bind_some H
 refine Zr rfl rfl rfl rfl (by kernel_rfl) rfl (Za7 x0.tuple A0_ c0_ _ (SlI.of_rd s0_.k (hS.rd0 s0_.rd) (hS.blk0 s0_.blk)) hm31) ?_
 rintro e w ⟨rfl, hN⟩; refine ⟨_, rfl, ?_⟩; have hB := hN.pure; have hS := hS.join hN; clear hN
 refine Zb 1 rfl ?_
 refine Zg ?_
 refine Zc hK29 ?_
 refine Zd (fun K hK32 => ?_)
 refine Zd (fun K hK33 => ?_)
 refine Zf ?_
 refine Zb 1 rfl ?_
 refine Zg ?_
 refine Zc hK33 ?_
 refine Yj ?_
 refine Jq (X := Nat × Bool × Int) (fun x => (1, .pointer (some ⟨b2, 0, none⟩)) :: (2, .bool x.2.1) :: (5, .int .i64 r30) :: (6, .int .i64 x.2.2) :: []) (fun x w => St0 All w0 w (.box b19 [.int .i64 r17.1.index, .int .i64 r17.1.term, .int .i64 r17.1.sum, .int .i64 r17.1.level, .bool r17.1.final] 23 :: .box b2 [.int .i64 x0.id, .int .i64 x0.n, .int .u8 x0.role, .int .i64 x0.binary, .int .i64 x0.tuple.snap.index, .int .i64 x0.tuple.snap.term, .int .i64 x0.tuple.snap.sum, .int .i64 x0.tuple.snap.level, .bool x0.tuple.snap.final, .slice A0_ x0.tuple.log.length c0_, .int .i64 x0.tuple.term, .int .i64 x0.tuple.vote, .int .i64 x0.commit, .int .i64 x0.applied.index, .int .i64 x0.applied.term, .int .i64 x0.applied.sum, .int .i64 x0.applied.level, .bool x0.applied.final, .slice A1_ x0.votes.length c1_, .slice A2_ x0.next.length c2_, .slice A3_ x0.mtch.length c3_, .slice A4_ x0.caps.length c4_] 30 :: []) ∧ Jd x0 r30 x.1 x.2.1 x.2.2 = some r) (fun x => x.1) (X6, false, 0) (by repeat (first | exact Sub.nil | refine Sub.cons rfl ?_)) ⟨hS, H⟩ ?_
 rintro ⟨n, v34, v35⟩ w ⟨hS, H⟩
 dsimp only at hS H ⊢
 obtain _ | n := n
 ·have H0 : none = some r := H
  cases H0
 rw [Jd] at H
 refine Zd (fun K hK36 => ?_)
 refine Zd (fun K hK37 => ?_)
 refine Zf ?_
 refine Zb 1 rfl ?_
 refine Za rfl rfl rfl (Ze Vy rfl) ?_
 refine Za rfl rfl rfl (Zh Zx rfl (RW.here _) hS Xt trivial Vn) ?_
 refine Za rfl rfl rfl (Xv rfl rfl) ?_
 refine Zg ?_
 refine Zc hK37 ?_
 refine Z0 rfl (fun hb => ?_) (fun hb => ?_)
 rotate_left
 ·replace H := Zp H hb
  refine Vo ?_
  refine Ye ?_
  refine Ye ?_
  refine Xf ?_
  refine Zc hK32 ?_
  refine Zd (fun K hK64 => ?_)
  refine Zd (fun K hK65 => ?_)
  refine Zf ?_
  refine Za rfl rfl rfl (Ze J6 rfl) ?_
  refine Za rfl rfl rfl (Zh Zai rfl (RW.here _) hS Xt trivial J9) ?_
  refine Za rfl rfl rfl (Xk rfl rfl) ?_
  refine Zb 1 rfl ?_
  refine Zt 157 rfl (fun hb => ?_) (fun hb => ?_)
  rotate_left
  ·replace H := Zp H hb
   refine Zb 13 rfl ?_
   refine Zg ?_
   refine Zc hK65 ?_
   refine Yq rfl rfl ?_
   refine Zu ?_
   refine Zc hK64 ?_
   refine Zd (fun K hK72 => ?_)
   refine Yo 11 [] (fun _ _ => True) ⟨by kernel_rfl, by kernel_rfl⟩ hS (fun w hS hB => ?_)
   refine Zm [true, true, true, true, true, true, true, true, true, true, true] (by decide +kernel) (by repeat (first | exact PF.body | exact PF.round | apply PF.then | apply PF.inBlock | apply PF.jump)) ?_
   refine LtK.put rfl rfl rfl (Ze J3 rfl) ?_
   refine LtK.put rfl rfl rfl (Zh V1 rfl (RW.below _) hS Xt trivial Zc9) ?_
   refine LtK.put rfl rfl rfl (Ze Ji rfl) ?_
   refine LtK.put rfl rfl rfl (Zh Zx rfl (RW.below _) hS Xt trivial Y2) ?_
   refine LtK.put rfl rfl rfl (Zct rfl rfl) ?_
   obtain ⟨e73, hi75, H⟩ := bind_some H
   obtain ⟨j74, hi75a, hi75b, hi75c⟩ := Y9 hi75
   refine LtK.put rfl rfl rfl (Xo Vd rfl rfl hi75a hi75c (Rd.el (hS.rd0 s4_.rd) Xd hi75b)) ?_
   refine LtK.put rfl rfl rfl (V4 Zx rfl (RW.below _) (Rd.el (hS.rd0 s4_.rd) Xd hi75b) rfl) ?_
   refine LtK.put rfl rfl rfl (Ze Zdj rfl) ?_
   refine LtK.put rfl rfl rfl (Zh Zx rfl (RW.below _) hS Xt trivial Zag) ?_
   refine LtK.put rfl rfl rfl (Yy rfl rfl) ?_
   refine LtK.put rfl rfl rfl (Z4 rfl) ?_
   refine LtK.nil ?_
   refine Z8 (by kernel_rfl) ?_
   refine Zc hK72 ?_
   refine Zk ?_
   refine Zl rfl (RV.tmp rfl RV.nil) rfl ?_
   obtain rfl := Option.some.inj H
   replace hS := hS.cut 0
   exact ⟨rfl, hS⟩
  replace H := Zq H hb
  refine Za rfl rfl rfl (Ze Yu rfl) ?_
  refine Za rfl rfl rfl (Ze Xs rfl) ?_
  refine Za rfl rfl rfl (Zh Zx rfl (RW.here _) hS Xt trivial V0) ?_
  refine Za rfl rfl rfl (Xv rfl rfl) ?_
  refine Zb 1 rfl ?_
  refine Zt 162 rfl (fun hb => ?_) (fun hb => ?_)
  ·replace H := Zq H hb
   refine Zb 8 rfl ?_
   refine Zg ?_
   refine Zc hK65 ?_
   refine Zs rfl rfl ?_
   refine Zd (fun K hK66 => ?_)
   refine Zf ?_
   refine Zb 1 rfl ?_
   refine Zg ?_
   refine Zc hK66 ?_
   refine Zk ?_
   refine Zi ?_
   refine Zl rfl (RV.tmp rfl RV.nil) rfl ?_
   obtain rfl := Option.some.inj H
   replace hS := hS.cut 0
   exact ⟨rfl, hS⟩
  replace H := Zp H hb
  refine Za rfl rfl rfl (Ze Yu rfl) ?_
  refine Za rfl rfl rfl (Ze Jy rfl) ?_
  refine Za rfl rfl rfl (Zh Zx rfl (RW.here _) hS Xt trivial sg11_1) ?_
  refine Za rfl rfl rfl (Ze Ji rfl) ?_
  refine Za rfl rfl rfl (Zh Zx rfl (RW.here _) hS Xt trivial Y2) ?_
  refine Za rfl rfl rfl (Xk rfl rfl) ?_
  refine Zb 2 rfl ?_
  refine Zg ?_
  refine Zc hK65 ?_
  refine Z0 rfl (fun hb => ?_) (fun hb => ?_)
  ·replace H := Zq H hb
   refine Zd (fun K hK67 => ?_)
   refine Zf ?_
   refine Zb 1 rfl ?_
   refine Zg ?_
   refine Zc hK67 ?_
   refine Zk ?_
   refine Zi ?_
   refine Zl rfl (RV.tmp rfl RV.nil) rfl ?_
   obtain rfl := Option.some.inj H
   replace hS := hS.cut 0
   exact ⟨rfl, hS⟩
  replace H := Zp H hb
  refine Zu ?_
  refine Zc hK64 ?_
  refine Zd (fun K hK68 => ?_)
  refine Yo 11 [] (fun _ _ => True) ⟨by kernel_rfl, by kernel_rfl⟩ hS (fun w hS hB => ?_)
  refine Zm [true, true, true, true, true, true, true, true, true, true, true] (by decide +kernel) (by repeat (first | exact PF.body | exact PF.round | apply PF.then | apply PF.inBlock | apply PF.jump)) ?_
  refine LtK.put rfl rfl rfl (Ze J3 rfl) ?_
  refine LtK.put rfl rfl rfl (Zh V1 rfl (RW.below _) hS Xt trivial Zc9) ?_
  refine LtK.put rfl rfl rfl (Ze Ji rfl) ?_
  refine LtK.put rfl rfl rfl (Zh Zx rfl (RW.below _) hS Xt trivial Y2) ?_
  refine LtK.put rfl rfl rfl (Zct rfl rfl) ?_
  obtain ⟨e69, hi71, H⟩ := bind_some H
  obtain ⟨j70, hi71a, hi71b, hi71c⟩ := Y9 hi71
  refine LtK.put rfl rfl rfl (Xo Vd rfl rfl hi71a hi71c (Rd.el (hS.rd0 s4_.rd) Xd hi71b)) ?_
  refine LtK.put rfl rfl rfl (V4 Zx rfl (RW.below _) (Rd.el (hS.rd0 s4_.rd) Xd hi71b) rfl) ?_
  refine LtK.put rfl rfl rfl (Ze Zdj rfl) ?_
  refine LtK.put rfl rfl rfl (Zh Zx rfl (RW.below _) hS Xt trivial Zag) ?_
  refine LtK.put rfl rfl rfl (Yy rfl rfl) ?_
  refine LtK.put rfl rfl rfl (Z4 rfl) ?_
  refine LtK.nil ?_
  refine Z8 (by kernel_rfl) ?_
  refine Zc hK68 ?_
  refine Zk ?_
  refine Zl rfl (RV.tmp rfl RV.nil) rfl ?_
  obtain rfl := Option.some.inj H
  replace hS := hS.cut 0
  exact ⟨rfl, hS⟩
 replace H := Zq H hb
 refine Zu ?_
 refine Zc hK36 ?_
 refine Zd (fun K hK38 => ?_)
 refine Yj ?_
 refine Zd (fun K hK39 => ?_)
 refine Zf ?_
 refine Za rfl rfl rfl (Ze Zao rfl) ?_
 refine Za rfl rfl rfl (Zh V1 rfl (RW.here _) hS Xt trivial Zdn) ?_
 refine Zb 1 rfl ?_
 obtain ⟨e40, hi42, H⟩ := bind_some H
 obtain ⟨j41, hi42a, hi42b, hi42c⟩ := Y9 hi42
 refine Za rfl rfl rfl (Xo Vd rfl rfl hi42a hi42c (Rd.el (hS.rd0 s2_.rd) Xd hi42b)) ?_
 refine Za rfl rfl rfl (V4 Zx rfl (RW.here _) (Rd.el (hS.rd0 s2_.rd) Xd hi42b) rfl) ?_
 refine Za rfl rfl rfl (Xv rfl rfl) ?_
 refine Zb 1 rfl ?_
 refine Zt 111 rfl (fun hb => ?_) (fun hb => ?_)
 ·replace H := Zq H hb
  refine Zb 42 rfl ?_
  refine Zg ?_
  refine Zc hK39 ?_
  refine Zs rfl rfl ?_
  refine Zd (fun K hK43 => ?_)
  refine Zf ?_
  refine Zb 1 rfl ?_
  refine Zg ?_
  refine Zc hK43 ?_
  refine Zk ?_
  refine Zv ?_
  refine Zi ?_
  refine Zi ?_
  refine Zv ?_
  refine Zi ?_
  refine Zl rfl (RV.tmp rfl RV.nil) rfl ?_
  obtain rfl := Option.some.inj H
  replace hS := hS.cut 0
  exact ⟨rfl, hS⟩
 replace H := Zp H hb
 refine Za rfl rfl rfl (Ze Zao rfl) ?_
 refine Za rfl rfl rfl (Zh V1 rfl (RW.here _) hS Xt trivial Zdn) ?_
 refine Zb 1 rfl ?_
 obtain ⟨e44, hi46, H⟩ := bind_some H
 obtain ⟨j45, hi46a, hi46b, hi46c⟩ := Y9 hi46
 refine Za rfl rfl rfl (Xo Vd rfl rfl hi46a hi46c (Rd.el (hS.rd0 s2_.rd) Xd hi46b)) ?_
 refine Za rfl rfl rfl (V4 Zx rfl (RW.here _) (Rd.el (hS.rd0 s2_.rd) Xd hi46b) rfl) ?_
 refine Zb 1 rfl ?_
 refine Za rfl rfl rfl (X1 rfl rfl) ?_
 refine Za rfl rfl rfl (Xa rfl rfl) ?_
 refine Zb 2 rfl ?_
 refine Zt 121 rfl (fun hb => ?_) (fun hb => ?_)
 ·replace H := Zq H hb
  refine Zb 32 rfl ?_
  refine Zg ?_
  refine Zc hK39 ?_
  refine Zs rfl rfl ?_
  refine Zd (fun K hK47 => ?_)
  refine Zf ?_
  refine Zb 1 rfl ?_
  refine Zg ?_
  refine Zc hK47 ?_
  refine Zk ?_
  refine Zv ?_
  refine Zi ?_
  refine Zi ?_
  refine Zv ?_
  refine Zi ?_
  refine Zl rfl (RV.tmp rfl RV.nil) rfl ?_
  obtain rfl := Option.some.inj H
  replace hS := hS.cut 0
  exact ⟨rfl, hS⟩
 replace H := Zp H hb
 refine Za rfl rfl rfl (Ze Zco rfl) ?_
 refine Za rfl rfl rfl (Zh V1 rfl (RW.here _) hS Xt trivial Zfg) ?_
 refine Zb 1 rfl ?_
 obtain ⟨e48, hi50, H⟩ := bind_some H
 obtain ⟨j49, hi50a, hi50b, hi50c⟩ := Y9 hi50
 refine Za rfl rfl rfl (Xo Vd rfl rfl hi50a hi50c (Rd.el (hS.rd0 s3_.rd) Xd hi50b)) ?_
 refine Za rfl rfl rfl (V4 Zx rfl (RW.here _) (Rd.el (hS.rd0 s3_.rd) Xd hi50b) rfl) ?_
 refine Za rfl rfl rfl (Xv rfl rfl) ?_
 refine Zb 2 rfl ?_
 refine Zt 129 rfl (fun hb => ?_) (fun hb => ?_)
 ·replace H := Zq H hb
  refine Zb 24 rfl ?_
  refine Zg ?_
  refine Zc hK39 ?_
  refine Zs rfl rfl ?_
  refine Zd (fun K hK51 => ?_)
  refine Zf ?_
  refine Zb 1 rfl ?_
  refine Zg ?_
  refine Zc hK51 ?_
  refine Zk ?_
  refine Zv ?_
  refine Zi ?_
  refine Zi ?_
  refine Zv ?_
  refine Zi ?_
  refine Zl rfl (RV.tmp rfl RV.nil) rfl ?_
  obtain rfl := Option.some.inj H
  replace hS := hS.cut 0
  exact ⟨rfl, hS⟩
 replace H := Zp H hb
 refine Za rfl rfl rfl (Ze Zco rfl) ?_
 refine Za rfl rfl rfl (Zh V1 rfl (RW.here _) hS Xt trivial Zfg) ?_
 refine Zb 1 rfl ?_
 obtain ⟨e52, hi54, H⟩ := bind_some H
 obtain ⟨j53, hi54a, hi54b, hi54c⟩ := Y9 hi54
 refine Za rfl rfl rfl (Xo Vd rfl rfl hi54a hi54c (Rd.el (hS.rd0 s3_.rd) Xd hi54b)) ?_
 refine Za rfl rfl rfl (V4 Zx rfl (RW.here _) (Rd.el (hS.rd0 s3_.rd) Xd hi54b) rfl) ?_
 refine Zb 1 rfl ?_
 refine Za rfl rfl rfl (Xa rfl rfl) ?_
 refine Zb 2 rfl ?_
 refine Zt 138 rfl (fun hb => ?_) (fun hb => ?_)
 ·replace H := Zq H hb
  refine Zb 15 rfl ?_
  refine Zg ?_
  refine Zc hK39 ?_
  refine Zs rfl rfl ?_
  refine Zd (fun K hK55 => ?_)
  refine Zf ?_
  refine Zb 1 rfl ?_
  refine Zg ?_
  refine Zc hK55 ?_
  refine Zk ?_
  refine Zv ?_
  refine Zi ?_
  refine Zi ?_
  refine Zv ?_
  refine Zi ?_
  refine Zl rfl (RV.tmp rfl RV.nil) rfl ?_
  obtain rfl := Option.some.inj H
  replace hS := hS.cut 0
  exact ⟨rfl, hS⟩
 replace H := Zp H hb
 refine Za rfl rfl rfl (Ze J3 rfl) ?_
 refine Za rfl rfl rfl (Zh V1 rfl (RW.here _) hS Xt trivial Zc9) ?_
 refine Zb 1 rfl ?_
 obtain ⟨e56, hi58, H⟩ := bind_some H
 obtain ⟨j57, hi58a, hi58b, hi58c⟩ := Y9 hi58
 refine Za rfl rfl rfl (Xo Vd rfl rfl hi58a hi58c (Rd.el (hS.rd0 s4_.rd) Xd hi58b)) ?_
 refine Za rfl rfl rfl (V4 Zx rfl (RW.here _) (Rd.el (hS.rd0 s4_.rd) Xd hi58b) rfl) ?_
 refine Za rfl rfl rfl (Xv rfl rfl) ?_
 refine Zb 2 rfl ?_
 refine Zt 146 rfl (fun hb => ?_) (fun hb => ?_)
 ·replace H := Zq H hb
  refine Zb 7 rfl ?_
  refine Zg ?_
  refine Zc hK39 ?_
  refine Zs rfl rfl ?_
  refine Zd (fun K hK59 => ?_)
  refine Zf ?_
  refine Zb 1 rfl ?_
  refine Zg ?_
  refine Zc hK59 ?_
  refine Zk ?_
  refine Zv ?_
  refine Zi ?_
  refine Zi ?_
  refine Zv ?_
  refine Zi ?_
  refine Zl rfl (RV.tmp rfl RV.nil) rfl ?_
  obtain rfl := Option.some.inj H
  replace hS := hS.cut 0
  exact ⟨rfl, hS⟩
 replace H := Zp H hb
 refine Za rfl rfl rfl (Ze J3 rfl) ?_
 refine Za rfl rfl rfl (Zh V1 rfl (RW.here _) hS Xt trivial Zc9) ?_
 refine Zb 1 rfl ?_
 obtain ⟨e60, hi62, H⟩ := bind_some H
 obtain ⟨j61, hi62a, hi62b, hi62c⟩ := Y9 hi62
 refine Za rfl rfl rfl (Xo Vd rfl rfl hi62a hi62c (Rd.el (hS.rd0 s4_.rd) Xd hi62b)) ?_
 refine Za rfl rfl rfl (V4 Zx rfl (RW.here _) (Rd.el (hS.rd0 s4_.rd) Xd hi62b) rfl) ?_
 refine Za rfl rfl rfl (Xa rfl rfl) ?_
 refine Zb 1 rfl ?_
 refine Zg ?_
 refine Zc hK39 ?_
 refine Z0 rfl (fun hb => ?_) (fun hb => ?_)
 rotate_left
 ·replace H := Zp H hb
  refine Zu ?_
  refine Z1 ?_
  refine Zc hK38 ?_
  refine Zf ?_
  refine Zb 1 rfl ?_
  refine Za rfl rfl rfl (X1 rfl rfl) ?_
  refine Zb 1 rfl ?_
  refine Zg ?_
  exact Vp (n, v34, (IntKind.wrap .i64 (v35 + 1))) (by repeat (first | exact Sub.nil | refine Sub.cons rfl ?_)) ⟨hS, H⟩ (Nat.lt_succ_self _)
 replace H := Zq H hb
 refine Zd (fun K hK63 => ?_)
 refine Zf ?_
 refine Zb 1 rfl ?_
 refine Zg ?_
 refine Zc hK63 ?_
 refine Zk ?_
 refine Zv ?_
 refine Zi ?_
 refine Zi ?_
 refine Zv ?_
 refine Zi ?_
 refine Zl rfl (RV.tmp rfl RV.nil) rfl ?_
 obtain rfl := Option.some.inj H
 replace hS := hS.cut 0
 exact ⟨rfl, hS⟩
theorem c_ref12_First (w0 : World) {r : Tu} (H : Zff = some r) : Calls Try.prog 25 #[] w0 fun e w' => ∃ (A0 : Option Addr) (c0 : Nat), e = .returned (.agg #[.int .i64 r.snap.index, .int .i64 r.snap.term, .int .i64 r.snap.sum, .int .i64 r.snap.level, .bool r.snap.final, .slice A0 r.log.length c0, .int .i64 r.term, .int .i64 r.vote]) ∧ (r.log.length ≤ c0 ∧ c0 ≤ maxLen) ∧ St0 All w0 w' [.rd A0 (Ym Jv r.log)] := by
 unfold Zff at H
 refine gw_enter0 Try.func25 rfl Try.ntmps25 rfl ?_
 have hS := St0.start All w0
 refine Zd (fun K hK1 => ?_)
 refine Zf ?_
 refine Z6 rfl rfl zc_26 hS (fun b2 w hS hB => ?_)
 refine Zg ?_
 refine Zc hK1 ?_
 refine Zd (fun K hK4 => ?_)
 refine Zf ?_
 obtain ⟨r5, hm6, H⟩ := bind_some H
 refine Zr rfl rfl rfl rfl (by kernel_rfl) rfl (Zce _ hm6) ?_
 rintro e w ⟨rfl, hN⟩; refine ⟨_, rfl, ?_⟩; have hB := hN.pure; have hS := hS.join hN; clear hN
 refine Za rfl rfl rfl (Xx (cells := [.int .i64 r5.index, .int .i64 r5.term, .int .i64 r5.sum, .int .i64 r5.level, .bool r5.final, .slice none 0 0, .int .i64 0, .int .i64 0]) rfl (by kernel_rfl)) ?_
 refine Zo rfl rfl rfl CellsOf.agg hS ps0 st0_8 (by kernel_rfl) rfl (fun w hS hB => ?_)
 refine Zg ?_
 refine Zc hK4 ?_
 refine Zk ?_
 refine Zl rfl (RV.cell rfl (Z3 Xg hS hs0 Zfp) RV.nil) rfl ?_
 obtain rfl := Option.some.inj H
 have hS := hS.nilRd
 replace hS := hS.cut 1
 exact ⟨none, 0, rfl, ⟨Nat.le_refl _, Nat.zero_le _⟩, hS⟩
theorem c_ref12_Own (x0 : Tu) (A0_ : Option Addr) (c0_ : Nat) (w0 : World) (s0_ : SlI w0 Jv A0_ c0_ x0.log) {r : Tu} (H : m_ref12_Own x0 = some r) : Calls Try.prog 48 #[.agg #[.int .i64 x0.snap.index, .int .i64 x0.snap.term, .int .i64 x0.snap.sum, .int .i64 x0.snap.level, .bool x0.snap.final, .slice A0_ x0.log.length c0_, .int .i64 x0.term, .int .i64 x0.vote]] w0 fun e w' => ∃ (A0 : Option Addr) (c0 : Nat), e = .returned (.agg #[.int .i64 r.snap.index, .int .i64 r.snap.term, .int .i64 r.snap.sum, .int .i64 r.snap.level, .bool r.snap.final, .slice A0 r.log.length c0, .int .i64 r.term, .int .i64 r.vote]) ∧ (r.log.length ≤ c0 ∧ c0 ≤ maxLen) ∧ St0 All w0 w' [.row (.slice A0 r.log.length c0) 46 3 r.log.length (Ym Jv r.log)] := by
 unfold m_ref12_Own at H
 refine Yl Try.func48 rfl Try.ntmps48 rfl ?_
 have hS := St0.start All w0
 refine Zd (fun K hK1 => ?_)
 refine Zf ?_
 refine Z9 rfl rfl rfl CellsOf.agg hS (fun b2 w hS hB => ?_)
 refine Z6 rfl rfl zc_26 hS (fun b4 w hS hB => ?_)
 refine Zg ?_
 refine Zc hK1 ?_
 refine Zd (fun K hK6 => ?_)
 refine Zf ?_
 refine Zer Va rfl rfl hS (fun b7 w hS hB => ?_)
 refine Za rfl rfl rfl (Ze X5 rfl) ?_
 refine Za rfl rfl rfl (Zh V8 rfl (RW.here _) hS Vh trivial Zdw) ?_
 obtain ⟨l9, hf10, H⟩ := bind_some H
 refine Za3 (ys := x0.log) Vi oc_enE em_24 (by decide) rfl rfl rfl rfl hS (fun _ => ps0) (hS.rd0 s0_.rd) hf10 (fun A11 c12 w k13 hS => ?_)
 refine Za rfl rfl rfl (Ze X5 rfl) ?_
 refine Zo rfl rfl rfl CellsOf.slice hS ps2 st5_1 (by kernel_rfl) rfl (fun w hS hB => ?_)
 refine Zg ?_
 refine Zc hK6 ?_
 refine Zd (fun K hK14 => ?_)
 refine Zf ?_
 refine Za rfl rfl rfl (Zj Xg rfl (RW.here _) hS Vh trivial Zfp) ?_
 refine Zo rfl rfl rfl CellsOf.agg hS ps1 st0_8 (by kernel_rfl) rfl (fun w hS hB => ?_)
 refine Zg ?_
 refine Zc hK14 ?_
 refine Zk ?_
 refine Zl rfl (RV.cell rfl (Z3 Xg hS Xt Zfp) RV.nil) rfl ?_
 obtain rfl := Option.some.inj H
 have hS := hS.front 0 rfl
 replace hS := hS.cut 1
 exact ⟨A11, c12, rfl, k13, hS⟩
theorem c_ref20_New (x0 : Int) (x1 : Int) (x2 : Int) (x3 : Tu) (A0_ : Option Addr) (c0_ : Nat) (w0 : World) (s0_ : SlI w0 Jv A0_ c0_ x3.log) {r : Co} (H : Zfb x0 x1 x2 x3 = some r) : Calls Try.prog 24 #[.int .i64 x0, .int .i64 x1, .int .i64 x2, .agg #[.int .i64 x3.snap.index, .int .i64 x3.snap.term, .int .i64 x3.snap.sum, .int .i64 x3.snap.level, .bool x3.snap.final, .slice A0_ x3.log.length c0_, .int .i64 x3.term, .int .i64 x3.vote]] w0 fun e w' => ∃ (A0 : Option Addr) (c0 : Nat) (A1 : Option Addr) (c1 : Nat) (A2 : Option Addr) (c2 : Nat) (A3 : Option Addr) (c3 : Nat) (A4 : Option Addr) (c4 : Nat), e = .returned (.agg #[.int .i64 r.id, .int .i64 r.n, .int .u8 r.role, .int .i64 r.binary, .int .i64 r.tuple.snap.index, .int .i64 r.tuple.snap.term, .int .i64 r.tuple.snap.sum, .int .i64 r.tuple.snap.level, .bool r.tuple.snap.final, .slice A0 r.tuple.log.length c0, .int .i64 r.tuple.term, .int .i64 r.tuple.vote, .int .i64 r.commit, .int .i64 r.applied.index, .int .i64 r.applied.term, .int .i64 r.applied.sum, .int .i64 r.applied.level, .bool r.applied.final, .slice A1 r.votes.length c1, .slice A2 r.next.length c2, .slice A3 r.mtch.length c3, .slice A4 r.caps.length c4]) ∧ (r.tuple.log.length ≤ c0 ∧ c0 ≤ maxLen) ∧ (r.votes.length ≤ c1 ∧ c1 ≤ maxLen) ∧ (r.next.length ≤ c2 ∧ c2 ≤ maxLen) ∧ (r.mtch.length ≤ c3 ∧ c3 ≤ maxLen) ∧ (r.caps.length ≤ c4 ∧ c4 ≤ maxLen) ∧ St0 All w0 w' [.row (.slice A0 r.tuple.log.length c0) 46 3 r.tuple.log.length (Ym Jv r.tuple.log), .row (.slice A1 r.votes.length c1) 4 1 r.votes.length (Ym enO r.votes), .row (.slice A2 r.next.length c2) 3 1 r.next.length (Ym Vu r.next), .row (.slice A3 r.mtch.length c3) 3 1 r.mtch.length (Ym Vu r.mtch), .row (.slice A4 r.caps.length c4) 3 1 r.caps.length (Ym Vu r.caps)] := by
 unfold Zfb at H
 refine Zd2 Try.func24 rfl Try.ntmps24 rfl ?_
 have hS := St0.start All w0
 refine Zd (fun K hK1 => ?_)
 refine Zf ?_
 refine Z9 rfl rfl rfl CellsOf.agg hS (fun b2 w hS hB => ?_)
 refine Z6 rfl rfl Zc0 hS (fun b4 w hS hB => ?_)
 refine Zg ?_
 refine Zc hK1 ?_
 refine Zd (fun K hK6 => ?_)
 refine Zd (fun K hK7 => ?_)
 refine Zf ?_
 refine Zb 1 rfl ?_
 refine Za rfl rfl rfl (Xv rfl rfl) ?_
 refine Zb 1 rfl ?_
 refine Zt 13 rfl (fun hb => ?_) (fun hb => ?_)
 ·replace H := Zq H hb
  refine Zb 12 rfl ?_
  refine Zg ?_
  refine Zc hK7 ?_
  refine Zs rfl rfl ?_
  refine Zd (fun K hK8 => ?_)
  refine Zf ?_
  refine Za rfl rfl rfl (Xx (cells := [.int .i64 0, .int .i64 0, .int .u8 0, .int .i64 0, .int .i64 0, .int .i64 0, .int .i64 0, .int .i64 0, .bool false, .slice none 0 0, .int .i64 0, .int .i64 0, .int .i64 0, .int .i64 0, .int .i64 0, .int .i64 0, .int .i64 0, .bool false, .slice none 0 0, .slice none 0 0, .slice none 0 0, .slice none 0 0]) rfl (by kernel_rfl)) ?_
  refine Zo rfl rfl rfl CellsOf.agg hS ps0 Xq (by kernel_rfl) rfl (fun w hS hB => ?_)
  refine Zg ?_
  refine Zc hK8 ?_
  refine Zk ?_
  refine Zi ?_
  refine Zl rfl (RV.cell rfl (Z3 Yp hS hs0 Yb) RV.nil) rfl ?_
  obtain rfl := Option.some.inj H
  have hS := hS.nilRow 3 1
  have hS := hS.nilRow 3 1
  have hS := hS.nilRow 3 1
  have hS := hS.nilRow 4 1
  have hS := hS.nilRow 46 3
  replace hS := hS.cut 5
  exact ⟨none, 0, none, 0, none, 0, none, 0, none, 0, rfl, ⟨Nat.le_refl _, Nat.zero_le _⟩, ⟨Nat.le_refl _, Nat.zero_le _⟩, ⟨Nat.le_refl _, Nat.zero_le _⟩, ⟨Nat.le_refl _, Nat.zero_le _⟩, ⟨Nat.le_refl _, Nat.zero_le _⟩, hS⟩
 replace H := Zp H hb
 refine Zb 1 rfl ?_
 refine Za rfl rfl rfl (Xa rfl rfl) ?_
 refine Zb 2 rfl ?_
 refine Zt 17 rfl (fun hb => ?_) (fun hb => ?_)
 ·replace H := Zq H hb
  refine Zb 8 rfl ?_
  refine Zg ?_
  refine Zc hK7 ?_
  refine Zs rfl rfl ?_
  refine Zd (fun K hK9 => ?_)
  refine Zf ?_
  refine Za rfl rfl rfl (Xx (cells := [.int .i64 0, .int .i64 0, .int .u8 0, .int .i64 0, .int .i64 0, .int .i64 0, .int .i64 0, .int .i64 0, .bool false, .slice none 0 0, .int .i64 0, .int .i64 0, .int .i64 0, .int .i64 0, .int .i64 0, .int .i64 0, .int .i64 0, .bool false, .slice none 0 0, .slice none 0 0, .slice none 0 0, .slice none 0 0]) rfl (by kernel_rfl)) ?_
  refine Zo rfl rfl rfl CellsOf.agg hS ps0 Xq (by kernel_rfl) rfl (fun w hS hB => ?_)
  refine Zg ?_
  refine Zc hK9 ?_
  refine Zk ?_
  refine Zi ?_
  refine Zl rfl (RV.cell rfl (Z3 Yp hS hs0 Yb) RV.nil) rfl ?_
  obtain rfl := Option.some.inj H
  have hS := hS.nilRow 3 1
  have hS := hS.nilRow 3 1
  have hS := hS.nilRow 3 1
  have hS := hS.nilRow 4 1
  have hS := hS.nilRow 46 3
  replace hS := hS.cut 5
  exact ⟨none, 0, none, 0, none, 0, none, 0, none, 0, rfl, ⟨Nat.le_refl _, Nat.zero_le _⟩, ⟨Nat.le_refl _, Nat.zero_le _⟩, ⟨Nat.le_refl _, Nat.zero_le _⟩, ⟨Nat.le_refl _, Nat.zero_le _⟩, ⟨Nat.le_refl _, Nat.zero_le _⟩, hS⟩
 replace H := Zp H hb
 refine Zb 1 rfl ?_
 refine Za rfl rfl rfl (Xv rfl rfl) ?_
 refine Zb 2 rfl ?_
 refine Zt 21 rfl (fun hb => ?_) (fun hb => ?_)
 ·replace H := Zq H hb
  refine Zb 4 rfl ?_
  refine Zg ?_
  refine Zc hK7 ?_
  refine Zs rfl rfl ?_
  refine Zd (fun K hK10 => ?_)
  refine Zf ?_
  refine Za rfl rfl rfl (Xx (cells := [.int .i64 0, .int .i64 0, .int .u8 0, .int .i64 0, .int .i64 0, .int .i64 0, .int .i64 0, .int .i64 0, .bool false, .slice none 0 0, .int .i64 0, .int .i64 0, .int .i64 0, .int .i64 0, .int .i64 0, .int .i64 0, .int .i64 0, .bool false, .slice none 0 0, .slice none 0 0, .slice none 0 0, .slice none 0 0]) rfl (by kernel_rfl)) ?_
  refine Zo rfl rfl rfl CellsOf.agg hS ps0 Xq (by kernel_rfl) rfl (fun w hS hB => ?_)
  refine Zg ?_
  refine Zc hK10 ?_
  refine Zk ?_
  refine Zi ?_
  refine Zl rfl (RV.cell rfl (Z3 Yp hS hs0 Yb) RV.nil) rfl ?_
  obtain rfl := Option.some.inj H
  have hS := hS.nilRow 3 1
  have hS := hS.nilRow 3 1
  have hS := hS.nilRow 3 1
  have hS := hS.nilRow 4 1
  have hS := hS.nilRow 46 3
  replace hS := hS.cut 5
  exact ⟨none, 0, none, 0, none, 0, none, 0, none, 0, rfl, ⟨Nat.le_refl _, Nat.zero_le _⟩, ⟨Nat.le_refl _, Nat.zero_le _⟩, ⟨Nat.le_refl _, Nat.zero_le _⟩, ⟨Nat.le_refl _, Nat.zero_le _⟩, ⟨Nat.le_refl _, Nat.zero_le _⟩, hS⟩
 replace H := Zp H hb
 refine Zb 2 rfl ?_
 refine Za rfl rfl rfl (Xa rfl rfl) ?_
 refine Zb 1 rfl ?_
 refine Zg ?_
 refine Zc hK7 ?_
 refine Z0 rfl (fun hb => ?_) (fun hb => ?_)
 ·replace H := Zq H hb
  refine Zd (fun K hK11 => ?_)
  refine Zf ?_
  refine Za rfl rfl rfl (Xx (cells := [.int .i64 0, .int .i64 0, .int .u8 0, .int .i64 0, .int .i64 0, .int .i64 0, .int .i64 0, .int .i64 0, .bool false, .slice none 0 0, .int .i64 0, .int .i64 0, .int .i64 0, .int .i64 0, .int .i64 0, .int .i64 0, .int .i64 0, .bool false, .slice none 0 0, .slice none 0 0, .slice none 0 0, .slice none 0 0]) rfl (by kernel_rfl)) ?_
  refine Zo rfl rfl rfl CellsOf.agg hS ps0 Xq (by kernel_rfl) rfl (fun w hS hB => ?_)
  refine Zg ?_
  refine Zc hK11 ?_
  refine Zk ?_
  refine Zi ?_
  refine Zl rfl (RV.cell rfl (Z3 Yp hS hs0 Yb) RV.nil) rfl ?_
  obtain rfl := Option.some.inj H
  have hS := hS.nilRow 3 1
  have hS := hS.nilRow 3 1
  have hS := hS.nilRow 3 1
  have hS := hS.nilRow 4 1
  have hS := hS.nilRow 46 3
  replace hS := hS.cut 5
  exact ⟨none, 0, none, 0, none, 0, none, 0, none, 0, rfl, ⟨Nat.le_refl _, Nat.zero_le _⟩, ⟨Nat.le_refl _, Nat.zero_le _⟩, ⟨Nat.le_refl _, Nat.zero_le _⟩, ⟨Nat.le_refl _, Nat.zero_le _⟩, ⟨Nat.le_refl _, Nat.zero_le _⟩, hS⟩
 replace H := Zp H hb
 refine Zu ?_
 refine Zc hK6 ?_
 refine Zd (fun K hK12 => ?_)
 refine Yo 13 [12] (fun i b => (i = 12 → b = b4 ∨ b = b2)) ⟨by kernel_rfl, by kernel_rfl⟩ hS (fun w hS hB => ?_)
 refine wpRF_start [⟨11, 9, 30, [.int .i64 0, .int .i64 0, .int .u8 0, .int .i64 0, .int .i64 0, .int .i64 0, .int .i64 0, .int .i64 0, .bool false, .slice none 0 0, .int .i64 0, .int .i64 0, .int .i64 0, .int .i64 0, .int .i64 0, .int .i64 0, .int .i64 0, .bool false, .slice none 0 0, .slice none 0 0, .slice none 0 0, .slice none 0 0]⟩] (.cons rfl Zc0 rfl rfl rfl .nil) hS (fun hok => ?_)
 dsimp only [List.cons_append, List.nil_append]
 refine wpRF_batch [true, true, true, true, false, true, true, true, true, true] [] (fun _ => True) (by decide +kernel) (fun _ h => by cases h) (by repeat (first | exact PF.body | exact PF.round | apply PF.then | apply PF.inBlock | apply PF.jump)) (fun X Y tk ht w hS => ?_)
 refine LtK.put rfl rfl rfl (Zn rfl) ?_
 refine LtK.put rfl rfl rfl (Zn rfl) ?_
 refine LtK.put rfl rfl rfl (Zn rfl) ?_
 refine LtK.put rfl rfl rfl (Zj Xg rfl (RW.keepB _ _) hS Xt trivial Zfp) ?_
 refine LtK.put rfl rfl rfl (Ze Yx rfl) ?_
 refine LtK.put rfl rfl rfl (Ze Z5 rfl) ?_
 refine LtK.put rfl rfl rfl (Zh Zx rfl (RW.keepB _ _) hS Xt trivial Y2) ?_
 refine LtK.put rfl rfl rfl (Ze Yx rfl) ?_
 refine LtK.put rfl rfl rfl (Zj Yn rfl (RW.keepB _ _) hS Xt trivial Vw) ?_
 refine LtK_F' ht hS (by repeat (first | exact App.nil | apply App.cons)) (by repeat (first | exact App.nil | apply App.cons)) ?_
 dsimp only [List.cons_append, List.nil_append]
 refine wpRF_call [false, false, false, false, true] 4 hok ⟨by decide, by decide +kernel, by decide, by decide⟩ rfl rfl (fun _ => rfl) (fun _ => rfl) rfl (hend_of (by decide +kernel)) (fun X Y tk ht w hS => ?_)
 try dsimp only [Z2]
 obtain ⟨r13, hm14, H⟩ := bind_some H
 refine Zr rfl rfl rfl rfl (by kernel_rfl) rfl (c_ref12_Own x3 A0_ c0_ _ (SlI.of_rd s0_.k (hS.rd0 s0_.rd) (hS.blk0 s0_.blk)) hm14) ?_
 rintro e w ⟨A15, c16, rfl, k17, hN⟩; refine ⟨_, rfl, ?_⟩; have hB := hN.pure; have hS := hS.join hN; clear hN
 refine Zg ?_
 refine QH_stepF' ht hS hB (by repeat (first | exact App.nil | apply App.cons)) (by repeat (first | exact App.nil | apply App.cons)) ?_
 dsimp only [List.cons_append, List.nil_append]
 refine wpRF_batch [false, false, false, false, false, false, false, false, false, false, true] [] (fun _ => True) (by decide +kernel) (fun _ h => by cases h) (by repeat (first | exact PF.body | exact PF.round | apply PF.then | apply PF.inBlock | apply PF.jump)) (fun X Y tk ht w hS => ?_)
 refine LtK.put rfl rfl rfl (Xx (cells := [.int .i64 x0, .int .i64 x1, .int .u8 0, .int .i64 x2, .int .i64 r13.snap.index, .int .i64 r13.snap.term, .int .i64 r13.snap.sum, .int .i64 r13.snap.level, .bool r13.snap.final, .slice A15 r13.log.length c16, .int .i64 r13.term, .int .i64 r13.vote, .int .i64 x3.snap.index, .int .i64 x3.snap.index, .int .i64 x3.snap.term, .int .i64 x3.snap.sum, .int .i64 x3.snap.level, .bool x3.snap.final, .slice none 0 0, .slice none 0 0, .slice none 0 0, .slice none 0 0]) rfl (by kernel_rfl)) ?_
 refine LtK_F' ht hS (by repeat (first | exact App.nil | apply App.cons)) (by repeat (first | exact App.nil | apply App.cons)) ?_
 dsimp only [List.cons_append, List.nil_append]
 refine wpRF_done hok (by decide) (by decide +kernel) (fun _ => rfl) (fun _ => rfl) rfl (fun tk htk w hS => ?_)
 obtain ⟨b19, tkb19, rfl, htk21⟩ := tk_cons htk
 obtain rfl := tk_nil htk21
 dsimp only [tkH, tkL, List.map] at hS ⊢
 refine Xh [false, false, false, false, false, false, false, false, false, false, false, false, true] 12 ⟨by decide, by kernel_rfl, by kernel_rfl⟩ rfl rfl ?_
 try dsimp only [Z2]
 refine Zo rfl rfl rfl CellsOf.agg hS ps3 Xq (by kernel_rfl) rfl (fun w hS hB => ?_)
 refine Zg ?_
 refine Xc (hB.sub (fun b _ h => by have h0 : b = b4 ∨ b = b2 := (by simpa using h); rcases h0 with h0 | h0; (rw [h0]; exact hS.ne 1 3 rfl rfl rfl); (rw [h0]; exact hS.ne 2 3 rfl rfl rfl))) ?_
 refine Z8 (by kernel_rfl) ?_
 refine Zc hK12 ?_
 refine Zd (fun K hK22 => ?_)
 refine Zd (fun K hK23 => ?_)
 refine Zf ?_
 refine Zb 1 rfl ?_
 refine Zg ?_
 refine Zc hK23 ?_
 refine Yj ?_
 replace hS := hS.nilRow 4 1
 replace hS := hS.nilRow 3 1
 replace hS := hS.nilRow 3 1
 replace hS := hS.nilRow 3 1
 refine Jq (X := Nat × Int × List Bool × Option Addr × Nat × List Int × Option Addr × Nat × List Int × Option Addr × Nat × List Int × Option Addr × Nat) (fun x => (0, .int .i64 x0) :: (1, .int .i64 x1) :: (2, .int .i64 x2) :: (7, .pointer (some ⟨b2, 0, none⟩)) :: (8, .pointer (some ⟨b4, 0, none⟩)) :: (9, .pointer (some ⟨b19, 0, none⟩)) :: (10, .int .i64 x.2.1) :: []) (fun x w => St0 All w0 w (.row (.slice x.2.2.2.2.2.2.2.2.2.2.2.2.1 x.2.2.2.2.2.2.2.2.2.2.2.1.length x.2.2.2.2.2.2.2.2.2.2.2.2.2) 3 1 x.2.2.2.2.2.2.2.2.2.2.2.1.length (Ym Vu x.2.2.2.2.2.2.2.2.2.2.2.1) :: .row (.slice x.2.2.2.2.2.2.2.2.2.1 x.2.2.2.2.2.2.2.2.1.length x.2.2.2.2.2.2.2.2.2.2.1) 3 1 x.2.2.2.2.2.2.2.2.1.length (Ym Vu x.2.2.2.2.2.2.2.2.1) :: .row (.slice x.2.2.2.2.2.2.1 x.2.2.2.2.2.1.length x.2.2.2.2.2.2.2.1) 3 1 x.2.2.2.2.2.1.length (Ym Vu x.2.2.2.2.2.1) :: .row (.slice x.2.2.2.1 x.2.2.1.length x.2.2.2.2.1) 4 1 x.2.2.1.length (Ym enO x.2.2.1) :: .row (.slice A15 r13.log.length c16) 46 3 r13.log.length (Ym Jv r13.log) :: .box b4 [.int .i64 0, .int .i64 0, .int .u8 0, .int .i64 0, .int .i64 0, .int .i64 0, .int .i64 0, .int .i64 0, .bool false, .slice none 0 0, .int .i64 0, .int .i64 0, .int .i64 0, .int .i64 0, .int .i64 0, .int .i64 0, .int .i64 0, .bool false, .slice none 0 0, .slice none 0 0, .slice none 0 0, .slice none 0 0] 30 :: .box b2 [.int .i64 x3.snap.index, .int .i64 x3.snap.term, .int .i64 x3.snap.sum, .int .i64 x3.snap.level, .bool x3.snap.final, .slice A0_ x3.log.length c0_, .int .i64 x3.term, .int .i64 x3.vote] 26 :: .box b19 [.int .i64 x0, .int .i64 x1, .int .u8 0, .int .i64 x2, .int .i64 r13.snap.index, .int .i64 r13.snap.term, .int .i64 r13.snap.sum, .int .i64 r13.snap.level, .bool r13.snap.final, .slice A15 r13.log.length c16, .int .i64 r13.term, .int .i64 r13.vote, .int .i64 x3.snap.index, .int .i64 x3.snap.index, .int .i64 x3.snap.term, .int .i64 x3.snap.sum, .int .i64 x3.snap.level, .bool x3.snap.final, .slice x.2.2.2.1 x.2.2.1.length x.2.2.2.2.1, .slice x.2.2.2.2.2.2.1 x.2.2.2.2.2.1.length x.2.2.2.2.2.2.2.1, .slice x.2.2.2.2.2.2.2.2.2.1 x.2.2.2.2.2.2.2.2.1.length x.2.2.2.2.2.2.2.2.2.2.1, .slice x.2.2.2.2.2.2.2.2.2.2.2.2.1 x.2.2.2.2.2.2.2.2.2.2.2.1.length x.2.2.2.2.2.2.2.2.2.2.2.2.2] 30 :: []) ∧ (x.2.2.1.length ≤ x.2.2.2.2.1 ∧ x.2.2.2.2.1 ≤ maxLen) ∧ (x.2.2.2.2.2.1.length ≤ x.2.2.2.2.2.2.2.1 ∧ x.2.2.2.2.2.2.2.1 ≤ maxLen) ∧ (x.2.2.2.2.2.2.2.2.1.length ≤ x.2.2.2.2.2.2.2.2.2.2.1 ∧ x.2.2.2.2.2.2.2.2.2.2.1 ≤ maxLen) ∧ (x.2.2.2.2.2.2.2.2.2.2.2.1.length ≤ x.2.2.2.2.2.2.2.2.2.2.2.2.2 ∧ x.2.2.2.2.2.2.2.2.2.2.2.2.2 ≤ maxLen) ∧ Zdl x0 x1 x2 x3 r13 x.1 x.2.1 x.2.2.1 x.2.2.2.2.2.1 x.2.2.2.2.2.2.2.2.1 x.2.2.2.2.2.2.2.2.2.2.2.1 = some r) (fun x => x.1) (X6, 1, [], none, 0, [], none, 0, [], none, 0, [], none, 0) (by repeat (first | exact Sub.nil | refine Sub.cons rfl ?_)) ⟨hS, ⟨Nat.le_refl _, Nat.zero_le _⟩, ⟨Nat.le_refl _, Nat.zero_le _⟩, ⟨Nat.le_refl _, Nat.zero_le _⟩, ⟨Nat.le_refl _, Nat.zero_le _⟩, H⟩ ?_
 rintro ⟨n, v24, v25, A26, c27, v30, A31, c32, v35, A36, c37, v40, A41, c42⟩ w ⟨hS, k28, k33, k38, k43, H⟩
 dsimp only at hS k28 k33 k38 k43 H ⊢
 obtain _ | n := n
 ·have H0 : none = some r := H
  cases H0
 rw [Zdl] at H
 refine Zd (fun K hK45 => ?_)
 refine Zd (fun K hK46 => ?_)
 refine Zf ?_
 refine Zb 2 rfl ?_
 refine Za rfl rfl rfl (Za1 rfl rfl) ?_
 refine Zg ?_
 refine Zc hK46 ?_
 refine Z0 rfl (fun hb => ?_) (fun hb => ?_)
 rotate_left
 ·replace H := Zp H hb
  refine Vo ?_
  refine Ye ?_
  refine Ye ?_
  refine Xf ?_
  refine Zc hK22 ?_
  refine Zd (fun K hK81 => ?_)
  refine Zf ?_
  refine Za rfl rfl rfl (Ze J3 rfl) ?_
  refine Za rfl rfl rfl (Zh V1 rfl (RW.here _) hS hs7 trivial Zc9) ?_
  refine Zb 1 rfl ?_
  refine Za rfl rfl rfl (Zct rfl rfl) ?_
  refine Zb 1 rfl ?_
  obtain ⟨e82, hi84, H⟩ := bind_some H
  obtain ⟨j83, hi84a, hi84b, hi84c⟩ := Y9 hi84
  refine Za rfl rfl rfl (Xo Vd rfl rfl hi84a hi84c (Rd.el (hS.row_rd hs0) Xd hi84b)) ?_
  refine wpX_storeR (a' := x2) (zs := (setI v40 (IntKind.wrap .i64 (x0 - 1)) x2)) Xd rfl rfl rfl CellsOf.int hS ps0 (Rd.el (hS.row_rd hs0) Xd hi84b) hi84a hi84b rfl st0_1 (by kernel_rfl) rfl (fun w hS => ?_)
  refine Zg ?_
  refine Zc hK81 ?_
  refine Zd (fun K hK85 => ?_)
  refine Zf ?_
  refine Za rfl rfl rfl (Zj Yp rfl (RW.here _) hS hs7 trivial Yb) ?_
  refine Zo rfl rfl rfl CellsOf.agg hS ps5 Xq (by kernel_rfl) rfl (fun w hS hB => ?_)
  refine Zg ?_
  refine Zc hK85 ?_
  refine Zk ?_
  refine Zl rfl (RV.cell rfl (Z3 Yp hS hs5 Yb) RV.nil) rfl ?_
  obtain rfl := Option.some.inj H
  have hS := hS.front 0 rfl
  have hS := hS.front 1 rfl
  have hS := hS.front 2 rfl
  have hS := hS.front 3 rfl
  have hS := hS.front 4 rfl
  replace hS := hS.cut 5
  exact ⟨A15, c16, A26, c27, A31, c32, A36, c37, A41, c42, by rw [(Zeq rfl)]; rfl, k17, k28, k33, k38, (k_set k43), hS.eqv (by rw [(Zeq rfl)]; rfl)⟩
 replace H := Zq H hb
 refine Zu ?_
 refine Zc hK45 ?_
 refine Zd (fun K hK47 => ?_)
 refine Yj ?_
 refine Zd (fun K hK48 => ?_)
 refine Zf ?_
 refine Za rfl rfl rfl (Ze Zbm rfl) ?_
 refine Za rfl rfl rfl (Zh sc_27 rfl (RW.here _) hS hs7 trivial Zfe) ?_
 refine Vq (ps := [(0, .const (.bool false))]) [.bool false] el_27 zc_4 rfl rfl rfl rfl rfl (by kernel_rfl) hS (fun b49 w hS hB => ?_)
 obtain ⟨l51, hf52, H⟩ := bind_some H
 refine Za3 (ys := ([false] : List Bool)) he_enO oc_enO em_27 (by decide) rfl rfl rfl rfl hS (fun _ => ps4) (hS.box_rd hs0) hf52 (fun A53 c54 w k55 hS => ?_)
 refine Za rfl rfl rfl (Ze Zbm rfl) ?_
 refine Zo rfl rfl rfl CellsOf.slice hS ps8 st18_1 (by kernel_rfl) rfl (fun w hS hB => ?_)
 refine Zg ?_
 refine Zc hK48 ?_
 refine Zd (fun K hK56 => ?_)
 refine Yo 9 [6, 8] (fun i b => (i = 6 → False) ∧ (i = 8 → b ≠ b19)) ⟨by kernel_rfl, by kernel_rfl⟩ hS (fun w hS hB => ?_)
 refine Xz [true] [6] (fun _ => False) (by decide +kernel) (by intro j hj b hb; simp only [List.mem_cons, List.not_mem_nil, or_false] at hj; (try rcases hj with rfl | rfl | rfl | rfl | rfl) <;> simp_all) (by repeat (first | exact PF.body | exact PF.round | apply PF.then | apply PF.inBlock | apply PF.jump)) ?_
 refine LtK.put rfl rfl rfl (Ze Zao rfl) ?_
 refine LtK.nil ?_
 refine Zm [false, true] (by decide +kernel) (by repeat (first | exact PF.body | exact PF.round | apply PF.then | apply PF.inBlock | apply PF.jump)) ?_
 refine LtK.put rfl rfl rfl (Zh V1 rfl (RW.below _) hS hs8 trivial Zdn) ?_
 refine LtK.nil ?_
 refine Z7 [false, false, true] 2 ⟨by decide, by kernel_rfl, by kernel_rfl⟩ rfl rfl ?_
 try dsimp only [Z2]
 refine Za rfl rfl rfl (Zj Xg rfl (RW.here _) hS hs7 trivial Zfp) ?_
 refine Zg ?_
 refine Yf (Below.refl _ _) ?_
 refine Z7 [false, false, false, true] 3 ⟨by decide, by kernel_rfl, by kernel_rfl⟩ rfl rfl ?_
 try dsimp only [Z2]
 obtain ⟨r57, hm58, H⟩ := bind_some H
 refine Zr rfl rfl rfl rfl (by kernel_rfl) rfl (Za7 x3 A0_ c0_ _ (SlI.of_rd s0_.k (hS.rd0 s0_.rd) (hS.blk0 s0_.blk)) hm58) ?_
 rintro e w ⟨rfl, hN⟩; refine ⟨_, rfl, ?_⟩; have hB := hN.pure; have hS := hS.join hN; clear hN
 refine Zg ?_
 refine Yf hB ?_
 refine Xz [false, false, false, false, true] [6] (fun _ => False) (by decide +kernel) (by intro j hj b hb; simp only [List.mem_cons, List.not_mem_nil, or_false] at hj; (try rcases hj with rfl | rfl | rfl | rfl | rfl) <;> simp_all) (by repeat (first | exact PF.body | exact PF.round | apply PF.then | apply PF.inBlock | apply PF.jump)) ?_
 refine LtK.put rfl rfl rfl (X1 rfl rfl) ?_
 refine LtK.nil ?_
 refine Z7 [false, false, false, false, false, true] 5 ⟨by decide, by kernel_rfl, by kernel_rfl⟩ rfl rfl ?_
 try dsimp only [Z2]
 refine Vq (ps := [(0, .tmp 52)]) [.int .i64 (IntKind.wrap .i64 (r57 + 1))] Vd zc_3 rfl rfl rfl rfl rfl (by kernel_rfl) hS (fun b59 w hS hB => ?_)
 refine Zg ?_
 refine Yf hB ?_
 refine Xh [false, false, false, false, false, false, true] 6 ⟨by decide, by kernel_rfl, by kernel_rfl⟩ rfl rfl ?_
 try dsimp only [Z2]
 obtain ⟨l61, hf62, H⟩ := bind_some H
 refine wpX_append2 (ys := ([(IntKind.wrap .i64 (r57 + 1))] : List Int)) Xd oc_enI em_28 (by decide) rfl rfl rfl rfl hS (fun _ => ps4) (hS.box_rd hs0) hf62 (fun A63 c64 w k65 hS hB => ?_)
 refine Zg ?_
 refine Xc (hB.sub (fun _ _ h => by simp at h)) ?_
 refine Zm [false, false, false, false, false, false, false, true] (by decide +kernel) (by repeat (first | exact PF.body | exact PF.round | apply PF.then | apply PF.inBlock | apply PF.jump)) ?_
 refine LtK.put rfl rfl rfl (Ze Zao rfl) ?_
 refine LtK.nil ?_
 refine Xh [false, false, false, false, false, false, false, false, true] 8 ⟨by decide, by kernel_rfl, by kernel_rfl⟩ rfl rfl ?_
 try dsimp only [Z2]
 refine Zo rfl rfl rfl CellsOf.slice hS ps9 st19_1 (by kernel_rfl) rfl (fun w hS hB => ?_)
 refine Zg ?_
 refine Xc (hB.sub (fun _ _ h => by simpa using h)) ?_
 refine Z8 (by kernel_rfl) ?_
 refine Zc hK56 ?_
 refine Zd (fun K hK66 => ?_)
 refine Zf ?_
 refine Za rfl rfl rfl (Ze Zco rfl) ?_
 refine Za rfl rfl rfl (Zh V1 rfl (RW.here _) hS hs9 trivial Zfg) ?_
 refine Vq (ps := [(0, .const (.int .i64 0))]) [.int .i64 0] Vd zc_3 rfl rfl rfl rfl rfl (by kernel_rfl) hS (fun b67 w hS hB => ?_)
 obtain ⟨l69, hf70, H⟩ := bind_some H
 refine Za3 (ys := ([0] : List Int)) Xd oc_enI em_28 (by decide) rfl rfl rfl rfl hS (fun _ => ps4) (hS.box_rd hs0) hf70 (fun A71 c72 w k73 hS => ?_)
 refine Za rfl rfl rfl (Ze Zco rfl) ?_
 refine Zo rfl rfl rfl CellsOf.slice hS ps10 st20_1 (by kernel_rfl) rfl (fun w hS hB => ?_)
 refine Zg ?_
 refine Zc hK66 ?_
 refine Zf ?_
 refine Za rfl rfl rfl (Ze J3 rfl) ?_
 refine Za rfl rfl rfl (Zh V1 rfl (RW.here _) hS hs10 trivial Zc9) ?_
 refine Vq (ps := [(0, .const (.int .i64 0))]) [.int .i64 0] Vd zc_3 rfl rfl rfl rfl rfl (by kernel_rfl) hS (fun b74 w hS hB => ?_)
 obtain ⟨l76, hf77, H⟩ := bind_some H
 refine Za3 (ys := ([0] : List Int)) Xd oc_enI em_28 (by decide) rfl rfl rfl rfl hS (fun _ => ps4) (hS.box_rd hs0) hf77 (fun A78 c79 w k80 hS => ?_)
 refine Za rfl rfl rfl (Ze J3 rfl) ?_
 refine Zo rfl rfl rfl CellsOf.slice hS ps11 st21_1 (by kernel_rfl) rfl (fun w hS hB => ?_)
 refine Zg ?_
 refine Z1 ?_
 refine Zc hK47 ?_
 refine Zf ?_
 refine Zb 1 rfl ?_
 refine Za rfl rfl rfl (X1 rfl rfl) ?_
 refine Zb 1 rfl ?_
 refine Zg ?_
 exact Vp (n, (IntKind.wrap .i64 (v24 + 1)), l51, A53, c54, l61, A63, c64, l69, A71, c72, l76, A78, c79) (by repeat (first | exact Sub.nil | refine Sub.cons rfl ?_)) ⟨(hS.sub (List.Sublist.cons _ (List.Sublist.cons _ (List.Sublist.cons _ (List.Sublist.cons _ (List.Sublist.cons_cons _ (List.Sublist.cons_cons _ (List.Sublist.cons_cons _ (List.Sublist.cons_cons _ (List.Sublist.cons_cons _ (List.Sublist.cons_cons _ (List.Sublist.cons_cons _ (List.Sublist.cons_cons _ List.Sublist.slnil))))))))))))), k55, k65, k73, k80, H⟩ (Nat.lt_succ_self _)
theorem c_install_nodes (x0 : Co) (x1 : List Nat) (A0_ : Option Addr) (c0_ : Nat) (A1_ : Option Addr) (c1_ : Nat) (A2_ : Option Addr) (c2_ : Nat) (A3_ : Option Addr) (c3_ : Nat) (A4_ : Option Addr) (c4_ : Nat) (A5_ : Option Addr) (c5_ : Nat) (w0 : World) (s0_ : SlI w0 Jv A0_ c0_ x0.tuple.log) (s1_ : SlI w0 enO A1_ c1_ x0.votes) (s2_ : SlI w0 Vu A2_ c2_ x0.next) (s3_ : SlI w0 Vu A3_ c3_ x0.mtch) (s4_ : SlI w0 Vu A4_ c4_ x0.caps) (s5_ : SlI w0 enF A5_ c5_ x1) : Calls Try.prog 44 #[.agg #[.int .i64 x0.id, .int .i64 x0.n, .int .u8 x0.role, .int .i64 x0.binary, .int .i64 x0.tuple.snap.index, .int .i64 x0.tuple.snap.term, .int .i64 x0.tuple.snap.sum, .int .i64 x0.tuple.snap.level, .bool x0.tuple.snap.final, .slice A0_ x0.tuple.log.length c0_, .int .i64 x0.tuple.term, .int .i64 x0.tuple.vote, .int .i64 x0.commit, .int .i64 x0.applied.index, .int .i64 x0.applied.term, .int .i64 x0.applied.sum, .int .i64 x0.applied.level, .bool x0.applied.final, .slice A1_ x0.votes.length c1_, .slice A2_ x0.next.length c2_, .slice A3_ x0.mtch.length c3_, .slice A4_ x0.caps.length c4_], .slice A5_ x1.length c5_] w0 fun e w' => ∃ (b0_ : Nat) (b1_ : Nat), e = .returned (.func (.func 76) #[] #[.pointer (some ⟨b0_, 0, none⟩), .pointer (some ⟨b1_, 0, none⟩)]) ∧ St0 All w0 w' [.box b0_ [.int .i64 x0.id, .int .i64 x0.n, .int .u8 x0.role, .int .i64 x0.binary, .int .i64 x0.tuple.snap.index, .int .i64 x0.tuple.snap.term, .int .i64 x0.tuple.snap.sum, .int .i64 x0.tuple.snap.level, .bool x0.tuple.snap.final, .slice A0_ x0.tuple.log.length c0_, .int .i64 x0.tuple.term, .int .i64 x0.tuple.vote, .int .i64 x0.commit, .int .i64 x0.applied.index, .int .i64 x0.applied.term, .int .i64 x0.applied.sum, .int .i64 x0.applied.level, .bool x0.applied.final, .slice A1_ x0.votes.length c1_, .slice A2_ x0.next.length c2_, .slice A3_ x0.mtch.length c3_, .slice A4_ x0.caps.length c4_] 30, .box b1_ [.slice A5_ x1.length c5_] 94] := by
 refine Yw Try.func44 rfl Try.ntmps44 rfl ?_
 have hS := St0.start All w0
 refine Zd (fun K hK1 => ?_)
 refine Zf ?_
 refine Z9 rfl rfl rfl CellsOf.agg hS (fun b2 w hS hB => ?_)
 refine Z9 rfl rfl rfl CellsOf.slice hS (fun b4 w hS hB => ?_)
 refine Zb 1 rfl ?_
 refine Zg ?_
 refine Zc hK1 ?_
 refine Zd (fun K hK6 => ?_)
 refine Zf ?_
 refine Za rfl rfl rfl (X9 rfl rfl) ?_
 refine Zb 1 rfl ?_
 refine Zg ?_
 refine Zc hK6 ?_
 refine Zk ?_
 refine Zl rfl (RV.tmp rfl RV.nil) rfl ?_
 have hS := hS.front 0 rfl
 have hS := hS.front 1 rfl
 exact ⟨b2, b4, rfl, hS.sub (List.Sublist.cons_cons _ (List.Sublist.cons_cons _ List.Sublist.slnil))⟩
theorem Zd0 (x0 : Co) (A0_ : Option Addr) (c0_ : Nat) (A1_ : Option Addr) (c1_ : Nat) (A2_ : Option Addr) (c2_ : Nat) (A3_ : Option Addr) (c3_ : Nat) (A4_ : Option Addr) (c4_ : Nat) (w0 : World) (s0_ : SlI w0 Jv A0_ c0_ x0.tuple.log) (s1_ : SlI w0 enO A1_ c1_ x0.votes) (s2_ : SlI w0 Vu A2_ c2_ x0.next) (s3_ : SlI w0 Vu A3_ c3_ x0.mtch) (s4_ : SlI w0 Vu A4_ c4_ x0.caps) {r : List Int} (H : Vl x0 = some r) : Calls Try.prog 20 #[.agg #[.int .i64 x0.id, .int .i64 x0.n, .int .u8 x0.role, .int .i64 x0.binary, .int .i64 x0.tuple.snap.index, .int .i64 x0.tuple.snap.term, .int .i64 x0.tuple.snap.sum, .int .i64 x0.tuple.snap.level, .bool x0.tuple.snap.final, .slice A0_ x0.tuple.log.length c0_, .int .i64 x0.tuple.term, .int .i64 x0.tuple.vote, .int .i64 x0.commit, .int .i64 x0.applied.index, .int .i64 x0.applied.term, .int .i64 x0.applied.sum, .int .i64 x0.applied.level, .bool x0.applied.final, .slice A1_ x0.votes.length c1_, .slice A2_ x0.next.length c2_, .slice A3_ x0.mtch.length c3_, .slice A4_ x0.caps.length c4_]] w0 fun e w' => ∃ (A0 : Option Addr) (c0 : Nat), e = .returned (.slice A0 r.length c0) ∧ (r.length ≤ c0 ∧ c0 ≤ maxLen) ∧ St0 All w0 w' [.row (.slice A0 r.length c0) 3 1 r.length (Ym Vu r)] := by
 unfold Vl at H
 refine Yl Try.func20 rfl Try.ntmps20 rfl ?_
 have hS := St0.start All w0
 refine Zd (fun K hK1 => ?_)
 refine Zf ?_
 refine Z9 rfl rfl rfl CellsOf.agg hS (fun b2 w hS hB => ?_)
 refine Z6 rfl rfl zc_28 hS (fun b4 w hS hB => ?_)
 refine Zg ?_
 refine Zc hK1 ?_
 refine Zd (fun K hK6 => ?_)
 refine Zd (fun K hK7 => ?_)
 refine Zf ?_
 refine Za rfl rfl rfl (Zj Yp rfl (RW.here _) hS Xt trivial Yb) ?_
 refine Vq (ps := [(0, .func 26)]) [.func (.func 26) #[] #[]] el_94 zc_60 rfl rfl rfl rfl rfl (by kernel_rfl) hS (fun b8 w hS hB => ?_)
 have hM10 := hS
 refine Zr rfl rfl rfl rfl (by kernel_rfl) rfl (c_install_nodes x0 ([26] : List Nat) A0_ c0_ A1_ c1_ A2_ c2_ A3_ c3_ A4_ c4_ (some ⟨b8, 0, none⟩) 1 _ (SlI.of_rd s0_.k (hS.rd0 s0_.rd) (hS.blk0 s0_.blk)) (SlI.of_rd s1_.k (hS.rd0 s1_.rd) (hS.blk0 s1_.blk)) (SlI.of_rd s2_.k (hS.rd0 s2_.rd) (hS.blk0 s2_.blk)) (SlI.of_rd s3_.k (hS.rd0 s3_.rd) (hS.blk0 s3_.blk)) (SlI.of_rd s4_.k (hS.rd0 s4_.rd) (hS.blk0 s4_.blk)) (SlI.of_rd ⟨Nat.le_refl 1, by decide⟩ (hS.box_rd hs0) (hS.box_blk hs0))) ?_
 rintro e w ⟨b12, b13, rfl, hN11⟩; refine ⟨_, rfl, ?_⟩; have hB := hN11.pure; have hS := hS.join hN11
 refine Zg ?_
 refine Zc hK7 ?_
 refine Yj ?_
 replace hS := hS.nilRow 3 1
 replace hM10 := hM10.nilRow 3 1
 obtain ⟨xs22, hx23, H⟩ := bind_some H
 refine wpC_rangeQ (w0 := w0) (X := List Int × Option Addr × Nat) rfl (by kernel_rfl) (it_nodes x0 ([26] : List Nat) _ _ _ s0_ s1_ s2_ s3_ s4_ hM10.pure b12 b13 hN11 hx23) ⟨hM10.size, hN11.size⟩ (fun _ _ _ _ h => encN_len _ _ _ _ h) (by kernel_rfl) (fun k x => .row (.slice x.2.1 x.1.length x.2.2) 3 1 x.1.length (Ym Vu x.1) :: .box b8 [.func (.func 26) #[] #[]] 60 :: .box b4 [.slice x.2.1 x.1.length x.2.2] 28 :: .box b2 [.int .i64 x0.id, .int .i64 x0.n, .int .u8 x0.role, .int .i64 x0.binary, .int .i64 x0.tuple.snap.index, .int .i64 x0.tuple.snap.term, .int .i64 x0.tuple.snap.sum, .int .i64 x0.tuple.snap.level, .bool x0.tuple.snap.final, .slice A0_ x0.tuple.log.length c0_, .int .i64 x0.tuple.term, .int .i64 x0.tuple.vote, .int .i64 x0.commit, .int .i64 x0.applied.index, .int .i64 x0.applied.term, .int .i64 x0.applied.sum, .int .i64 x0.applied.level, .bool x0.applied.final, .slice A1_ x0.votes.length c1_, .slice A2_ x0.next.length c2_, .slice A3_ x0.mtch.length c3_, .slice A4_ x0.caps.length c4_] 30 :: []) (fun k x => (x.1.length ≤ x.2.2 ∧ x.2.2 ≤ maxLen) ∧ Ve (xs22.drop k) x.1 = some r) (fun _ _ => []) (fun _ _ => False) (fun _ => False) (fun _ _ _ h => h.st.box_rd Xt) ([], none, 0) ⟨hS.sub (List.Sublist.cons_cons _ (List.Sublist.cons _ (List.Sublist.cons _ (List.Sublist.cons_cons _ (List.Sublist.cons_cons _ (List.Sublist.cons_cons _ List.Sublist.slnil)))))), fun e he k hk => .inl (hM10.rng e he k hk).1⟩ ⟨⟨Nat.le_refl _, Nat.zero_le _⟩, H⟩ ?_ ?_ (fun _ _ _ h _ => h.elim) (fun _ _ h _ => h.elim)
 ·rintro lo k e16 ⟨v17, A18, c19⟩ AQ A vQ hke ⟨k20, H⟩ hzQ hzB hRQ hkQ hEQ hRB hS
  obtain ⟨A24, c25, rfl, k26, hrQ, hbQ⟩ := hEQ
  refine ⟨_, hRQ.more hM10.size hzQ hkQ hrQ hbQ, ?_⟩
  dsimp only at hRB k20 H ⊢
  rw [drop_of_get hke, Ve] at H
  dsimp only [List.zip, List.zipWith, List.foldl]
  refine Zaa (by repeat (first | exact NL.round | exact NL.false | exact NL.body (by intro _ h; simp at h) | apply NL.then | apply NL.inBlock | apply NL.jump)) (by kernel_rfl) ?_
  refine Zb 1 rfl ?_
  refine Zg ?_
  refine QH_asg hS ?_
  rintro A2 hS hBase hE
  dsimp only [List.cons_append, List.nil_append] at hS
  refine Yj ?_
  refine Zaa (by repeat (first | exact NL.round | exact NL.false | exact NL.body (by intro _ h; simp at h) | apply NL.then | apply NL.inBlock | apply NL.jump)) (by kernel_rfl) ?_
  refine Za rfl rfl rfl (Zh V1 rfl (RW.here _) hS hs3 trivial Y2) ?_
  refine Zb 1 rfl ?_
  refine Vq (ps := [(0, .tmp 10)]) [.int .i64 e16.1] Vd zc_3 rfl rfl rfl rfl rfl (by kernel_rfl) hS (fun b28 w hS hB => ?_)
  obtain ⟨l30, hf31, H⟩ := bind_some H
  refine Za3 (ys := ([e16.1] : List Int)) Xd oc_enI em_28 (by decide) rfl rfl rfl rfl hS (fun _ => ps2) (hS.box_rd hs0) hf31 (fun A32 c33 w k34 hS => ?_)
  refine Zo rfl rfl rfl CellsOf.slice hS ps4 st0_1 (by kernel_rfl) rfl (fun w hS hB => ?_)
  refine Zg ?_
  refine Z1 ?_
  exact QH_round hBase hE hS (l30, A32, c33) (List.Sublist.cons _ (List.Sublist.cons _ (List.Sublist.cons_cons _ (List.Sublist.cons_cons _ (List.Sublist.cons_cons _ (List.Sublist.cons_cons _ List.Sublist.slnil)))))) ⟨k34, H⟩
 ·rintro ⟨v17, A18, c19⟩ A ⟨k20, H⟩ hS
  dsimp only at hS k20 H ⊢
  rw [List.drop_length, Ve] at H
  refine Z1 ?_
  refine Zc hK6 ?_
  refine Zd (fun K hK36 => ?_)
  refine Zf ?_
  refine Za rfl rfl rfl (Zh V1 rfl (RW.here _) hS hs3 trivial Y2) ?_
  refine Zo rfl rfl rfl CellsOf.slice hS ps3 st0_1 (by kernel_rfl) rfl (fun w hS hB => ?_)
  refine Zg ?_
  refine Zc hK36 ?_
  refine Zk ?_
  refine QH_shut (.inl rfl) hS ps0 (fun w hS => ?_)
  replace hS := hS.sub (List.Sublist.cons _ (List.Sublist.cons_cons _ (List.Sublist.cons_cons _ (List.Sublist.cons_cons _ (List.Sublist.cons_cons _ List.Sublist.slnil)))))
  refine Zl rfl (RV.cell rfl (load_box1 V1 hS Vh Y2) RV.nil) rfl ?_
  obtain rfl := Option.some.inj H
  have hS := hS.front 0 rfl
  replace hS := hS.cut 1
  exact ⟨A18, c19, rfl, k20, hS⟩
theorem c_install_Beat (x0 : Co) (A0_ : Option Addr) (c0_ : Nat) (A1_ : Option Addr) (c1_ : Nat) (A2_ : Option Addr) (c2_ : Nat) (A3_ : Option Addr) (c3_ : Nat) (A4_ : Option Addr) (c4_ : Nat) (w0 : World) (s0_ : SlI w0 Jv A0_ c0_ x0.tuple.log) (s1_ : SlI w0 enO A1_ c1_ x0.votes) (s2_ : SlI w0 Vu A2_ c2_ x0.next) (s3_ : SlI w0 Vu A3_ c3_ x0.mtch) (s4_ : SlI w0 Vu A4_ c4_ x0.caps) {r : List Ms} (H : Ju x0 = some r) : Calls Try.prog 19 #[.agg #[.int .i64 x0.id, .int .i64 x0.n, .int .u8 x0.role, .int .i64 x0.binary, .int .i64 x0.tuple.snap.index, .int .i64 x0.tuple.snap.term, .int .i64 x0.tuple.snap.sum, .int .i64 x0.tuple.snap.level, .bool x0.tuple.snap.final, .slice A0_ x0.tuple.log.length c0_, .int .i64 x0.tuple.term, .int .i64 x0.tuple.vote, .int .i64 x0.commit, .int .i64 x0.applied.index, .int .i64 x0.applied.term, .int .i64 x0.applied.sum, .int .i64 x0.applied.level, .bool x0.applied.final, .slice A1_ x0.votes.length c1_, .slice A2_ x0.next.length c2_, .slice A3_ x0.mtch.length c3_, .slice A4_ x0.caps.length c4_]] w0 fun e w' => ∃ (A0 : Option Addr) (c0 : Nat) (q0 : List Mq), e = .returned (.slice A0 r.length c0) ∧ (r.length ≤ c0 ∧ c0 ≤ maxLen) ∧ q0.map Mq.m = r ∧ (∀ y ∈ q0, okQ y) ∧ St0 All w0 w' [.rd A0 (Ym enQ q0), .rds (q0.map subQ)] := by
 unfold Ju at H
 refine Yl Try.func19 rfl Try.ntmps19 rfl ?_
 have hS := St0.start All w0
 refine Zd (fun K hK1 => ?_)
 refine Zf ?_
 refine Z9 rfl rfl rfl CellsOf.agg hS (fun b2 w hS hB => ?_)
 refine Z6 rfl rfl zc_36 hS (fun b4 w hS hB => ?_)
 refine Zg ?_
 refine Zc hK1 ?_
 refine Zd (fun K hK6 => ?_)
 refine Zd (fun K hK7 => ?_)
 refine Zf ?_
 refine Za rfl rfl rfl (Zj Yp rfl (RW.here _) hS Xt trivial Yb) ?_
 refine Vq (ps := [(0, .func 45), (1, .func 26)]) [.func (.func 45) #[] #[], .func (.func 26) #[] #[]] el_94 zc_60 rfl rfl rfl rfl rfl (by kernel_rfl) hS (fun b8 w hS hB => ?_)
 have hM10 := hS
 refine Zr rfl rfl rfl rfl (by kernel_rfl) rfl (c_install_nodes x0 ([45, 26] : List Nat) A0_ c0_ A1_ c1_ A2_ c2_ A3_ c3_ A4_ c4_ (some ⟨b8, 0, none⟩) 2 _ (SlI.of_rd s0_.k (hS.rd0 s0_.rd) (hS.blk0 s0_.blk)) (SlI.of_rd s1_.k (hS.rd0 s1_.rd) (hS.blk0 s1_.blk)) (SlI.of_rd s2_.k (hS.rd0 s2_.rd) (hS.blk0 s2_.blk)) (SlI.of_rd s3_.k (hS.rd0 s3_.rd) (hS.blk0 s3_.blk)) (SlI.of_rd s4_.k (hS.rd0 s4_.rd) (hS.blk0 s4_.blk)) (SlI.of_rd ⟨Nat.le_refl 2, by decide⟩ (hS.box_rd hs0) (hS.box_blk hs0))) ?_
 rintro e w ⟨b12, b13, rfl, hN11⟩; refine ⟨_, rfl, ?_⟩; have hB := hN11.pure; have hS := hS.join hN11
 refine Zg ?_
 refine Zc hK7 ?_
 refine Yj ?_
 replace hS := hS.nilRds
 replace hS := hS.nilRow 32 15
 replace hM10 := hM10.nilRds
 replace hM10 := hM10.nilRow 32 15
 obtain ⟨xs26, hx27, H⟩ := bind_some H
 refine wpC_rangeQ (w0 := w0) (X := List Ms × Option Addr × Nat × List Mq) rfl (by kernel_rfl) (it_nodes x0 ([45, 26] : List Nat) _ _ _ s0_ s1_ s2_ s3_ s4_ hM10.pure b12 b13 hN11 hx27) ⟨hM10.size, hN11.size⟩ (fun _ _ _ _ h => encN_len _ _ _ _ h) (by kernel_rfl) (fun k x => .row (.slice x.2.1 x.1.length x.2.2.1) 32 15 x.1.length (Ym enQ x.2.2.2) :: .rds (x.2.2.2.map subQ) :: .box b8 [.func (.func 45) #[] #[], .func (.func 26) #[] #[]] 60 :: .box b4 [.slice x.2.1 x.1.length x.2.2.1] 36 :: .box b2 [.int .i64 x0.id, .int .i64 x0.n, .int .u8 x0.role, .int .i64 x0.binary, .int .i64 x0.tuple.snap.index, .int .i64 x0.tuple.snap.term, .int .i64 x0.tuple.snap.sum, .int .i64 x0.tuple.snap.level, .bool x0.tuple.snap.final, .slice A0_ x0.tuple.log.length c0_, .int .i64 x0.tuple.term, .int .i64 x0.tuple.vote, .int .i64 x0.commit, .int .i64 x0.applied.index, .int .i64 x0.applied.term, .int .i64 x0.applied.sum, .int .i64 x0.applied.level, .bool x0.applied.final, .slice A1_ x0.votes.length c1_, .slice A2_ x0.next.length c2_, .slice A3_ x0.mtch.length c3_, .slice A4_ x0.caps.length c4_] 30 :: []) (fun k x => (x.1.length ≤ x.2.2.1 ∧ x.2.2.1 ≤ maxLen) ∧ (x.2.2.2.map Mq.m = x.1) ∧ (∀ y ∈ x.2.2.2, okQ y) ∧ Vt (xs26.drop k) x.1 = some r) (fun _ _ => []) (fun _ _ => False) (fun _ => False) (fun _ _ _ h => h.st.box_rd Vh) ([], none, 0, ([] : List Mq)) ⟨hS.sub (List.Sublist.cons_cons _ (List.Sublist.cons_cons _ (List.Sublist.cons _ (List.Sublist.cons _ (List.Sublist.cons_cons _ (List.Sublist.cons_cons _ (List.Sublist.cons_cons _ List.Sublist.slnil))))))), fun e he k hk => .inl (hM10.rng e he k hk).1⟩ ⟨⟨Nat.le_refl _, Nat.zero_le _⟩, rfl, Ze7, H⟩ ?_ ?_ (fun _ _ _ h _ => h.elim) (fun _ _ h _ => h.elim)
 ·rintro lo k e16 ⟨v17, A18, c19, q21⟩ AQ A vQ hke ⟨k20, hq22, okq23, H⟩ hzQ hzB hRQ hkQ hEQ hRB hS
  obtain ⟨A28, c29, rfl, k30, hrQ, hbQ⟩ := hEQ
  refine ⟨_, hRQ.more hM10.size hzQ hkQ hrQ hbQ, ?_⟩
  dsimp only at hRB k20 hq22 okq23 H ⊢
  rw [drop_of_get hke, Vt] at H
  dsimp only [List.zip, List.zipWith, List.foldl]
  refine Zaa (by repeat (first | exact NL.round | exact NL.false | exact NL.body (by intro _ h; simp at h) | apply NL.then | apply NL.inBlock | apply NL.jump)) (by kernel_rfl) ?_
  refine Z6 rfl rfl Zfy hS (fun b32 w hS hB => ?_)
  refine Zo rfl rfl rfl CellsOf.agg hS ps0 Zax (by kernel_rfl) rfl (fun w hS hB => ?_)
  refine Zg ?_
  refine QH_asg hS ?_
  rintro A2 hS hBase hE
  dsimp only [List.cons_append, List.nil_append] at hS
  refine Yj ?_
  refine Zaa (by repeat (first | exact NL.round | exact NL.false | exact NL.body (by intro _ h; simp at h) | apply NL.then | apply NL.inBlock | apply NL.jump)) (by kernel_rfl) ?_
  refine Za rfl rfl rfl (Zh sc_36 rfl (RW.here _) hS hs5 trivial Y2) ?_
  refine Za rfl rfl rfl (Zj X7 rfl (RW.here _) hS hs0 trivial Xj) ?_
  refine Vq (ps := [(0, .tmp 11)]) [.int .u8 e16.2.kind, .int .i64 e16.2.frm, .int .i64 e16.2.dst, .int .i64 e16.2.term, .int .i64 e16.2.cap, .int .i64 e16.2.last, .int .i64 e16.2.lastTerm, .int .i64 e16.2.commit, .bool e16.2.okk, .slice A28 e16.2.entries.length c29, .int .i64 e16.2.snap.index, .int .i64 e16.2.snap.term, .int .i64 e16.2.snap.sum, .int .i64 e16.2.snap.level, .bool e16.2.snap.final] Zam Zfy rfl rfl rfl rfl rfl (by kernel_rfl) hS (fun b34 w hS hB => ?_)
  obtain ⟨l36, hf37, H⟩ := bind_some H
  refine wpX_appendQ (l := v17) (q := q21) (y := ⟨e16.2, A28, c29⟩) em_36 (by decide) rfl rfl rfl rfl hS hq22 (fun _ => ps3) (hS.box_rd hs0) hf37 (fun A38 c39 w k40 hS hq41 hB => ?_)
  have okq42 := okq_snoc okq23 (show okQ ⟨e16.2, A28, c29⟩ from k30)
  replace hS := hS.front 4 rfl
  replace hS := hS.front 3 rfl
  replace hS := hS.absorbQ ⟨e16.2, A28, c29⟩
  replace hS := hS.front 3 rfl
  refine Zo rfl rfl rfl CellsOf.slice hS ps5 st0_1 (by kernel_rfl) rfl (fun w hS hB => ?_)
  refine Zg ?_
  refine Z1 ?_
  exact QH_round hBase hE hS (l36, A38, c39, (q21 ++ [⟨e16.2, A28, c29⟩])) (List.Sublist.cons_cons _ (List.Sublist.cons_cons _ (List.Sublist.cons _ (List.Sublist.cons _ (List.Sublist.cons_cons _ (List.Sublist.cons_cons _ (List.Sublist.cons_cons _ List.Sublist.slnil))))))) ⟨k40, hq41, okq42, H⟩
 ·rintro ⟨v17, A18, c19, q21⟩ A ⟨k20, hq22, okq23, H⟩ hS
  dsimp only at hS k20 hq22 okq23 H ⊢
  rw [List.drop_length, Vt] at H
  refine Z1 ?_
  refine Zc hK6 ?_
  refine Zd (fun K hK44 => ?_)
  refine Zf ?_
  refine Za rfl rfl rfl (Zh sc_36 rfl (RW.here _) hS hs4 trivial Y2) ?_
  refine Zo rfl rfl rfl CellsOf.slice hS ps4 st0_1 (by kernel_rfl) rfl (fun w hS hB => ?_)
  refine Zg ?_
  refine Zc hK44 ?_
  refine Zk ?_
  refine QH_shut (.inl rfl) hS ps0 (fun w hS => ?_)
  replace hS := hS.sub (List.Sublist.cons _ (List.Sublist.cons_cons _ (List.Sublist.cons_cons _ (List.Sublist.cons_cons _ (List.Sublist.cons_cons _ (List.Sublist.cons_cons _ List.Sublist.slnil))))))
  refine Zl rfl (RV.cell rfl (load_box1 sc_36 hS hs3 Y2) RV.nil) rfl ?_
  obtain rfl := Option.some.inj H
  have hS := hS.front 1 rfl
  replace hS := hS.front 1 rfl
  replace hS := hS.weak Weak.rowRd
  replace hS := hS.cut 2
  exact ⟨A18, c19, q21, rfl, k20, hq22, okq23, hS⟩
theorem Xm (w0 : World) {r : Bool} (H : Xb = some r) : Calls Try.prog 9 #[] w0 fun e w' => e = .returned (.bool r) ∧ St0 All w0 w' [] := by
 unfold Xb at H
 refine gw_enter0 Try.func9 rfl Try.ntmps9 rfl ?_
 have hS := St0.start All w0
 refine Zd (fun K hK1 => ?_)
 refine Zf ?_
 refine Zb 1 rfl ?_
 refine Zg ?_
 refine Zc hK1 ?_
 refine Zd (fun K hK2 => ?_)
 refine Zf ?_
 obtain ⟨r3, hm4, H⟩ := bind_some H
 refine Zr rfl rfl rfl rfl (by kernel_rfl) rfl (c_ref12_First _ hm4) ?_
 rintro e w ⟨A5, c6, rfl, k7, hN⟩; refine ⟨_, rfl, ?_⟩; have hB := hN.pure; have hS := hS.join hN; clear hN
 obtain ⟨r9, hm10, H⟩ := bind_some H
 refine Zr rfl rfl rfl rfl (by kernel_rfl) rfl (c_ref20_New 1 3 2 r3 A5 c6 _ (SlI.of_rd k7 (hS.rd hs0) (hS.rd_blk hs0)) hm10) ?_
 rintro e w ⟨A11, c12, A15, c16, A19, c20, A23, c24, A27, c28, rfl, k13, k17, k21, k25, k29, hN⟩; refine ⟨_, rfl, ?_⟩; have hB := hN.pure; have hS := hS.join hN; clear hN
 refine Z6 rfl rfl Zc0 hS (fun b31 w hS hB => ?_)
 refine Zo rfl rfl rfl CellsOf.agg hS ps0 Xq (by kernel_rfl) rfl (fun w hS hB => ?_)
 refine Zg ?_
 refine Zc hK2 ?_
 refine Zd (fun K hK33 => ?_)
 refine Zf ?_
 refine Za rfl rfl rfl (Zj Yp rfl (RW.here _) hS hs0 trivial Yb) ?_
 obtain ⟨r34, hm35, H⟩ := bind_some H
 refine Zr rfl rfl rfl rfl (by kernel_rfl) rfl (Zds r9 A11 c12 A15 c16 A19 c20 A23 c24 A27 c28 _ (SlI.of_rd k13 (hS.row_rd Xt) (hS.row_blk Xt)) (SlI.of_rd k17 (hS.row_rd Vh) (hS.row_blk Vh)) (SlI.of_rd k21 (hS.row_rd hs3) (hS.row_blk hs3)) (SlI.of_rd k25 (hS.row_rd hs4) (hS.row_blk hs4)) (SlI.of_rd k29 (hS.row_rd hs5) (hS.row_blk hs5)) hm35) ?_
 rintro e w ⟨A36, c37, A40, c41, A44, c45, A48, c49, A52, c53, rfl, k38, k42, k46, k50, k54, hN⟩; refine ⟨_, rfl, ?_⟩; have hB := hN.pure; have hS := hS.join hN; clear hN
 refine Zb 1 rfl ?_
 refine Za rfl rfl rfl (Ya rfl rfl) ?_
 refine Za rfl rfl rfl (Ya rfl rfl) ?_
 refine Z6 rfl rfl Zc0 hS (fun b56 w hS hB => ?_)
 refine Zo rfl rfl rfl CellsOf.agg hS ps0 Xq (by kernel_rfl) rfl (fun w hS hB => ?_)
 refine Zb 1 rfl ?_
 refine Zg ?_
 refine Zc hK33 ?_
 refine Zd (fun K hK58 => ?_)
 refine Zf ?_
 refine Za rfl rfl rfl (Xx (cells := [.int .i64 4, .int .i64 2, .int .i64 9, .int .i64 2, .bool false]) rfl (by kernel_rfl)) ?_
 refine Z6 rfl rfl zc_23 hS (fun b59 w hS hB => ?_)
 refine Zo rfl rfl rfl CellsOf.agg hS ps0 Zdm (by kernel_rfl) rfl (fun w hS hB => ?_)
 refine Zg ?_
 refine Zc hK58 ?_
 refine Zd (fun K hK61 => ?_)
 refine Zf ?_
 refine Za rfl rfl rfl (Zj Yn rfl (RW.here _) hS hs0 trivial Vw) ?_
 refine Za rfl rfl rfl (Xx (cells := [.int .i64 4, .int .i64 2, .int .i64 9, .int .i64 2, .bool false, .slice none 0 0, .int .i64 2, .int .i64 2]) rfl (by kernel_rfl)) ?_
 obtain ⟨r62, hm63, H⟩ := bind_some H
 refine Zr rfl rfl rfl rfl (by kernel_rfl) rfl (c_ref20_New 2 3 2 (⟨(⟨4, 2, 9, 2, false⟩ : St), [], 2, 2⟩ : Tu) none 0 _ (SlI.nil _ _) hm63) ?_
 rintro e w ⟨A64, c65, A68, c69, A72, c73, A76, c77, A80, c81, rfl, k66, k70, k74, k78, k82, hN⟩; refine ⟨_, rfl, ?_⟩; have hB := hN.pure; have hS := hS.join hN; clear hN
 refine Z6 rfl rfl Zc0 hS (fun b84 w hS hB => ?_)
 refine Zo rfl rfl rfl CellsOf.agg hS ps0 Xq (by kernel_rfl) rfl (fun w hS hB => ?_)
 refine Zg ?_
 refine Zc hK61 ?_
 refine Zd (fun K hK86 => ?_)
 refine Zf ?_
 refine Za rfl rfl rfl (Ze J6 rfl) ?_
 refine Zo rfl rfl rfl CellsOf.int hS ps0 st2_1 (by kernel_rfl) rfl (fun w hS hB => ?_)
 refine Zg ?_
 refine Zc hK86 ?_
 refine Zd (fun K hK87 => ?_)
 refine Zf ?_
 refine Vq (ps := [(0, .const (.int .i64 1)), (1, .const (.int .i64 5)), (2, .const (.int .i64 5))]) [.int .i64 1, .int .i64 5, .int .i64 5] Vd zc_3 rfl rfl rfl rfl rfl (by kernel_rfl) hS (fun b88 w hS hB => ?_)
 refine Za rfl rfl rfl (Ze Zao rfl) ?_
 refine Zo rfl rfl rfl CellsOf.slice hS ps1 st19_1 (by kernel_rfl) rfl (fun w hS hB => ?_)
 refine Zg ?_
 refine Zc hK87 ?_
 refine Zd (fun K hK90 => ?_)
 refine Zf ?_
 refine Za rfl rfl rfl (Zj Yp rfl (RW.here _) hS Xt trivial Yb) ?_
 obtain ⟨r91, hm92, H⟩ := bind_some H
 refine Zr rfl rfl rfl rfl (by kernel_rfl) rfl (Zdk (⟨r62.id, r62.n, 2, r62.binary, r62.tuple, r62.commit, r62.applied, r62.votes, ([1, 5, 5] : List Int), r62.mtch, r62.caps⟩ : Co) 1 A64 c65 A68 c69 (some ⟨b88, 0, none⟩) 3 A76 c77 A80 c81 _ (SlI.of_rd k66 (hS.row_rd Vh) (hS.row_blk Vh)) (SlI.of_rd k70 (hS.row_rd hs3) (hS.row_blk hs3)) (SlI.of_rd ⟨Nat.le_refl 3, by decide⟩ (hS.box_rd hs0) (hS.box_blk hs0)) (SlI.of_rd k78 (hS.row_rd hs5) (hS.row_blk hs5)) (SlI.of_rd k82 (hS.row_rd hs6) (hS.row_blk hs6)) hm92) ?_
 rintro e w ⟨A93, c94, rfl, k95, hN⟩; refine ⟨_, rfl, ?_⟩; have hB := hN.pure; have hS := hS.join hN; clear hN
 refine Zb 1 rfl ?_
 refine Za rfl rfl rfl (Ya rfl rfl) ?_
 refine Za rfl rfl rfl (Ya rfl rfl) ?_
 refine Z6 rfl rfl Zfy hS (fun b97 w hS hB => ?_)
 refine Zo rfl rfl rfl CellsOf.agg hS ps0 Zax (by kernel_rfl) rfl (fun w hS hB => ?_)
 refine Zb 1 rfl ?_
 refine Zg ?_
 refine Zc hK90 ?_
 refine Zd (fun K hK99 => ?_)
 refine Zf ?_
 refine Za rfl rfl rfl (Zj Yp rfl (RW.here _) hS hs3 trivial Yb) ?_
 obtain ⟨r100, hm101, H⟩ := bind_some H
 refine Zr rfl rfl rfl rfl (by kernel_rfl) rfl (Zdk (⟨r62.id, r62.n, 2, r62.binary, r62.tuple, r62.commit, r62.applied, r62.votes, ([1, 5, 5] : List Int), r62.mtch, r62.caps⟩ : Co) 3 A64 c65 A68 c69 (some ⟨b88, 0, none⟩) 3 A76 c77 A80 c81 _ (SlI.of_rd k66 (hS.row_rd hs4) (hS.row_blk hs4)) (SlI.of_rd k70 (hS.row_rd hs5) (hS.row_blk hs5)) (SlI.of_rd ⟨Nat.le_refl 3, by decide⟩ (hS.box_rd Vh) (hS.box_blk Vh)) (SlI.of_rd k78 (hS.row_rd hs7) (hS.row_blk hs7)) (SlI.of_rd k82 (hS.row_rd hs8) (hS.row_blk hs8)) hm101) ?_
 rintro e w ⟨A102, c103, rfl, k104, hN⟩; refine ⟨_, rfl, ?_⟩; have hB := hN.pure; have hS := hS.join hN; clear hN
 refine Zb 1 rfl ?_
 refine Za rfl rfl rfl (Ya rfl rfl) ?_
 refine Za rfl rfl rfl (Ya rfl rfl) ?_
 refine Z6 rfl rfl Zfy hS (fun b106 w hS hB => ?_)
 refine Zo rfl rfl rfl CellsOf.agg hS ps0 Zax (by kernel_rfl) rfl (fun w hS hB => ?_)
 refine Zb 1 rfl ?_
 refine Zg ?_
 refine Zc hK99 ?_
 refine Zd (fun K hK108 => ?_)
 refine Zf ?_
 refine Za rfl rfl rfl (Zj Yp rfl (RW.here _) hS hs18 trivial Yb) ?_
 refine Za rfl rfl rfl (Zj X7 rfl (RW.here _) hS Vh trivial Xj) ?_
 obtain ⟨r109, hm110, H⟩ := bind_some H
 refine Zr rfl rfl rfl rfl (by kernel_rfl) rfl (Zbr r9 r91.1 A11 c12 A15 c16 A19 c20 A23 c24 A27 c28 A93 c94 _ (SlI.of_rd k13 (hS.row_rd hs19) (hS.row_blk hs19)) (SlI.of_rd k17 (hS.row_rd hs20) (hS.row_blk hs20)) (SlI.of_rd k21 (hS.row_rd hs21) (hS.row_blk hs21)) (SlI.of_rd k25 (hS.row_rd hs22) (hS.row_blk hs22)) (SlI.of_rd k29 (hS.row_rd hs23) (hS.row_blk hs23)) (SlI.of_rd k95 (hS.rd hs3) (hS.rd_blk hs3)) hm110) ?_
 rintro e w ⟨A111, c112, A115, c116, A119, c120, A123, c124, A127, c128, A131, c132, q135, rfl, k113, k117, k121, k125, k129, k133, hq136, okq137, hN⟩; refine ⟨_, rfl, ?_⟩; have hB := hN.pure; have hS := hS.join hN; clear hN
 refine Zb 1 rfl ?_
 refine Za rfl rfl rfl (Ya rfl rfl) ?_
 refine Za rfl rfl rfl (Ya rfl rfl) ?_
 refine Z6 rfl rfl Zc0 hS (fun b139 w hS hB => ?_)
 refine Zo rfl rfl rfl CellsOf.agg hS ps0 Xq (by kernel_rfl) rfl (fun w hS hB => ?_)
 refine Zb 1 rfl ?_
 refine Zg ?_
 refine Zc hK108 ?_
 refine Zd (fun K hK141 => ?_)
 refine Zf ?_
 refine Za rfl rfl rfl (Zj Yp rfl (RW.here _) hS hs13 trivial Yb) ?_
 obtain ⟨r142, hm143, H⟩ := bind_some H
 refine Zr rfl rfl rfl rfl (by kernel_rfl) rfl (Zd0 (⟨r62.id, r62.n, 2, r62.binary, r62.tuple, r62.commit, r62.applied, r62.votes, ([1, 5, 5] : List Int), r62.mtch, r62.caps⟩ : Co) A64 c65 A68 c69 (some ⟨b88, 0, none⟩) 3 A76 c77 A80 c81 _ (SlI.of_rd k66 (hS.row_rd hs14) (hS.row_blk hs14)) (SlI.of_rd k70 (hS.row_rd hs15) (hS.row_blk hs15)) (SlI.of_rd ⟨Nat.le_refl 3, by decide⟩ (hS.box_rd hs12) (hS.box_blk hs12)) (SlI.of_rd k78 (hS.row_rd hs17) (hS.row_blk hs17)) (SlI.of_rd k82 (hS.row_rd hs18) (hS.row_blk hs18)) hm143) ?_
 rintro e w ⟨A144, c145, rfl, k146, hN⟩; refine ⟨_, rfl, ?_⟩; have hB := hN.pure; have hS := hS.join hN; clear hN
 refine Zb 1 rfl ?_
 refine Zg ?_
 refine Zc hK141 ?_
 refine Zd (fun K hK148 => ?_)
 refine Zd (fun K hK149 => ?_)
 refine Zf ?_
 refine Zb 1 rfl ?_
 refine Za rfl rfl rfl (Y1 Zam rfl) ?_
 refine Za rfl rfl rfl (Xk rfl rfl) ?_
 refine Zb 1 rfl ?_
 refine Zt 48 rfl (fun hb => ?_) (fun hb => ?_)
 ·replace H := Zq H hb
  refine Zb 4 rfl ?_
  refine Zg ?_
  refine Zc hK149 ?_
  refine Zs rfl rfl ?_
  refine Zd (fun K hK150 => ?_)
  refine Zf ?_
  refine Zb 1 rfl ?_
  refine Zg ?_
  refine Zc hK150 ?_
  refine Zk ?_
  refine Zi ?_
  refine Zl rfl (RV.tmp rfl RV.nil) rfl ?_
  obtain rfl := Option.some.inj H
  replace hS := hS.cut 0
  exact ⟨rfl, hS⟩
 replace H := Zp H hb
 refine Zb 1 rfl ?_
 refine Za rfl rfl rfl (Y1 Vd rfl) ?_
 refine Za rfl rfl rfl (Xk rfl rfl) ?_
 refine Zb 1 rfl ?_
 refine Zg ?_
 refine Zc hK149 ?_
 refine Z0 rfl (fun hb => ?_) (fun hb => ?_)
 ·replace H := Zq H hb
  refine Zd (fun K hK151 => ?_)
  refine Zf ?_
  refine Zb 1 rfl ?_
  refine Zg ?_
  refine Zc hK151 ?_
  refine Zk ?_
  refine Zi ?_
  refine Zl rfl (RV.tmp rfl RV.nil) rfl ?_
  obtain rfl := Option.some.inj H
  replace hS := hS.cut 0
  exact ⟨rfl, hS⟩
 replace H := Zp H hb
 refine Zu ?_
 refine Zc hK148 ?_
 refine Zd (fun K hK152 => ?_)
 refine Zf ?_
 refine Zb 1 rfl ?_
 refine Za rfl rfl rfl (Yt rfl) ?_
 refine Zb 1 rfl ?_
 refine Zt 55 rfl (fun hb => ?_) (fun hb => ?_)
 rotate_left
 ·replace H := Zp H hb
  refine Zb 56 rfl ?_
  refine Zg ?_
  refine Zc hK152 ?_
  refine Zk ?_
  refine Zl rfl (RV.tmp rfl RV.nil) rfl ?_
  obtain rfl := Option.some.inj H
  replace hS := hS.cut 0
  exact ⟨rfl, hS⟩
 replace H := Zq H hb
 refine Zb 3 rfl ?_
 refine Zt 58 rfl (fun hb => ?_) (fun hb => ?_)
 rotate_left
 ·replace H := Zp H hb
  refine Zb 53 rfl ?_
  refine Zg ?_
  refine Zc hK152 ?_
  refine Zk ?_
  refine Zl rfl (RV.tmp rfl RV.nil) rfl ?_
  obtain rfl := Option.some.inj H
  replace hS := hS.cut 0
  exact ⟨rfl, hS⟩
 replace H := Zq H hb
 refine Zb 1 rfl ?_
 refine Za rfl rfl rfl (Yt rfl) ?_
 refine Zb 2 rfl ?_
 refine Zt 62 rfl (fun hb => ?_) (fun hb => ?_)
 rotate_left
 ·replace H := Zp H hb
  refine Zb 49 rfl ?_
  refine Zg ?_
  refine Zc hK152 ?_
  refine Zk ?_
  refine Zl rfl (RV.tmp rfl RV.nil) rfl ?_
  obtain rfl := Option.some.inj H
  replace hS := hS.cut 0
  exact ⟨rfl, hS⟩
 replace H := Zq H hb
 refine Za rfl rfl rfl (Ze Y3 rfl) ?_
 refine Za rfl rfl rfl (Zj Yn rfl (RW.here _) hS hs11 trivial Ja) ?_
 refine Za rfl rfl rfl (Zj Yn rfl (RW.here _) hS hs20 trivial Vw) ?_
 refine Za rfl rfl rfl (Jb (by kernel_rfl) rfl rfl (Jg _ _ _ _ _ _ _ _ _ _)) ?_
 refine Zb 2 rfl ?_
 refine Zt 68 rfl (fun hb => ?_) (fun hb => ?_)
 rotate_left
 ·replace H := Zp H hb
  refine Zb 43 rfl ?_
  refine Zg ?_
  refine Zc hK152 ?_
  refine Zk ?_
  refine Zl rfl (RV.tmp rfl RV.nil) rfl ?_
  obtain rfl := Option.some.inj H
  replace hS := hS.cut 0
  exact ⟨rfl, hS⟩
 replace H := Zq H hb
 refine Za rfl rfl rfl (Ze Yu rfl) ?_
 refine Za rfl rfl rfl (Ze Yx rfl) ?_
 refine Za rfl rfl rfl (Zj Yn rfl (RW.here _) hS Xt trivial sg4_5) ?_
 refine Za rfl rfl rfl (Zj Yn rfl (RW.here _) hS hs20 trivial Vw) ?_
 refine Za rfl rfl rfl (Jb (by kernel_rfl) rfl rfl (Jg _ _ _ _ _ _ _ _ _ _)) ?_
 refine Zb 2 rfl ?_
 refine Zt 75 rfl (fun hb => ?_) (fun hb => ?_)
 rotate_left
 ·replace H := Zp H hb
  refine Zb 36 rfl ?_
  refine Zg ?_
  refine Zc hK152 ?_
  refine Zk ?_
  refine Zl rfl (RV.tmp rfl RV.nil) rfl ?_
  obtain rfl := Option.some.inj H
  replace hS := hS.cut 0
  exact ⟨rfl, hS⟩
 replace H := Zq H hb
 refine Za rfl rfl rfl (Ze Zah rfl) ?_
 refine Za rfl rfl rfl (Zh Zx rfl (RW.here _) hS Xt trivial Zbs) ?_
 refine Za rfl rfl rfl (Yy rfl rfl) ?_
 refine Zb 2 rfl ?_
 refine Zt 80 rfl (fun hb => ?_) (fun hb => ?_)
 rotate_left
 ·replace H := Zp H hb
  refine Zb 31 rfl ?_
  refine Zg ?_
  refine Zc hK152 ?_
  refine Zk ?_
  refine Zl rfl (RV.tmp rfl RV.nil) rfl ?_
  obtain rfl := Option.some.inj H
  replace hS := hS.cut 0
  exact ⟨rfl, hS⟩
 replace H := Zq H hb
 refine Za rfl rfl rfl (Ze Zdt rfl) ?_
 refine Za rfl rfl rfl (Zj Yn rfl (RW.here _) hS Xt trivial sg13_5) ?_
 refine Za rfl rfl rfl (Zj Yn rfl (RW.here _) hS hs20 trivial Vw) ?_
 refine Za rfl rfl rfl (Jb (by kernel_rfl) rfl rfl (Jg _ _ _ _ _ _ _ _ _ _)) ?_
 refine Zb 2 rfl ?_
 refine Zt 86 rfl (fun hb => ?_) (fun hb => ?_)
 rotate_left
 ·replace H := Zp H hb
  refine Zb 25 rfl ?_
  refine Zg ?_
  refine Zc hK152 ?_
  refine Zk ?_
  refine Zl rfl (RV.tmp rfl RV.nil) rfl ?_
  obtain rfl := Option.some.inj H
  replace hS := hS.cut 0
  exact ⟨rfl, hS⟩
 replace H := Zq H hb
 refine Zb 1 rfl ?_
 obtain ⟨e153, hi155, H⟩ := bind_some H
 obtain ⟨j154, A156, c157, hi155a, hi155b, hi155c⟩ := idxQ (q := q135) hq136 hi155
 refine Za rfl rfl rfl (Xo Zam rfl rfl hi155a hi155c (Rd.el (hS.rd hs7) Vr hi155b)) ?_
 refine Za rfl rfl rfl (Vc fo_32_8 rfl (Rd.el (hS.rd hs7) Vr hi155b)) ?_
 refine Za rfl rfl rfl (yx_ld sc_4 rfl (RW.here _) (Rd.el (hS.rd hs7) Vr hi155b) rfl) ?_
 refine Zb 2 rfl ?_
 refine Zt 92 rfl (fun hb => ?_) (fun hb => ?_)
 rotate_left
 ·replace H := Zp H hb
  refine Zb 19 rfl ?_
  refine Zg ?_
  refine Zc hK152 ?_
  refine Zk ?_
  refine Zl rfl (RV.tmp rfl RV.nil) rfl ?_
  obtain rfl := Option.some.inj H
  replace hS := hS.cut 0
  exact ⟨rfl, hS⟩
 replace H := Zq H hb
 refine Zb 1 rfl ?_
 obtain ⟨e158, hi160, H⟩ := bind_some H
 obtain ⟨j159, A161, c162, hi160a, hi160b, hi160c⟩ := idxQ (q := q135) hq136 hi160
 refine Za rfl rfl rfl (Xo Zam rfl rfl hi160a hi160c (Rd.el (hS.rd hs7) Vr hi160b)) ?_
 refine Za rfl rfl rfl (Vc fo_32_5 rfl (Rd.el (hS.rd hs7) Vr hi160b)) ?_
 refine Za rfl rfl rfl (yx_ld Zx rfl (RW.here _) (Rd.el (hS.rd hs7) Vr hi160b) rfl) ?_
 refine Za rfl rfl rfl (Yy rfl rfl) ?_
 refine Zb 2 rfl ?_
 refine Zt 99 rfl (fun hb => ?_) (fun hb => ?_)
 rotate_left
 ·replace H := Zp H hb
  refine Zb 12 rfl ?_
  refine Zg ?_
  refine Zc hK152 ?_
  refine Zk ?_
  refine Zl rfl (RV.tmp rfl RV.nil) rfl ?_
  obtain rfl := Option.some.inj H
  replace hS := hS.cut 0
  exact ⟨rfl, hS⟩
 replace H := Zq H hb
 refine Zb 1 rfl ?_
 obtain ⟨e163, hi165, H⟩ := bind_some H
 obtain ⟨j164, hi165a, hi165b, hi165c⟩ := Y9 hi165
 refine Za rfl rfl rfl (Xo Vd rfl rfl hi165a hi165c (Rd.el (hS.row_rd hs0) Xd hi165b)) ?_
 refine Za rfl rfl rfl (V4 Zx rfl (RW.here _) (Rd.el (hS.row_rd hs0) Xd hi165b) rfl) ?_
 refine Za rfl rfl rfl (Yy rfl rfl) ?_
 refine Zb 2 rfl ?_
 refine Zt 105 rfl (fun hb => ?_) (fun hb => ?_)
 rotate_left
 ·replace H := Zp H hb
  refine Zb 6 rfl ?_
  refine Zg ?_
  refine Zc hK152 ?_
  refine Zk ?_
  refine Zl rfl (RV.tmp rfl RV.nil) rfl ?_
  obtain rfl := Option.some.inj H
  replace hS := hS.cut 0
  exact ⟨rfl, hS⟩
 replace H := Zq H hb
 refine Za rfl rfl rfl (Zj Yp rfl (RW.here _) hS hs14 trivial Yb) ?_
 obtain ⟨r166, hm167, H⟩ := bind_some H
 refine Zr rfl rfl rfl rfl (by kernel_rfl) rfl (c_install_Beat (⟨r62.id, r62.n, 2, r62.binary, r62.tuple, r62.commit, r62.applied, r62.votes, ([1, 5, 5] : List Int), r62.mtch, r62.caps⟩ : Co) A64 c65 A68 c69 (some ⟨b88, 0, none⟩) 3 A76 c77 A80 c81 _ (SlI.of_rd k66 (hS.row_rd hs15) (hS.row_blk hs15)) (SlI.of_rd k70 (hS.row_rd hs16) (hS.row_blk hs16)) (SlI.of_rd ⟨Nat.le_refl 3, by decide⟩ (hS.box_rd hs13) (hS.box_blk hs13)) (SlI.of_rd k78 (hS.row_rd hs18) (hS.row_blk hs18)) (SlI.of_rd k82 (hS.row_rd hs19) (hS.row_blk hs19)) hm167) ?_
 rintro e w ⟨A168, c169, q172, rfl, k170, hq173, okq174, hN⟩; refine ⟨_, rfl, ?_⟩; have hB := hN.pure; have hS := hS.join hN; clear hN
 refine Za rfl rfl rfl (Y1 Zam rfl) ?_
 refine Za rfl rfl rfl (Yy rfl rfl) ?_
 refine Zb 2 rfl ?_
 refine Zg ?_
 refine Zc hK152 ?_
 refine Zk ?_
 refine Zl rfl (RV.tmp rfl RV.nil) rfl ?_
 obtain rfl := Option.some.inj H
 replace hS := hS.cut 0
 exact ⟨rfl, hS⟩
theorem Zev (x0 : Int) (w0 : World) {r : Bool} (H : Zae x0 = some r) : Calls Try.prog 35 #[.int .i64 x0] w0 fun e w' => e = .returned (.bool r) ∧ St0 All w0 w' [] := by
 unfold Zae at H
 refine Yl Try.func35 rfl Try.ntmps35 rfl ?_
 have hS := St0.start All w0
 refine Zd (fun K hK1 => ?_)
 refine Zf ?_
 refine Zb 1 rfl ?_
 refine Zg ?_
 refine Zc hK1 ?_
 refine Zd (fun K hK2 => ?_)
 refine Zf ?_
 refine Zb 1 rfl ?_
 refine Za rfl rfl rfl (Zbk rfl rfl) ?_
 refine Zb 1 rfl ?_
 refine Zt 5 rfl (fun hb => ?_) (fun hb => ?_)
 rotate_left
 ·replace H := Zp H hb
  refine Zb 4 rfl ?_
  refine Zg ?_
  refine Zc hK2 ?_
  refine Zk ?_
  refine Zl rfl (RV.tmp rfl RV.nil) rfl ?_
  obtain rfl := Option.some.inj H
  replace hS := hS.cut 0
  exact ⟨rfl, hS⟩
 replace H := Zq H hb
 refine Zb 1 rfl ?_
 refine Za rfl rfl rfl (Za1 rfl rfl) ?_
 refine Zb 2 rfl ?_
 refine Zg ?_
 refine Zc hK2 ?_
 refine Zk ?_
 refine Zl rfl (RV.tmp rfl RV.nil) rfl ?_
 obtain rfl := Option.some.inj H
 replace hS := hS.cut 0
 exact ⟨rfl, hS⟩
theorem c_ref20_entries (x0 : Ms) (A0_ : Option Addr) (c0_ : Nat) (w0 : World) (s0_ : SlI w0 Jv A0_ c0_ x0.entries) {r : Bool} (H : Zbc x0 = some r) : Calls Try.prog 36 #[.agg #[.int .u8 x0.kind, .int .i64 x0.frm, .int .i64 x0.dst, .int .i64 x0.term, .int .i64 x0.cap, .int .i64 x0.last, .int .i64 x0.lastTerm, .int .i64 x0.commit, .bool x0.okk, .slice A0_ x0.entries.length c0_, .int .i64 x0.snap.index, .int .i64 x0.snap.term, .int .i64 x0.snap.sum, .int .i64 x0.snap.level, .bool x0.snap.final]] w0 fun e w' => e = .returned (.bool r) ∧ St0 All w0 w' [] := by
 unfold Zbc at H
 refine Yl Try.func36 rfl Try.ntmps36 rfl ?_
 have hS := St0.start All w0
 refine Zd (fun K hK1 => ?_)
 refine Zf ?_
 refine Z9 rfl rfl rfl CellsOf.agg hS (fun b2 w hS hB => ?_)
 refine Zb 1 rfl ?_
 refine Zg ?_
 refine Zc hK1 ?_
 refine Zd (fun K hK4 => ?_)
 refine Zf ?_
 refine Za rfl rfl rfl (Ze fo_32_6 rfl) ?_
 refine Za rfl rfl rfl (Zh Zx rfl (RW.here _) hS hs0 trivial sg6_1) ?_
 refine Zb 1 rfl ?_
 refine Zg ?_
 refine Zc hK4 ?_
 refine Zd (fun K hK5 => ?_)
 refine Zd (fun K hK6 => ?_)
 refine Zf ?_
 refine Zb 1 rfl ?_
 refine Zg ?_
 refine Zc hK6 ?_
 refine Yj ?_
 refine Jq (X := Nat × Bool × Int × Int) (fun x => (1, .pointer (some ⟨b2, 0, none⟩)) :: (2, .bool x.2.1) :: (3, .int .i64 x.2.2.1) :: (4, .int .i64 x.2.2.2) :: []) (fun x w => St0 All w0 w (.box b2 [.int .u8 x0.kind, .int .i64 x0.frm, .int .i64 x0.dst, .int .i64 x0.term, .int .i64 x0.cap, .int .i64 x0.last, .int .i64 x0.lastTerm, .int .i64 x0.commit, .bool x0.okk, .slice A0_ x0.entries.length c0_, .int .i64 x0.snap.index, .int .i64 x0.snap.term, .int .i64 x0.snap.sum, .int .i64 x0.snap.level, .bool x0.snap.final] 32 :: []) ∧ Vz x0 x.1 x.2.1 x.2.2.1 x.2.2.2 = some r) (fun x => x.1) (X6, false, x0.lastTerm, 0) (by repeat (first | exact Sub.nil | refine Sub.cons rfl ?_)) ⟨hS, H⟩ ?_
 rintro ⟨n, v7, v8, v9⟩ w ⟨hS, H⟩
 dsimp only at hS H ⊢
 obtain _ | n := n
 ·have H0 : none = some r := H
  cases H0
 rw [Vz] at H
 refine Zd (fun K hK10 => ?_)
 refine Zd (fun K hK11 => ?_)
 refine Zf ?_
 refine Zb 1 rfl ?_
 refine Za rfl rfl rfl (Ze Zb5 rfl) ?_
 refine Za rfl rfl rfl (Zh V8 rfl (RW.here _) hS hs0 trivial sg9_1) ?_
 refine Za rfl rfl rfl (Y1 Va rfl) ?_
 refine Za rfl rfl rfl (Xv rfl rfl) ?_
 refine Zg ?_
 refine Zc hK11 ?_
 refine Z0 rfl (fun hb => ?_) (fun hb => ?_)
 rotate_left
 ·replace H := Zp H hb
  refine Vo ?_
  refine Ye ?_
  refine Ye ?_
  refine Xf ?_
  refine Zc hK5 ?_
  refine Zd (fun K hK32 => ?_)
  refine Zf ?_
  refine Za rfl rfl rfl (Ze Zb5 rfl) ?_
  refine Za rfl rfl rfl (Zh V8 rfl (RW.here _) hS hs0 trivial sg9_1) ?_
  refine Za rfl rfl rfl (Y1 Va rfl) ?_
  refine Za rfl rfl rfl (Za1 rfl rfl) ?_
  refine Zb 1 rfl ?_
  refine Zg ?_
  refine Zc hK32 ?_
  refine Zk ?_
  refine Zl rfl (RV.tmp rfl RV.nil) rfl ?_
  obtain rfl := Option.some.inj H
  replace hS := hS.cut 0
  exact ⟨rfl, hS⟩
 replace H := Zq H hb
 refine Zu ?_
 refine Zc hK10 ?_
 refine Zd (fun K hK12 => ?_)
 refine Yj ?_
 refine Zd (fun K hK13 => ?_)
 refine Zd (fun K hK14 => ?_)
 refine Yo 28 [] (fun _ _ => True) ⟨by kernel_rfl, by kernel_rfl⟩ hS (fun w hS hB => ?_)
 refine Zm [true, true, true, true, true] (by decide +kernel) (by repeat (first | exact PF.body | exact PF.round | apply PF.then | apply PF.inBlock | apply PF.jump)) ?_
 refine LtK.put rfl rfl rfl (Ze Zb5 rfl) ?_
 refine LtK.put rfl rfl rfl (Zh V8 rfl (RW.below _) hS hs0 trivial sg9_1) ?_
 refine LtK.put rfl rfl rfl (Zn rfl) ?_
 obtain ⟨e15, hi17, H⟩ := bind_some H
 obtain ⟨j16, hi17a, hi17b, hi17c⟩ := Y9 hi17
 refine LtK.put rfl rfl rfl (Xo Va rfl rfl hi17a hi17c (Rd.el (hS.rd0 s0_.rd) Vi hi17b)) ?_
 refine LtK.put rfl rfl rfl (Zei V3 rfl (RW.below _) (Rd.el (hS.rd0 s0_.rd) Vi hi17b) Zcl) ?_
 refine LtK.nil ?_
 refine Z7 [false, false, false, false, false, true] 5 ⟨by decide, by kernel_rfl, by kernel_rfl⟩ rfl rfl ?_
 try dsimp only [Z2]
 obtain ⟨r18, hm19, H⟩ := bind_some H
 refine Zr rfl rfl rfl rfl (by kernel_rfl) rfl (Zfj e15 _ hm19) ?_
 rintro e w ⟨rfl, hN⟩; refine ⟨_, rfl, ?_⟩; have hB := hN.pure; have hS := hS.join hN; clear hN
 refine Zg ?_
 refine Yf hB ?_
 refine Zm [false, false, false, false, false, false, true, true] (by decide +kernel) (by repeat (first | exact PF.body | exact PF.round | apply PF.then | apply PF.inBlock | apply PF.jump)) ?_
 refine LtK.put rfl rfl rfl (Yt rfl) ?_
 refine LtK.put rfl rfl rfl (Zn rfl) ?_
 refine LtK.nil ?_
 refine Y8 21 rfl (fun hb => ?_) (fun hb => ?_)
 ·replace H := Zq H hb
  refine Zm [false, false, false, false, false, false, false, false, true, true, true, true, true, true, true, true, true, true, true, true, true, true, true, true, true, true, true, true] (by decide +kernel) (by repeat (first | exact PF.body | exact PF.round | apply PF.then | apply PF.inBlock | apply PF.jump)) ?_
  refine LtK.skip rfl rfl rfl ?_
  refine LtK.skip rfl rfl rfl ?_
  refine LtK.skip rfl rfl rfl ?_
  refine LtK.skip rfl rfl rfl ?_
  refine LtK.skip rfl rfl rfl ?_
  refine LtK.skip rfl rfl rfl ?_
  refine LtK.skip rfl rfl rfl ?_
  refine LtK.skip rfl rfl rfl ?_
  refine LtK.put rfl rfl rfl (Zw rfl rfl rfl) ?_
  refine LtK.put rfl rfl rfl (Zn rfl) ?_
  refine LtK.skip rfl rfl rfl ?_
  refine LtK.skip rfl rfl rfl ?_
  refine LtK.skip rfl rfl rfl ?_
  refine LtK.skip rfl rfl rfl ?_
  refine LtK.skip rfl rfl rfl ?_
  refine LtK.skip rfl rfl rfl ?_
  refine LtK.skip rfl rfl rfl ?_
  refine LtK.skip rfl rfl rfl ?_
  refine LtK.skip rfl rfl rfl ?_
  refine LtK.put rfl rfl rfl (Zw rfl rfl rfl) ?_
  refine LtK.nil ?_
  refine Z8 (by kernel_rfl) ?_
  refine Zc hK14 ?_
  refine Zs rfl rfl ?_
  refine Zd (fun K hK20 => ?_)
  refine Zf ?_
  refine Zb 1 rfl ?_
  refine Zg ?_
  refine Zc hK20 ?_
  refine Zk ?_
  refine Zi ?_
  refine Zv ?_
  refine Zi ?_
  refine Zi ?_
  refine Zv ?_
  refine Zi ?_
  refine Zl rfl (RV.tmp rfl RV.nil) rfl ?_
  obtain rfl := Option.some.inj H
  replace hS := hS.cut 0
  exact ⟨rfl, hS⟩
 replace H := Zp H hb
 refine Zm [false, false, false, false, false, false, false, false, true, true, true, true, true, true, true, true, true, true] (by decide +kernel) (by repeat (first | exact PF.body | exact PF.round | apply PF.then | apply PF.inBlock | apply PF.jump)) ?_
 refine LtK.put rfl rfl rfl (Ze Zb5 rfl) ?_
 refine LtK.put rfl rfl rfl (Zh V8 rfl (RW.below _) hS hs0 trivial sg9_1) ?_
 refine LtK.put rfl rfl rfl (Zn rfl) ?_
 obtain ⟨e21, hi23, H⟩ := bind_some H
 obtain ⟨j22, hi23a, hi23b, hi23c⟩ := Y9 hi23
 refine LtK.put rfl rfl rfl (Xo Va rfl rfl hi23a hi23c (Rd.el (hS.rd0 s0_.rd) Vi hi23b)) ?_
 refine LtK.put rfl rfl rfl (Vc Zaz rfl (Rd.el (hS.rd0 s0_.rd) Vi hi23b)) ?_
 refine LtK.put rfl rfl rfl (V4 Zx rfl (RW.below _) (Rd.el (hS.rd0 s0_.rd) Vi hi23b) rfl) ?_
 refine LtK.put rfl rfl rfl (Zn rfl) ?_
 refine LtK.put rfl rfl rfl (Xv rfl rfl) ?_
 refine LtK.put rfl rfl rfl (Zz rfl rfl rfl) ?_
 refine LtK.put rfl rfl rfl (Zn rfl) ?_
 refine LtK.nil ?_
 refine Y8 31 rfl (fun hb => ?_) (fun hb => ?_)
 ·replace H := Zq H hb
  refine Zm [false, false, false, false, false, false, false, false, false, false, false, false, false, false, false, false, false, false, true, true, true, true, true, true, true, true, true, true] (by decide +kernel) (by repeat (first | exact PF.body | exact PF.round | apply PF.then | apply PF.inBlock | apply PF.jump)) ?_
  refine LtK.skip rfl rfl rfl ?_
  refine LtK.skip rfl rfl rfl ?_
  refine LtK.skip rfl rfl rfl ?_
  refine LtK.skip rfl rfl rfl ?_
  refine LtK.skip rfl rfl rfl ?_
  refine LtK.skip rfl rfl rfl ?_
  refine LtK.skip rfl rfl rfl ?_
  refine LtK.skip rfl rfl rfl ?_
  refine LtK.skip rfl rfl rfl ?_
  refine LtK.put rfl rfl rfl (Zw rfl rfl rfl) ?_
  refine LtK.nil ?_
  refine Z8 (by kernel_rfl) ?_
  refine Zc hK14 ?_
  refine Zs rfl rfl ?_
  refine Zd (fun K hK24 => ?_)
  refine Zf ?_
  refine Zb 1 rfl ?_
  refine Zg ?_
  refine Zc hK24 ?_
  refine Zk ?_
  refine Zi ?_
  refine Zv ?_
  refine Zi ?_
  refine Zi ?_
  refine Zv ?_
  refine Zi ?_
  refine Zl rfl (RV.tmp rfl RV.nil) rfl ?_
  obtain rfl := Option.some.inj H
  replace hS := hS.cut 0
  exact ⟨rfl, hS⟩
 replace H := Zp H hb
 refine Zm [false, false, false, false, false, false, false, false, false, false, false, false, false, false, false, false, false, false, true, true, true, true, true, true, true, true, true, true] (by decide +kernel) (by repeat (first | exact PF.body | exact PF.round | apply PF.then | apply PF.inBlock | apply PF.jump)) ?_
 refine LtK.put rfl rfl rfl (Ze Zb5 rfl) ?_
 refine LtK.put rfl rfl rfl (Zh V8 rfl (RW.below _) hS hs0 trivial sg9_1) ?_
 refine LtK.put rfl rfl rfl (Zn rfl) ?_
 obtain ⟨e25, hi27, H⟩ := bind_some H
 obtain ⟨j26, hi27a, hi27b, hi27c⟩ := Y9 hi27
 refine LtK.put rfl rfl rfl (Xo Va rfl rfl hi27a hi27c (Rd.el (hS.rd0 s0_.rd) Vi hi27b)) ?_
 refine LtK.put rfl rfl rfl (Vc Zaz rfl (Rd.el (hS.rd0 s0_.rd) Vi hi27b)) ?_
 refine LtK.put rfl rfl rfl (V4 Zx rfl (RW.below _) (Rd.el (hS.rd0 s0_.rd) Vi hi27b) rfl) ?_
 refine LtK.put rfl rfl rfl (Ze Za8 rfl) ?_
 refine LtK.put rfl rfl rfl (Zh Zx rfl (RW.below _) hS hs0 trivial Zag) ?_
 refine LtK.put rfl rfl rfl (Xa rfl rfl) ?_
 refine LtK.put rfl rfl rfl (Zz rfl rfl rfl) ?_
 refine LtK.nil ?_
 refine Z8 (by kernel_rfl) ?_
 refine Zc hK14 ?_
 refine Z0 rfl (fun hb => ?_) (fun hb => ?_)
 ·replace H := Zq H hb
  refine Zd (fun K hK28 => ?_)
  refine Zf ?_
  refine Zb 1 rfl ?_
  refine Zg ?_
  refine Zc hK28 ?_
  refine Zk ?_
  refine Zi ?_
  refine Zv ?_
  refine Zi ?_
  refine Zi ?_
  refine Zv ?_
  refine Zi ?_
  refine Zl rfl (RV.tmp rfl RV.nil) rfl ?_
  obtain rfl := Option.some.inj H
  replace hS := hS.cut 0
  exact ⟨rfl, hS⟩
 replace H := Zp H hb
 refine Zu ?_
 refine Zc hK13 ?_
 refine Zf ?_
 refine Za rfl rfl rfl (Ze Zb5 rfl) ?_
 refine Za rfl rfl rfl (Zh V8 rfl (RW.here _) hS hs0 trivial sg9_1) ?_
 refine Zb 1 rfl ?_
 obtain ⟨e29, hi31, H⟩ := bind_some H
 obtain ⟨j30, hi31a, hi31b, hi31c⟩ := Y9 hi31
 refine Za rfl rfl rfl (Xo Va rfl rfl hi31a hi31c (Rd.el (hS.rd0 s0_.rd) Vi hi31b)) ?_
 refine Za rfl rfl rfl (Vc Zaz rfl (Rd.el (hS.rd0 s0_.rd) Vi hi31b)) ?_
 refine Za rfl rfl rfl (V4 Zx rfl (RW.here _) (Rd.el (hS.rd0 s0_.rd) Vi hi31b) rfl) ?_
 refine Zb 1 rfl ?_
 refine Zg ?_
 refine Z1 ?_
 refine Zc hK12 ?_
 refine Zf ?_
 refine Zb 1 rfl ?_
 refine Za rfl rfl rfl (X1 rfl rfl) ?_
 refine Zb 1 rfl ?_
 refine Zg ?_
 exact Vp (n, v7, e29.term, (IntKind.wrap .i64 (v9 + 1))) (by repeat (first | exact Sub.nil | refine Sub.cons rfl ?_)) ⟨hS, H⟩ (Nat.lt_succ_self _)
end Go.Proofs.Ytenagnncpaabdaa
namespace Go.Proofs.Ytenagnncpaabdaa
open Go Go.RowKit
set_option maxRecDepth 100000
set_option maxHeartbeats 4000000
theorem c_ref20_Fine (x0 : Ms) (x1 : Int) (A0_ : Option Addr) (c0_ : Nat) (w0 : World) (s0_ : SlI w0 Jv A0_ c0_ x0.entries) {r : Bool} (H : Zb4 x0 x1 = some r) : Calls Try.prog 12 #[.agg #[.int .u8 x0.kind, .int .i64 x0.frm, .int .i64 x0.dst, .int .i64 x0.term, .int .i64 x0.cap, .int .i64 x0.last, .int .i64 x0.lastTerm, .int .i64 x0.commit, .bool x0.okk, .slice A0_ x0.entries.length c0_, .int .i64 x0.snap.index, .int .i64 x0.snap.term, .int .i64 x0.snap.sum, .int .i64 x0.snap.level, .bool x0.snap.final], .int .i64 x1] w0 fun e w' => e = .returned (.bool r) ∧ St0 All w0 w' [] := by
 unfold Zb4 at H
 refine Yw Try.func12 rfl Try.ntmps12 rfl ?_
 have hS := St0.start All w0
 refine Zd (fun K hK1 => ?_)
 refine Zf ?_
 refine Z9 rfl rfl rfl CellsOf.agg hS (fun b2 w hS hB => ?_)
 refine Zb 1 rfl ?_
 refine Zg ?_
 refine Zc hK1 ?_
 refine Zd (fun K hK4 => ?_)
 refine Zd (fun K hK5 => ?_)
 refine Zf ?_
 refine Zb 1 rfl ?_
 refine Za rfl rfl rfl (Xv rfl rfl) ?_
 refine Zb 1 rfl ?_
 refine Zt 7 rfl (fun hb => ?_) (fun hb => ?_)
 ·replace H := Zq H hb
  refine Zb 62 rfl ?_
  refine Zg ?_
  refine Zc hK5 ?_
  refine Zs rfl rfl ?_
  refine Zd (fun K hK6 => ?_)
  refine Zf ?_
  refine Zb 1 rfl ?_
  refine Zg ?_
  refine Zc hK6 ?_
  refine Zk ?_
  refine Zi ?_
  refine Zl rfl (RV.tmp rfl RV.nil) rfl ?_
  obtain rfl := Option.some.inj H
  replace hS := hS.cut 0
  exact ⟨rfl, hS⟩
 replace H := Zp H hb
 refine Zb 1 rfl ?_
 refine Za rfl rfl rfl (Xa rfl rfl) ?_
 refine Zb 2 rfl ?_
 refine Zt 11 rfl (fun hb => ?_) (fun hb => ?_)
 ·replace H := Zq H hb
  refine Zb 58 rfl ?_
  refine Zg ?_
  refine Zc hK5 ?_
  refine Zs rfl rfl ?_
  refine Zd (fun K hK7 => ?_)
  refine Zf ?_
  refine Zb 1 rfl ?_
  refine Zg ?_
  refine Zc hK7 ?_
  refine Zk ?_
  refine Zi ?_
  refine Zl rfl (RV.tmp rfl RV.nil) rfl ?_
  obtain rfl := Option.some.inj H
  replace hS := hS.cut 0
  exact ⟨rfl, hS⟩
 replace H := Zp H hb
 refine Za rfl rfl rfl (Ze fo_32_1 rfl) ?_
 refine Za rfl rfl rfl (Zh Zx rfl (RW.here _) hS hs0 trivial Vn) ?_
 refine Za rfl rfl rfl (Xv rfl rfl) ?_
 refine Zb 2 rfl ?_
 refine Zt 16 rfl (fun hb => ?_) (fun hb => ?_)
 ·replace H := Zq H hb
  refine Zb 53 rfl ?_
  refine Zg ?_
  refine Zc hK5 ?_
  refine Zs rfl rfl ?_
  refine Zd (fun K hK8 => ?_)
  refine Zf ?_
  refine Zb 1 rfl ?_
  refine Zg ?_
  refine Zc hK8 ?_
  refine Zk ?_
  refine Zi ?_
  refine Zl rfl (RV.tmp rfl RV.nil) rfl ?_
  obtain rfl := Option.some.inj H
  replace hS := hS.cut 0
  exact ⟨rfl, hS⟩
 replace H := Zp H hb
 refine Za rfl rfl rfl (Ze fo_32_1 rfl) ?_
 refine Za rfl rfl rfl (Zh Zx rfl (RW.here _) hS hs0 trivial Vn) ?_
 refine Zb 1 rfl ?_
 refine Za rfl rfl rfl (Xa rfl rfl) ?_
 refine Zb 2 rfl ?_
 refine Zt 22 rfl (fun hb => ?_) (fun hb => ?_)
 ·replace H := Zq H hb
  refine Zb 47 rfl ?_
  refine Zg ?_
  refine Zc hK5 ?_
  refine Zs rfl rfl ?_
  refine Zd (fun K hK9 => ?_)
  refine Zf ?_
  refine Zb 1 rfl ?_
  refine Zg ?_
  refine Zc hK9 ?_
  refine Zk ?_
  refine Zi ?_
  refine Zl rfl (RV.tmp rfl RV.nil) rfl ?_
  obtain rfl := Option.some.inj H
  replace hS := hS.cut 0
  exact ⟨rfl, hS⟩
 replace H := Zp H hb
 refine Za rfl rfl rfl (Ze Zdp rfl) ?_
 refine Za rfl rfl rfl (Zh Zx rfl (RW.here _) hS hs0 trivial J9) ?_
 refine Za rfl rfl rfl (Xv rfl rfl) ?_
 refine Zb 2 rfl ?_
 refine Zt 27 rfl (fun hb => ?_) (fun hb => ?_)
 ·replace H := Zq H hb
  refine Zb 42 rfl ?_
  refine Zg ?_
  refine Zc hK5 ?_
  refine Zs rfl rfl ?_
  refine Zd (fun K hK10 => ?_)
  refine Zf ?_
  refine Zb 1 rfl ?_
  refine Zg ?_
  refine Zc hK10 ?_
  refine Zk ?_
  refine Zi ?_
  refine Zl rfl (RV.tmp rfl RV.nil) rfl ?_
  obtain rfl := Option.some.inj H
  replace hS := hS.cut 0
  exact ⟨rfl, hS⟩
 replace H := Zp H hb
 refine Za rfl rfl rfl (Ze Zdp rfl) ?_
 refine Za rfl rfl rfl (Zh Zx rfl (RW.here _) hS hs0 trivial J9) ?_
 refine Zb 1 rfl ?_
 refine Za rfl rfl rfl (Xa rfl rfl) ?_
 refine Zb 2 rfl ?_
 refine Zt 33 rfl (fun hb => ?_) (fun hb => ?_)
 ·replace H := Zq H hb
  refine Zb 36 rfl ?_
  refine Zg ?_
  refine Zc hK5 ?_
  refine Zs rfl rfl ?_
  refine Zd (fun K hK11 => ?_)
  refine Zf ?_
  refine Zb 1 rfl ?_
  refine Zg ?_
  refine Zc hK11 ?_
  refine Zk ?_
  refine Zi ?_
  refine Zl rfl (RV.tmp rfl RV.nil) rfl ?_
  obtain rfl := Option.some.inj H
  replace hS := hS.cut 0
  exact ⟨rfl, hS⟩
 replace H := Zp H hb
 refine Za rfl rfl rfl (Ze fo_32_1 rfl) ?_
 refine Za rfl rfl rfl (Zh Zx rfl (RW.here _) hS hs0 trivial Vn) ?_
 refine Za rfl rfl rfl (Ze Zdp rfl) ?_
 refine Za rfl rfl rfl (Zh Zx rfl (RW.here _) hS hs0 trivial J9) ?_
 refine Za rfl rfl rfl (Yy rfl rfl) ?_
 refine Zb 2 rfl ?_
 refine Zt 40 rfl (fun hb => ?_) (fun hb => ?_)
 ·replace H := Zq H hb
  refine Zb 29 rfl ?_
  refine Zg ?_
  refine Zc hK5 ?_
  refine Zs rfl rfl ?_
  refine Zd (fun K hK12 => ?_)
  refine Zf ?_
  refine Zb 1 rfl ?_
  refine Zg ?_
  refine Zc hK12 ?_
  refine Zk ?_
  refine Zi ?_
  refine Zl rfl (RV.tmp rfl RV.nil) rfl ?_
  obtain rfl := Option.some.inj H
  replace hS := hS.cut 0
  exact ⟨rfl, hS⟩
 replace H := Zp H hb
 refine Za rfl rfl rfl (Ze Vf rfl) ?_
 refine Za rfl rfl rfl (Zh Zai rfl (RW.here _) hS hs0 trivial Y2) ?_
 refine Za rfl rfl rfl (Xv rfl rfl) ?_
 refine Zb 2 rfl ?_
 refine Zt 45 rfl (fun hb => ?_) (fun hb => ?_)
 ·replace H := Zq H hb
  refine Zb 24 rfl ?_
  refine Zg ?_
  refine Zc hK5 ?_
  refine Zs rfl rfl ?_
  refine Zd (fun K hK13 => ?_)
  refine Zf ?_
  refine Zb 1 rfl ?_
  refine Zg ?_
  refine Zc hK13 ?_
  refine Zk ?_
  refine Zi ?_
  refine Zl rfl (RV.tmp rfl RV.nil) rfl ?_
  obtain rfl := Option.some.inj H
  replace hS := hS.cut 0
  exact ⟨rfl, hS⟩
 replace H := Zp H hb
 refine Za rfl rfl rfl (Ze Vf rfl) ?_
 refine Za rfl rfl rfl (Zh Zai rfl (RW.here _) hS hs0 trivial Y2) ?_
 refine Za rfl rfl rfl (Zbk rfl rfl) ?_
 refine Zb 2 rfl ?_
 refine Zt 50 rfl (fun hb => ?_) (fun hb => ?_)
 ·replace H := Zq H hb
  refine Zb 19 rfl ?_
  refine Zg ?_
  refine Zc hK5 ?_
  refine Zs rfl rfl ?_
  refine Zd (fun K hK14 => ?_)
  refine Zf ?_
  refine Zb 1 rfl ?_
  refine Zg ?_
  refine Zc hK14 ?_
  refine Zk ?_
  refine Zi ?_
  refine Zl rfl (RV.tmp rfl RV.nil) rfl ?_
  obtain rfl := Option.some.inj H
  replace hS := hS.cut 0
  exact ⟨rfl, hS⟩
 replace H := Zp H hb
 refine Za rfl rfl rfl (Ze Za8 rfl) ?_
 refine Za rfl rfl rfl (Zh Zx rfl (RW.here _) hS hs0 trivial Zag) ?_
 refine Za rfl rfl rfl (Xv rfl rfl) ?_
 refine Zb 2 rfl ?_
 refine Zt 55 rfl (fun hb => ?_) (fun hb => ?_)
 ·replace H := Zq H hb
  refine Zb 14 rfl ?_
  refine Zg ?_
  refine Zc hK5 ?_
  refine Zs rfl rfl ?_
  refine Zd (fun K hK15 => ?_)
  refine Zf ?_
  refine Zb 1 rfl ?_
  refine Zg ?_
  refine Zc hK15 ?_
  refine Zk ?_
  refine Zi ?_
  refine Zl rfl (RV.tmp rfl RV.nil) rfl ?_
  obtain rfl := Option.some.inj H
  replace hS := hS.cut 0
  exact ⟨rfl, hS⟩
 replace H := Zp H hb
 refine Za rfl rfl rfl (Ze Za8 rfl) ?_
 refine Za rfl rfl rfl (Zh Zx rfl (RW.here _) hS hs0 trivial Zag) ?_
 refine Za rfl rfl rfl (Xa rfl rfl) ?_
 refine Zb 2 rfl ?_
 refine Zt 60 rfl (fun hb => ?_) (fun hb => ?_)
 ·replace H := Zq H hb
  refine Zb 9 rfl ?_
  refine Zg ?_
  refine Zc hK5 ?_
  refine Zs rfl rfl ?_
  refine Zd (fun K hK16 => ?_)
  refine Zf ?_
  refine Zb 1 rfl ?_
  refine Zg ?_
  refine Zc hK16 ?_
  refine Zk ?_
  refine Zi ?_
  refine Zl rfl (RV.tmp rfl RV.nil) rfl ?_
  obtain rfl := Option.some.inj H
  replace hS := hS.cut 0
  exact ⟨rfl, hS⟩
 replace H := Zp H hb
 refine Za rfl rfl rfl (Ze fo_32_4 rfl) ?_
 refine Za rfl rfl rfl (Zh Zx rfl (RW.here _) hS hs0 trivial Zeg) ?_
 refine Za rfl rfl rfl (Xv rfl rfl) ?_
 refine Zb 2 rfl ?_
 refine Zt 65 rfl (fun hb => ?_) (fun hb => ?_)
 ·replace H := Zq H hb
  refine Zb 4 rfl ?_
  refine Zg ?_
  refine Zc hK5 ?_
  refine Zs rfl rfl ?_
  refine Zd (fun K hK17 => ?_)
  refine Zf ?_
  refine Zb 1 rfl ?_
  refine Zg ?_
  refine Zc hK17 ?_
  refine Zk ?_
  refine Zi ?_
  refine Zl rfl (RV.tmp rfl RV.nil) rfl ?_
  obtain rfl := Option.some.inj H
  replace hS := hS.cut 0
  exact ⟨rfl, hS⟩
 replace H := Zp H hb
 refine Za rfl rfl rfl (Ze fo_32_4 rfl) ?_
 refine Za rfl rfl rfl (Zh Zx rfl (RW.here _) hS hs0 trivial Zeg) ?_
 refine Za rfl rfl rfl (Xa rfl rfl) ?_
 refine Zb 1 rfl ?_
 refine Zg ?_
 refine Zc hK5 ?_
 refine Z0 rfl (fun hb => ?_) (fun hb => ?_)
 ·replace H := Zq H hb
  refine Zd (fun K hK18 => ?_)
  refine Zf ?_
  refine Zb 1 rfl ?_
  refine Zg ?_
  refine Zc hK18 ?_
  refine Zk ?_
  refine Zi ?_
  refine Zl rfl (RV.tmp rfl RV.nil) rfl ?_
  obtain rfl := Option.some.inj H
  replace hS := hS.cut 0
  exact ⟨rfl, hS⟩
 replace H := Zp H hb
 refine Zu ?_
 refine Zc hK4 ?_
 refine Zd (fun K hK19 => ?_)
 refine Zd (fun K hK20 => ?_)
 refine Zf ?_
 refine Za rfl rfl rfl (Ze fo_32_5 rfl) ?_
 refine Za rfl rfl rfl (Zh Zx rfl (RW.here _) hS hs0 trivial Zdw) ?_
 obtain ⟨r21, hm22, H⟩ := bind_some H
 refine Zr rfl rfl rfl rfl (by kernel_rfl) rfl (Zev x0.last _ hm22) ?_
 rintro e w ⟨rfl, hN⟩; refine ⟨_, rfl, ?_⟩; have hB := hN.pure; have hS := hS.join hN; clear hN
 refine Za rfl rfl rfl (Yt rfl) ?_
 refine Zb 1 rfl ?_
 refine Zt 74 rfl (fun hb => ?_) (fun hb => ?_)
 ·replace H := Zq H hb
  refine Zb 16 rfl ?_
  refine Zg ?_
  refine Zc hK20 ?_
  refine Zs rfl rfl ?_
  refine Zd (fun K hK23 => ?_)
  refine Zf ?_
  refine Zb 1 rfl ?_
  refine Zg ?_
  refine Zc hK23 ?_
  refine Zk ?_
  refine Zi ?_
  refine Zl rfl (RV.tmp rfl RV.nil) rfl ?_
  obtain rfl := Option.some.inj H
  replace hS := hS.cut 0
  exact ⟨rfl, hS⟩
 replace H := Zp H hb
 refine Za rfl rfl rfl (Ze fo_32_6 rfl) ?_
 refine Za rfl rfl rfl (Zh Zx rfl (RW.here _) hS hs0 trivial sg6_1) ?_
 obtain ⟨r24, hm25, H⟩ := bind_some H
 refine Zr rfl rfl rfl rfl (by kernel_rfl) rfl (Zev x0.lastTerm _ hm25) ?_
 rintro e w ⟨rfl, hN⟩; refine ⟨_, rfl, ?_⟩; have hB := hN.pure; have hS := hS.join hN; clear hN
 refine Za rfl rfl rfl (Yt rfl) ?_
 refine Zb 2 rfl ?_
 refine Zt 80 rfl (fun hb => ?_) (fun hb => ?_)
 ·replace H := Zq H hb
  refine Zb 10 rfl ?_
  refine Zg ?_
  refine Zc hK20 ?_
  refine Zs rfl rfl ?_
  refine Zd (fun K hK26 => ?_)
  refine Zf ?_
  refine Zb 1 rfl ?_
  refine Zg ?_
  refine Zc hK26 ?_
  refine Zk ?_
  refine Zi ?_
  refine Zl rfl (RV.tmp rfl RV.nil) rfl ?_
  obtain rfl := Option.some.inj H
  replace hS := hS.cut 0
  exact ⟨rfl, hS⟩
 replace H := Zp H hb
 refine Za rfl rfl rfl (Ze fo_32_7 rfl) ?_
 refine Za rfl rfl rfl (Zh Zx rfl (RW.here _) hS hs0 trivial sg7_1) ?_
 obtain ⟨r27, hm28, H⟩ := bind_some H
 refine Zr rfl rfl rfl rfl (by kernel_rfl) rfl (Zev x0.commit _ hm28) ?_
 rintro e w ⟨rfl, hN⟩; refine ⟨_, rfl, ?_⟩; have hB := hN.pure; have hS := hS.join hN; clear hN
 refine Za rfl rfl rfl (Yt rfl) ?_
 refine Zb 2 rfl ?_
 refine Zt 86 rfl (fun hb => ?_) (fun hb => ?_)
 ·replace H := Zq H hb
  refine Zb 4 rfl ?_
  refine Zg ?_
  refine Zc hK20 ?_
  refine Zs rfl rfl ?_
  refine Zd (fun K hK29 => ?_)
  refine Zf ?_
  refine Zb 1 rfl ?_
  refine Zg ?_
  refine Zc hK29 ?_
  refine Zk ?_
  refine Zi ?_
  refine Zl rfl (RV.tmp rfl RV.nil) rfl ?_
  obtain rfl := Option.some.inj H
  replace hS := hS.cut 0
  exact ⟨rfl, hS⟩
 replace H := Zp H hb
 refine Za rfl rfl rfl (Zj X7 rfl (RW.here _) hS hs0 trivial Xj) ?_
 obtain ⟨r30, hm31, H⟩ := bind_some H
 refine Zr rfl rfl rfl rfl (by kernel_rfl) rfl (c_ref20_entries x0 A0_ c0_ _ (SlI.of_rd s0_.k (hS.rd0 s0_.rd) (hS.blk0 s0_.blk)) hm31) ?_
 rintro e w ⟨rfl, hN⟩; refine ⟨_, rfl, ?_⟩; have hB := hN.pure; have hS := hS.join hN; clear hN
 refine Za rfl rfl rfl (Yt rfl) ?_
 refine Zb 1 rfl ?_
 refine Zg ?_
 refine Zc hK20 ?_
 refine Z0 rfl (fun hb => ?_) (fun hb => ?_)
 ·replace H := Zq H hb
  refine Zd (fun K hK32 => ?_)
  refine Zf ?_
  refine Zb 1 rfl ?_
  refine Zg ?_
  refine Zc hK32 ?_
  refine Zk ?_
  refine Zi ?_
  refine Zl rfl (RV.tmp rfl RV.nil) rfl ?_
  obtain rfl := Option.some.inj H
  replace hS := hS.cut 0
  exact ⟨rfl, hS⟩
 replace H := Zp H hb
 refine Zu ?_
 refine Zc hK19 ?_
 refine Zd (fun K hK33 => ?_)
 refine Zd (fun K hK34 => ?_)
 refine Zf ?_
 refine Za rfl rfl rfl (Ze Vf rfl) ?_
 refine Za rfl rfl rfl (Zh Zai rfl (RW.here _) hS hs0 trivial Y2) ?_
 refine Za rfl rfl rfl (Xk rfl rfl) ?_
 refine Zb 1 rfl ?_
 refine Zt 94 rfl (fun hb => ?_) (fun hb => ?_)
 rotate_left
 ·replace H := Zp H hb
  refine Zb 11 rfl ?_
  refine Za rfl rfl rfl (Ze fo_32_8 rfl) ?_
  refine Za rfl rfl rfl (Zh sc_4 rfl (RW.here _) hS hs0 trivial sg8_1) ?_
  refine Zb 1 rfl ?_
  refine Zt 108 rfl (fun hb => ?_) (fun hb => ?_)
  rotate_left
  ·replace H := Zp H hb
   refine Zb 10 rfl ?_
   refine Zg ?_
   refine Zc hK34 ?_
   refine Yq rfl rfl ?_
   refine Zu ?_
   refine Zc hK33 ?_
   refine Zd (fun K hK69 => ?_)
   refine Zd (fun K hK70 => ?_)
   refine Zf ?_
   refine Za rfl rfl rfl (Ze Vf rfl) ?_
   refine Za rfl rfl rfl (Zh Zai rfl (RW.here _) hS hs0 trivial Y2) ?_
   refine Za rfl rfl rfl (Yy rfl rfl) ?_
   refine Zg ?_
   refine Zc hK70 ?_
   refine Z0 rfl (fun hb => ?_) (fun hb => ?_)
   rotate_left
   ·replace H := Zp H hb
    refine Zu ?_
    refine Zc hK69 ?_
    refine Zd (fun K hK74 => ?_)
    refine Zf ?_
    refine Za rfl rfl rfl (Ze Y3 rfl) ?_
    refine Za rfl rfl rfl (Zj Yn rfl (RW.here _) hS hs0 trivial Ja) ?_
    refine Za rfl rfl rfl (Xx (cells := [.int .i64 0, .int .i64 0, .int .i64 0, .int .i64 0, .bool false]) rfl (by kernel_rfl)) ?_
    refine Za rfl rfl rfl (Jb (by kernel_rfl) rfl rfl (Jg _ _ _ _ _ _ _ _ _ _)) ?_
    refine Zb 1 rfl ?_
    refine Zg ?_
    refine Zc hK74 ?_
    refine Zk ?_
    refine Zl rfl (RV.tmp rfl RV.nil) rfl ?_
    obtain rfl := Option.some.inj H
    replace hS := hS.cut 0
    exact ⟨rfl, hS⟩
   replace H := Zq H hb
   refine Zd (fun K hK71 => ?_)
   refine Zf ?_
   refine Za rfl rfl rfl (Ze Y3 rfl) ?_
   refine Za rfl rfl rfl (Zj Yn rfl (RW.here _) hS hs0 trivial Ja) ?_
   obtain ⟨r72, hm73, H⟩ := bind_some H
   refine Zr rfl rfl rfl rfl (by kernel_rfl) rfl (Zap x0.snap _ hm73) ?_
   rintro e w ⟨rfl, hN⟩; refine ⟨_, rfl, ?_⟩; have hB := hN.pure; have hS := hS.join hN; clear hN
   refine Zb 1 rfl ?_
   refine Zt 125 rfl (fun hb => ?_) (fun hb => ?_)
   rotate_left
   ·replace H := Zp H hb
    refine Zb 6 rfl ?_
    refine Zg ?_
    refine Zc hK71 ?_
    refine Zk ?_
    refine Zi ?_
    refine Zl rfl (RV.tmp rfl RV.nil) rfl ?_
    obtain rfl := Option.some.inj H
    replace hS := hS.cut 0
    exact ⟨rfl, hS⟩
   replace H := Zq H hb
   refine Za rfl rfl rfl (Ze Y3 rfl) ?_
   refine Za rfl rfl rfl (Ze Z5 rfl) ?_
   refine Za rfl rfl rfl (Zh Zx rfl (RW.here _) hS hs0 trivial V0) ?_
   refine Za rfl rfl rfl (Xa rfl rfl) ?_
   refine Zb 2 rfl ?_
   refine Zg ?_
   refine Zc hK71 ?_
   refine Zk ?_
   refine Zi ?_
   refine Zl rfl (RV.tmp rfl RV.nil) rfl ?_
   obtain rfl := Option.some.inj H
   replace hS := hS.cut 0
   exact ⟨rfl, hS⟩
  replace H := Zq H hb
  refine Za rfl rfl rfl (Ze Vf rfl) ?_
  refine Za rfl rfl rfl (Zh Zai rfl (RW.here _) hS hs0 trivial Y2) ?_
  refine Za rfl rfl rfl (Xk rfl rfl) ?_
  refine Zb 2 rfl ?_
  refine Zt 113 rfl (fun hb => ?_) (fun hb => ?_)
  rotate_left
  ·replace H := Zp H hb
   refine Zb 5 rfl ?_
   refine Zg ?_
   refine Zc hK34 ?_
   refine Yq rfl rfl ?_
   refine Zu ?_
   refine Zc hK33 ?_
   refine Zd (fun K hK63 => ?_)
   refine Zd (fun K hK64 => ?_)
   refine Zf ?_
   refine Za rfl rfl rfl (Ze Vf rfl) ?_
   refine Za rfl rfl rfl (Zh Zai rfl (RW.here _) hS hs0 trivial Y2) ?_
   refine Za rfl rfl rfl (Yy rfl rfl) ?_
   refine Zg ?_
   refine Zc hK64 ?_
   refine Z0 rfl (fun hb => ?_) (fun hb => ?_)
   rotate_left
   ·replace H := Zp H hb
    refine Zu ?_
    refine Zc hK63 ?_
    refine Zd (fun K hK68 => ?_)
    refine Zf ?_
    refine Za rfl rfl rfl (Ze Y3 rfl) ?_
    refine Za rfl rfl rfl (Zj Yn rfl (RW.here _) hS hs0 trivial Ja) ?_
    refine Za rfl rfl rfl (Xx (cells := [.int .i64 0, .int .i64 0, .int .i64 0, .int .i64 0, .bool false]) rfl (by kernel_rfl)) ?_
    refine Za rfl rfl rfl (Jb (by kernel_rfl) rfl rfl (Jg _ _ _ _ _ _ _ _ _ _)) ?_
    refine Zb 1 rfl ?_
    refine Zg ?_
    refine Zc hK68 ?_
    refine Zk ?_
    refine Zl rfl (RV.tmp rfl RV.nil) rfl ?_
    obtain rfl := Option.some.inj H
    replace hS := hS.cut 0
    exact ⟨rfl, hS⟩
   replace H := Zq H hb
   refine Zd (fun K hK65 => ?_)
   refine Zf ?_
   refine Za rfl rfl rfl (Ze Y3 rfl) ?_
   refine Za rfl rfl rfl (Zj Yn rfl (RW.here _) hS hs0 trivial Ja) ?_
   obtain ⟨r66, hm67, H⟩ := bind_some H
   refine Zr rfl rfl rfl rfl (by kernel_rfl) rfl (Zap x0.snap _ hm67) ?_
   rintro e w ⟨rfl, hN⟩; refine ⟨_, rfl, ?_⟩; have hB := hN.pure; have hS := hS.join hN; clear hN
   refine Zb 1 rfl ?_
   refine Zt 125 rfl (fun hb => ?_) (fun hb => ?_)
   rotate_left
   ·replace H := Zp H hb
    refine Zb 6 rfl ?_
    refine Zg ?_
    refine Zc hK65 ?_
    refine Zk ?_
    refine Zi ?_
    refine Zl rfl (RV.tmp rfl RV.nil) rfl ?_
    obtain rfl := Option.some.inj H
    replace hS := hS.cut 0
    exact ⟨rfl, hS⟩
   replace H := Zq H hb
   refine Za rfl rfl rfl (Ze Y3 rfl) ?_
   refine Za rfl rfl rfl (Ze Z5 rfl) ?_
   refine Za rfl rfl rfl (Zh Zx rfl (RW.here _) hS hs0 trivial V0) ?_
   refine Za rfl rfl rfl (Xa rfl rfl) ?_
   refine Zb 2 rfl ?_
   refine Zg ?_
   refine Zc hK65 ?_
   refine Zk ?_
   refine Zi ?_
   refine Zl rfl (RV.tmp rfl RV.nil) rfl ?_
   obtain rfl := Option.some.inj H
   replace hS := hS.cut 0
   exact ⟨rfl, hS⟩
  replace H := Zq H hb
  refine Za rfl rfl rfl (Ze Vf rfl) ?_
  refine Za rfl rfl rfl (Zh Zai rfl (RW.here _) hS hs0 trivial Y2) ?_
  refine Za rfl rfl rfl (Xk rfl rfl) ?_
  refine Zb 2 rfl ?_
  refine Zg ?_
  refine Zc hK34 ?_
  refine Z0 rfl (fun hb => ?_) (fun hb => ?_)
  ·replace H := Zq H hb
   refine Zd (fun K hK56 => ?_)
   refine Zf ?_
   refine Zb 1 rfl ?_
   refine Zg ?_
   refine Zc hK56 ?_
   refine Zk ?_
   refine Zi ?_
   refine Zl rfl (RV.tmp rfl RV.nil) rfl ?_
   obtain rfl := Option.some.inj H
   replace hS := hS.cut 0
   exact ⟨rfl, hS⟩
  replace H := Zp H hb
  refine Zu ?_
  refine Zc hK33 ?_
  refine Zd (fun K hK57 => ?_)
  refine Zd (fun K hK58 => ?_)
  refine Zf ?_
  refine Za rfl rfl rfl (Ze Vf rfl) ?_
  refine Za rfl rfl rfl (Zh Zai rfl (RW.here _) hS hs0 trivial Y2) ?_
  refine Za rfl rfl rfl (Yy rfl rfl) ?_
  refine Zg ?_
  refine Zc hK58 ?_
  refine Z0 rfl (fun hb => ?_) (fun hb => ?_)
  rotate_left
  ·replace H := Zp H hb
   refine Zu ?_
   refine Zc hK57 ?_
   refine Zd (fun K hK62 => ?_)
   refine Zf ?_
   refine Za rfl rfl rfl (Ze Y3 rfl) ?_
   refine Za rfl rfl rfl (Zj Yn rfl (RW.here _) hS hs0 trivial Ja) ?_
   refine Za rfl rfl rfl (Xx (cells := [.int .i64 0, .int .i64 0, .int .i64 0, .int .i64 0, .bool false]) rfl (by kernel_rfl)) ?_
   refine Za rfl rfl rfl (Jb (by kernel_rfl) rfl rfl (Jg _ _ _ _ _ _ _ _ _ _)) ?_
   refine Zb 1 rfl ?_
   refine Zg ?_
   refine Zc hK62 ?_
   refine Zk ?_
   refine Zl rfl (RV.tmp rfl RV.nil) rfl ?_
   obtain rfl := Option.some.inj H
   replace hS := hS.cut 0
   exact ⟨rfl, hS⟩
  replace H := Zq H hb
  refine Zd (fun K hK59 => ?_)
  refine Zf ?_
  refine Za rfl rfl rfl (Ze Y3 rfl) ?_
  refine Za rfl rfl rfl (Zj Yn rfl (RW.here _) hS hs0 trivial Ja) ?_
  obtain ⟨r60, hm61, H⟩ := bind_some H
  refine Zr rfl rfl rfl rfl (by kernel_rfl) rfl (Zap x0.snap _ hm61) ?_
  rintro e w ⟨rfl, hN⟩; refine ⟨_, rfl, ?_⟩; have hB := hN.pure; have hS := hS.join hN; clear hN
  refine Zb 1 rfl ?_
  refine Zt 125 rfl (fun hb => ?_) (fun hb => ?_)
  rotate_left
  ·replace H := Zp H hb
   refine Zb 6 rfl ?_
   refine Zg ?_
   refine Zc hK59 ?_
   refine Zk ?_
   refine Zi ?_
   refine Zl rfl (RV.tmp rfl RV.nil) rfl ?_
   obtain rfl := Option.some.inj H
   replace hS := hS.cut 0
   exact ⟨rfl, hS⟩
  replace H := Zq H hb
  refine Za rfl rfl rfl (Ze Y3 rfl) ?_
  refine Za rfl rfl rfl (Ze Z5 rfl) ?_
  refine Za rfl rfl rfl (Zh Zx rfl (RW.here _) hS hs0 trivial V0) ?_
  refine Za rfl rfl rfl (Xa rfl rfl) ?_
  refine Zb 2 rfl ?_
  refine Zg ?_
  refine Zc hK59 ?_
  refine Zk ?_
  refine Zi ?_
  refine Zl rfl (RV.tmp rfl RV.nil) rfl ?_
  obtain rfl := Option.some.inj H
  replace hS := hS.cut 0
  exact ⟨rfl, hS⟩
 replace H := Zq H hb
 refine Za rfl rfl rfl (Ze Zb5 rfl) ?_
 refine Za rfl rfl rfl (Zh V8 rfl (RW.here _) hS hs0 trivial sg9_1) ?_
 refine Za rfl rfl rfl (Y1 Va rfl) ?_
 refine Za rfl rfl rfl (Xa rfl rfl) ?_
 refine Zb 1 rfl ?_
 refine Zt 99 rfl (fun hb => ?_) (fun hb => ?_)
 ·replace H := Zq H hb
  refine Zb 19 rfl ?_
  refine Zg ?_
  refine Zc hK34 ?_
  refine Zs rfl rfl ?_
  refine Zd (fun K hK35 => ?_)
  refine Zf ?_
  refine Zb 1 rfl ?_
  refine Zg ?_
  refine Zc hK35 ?_
  refine Zk ?_
  refine Zi ?_
  refine Zl rfl (RV.tmp rfl RV.nil) rfl ?_
  obtain rfl := Option.some.inj H
  replace hS := hS.cut 0
  exact ⟨rfl, hS⟩
 replace H := Zp H hb
 refine Za rfl rfl rfl (Ze fo_32_7 rfl) ?_
 refine Za rfl rfl rfl (Zh Zx rfl (RW.here _) hS hs0 trivial sg7_1) ?_
 refine Za rfl rfl rfl (Xa rfl rfl) ?_
 refine Zb 3 rfl ?_
 refine Zt 105 rfl (fun hb => ?_) (fun hb => ?_)
 ·replace H := Zq H hb
  refine Zb 13 rfl ?_
  refine Zg ?_
  refine Zc hK34 ?_
  refine Zs rfl rfl ?_
  refine Zd (fun K hK36 => ?_)
  refine Zf ?_
  refine Zb 1 rfl ?_
  refine Zg ?_
  refine Zc hK36 ?_
  refine Zk ?_
  refine Zi ?_
  refine Zl rfl (RV.tmp rfl RV.nil) rfl ?_
  obtain rfl := Option.some.inj H
  replace hS := hS.cut 0
  exact ⟨rfl, hS⟩
 replace H := Zp H hb
 refine Za rfl rfl rfl (Ze fo_32_8 rfl) ?_
 refine Za rfl rfl rfl (Zh sc_4 rfl (RW.here _) hS hs0 trivial sg8_1) ?_
 refine Zb 1 rfl ?_
 refine Zt 108 rfl (fun hb => ?_) (fun hb => ?_)
 rotate_left
 ·replace H := Zp H hb
  refine Zb 10 rfl ?_
  refine Zg ?_
  refine Zc hK34 ?_
  refine Yq rfl rfl ?_
  refine Zu ?_
  refine Zc hK33 ?_
  refine Zd (fun K hK50 => ?_)
  refine Zd (fun K hK51 => ?_)
  refine Zf ?_
  refine Za rfl rfl rfl (Ze Vf rfl) ?_
  refine Za rfl rfl rfl (Zh Zai rfl (RW.here _) hS hs0 trivial Y2) ?_
  refine Za rfl rfl rfl (Yy rfl rfl) ?_
  refine Zg ?_
  refine Zc hK51 ?_
  refine Z0 rfl (fun hb => ?_) (fun hb => ?_)
  rotate_left
  ·replace H := Zp H hb
   refine Zu ?_
   refine Zc hK50 ?_
   refine Zd (fun K hK55 => ?_)
   refine Zf ?_
   refine Za rfl rfl rfl (Ze Y3 rfl) ?_
   refine Za rfl rfl rfl (Zj Yn rfl (RW.here _) hS hs0 trivial Ja) ?_
   refine Za rfl rfl rfl (Xx (cells := [.int .i64 0, .int .i64 0, .int .i64 0, .int .i64 0, .bool false]) rfl (by kernel_rfl)) ?_
   refine Za rfl rfl rfl (Jb (by kernel_rfl) rfl rfl (Jg _ _ _ _ _ _ _ _ _ _)) ?_
   refine Zb 1 rfl ?_
   refine Zg ?_
   refine Zc hK55 ?_
   refine Zk ?_
   refine Zl rfl (RV.tmp rfl RV.nil) rfl ?_
   obtain rfl := Option.some.inj H
   replace hS := hS.cut 0
   exact ⟨rfl, hS⟩
  replace H := Zq H hb
  refine Zd (fun K hK52 => ?_)
  refine Zf ?_
  refine Za rfl rfl rfl (Ze Y3 rfl) ?_
  refine Za rfl rfl rfl (Zj Yn rfl (RW.here _) hS hs0 trivial Ja) ?_
  obtain ⟨r53, hm54, H⟩ := bind_some H
  refine Zr rfl rfl rfl rfl (by kernel_rfl) rfl (Zap x0.snap _ hm54) ?_
  rintro e w ⟨rfl, hN⟩; refine ⟨_, rfl, ?_⟩; have hB := hN.pure; have hS := hS.join hN; clear hN
  refine Zb 1 rfl ?_
  refine Zt 125 rfl (fun hb => ?_) (fun hb => ?_)
  rotate_left
  ·replace H := Zp H hb
   refine Zb 6 rfl ?_
   refine Zg ?_
   refine Zc hK52 ?_
   refine Zk ?_
   refine Zi ?_
   refine Zl rfl (RV.tmp rfl RV.nil) rfl ?_
   obtain rfl := Option.some.inj H
   replace hS := hS.cut 0
   exact ⟨rfl, hS⟩
  replace H := Zq H hb
  refine Za rfl rfl rfl (Ze Y3 rfl) ?_
  refine Za rfl rfl rfl (Ze Z5 rfl) ?_
  refine Za rfl rfl rfl (Zh Zx rfl (RW.here _) hS hs0 trivial V0) ?_
  refine Za rfl rfl rfl (Xa rfl rfl) ?_
  refine Zb 2 rfl ?_
  refine Zg ?_
  refine Zc hK52 ?_
  refine Zk ?_
  refine Zi ?_
  refine Zl rfl (RV.tmp rfl RV.nil) rfl ?_
  obtain rfl := Option.some.inj H
  replace hS := hS.cut 0
  exact ⟨rfl, hS⟩
 replace H := Zq H hb
 refine Za rfl rfl rfl (Ze Vf rfl) ?_
 refine Za rfl rfl rfl (Zh Zai rfl (RW.here _) hS hs0 trivial Y2) ?_
 refine Za rfl rfl rfl (Xk rfl rfl) ?_
 refine Zb 2 rfl ?_
 refine Zt 113 rfl (fun hb => ?_) (fun hb => ?_)
 rotate_left
 ·replace H := Zp H hb
  refine Zb 5 rfl ?_
  refine Zg ?_
  refine Zc hK34 ?_
  refine Yq rfl rfl ?_
  refine Zu ?_
  refine Zc hK33 ?_
  refine Zd (fun K hK44 => ?_)
  refine Zd (fun K hK45 => ?_)
  refine Zf ?_
  refine Za rfl rfl rfl (Ze Vf rfl) ?_
  refine Za rfl rfl rfl (Zh Zai rfl (RW.here _) hS hs0 trivial Y2) ?_
  refine Za rfl rfl rfl (Yy rfl rfl) ?_
  refine Zg ?_
  refine Zc hK45 ?_
  refine Z0 rfl (fun hb => ?_) (fun hb => ?_)
  rotate_left
  ·replace H := Zp H hb
   refine Zu ?_
   refine Zc hK44 ?_
   refine Zd (fun K hK49 => ?_)
   refine Zf ?_
   refine Za rfl rfl rfl (Ze Y3 rfl) ?_
   refine Za rfl rfl rfl (Zj Yn rfl (RW.here _) hS hs0 trivial Ja) ?_
   refine Za rfl rfl rfl (Xx (cells := [.int .i64 0, .int .i64 0, .int .i64 0, .int .i64 0, .bool false]) rfl (by kernel_rfl)) ?_
   refine Za rfl rfl rfl (Jb (by kernel_rfl) rfl rfl (Jg _ _ _ _ _ _ _ _ _ _)) ?_
   refine Zb 1 rfl ?_
   refine Zg ?_
   refine Zc hK49 ?_
   refine Zk ?_
   refine Zl rfl (RV.tmp rfl RV.nil) rfl ?_
   obtain rfl := Option.some.inj H
   replace hS := hS.cut 0
   exact ⟨rfl, hS⟩
  replace H := Zq H hb
  refine Zd (fun K hK46 => ?_)
  refine Zf ?_
  refine Za rfl rfl rfl (Ze Y3 rfl) ?_
  refine Za rfl rfl rfl (Zj Yn rfl (RW.here _) hS hs0 trivial Ja) ?_
  obtain ⟨r47, hm48, H⟩ := bind_some H
  refine Zr rfl rfl rfl rfl (by kernel_rfl) rfl (Zap x0.snap _ hm48) ?_
  rintro e w ⟨rfl, hN⟩; refine ⟨_, rfl, ?_⟩; have hB := hN.pure; have hS := hS.join hN; clear hN
  refine Zb 1 rfl ?_
  refine Zt 125 rfl (fun hb => ?_) (fun hb => ?_)
  rotate_left
  ·replace H := Zp H hb
   refine Zb 6 rfl ?_
   refine Zg ?_
   refine Zc hK46 ?_
   refine Zk ?_
   refine Zi ?_
   refine Zl rfl (RV.tmp rfl RV.nil) rfl ?_
   obtain rfl := Option.some.inj H
   replace hS := hS.cut 0
   exact ⟨rfl, hS⟩
  replace H := Zq H hb
  refine Za rfl rfl rfl (Ze Y3 rfl) ?_
  refine Za rfl rfl rfl (Ze Z5 rfl) ?_
  refine Za rfl rfl rfl (Zh Zx rfl (RW.here _) hS hs0 trivial V0) ?_
  refine Za rfl rfl rfl (Xa rfl rfl) ?_
  refine Zb 2 rfl ?_
  refine Zg ?_
  refine Zc hK46 ?_
  refine Zk ?_
  refine Zi ?_
  refine Zl rfl (RV.tmp rfl RV.nil) rfl ?_
  obtain rfl := Option.some.inj H
  replace hS := hS.cut 0
  exact ⟨rfl, hS⟩
 replace H := Zq H hb
 refine Za rfl rfl rfl (Ze Vf rfl) ?_
 refine Za rfl rfl rfl (Zh Zai rfl (RW.here _) hS hs0 trivial Y2) ?_
 refine Za rfl rfl rfl (Xk rfl rfl) ?_
 refine Zb 2 rfl ?_
 refine Zg ?_
 refine Zc hK34 ?_
 refine Z0 rfl (fun hb => ?_) (fun hb => ?_)
 ·replace H := Zq H hb
  refine Zd (fun K hK37 => ?_)
  refine Zf ?_
  refine Zb 1 rfl ?_
  refine Zg ?_
  refine Zc hK37 ?_
  refine Zk ?_
  refine Zi ?_
  refine Zl rfl (RV.tmp rfl RV.nil) rfl ?_
  obtain rfl := Option.some.inj H
  replace hS := hS.cut 0
  exact ⟨rfl, hS⟩
 replace H := Zp H hb
 refine Zu ?_
 refine Zc hK33 ?_
 refine Zd (fun K hK38 => ?_)
 refine Zd (fun K hK39 => ?_)
 refine Zf ?_
 refine Za rfl rfl rfl (Ze Vf rfl) ?_
 refine Za rfl rfl rfl (Zh Zai rfl (RW.here _) hS hs0 trivial Y2) ?_
 refine Za rfl rfl rfl (Yy rfl rfl) ?_
 refine Zg ?_
 refine Zc hK39 ?_
 refine Z0 rfl (fun hb => ?_) (fun hb => ?_)
 rotate_left
 ·replace H := Zp H hb
  refine Zu ?_
  refine Zc hK38 ?_
  refine Zd (fun K hK43 => ?_)
  refine Zf ?_
  refine Za rfl rfl rfl (Ze Y3 rfl) ?_
  refine Za rfl rfl rfl (Zj Yn rfl (RW.here _) hS hs0 trivial Ja) ?_
  refine Za rfl rfl rfl (Xx (cells := [.int .i64 0, .int .i64 0, .int .i64 0, .int .i64 0, .bool false]) rfl (by kernel_rfl)) ?_
  refine Za rfl rfl rfl (Jb (by kernel_rfl) rfl rfl (Jg _ _ _ _ _ _ _ _ _ _)) ?_
  refine Zb 1 rfl ?_
  refine Zg ?_
  refine Zc hK43 ?_
  refine Zk ?_
  refine Zl rfl (RV.tmp rfl RV.nil) rfl ?_
  obtain rfl := Option.some.inj H
  replace hS := hS.cut 0
  exact ⟨rfl, hS⟩
 replace H := Zq H hb
 refine Zd (fun K hK40 => ?_)
 refine Zf ?_
 refine Za rfl rfl rfl (Ze Y3 rfl) ?_
 refine Za rfl rfl rfl (Zj Yn rfl (RW.here _) hS hs0 trivial Ja) ?_
 obtain ⟨r41, hm42, H⟩ := bind_some H
 refine Zr rfl rfl rfl rfl (by kernel_rfl) rfl (Zap x0.snap _ hm42) ?_
 rintro e w ⟨rfl, hN⟩; refine ⟨_, rfl, ?_⟩; have hB := hN.pure; have hS := hS.join hN; clear hN
 refine Zb 1 rfl ?_
 refine Zt 125 rfl (fun hb => ?_) (fun hb => ?_)
 rotate_left
 ·replace H := Zp H hb
  refine Zb 6 rfl ?_
  refine Zg ?_
  refine Zc hK40 ?_
  refine Zk ?_
  refine Zi ?_
  refine Zl rfl (RV.tmp rfl RV.nil) rfl ?_
  obtain rfl := Option.some.inj H
  replace hS := hS.cut 0
  exact ⟨rfl, hS⟩
 replace H := Zq H hb
 refine Za rfl rfl rfl (Ze Y3 rfl) ?_
 refine Za rfl rfl rfl (Ze Z5 rfl) ?_
 refine Za rfl rfl rfl (Zh Zx rfl (RW.here _) hS hs0 trivial V0) ?_
 refine Za rfl rfl rfl (Xa rfl rfl) ?_
 refine Zb 2 rfl ?_
 refine Zg ?_
 refine Zc hK40 ?_
 refine Zk ?_
 refine Zi ?_
 refine Zl rfl (RV.tmp rfl RV.nil) rfl ?_
 obtain rfl := Option.some.inj H
 replace hS := hS.cut 0
 exact ⟨rfl, hS⟩
theorem c_ref06_Same (x0 : List En) (x1 : List En) (A0_ : Option Addr) (c0_ : Nat) (A1_ : Option Addr) (c1_ : Nat) (w0 : World) (s0_ : SlI w0 Jv A0_ c0_ x0) (s1_ : SlI w0 Jv A1_ c1_ x1) {r : Bool} (H : Zdu x0 x1 = some r) : Calls Try.prog 64 #[.slice A0_ x0.length c0_, .slice A1_ x1.length c1_] w0 fun e w' => e = .returned (.bool r) ∧ St0 All w0 w' [] := by
 unfold Zdu at H
 refine Yw Try.func64 rfl Try.ntmps64 rfl ?_
 have hS := St0.start All w0
 refine Zd (fun K hK1 => ?_)
 refine Zf ?_
 refine Zb 1 rfl ?_
 refine Zg ?_
 refine Zc hK1 ?_
 refine Zd (fun K hK2 => ?_)
 refine Zd (fun K hK3 => ?_)
 refine Zf ?_
 refine Zb 1 rfl ?_
 refine Za rfl rfl rfl (Y1 Va rfl) ?_
 refine Zb 1 rfl ?_
 refine Za rfl rfl rfl (Y1 Va rfl) ?_
 refine Za rfl rfl rfl (Xk rfl rfl) ?_
 refine Zg ?_
 refine Zc hK3 ?_
 refine Z0 rfl (fun hb => ?_) (fun hb => ?_)
 ·replace H := Zq H hb
  refine Zd (fun K hK4 => ?_)
  refine Zf ?_
  refine Zb 1 rfl ?_
  refine Zg ?_
  refine Zc hK4 ?_
  refine Zk ?_
  refine Zi ?_
  refine Zl rfl (RV.tmp rfl RV.nil) rfl ?_
  obtain rfl := Option.some.inj H
  replace hS := hS.cut 0
  exact ⟨rfl, hS⟩
 replace H := Zp H hb
 refine Zu ?_
 refine Zc hK2 ?_
 refine Zd (fun K hK5 => ?_)
 refine Zd (fun K hK6 => ?_)
 refine Zf ?_
 refine Zb 1 rfl ?_
 refine Zg ?_
 refine Zc hK6 ?_
 refine Yj ?_
 refine Jq (X := Nat × Bool × Int) (fun x => (0, .slice A0_ x0.length c0_) :: (1, .slice A1_ x1.length c1_) :: (4, .bool x.2.1) :: (5, .int .i64 x.2.2) :: []) (fun x w => St0 All w0 w ([]) ∧ J0 x0 x1 x.1 x.2.1 x.2.2 = some r) (fun x => x.1) (X6, false, 0) (by repeat (first | exact Sub.nil | refine Sub.cons rfl ?_)) ⟨hS, H⟩ ?_
 rintro ⟨n, v7, v8⟩ w ⟨hS, H⟩
 dsimp only at hS H ⊢
 obtain _ | n := n
 ·have H0 : none = some r := H
  cases H0
 rw [J0] at H
 refine Zd (fun K hK9 => ?_)
 refine Zd (fun K hK10 => ?_)
 refine Zf ?_
 refine Zb 2 rfl ?_
 refine Za rfl rfl rfl (Y1 Va rfl) ?_
 refine Za rfl rfl rfl (Xv rfl rfl) ?_
 refine Zg ?_
 refine Zc hK10 ?_
 refine Z0 rfl (fun hb => ?_) (fun hb => ?_)
 rotate_left
 ·replace H := Zp H hb
  refine Vo ?_
  refine Ye ?_
  refine Ye ?_
  refine Xf ?_
  refine Zc hK5 ?_
  refine Zd (fun K hK20 => ?_)
  refine Zf ?_
  refine Zb 1 rfl ?_
  refine Zg ?_
  refine Zc hK20 ?_
  refine Zk ?_
  refine Zl rfl (RV.tmp rfl RV.nil) rfl ?_
  obtain rfl := Option.some.inj H
  replace hS := hS.cut 0
  exact ⟨rfl, hS⟩
 replace H := Zq H hb
 refine Zu ?_
 refine Zc hK9 ?_
 refine Zd (fun K hK11 => ?_)
 refine Yj ?_
 refine Zd (fun K hK12 => ?_)
 refine Yo 9 [] (fun _ _ => True) ⟨by kernel_rfl, by kernel_rfl⟩ hS (fun w hS hB => ?_)
 refine Zm [true, true, true, true, true, true, true, true, true] (by decide +kernel) (by repeat (first | exact PF.body | exact PF.round | apply PF.then | apply PF.inBlock | apply PF.jump)) ?_
 refine LtK.put rfl rfl rfl (Zn rfl) ?_
 refine LtK.put rfl rfl rfl (Zn rfl) ?_
 obtain ⟨e13, hi15, H⟩ := bind_some H
 obtain ⟨j14, hi15a, hi15b, hi15c⟩ := Y9 hi15
 refine LtK.put rfl rfl rfl (Xo Va rfl rfl hi15a hi15c (Rd.el (hS.rd0 s0_.rd) Vi hi15b)) ?_
 refine LtK.put rfl rfl rfl (Zei V3 rfl (RW.below _) (Rd.el (hS.rd0 s0_.rd) Vi hi15b) Zcl) ?_
 refine LtK.put rfl rfl rfl (Zn rfl) ?_
 refine LtK.put rfl rfl rfl (Zn rfl) ?_
 obtain ⟨e16, hi18, H⟩ := bind_some H
 obtain ⟨j17, hi18a, hi18b, hi18c⟩ := Y9 hi18
 refine LtK.put rfl rfl rfl (Xo Va rfl rfl hi18a hi18c (Rd.el (hS.rd0 s1_.rd) Vi hi18b)) ?_
 refine LtK.put rfl rfl rfl (Zei V3 rfl (RW.below _) (Rd.el (hS.rd0 s1_.rd) Vi hi18b) Zcl) ?_
 refine LtK.put rfl rfl rfl (yv_neqS (by kernel_rfl) rfl rfl (eqT_46 _ _ _ _ _ _)) ?_
 refine LtK.nil ?_
 refine Z8 (by kernel_rfl) ?_
 refine Zc hK12 ?_
 refine Z0 rfl (fun hb => ?_) (fun hb => ?_)
 rotate_left
 ·replace H := Zp H hb
  refine Zu ?_
  refine Z1 ?_
  refine Zc hK11 ?_
  refine Zf ?_
  refine Zb 1 rfl ?_
  refine Za rfl rfl rfl (X1 rfl rfl) ?_
  refine Zb 1 rfl ?_
  refine Zg ?_
  exact Vp (n, v7, (IntKind.wrap .i64 (v8 + 1))) (by repeat (first | exact Sub.nil | refine Sub.cons rfl ?_)) ⟨hS, H⟩ (Nat.lt_succ_self _)
 replace H := Zq H hb
 refine Zd (fun K hK19 => ?_)
 refine Zf ?_
 refine Zb 1 rfl ?_
 refine Zg ?_
 refine Zc hK19 ?_
 refine Zk ?_
 refine Zv ?_
 refine Zi ?_
 refine Zi ?_
 refine Zv ?_
 refine Zi ?_
 refine Zl rfl (RV.tmp rfl RV.nil) rfl ?_
 obtain rfl := Option.some.inj H
 replace hS := hS.cut 0
 exact ⟨rfl, hS⟩
theorem c_ref12_Same (x0 : Tu) (x1 : Tu) (A0_ : Option Addr) (c0_ : Nat) (A1_ : Option Addr) (c1_ : Nat) (w0 : World) (s0_ : SlI w0 Jv A0_ c0_ x0.log) (s1_ : SlI w0 Jv A1_ c1_ x1.log) {r : Bool} (H : Zdb x0 x1 = some r) : Calls Try.prog 38 #[.agg #[.int .i64 x0.snap.index, .int .i64 x0.snap.term, .int .i64 x0.snap.sum, .int .i64 x0.snap.level, .bool x0.snap.final, .slice A0_ x0.log.length c0_, .int .i64 x0.term, .int .i64 x0.vote], .agg #[.int .i64 x1.snap.index, .int .i64 x1.snap.term, .int .i64 x1.snap.sum, .int .i64 x1.snap.level, .bool x1.snap.final, .slice A1_ x1.log.length c1_, .int .i64 x1.term, .int .i64 x1.vote]] w0 fun e w' => e = .returned (.bool r) ∧ St0 All w0 w' [] := by
 unfold Zdb at H
 refine Yw Try.func38 rfl Try.ntmps38 rfl ?_
 have hS := St0.start All w0
 refine Zd (fun K hK1 => ?_)
 refine Zf ?_
 refine Z9 rfl rfl rfl CellsOf.agg hS (fun b2 w hS hB => ?_)
 refine Z9 rfl rfl rfl CellsOf.agg hS (fun b4 w hS hB => ?_)
 refine Zb 1 rfl ?_
 refine Zg ?_
 refine Zc hK1 ?_
 refine Zd (fun K hK6 => ?_)
 refine Zf ?_
 refine Za rfl rfl rfl (Ze Yx rfl) ?_
 refine Za rfl rfl rfl (Zj Yn rfl (RW.here _) hS Xt trivial Vw) ?_
 refine Za rfl rfl rfl (Ze Yx rfl) ?_
 refine Za rfl rfl rfl (Zj Yn rfl (RW.here _) hS hs0 trivial Vw) ?_
 refine Za rfl rfl rfl (Jb (by kernel_rfl) rfl rfl (Jg _ _ _ _ _ _ _ _ _ _)) ?_
 refine Zb 1 rfl ?_
 refine Zt 10 rfl (fun hb => ?_) (fun hb => ?_)
 rotate_left
 ·replace H := Zp H hb
  refine Zb 21 rfl ?_
  refine Zg ?_
  refine Zc hK6 ?_
  refine Zk ?_
  refine Zl rfl (RV.tmp rfl RV.nil) rfl ?_
  obtain rfl := Option.some.inj H
  replace hS := hS.cut 0
  exact ⟨rfl, hS⟩
 replace H := Zq H hb
 refine Za rfl rfl rfl (Ze Xs rfl) ?_
 refine Za rfl rfl rfl (Zh Zx rfl (RW.here _) hS Xt trivial sg6_1) ?_
 refine Za rfl rfl rfl (Ze Xs rfl) ?_
 refine Za rfl rfl rfl (Zh Zx rfl (RW.here _) hS hs0 trivial sg6_1) ?_
 refine Za rfl rfl rfl (Yy rfl rfl) ?_
 refine Zb 2 rfl ?_
 refine Zt 17 rfl (fun hb => ?_) (fun hb => ?_)
 rotate_left
 ·replace H := Zp H hb
  refine Zb 14 rfl ?_
  refine Zg ?_
  refine Zc hK6 ?_
  refine Zk ?_
  refine Zl rfl (RV.tmp rfl RV.nil) rfl ?_
  obtain rfl := Option.some.inj H
  replace hS := hS.cut 0
  exact ⟨rfl, hS⟩
 replace H := Zq H hb
 refine Za rfl rfl rfl (Ze Jy rfl) ?_
 refine Za rfl rfl rfl (Zh Zx rfl (RW.here _) hS Xt trivial sg7_1) ?_
 refine Za rfl rfl rfl (Ze Jy rfl) ?_
 refine Za rfl rfl rfl (Zh Zx rfl (RW.here _) hS hs0 trivial sg7_1) ?_
 refine Za rfl rfl rfl (Yy rfl rfl) ?_
 refine Zb 2 rfl ?_
 refine Zt 24 rfl (fun hb => ?_) (fun hb => ?_)
 rotate_left
 ·replace H := Zp H hb
  refine Zb 7 rfl ?_
  refine Zg ?_
  refine Zc hK6 ?_
  refine Zk ?_
  refine Zl rfl (RV.tmp rfl RV.nil) rfl ?_
  obtain rfl := Option.some.inj H
  replace hS := hS.cut 0
  exact ⟨rfl, hS⟩
 replace H := Zq H hb
 refine Za rfl rfl rfl (Ze X5 rfl) ?_
 refine Za rfl rfl rfl (Zh V8 rfl (RW.here _) hS Xt trivial Zdw) ?_
 refine Za rfl rfl rfl (Ze X5 rfl) ?_
 refine Za rfl rfl rfl (Zh V8 rfl (RW.here _) hS hs0 trivial Zdw) ?_
 obtain ⟨r7, hm8, H⟩ := bind_some H
 refine Zr rfl rfl rfl rfl (by kernel_rfl) rfl (c_ref06_Same x0.log x1.log A0_ c0_ A1_ c1_ _ (SlI.of_rd s0_.k (hS.rd0 s0_.rd) (hS.blk0 s0_.blk)) (SlI.of_rd s1_.k (hS.rd0 s1_.rd) (hS.blk0 s1_.blk)) hm8) ?_
 rintro e w ⟨rfl, hN⟩; refine ⟨_, rfl, ?_⟩; have hB := hN.pure; have hS := hS.join hN; clear hN
 refine Zb 2 rfl ?_
 refine Zg ?_
 refine Zc hK6 ?_
 refine Zk ?_
 refine Zl rfl (RV.tmp rfl RV.nil) rfl ?_
 obtain rfl := Option.some.inj H
 replace hS := hS.cut 0
 exact ⟨rfl, hS⟩
theorem c_ref20_ints (x0 : List Int) (x1 : List Int) (A0_ : Option Addr) (c0_ : Nat) (A1_ : Option Addr) (c1_ : Nat) (w0 : World) (s0_ : SlI w0 Vu A0_ c0_ x0) (s1_ : SlI w0 Vu A1_ c1_ x1) {r : Bool} (H : Za9 x0 x1 = some r) : Calls Try.prog 39 #[.slice A0_ x0.length c0_, .slice A1_ x1.length c1_] w0 fun e w' => e = .returned (.bool r) ∧ St0 All w0 w' [] := by
 unfold Za9 at H
 refine Yw Try.func39 rfl Try.ntmps39 rfl ?_
 have hS := St0.start All w0
 refine Zd (fun K hK1 => ?_)
 refine Zf ?_
 refine Zb 1 rfl ?_
 refine Zg ?_
 refine Zc hK1 ?_
 refine Zd (fun K hK2 => ?_)
 refine Zd (fun K hK3 => ?_)
 refine Zf ?_
 refine Zb 1 rfl ?_
 refine Za rfl rfl rfl (Y1 Vd rfl) ?_
 refine Zb 1 rfl ?_
 refine Za rfl rfl rfl (Y1 Vd rfl) ?_
 refine Za rfl rfl rfl (Xk rfl rfl) ?_
 refine Zg ?_
 refine Zc hK3 ?_
 refine Z0 rfl (fun hb => ?_) (fun hb => ?_)
 ·replace H := Zq H hb
  refine Zd (fun K hK4 => ?_)
  refine Zf ?_
  refine Zb 1 rfl ?_
  refine Zg ?_
  refine Zc hK4 ?_
  refine Zk ?_
  refine Zi ?_
  refine Zl rfl (RV.tmp rfl RV.nil) rfl ?_
  obtain rfl := Option.some.inj H
  replace hS := hS.cut 0
  exact ⟨rfl, hS⟩
 replace H := Zp H hb
 refine Zu ?_
 refine Zc hK2 ?_
 refine Zd (fun K hK5 => ?_)
 refine Zd (fun K hK6 => ?_)
 refine Zf ?_
 refine Zb 1 rfl ?_
 refine Zg ?_
 refine Zc hK6 ?_
 refine Yj ?_
 refine Jq (X := Nat × Bool × Int) (fun x => (0, .slice A0_ x0.length c0_) :: (1, .slice A1_ x1.length c1_) :: (4, .bool x.2.1) :: (5, .int .i64 x.2.2) :: []) (fun x w => St0 All w0 w ([]) ∧ J1 x0 x1 x.1 x.2.1 x.2.2 = some r) (fun x => x.1) (X6, false, 0) (by repeat (first | exact Sub.nil | refine Sub.cons rfl ?_)) ⟨hS, H⟩ ?_
 rintro ⟨n, v7, v8⟩ w ⟨hS, H⟩
 dsimp only at hS H ⊢
 obtain _ | n := n
 ·have H0 : none = some r := H
  cases H0
 rw [J1] at H
 refine Zd (fun K hK9 => ?_)
 refine Zd (fun K hK10 => ?_)
 refine Zf ?_
 refine Zb 2 rfl ?_
 refine Za rfl rfl rfl (Y1 Vd rfl) ?_
 refine Za rfl rfl rfl (Xv rfl rfl) ?_
 refine Zg ?_
 refine Zc hK10 ?_
 refine Z0 rfl (fun hb => ?_) (fun hb => ?_)
 rotate_left
 ·replace H := Zp H hb
  refine Vo ?_
  refine Ye ?_
  refine Ye ?_
  refine Xf ?_
  refine Zc hK5 ?_
  refine Zd (fun K hK20 => ?_)
  refine Zf ?_
  refine Zb 1 rfl ?_
  refine Zg ?_
  refine Zc hK20 ?_
  refine Zk ?_
  refine Zl rfl (RV.tmp rfl RV.nil) rfl ?_
  obtain rfl := Option.some.inj H
  replace hS := hS.cut 0
  exact ⟨rfl, hS⟩
 replace H := Zq H hb
 refine Zu ?_
 refine Zc hK9 ?_
 refine Zd (fun K hK11 => ?_)
 refine Yj ?_
 refine Zd (fun K hK12 => ?_)
 refine Yo 9 [] (fun _ _ => True) ⟨by kernel_rfl, by kernel_rfl⟩ hS (fun w hS hB => ?_)
 refine Zm [true, true, true, true, true, true, true, true, true] (by decide +kernel) (by repeat (first | exact PF.body | exact PF.round | apply PF.then | apply PF.inBlock | apply PF.jump)) ?_
 refine LtK.put rfl rfl rfl (Zn rfl) ?_
 refine LtK.put rfl rfl rfl (Zn rfl) ?_
 obtain ⟨e13, hi15, H⟩ := bind_some H
 obtain ⟨j14, hi15a, hi15b, hi15c⟩ := Y9 hi15
 refine LtK.put rfl rfl rfl (Xo Vd rfl rfl hi15a hi15c (Rd.el (hS.rd0 s0_.rd) Xd hi15b)) ?_
 refine LtK.put rfl rfl rfl (V4 Zx rfl (RW.below _) (Rd.el (hS.rd0 s0_.rd) Xd hi15b) rfl) ?_
 refine LtK.put rfl rfl rfl (Zn rfl) ?_
 refine LtK.put rfl rfl rfl (Zn rfl) ?_
 obtain ⟨e16, hi18, H⟩ := bind_some H
 obtain ⟨j17, hi18a, hi18b, hi18c⟩ := Y9 hi18
 refine LtK.put rfl rfl rfl (Xo Vd rfl rfl hi18a hi18c (Rd.el (hS.rd0 s1_.rd) Xd hi18b)) ?_
 refine LtK.put rfl rfl rfl (V4 Zx rfl (RW.below _) (Rd.el (hS.rd0 s1_.rd) Xd hi18b) rfl) ?_
 refine LtK.put rfl rfl rfl (Xk rfl rfl) ?_
 refine LtK.nil ?_
 refine Z8 (by kernel_rfl) ?_
 refine Zc hK12 ?_
 refine Z0 rfl (fun hb => ?_) (fun hb => ?_)
 rotate_left
 ·replace H := Zp H hb
  refine Zu ?_
  refine Z1 ?_
  refine Zc hK11 ?_
  refine Zf ?_
  refine Zb 1 rfl ?_
  refine Za rfl rfl rfl (X1 rfl rfl) ?_
  refine Zb 1 rfl ?_
  refine Zg ?_
  exact Vp (n, v7, (IntKind.wrap .i64 (v8 + 1))) (by repeat (first | exact Sub.nil | refine Sub.cons rfl ?_)) ⟨hS, H⟩ (Nat.lt_succ_self _)
 replace H := Zq H hb
 refine Zd (fun K hK19 => ?_)
 refine Zf ?_
 refine Zb 1 rfl ?_
 refine Zg ?_
 refine Zc hK19 ?_
 refine Zk ?_
 refine Zv ?_
 refine Zi ?_
 refine Zi ?_
 refine Zv ?_
 refine Zi ?_
 refine Zl rfl (RV.tmp rfl RV.nil) rfl ?_
 obtain rfl := Option.some.inj H
 replace hS := hS.cut 0
 exact ⟨rfl, hS⟩
theorem Za6 (x0 : Co) (x1 : Co) (A0_ : Option Addr) (c0_ : Nat) (A1_ : Option Addr) (c1_ : Nat) (A2_ : Option Addr) (c2_ : Nat) (A3_ : Option Addr) (c3_ : Nat) (A4_ : Option Addr) (c4_ : Nat) (A5_ : Option Addr) (c5_ : Nat) (A6_ : Option Addr) (c6_ : Nat) (A7_ : Option Addr) (c7_ : Nat) (A8_ : Option Addr) (c8_ : Nat) (A9_ : Option Addr) (c9_ : Nat) (w0 : World) (s0_ : SlI w0 Jv A0_ c0_ x0.tuple.log) (s1_ : SlI w0 enO A1_ c1_ x0.votes) (s2_ : SlI w0 Vu A2_ c2_ x0.next) (s3_ : SlI w0 Vu A3_ c3_ x0.mtch) (s4_ : SlI w0 Vu A4_ c4_ x0.caps) (s5_ : SlI w0 Jv A5_ c5_ x1.tuple.log) (s6_ : SlI w0 enO A6_ c6_ x1.votes) (s7_ : SlI w0 Vu A7_ c7_ x1.next) (s8_ : SlI w0 Vu A8_ c8_ x1.mtch) (s9_ : SlI w0 Vu A9_ c9_ x1.caps) {r : Bool} (H : Vm x0 x1 = some r) : Calls Try.prog 13 #[.agg #[.int .i64 x0.id, .int .i64 x0.n, .int .u8 x0.role, .int .i64 x0.binary, .int .i64 x0.tuple.snap.index, .int .i64 x0.tuple.snap.term, .int .i64 x0.tuple.snap.sum, .int .i64 x0.tuple.snap.level, .bool x0.tuple.snap.final, .slice A0_ x0.tuple.log.length c0_, .int .i64 x0.tuple.term, .int .i64 x0.tuple.vote, .int .i64 x0.commit, .int .i64 x0.applied.index, .int .i64 x0.applied.term, .int .i64 x0.applied.sum, .int .i64 x0.applied.level, .bool x0.applied.final, .slice A1_ x0.votes.length c1_, .slice A2_ x0.next.length c2_, .slice A3_ x0.mtch.length c3_, .slice A4_ x0.caps.length c4_], .agg #[.int .i64 x1.id, .int .i64 x1.n, .int .u8 x1.role, .int .i64 x1.binary, .int .i64 x1.tuple.snap.index, .int .i64 x1.tuple.snap.term, .int .i64 x1.tuple.snap.sum, .int .i64 x1.tuple.snap.level, .bool x1.tuple.snap.final, .slice A5_ x1.tuple.log.length c5_, .int .i64 x1.tuple.term, .int .i64 x1.tuple.vote, .int .i64 x1.commit, .int .i64 x1.applied.index, .int .i64 x1.applied.term, .int .i64 x1.applied.sum, .int .i64 x1.applied.level, .bool x1.applied.final, .slice A6_ x1.votes.length c6_, .slice A7_ x1.next.length c7_, .slice A8_ x1.mtch.length c8_, .slice A9_ x1.caps.length c9_]] w0 fun e w' => e = .returned (.bool r) ∧ St0 All w0 w' [] := by
 unfold Vm at H
 refine Yw Try.func13 rfl Try.ntmps13 rfl ?_
 have hS := St0.start All w0
 refine Zd (fun K hK1 => ?_)
 refine Zf ?_
 refine Z9 rfl rfl rfl CellsOf.agg hS (fun b2 w hS hB => ?_)
 refine Z9 rfl rfl rfl CellsOf.agg hS (fun b4 w hS hB => ?_)
 refine Zb 1 rfl ?_
 refine Zg ?_
 refine Zc hK1 ?_
 refine Zd (fun K hK6 => ?_)
 refine Zd (fun K hK7 => ?_)
 refine Zf ?_
 refine Za rfl rfl rfl (Ze Ji rfl) ?_
 refine Za rfl rfl rfl (Zh Zx rfl (RW.here _) hS Xt trivial Y2) ?_
 refine Za rfl rfl rfl (Ze Ji rfl) ?_
 refine Za rfl rfl rfl (Zh Zx rfl (RW.here _) hS hs0 trivial Y2) ?_
 refine Za rfl rfl rfl (Xk rfl rfl) ?_
 refine Zb 1 rfl ?_
 refine Zt 11 rfl (fun hb => ?_) (fun hb => ?_)
 ·replace H := Zq H hb
  refine Zb 51 rfl ?_
  refine Zg ?_
  refine Zc hK7 ?_
  refine Zs rfl rfl ?_
  refine Zd (fun K hK8 => ?_)
  refine Zf ?_
  refine Zb 1 rfl ?_
  refine Zg ?_
  refine Zc hK8 ?_
  refine Zk ?_
  refine Zi ?_
  refine Zl rfl (RV.tmp rfl RV.nil) rfl ?_
  obtain rfl := Option.some.inj H
  replace hS := hS.cut 0
  exact ⟨rfl, hS⟩
 replace H := Zp H hb
 refine Za rfl rfl rfl (Ze Vy rfl) ?_
 refine Za rfl rfl rfl (Zh Zx rfl (RW.here _) hS Xt trivial Vn) ?_
 refine Za rfl rfl rfl (Ze Vy rfl) ?_
 refine Za rfl rfl rfl (Zh Zx rfl (RW.here _) hS hs0 trivial Vn) ?_
 refine Za rfl rfl rfl (Xk rfl rfl) ?_
 refine Zb 2 rfl ?_
 refine Zt 18 rfl (fun hb => ?_) (fun hb => ?_)
 ·replace H := Zq H hb
  refine Zb 44 rfl ?_
  refine Zg ?_
  refine Zc hK7 ?_
  refine Zs rfl rfl ?_
  refine Zd (fun K hK9 => ?_)
  refine Zf ?_
  refine Zb 1 rfl ?_
  refine Zg ?_
  refine Zc hK9 ?_
  refine Zk ?_
  refine Zi ?_
  refine Zl rfl (RV.tmp rfl RV.nil) rfl ?_
  obtain rfl := Option.some.inj H
  replace hS := hS.cut 0
  exact ⟨rfl, hS⟩
 replace H := Zp H hb
 refine Za rfl rfl rfl (Ze J6 rfl) ?_
 refine Za rfl rfl rfl (Zh Zai rfl (RW.here _) hS Xt trivial J9) ?_
 refine Za rfl rfl rfl (Ze J6 rfl) ?_
 refine Za rfl rfl rfl (Zh Zai rfl (RW.here _) hS hs0 trivial J9) ?_
 refine Za rfl rfl rfl (Xk rfl rfl) ?_
 refine Zb 2 rfl ?_
 refine Zt 25 rfl (fun hb => ?_) (fun hb => ?_)
 ·replace H := Zq H hb
  refine Zb 37 rfl ?_
  refine Zg ?_
  refine Zc hK7 ?_
  refine Zs rfl rfl ?_
  refine Zd (fun K hK10 => ?_)
  refine Zf ?_
  refine Zb 1 rfl ?_
  refine Zg ?_
  refine Zc hK10 ?_
  refine Zk ?_
  refine Zi ?_
  refine Zl rfl (RV.tmp rfl RV.nil) rfl ?_
  obtain rfl := Option.some.inj H
  replace hS := hS.cut 0
  exact ⟨rfl, hS⟩
 replace H := Zp H hb
 refine Za rfl rfl rfl (Ze Zdj rfl) ?_
 refine Za rfl rfl rfl (Zh Zx rfl (RW.here _) hS Xt trivial Zag) ?_
 refine Za rfl rfl rfl (Ze Zdj rfl) ?_
 refine Za rfl rfl rfl (Zh Zx rfl (RW.here _) hS hs0 trivial Zag) ?_
 refine Za rfl rfl rfl (Xk rfl rfl) ?_
 refine Zb 2 rfl ?_
 refine Zt 32 rfl (fun hb => ?_) (fun hb => ?_)
 ·replace H := Zq H hb
  refine Zb 30 rfl ?_
  refine Zg ?_
  refine Zc hK7 ?_
  refine Zs rfl rfl ?_
  refine Zd (fun K hK11 => ?_)
  refine Zf ?_
  refine Zb 1 rfl ?_
  refine Zg ?_
  refine Zc hK11 ?_
  refine Zk ?_
  refine Zi ?_
  refine Zl rfl (RV.tmp rfl RV.nil) rfl ?_
  obtain rfl := Option.some.inj H
  replace hS := hS.cut 0
  exact ⟨rfl, hS⟩
 replace H := Zp H hb
 refine Za rfl rfl rfl (Ze Yu rfl) ?_
 refine Za rfl rfl rfl (Zj Xg rfl (RW.here _) hS Xt trivial Zbl) ?_
 refine Za rfl rfl rfl (Ze Yu rfl) ?_
 refine Za rfl rfl rfl (Zj Xg rfl (RW.here _) hS hs0 trivial Zbl) ?_
 obtain ⟨r12, hm13, H⟩ := bind_some H
 refine Zr rfl rfl rfl rfl (by kernel_rfl) rfl (c_ref12_Same x0.tuple x1.tuple A0_ c0_ A5_ c5_ _ (SlI.of_rd s0_.k (hS.rd0 s0_.rd) (hS.blk0 s0_.blk)) (SlI.of_rd s5_.k (hS.rd0 s5_.rd) (hS.blk0 s5_.blk)) hm13) ?_
 rintro e w ⟨rfl, hN⟩; refine ⟨_, rfl, ?_⟩; have hB := hN.pure; have hS := hS.join hN; clear hN
 refine Za rfl rfl rfl (Yt rfl) ?_
 refine Zb 2 rfl ?_
 refine Zt 40 rfl (fun hb => ?_) (fun hb => ?_)
 ·replace H := Zq H hb
  refine Zb 22 rfl ?_
  refine Zg ?_
  refine Zc hK7 ?_
  refine Zs rfl rfl ?_
  refine Zd (fun K hK14 => ?_)
  refine Zf ?_
  refine Zb 1 rfl ?_
  refine Zg ?_
  refine Zc hK14 ?_
  refine Zk ?_
  refine Zi ?_
  refine Zl rfl (RV.tmp rfl RV.nil) rfl ?_
  obtain rfl := Option.some.inj H
  replace hS := hS.cut 0
  exact ⟨rfl, hS⟩
 replace H := Zp H hb
 refine Za rfl rfl rfl (Ze Zah rfl) ?_
 refine Za rfl rfl rfl (Zh Zx rfl (RW.here _) hS Xt trivial Zbs) ?_
 refine Za rfl rfl rfl (Ze Zah rfl) ?_
 refine Za rfl rfl rfl (Zh Zx rfl (RW.here _) hS hs0 trivial Zbs) ?_
 refine Za rfl rfl rfl (Xk rfl rfl) ?_
 refine Zb 2 rfl ?_
 refine Zt 47 rfl (fun hb => ?_) (fun hb => ?_)
 ·replace H := Zq H hb
  refine Zb 15 rfl ?_
  refine Zg ?_
  refine Zc hK7 ?_
  refine Zs rfl rfl ?_
  refine Zd (fun K hK15 => ?_)
  refine Zf ?_
  refine Zb 1 rfl ?_
  refine Zg ?_
  refine Zc hK15 ?_
  refine Zk ?_
  refine Zi ?_
  refine Zl rfl (RV.tmp rfl RV.nil) rfl ?_
  obtain rfl := Option.some.inj H
  replace hS := hS.cut 0
  exact ⟨rfl, hS⟩
 replace H := Zp H hb
 refine Za rfl rfl rfl (Ze Zdt rfl) ?_
 refine Za rfl rfl rfl (Zj Yn rfl (RW.here _) hS Xt trivial sg13_5) ?_
 refine Za rfl rfl rfl (Ze Zdt rfl) ?_
 refine Za rfl rfl rfl (Zj Yn rfl (RW.here _) hS hs0 trivial sg13_5) ?_
 refine Za rfl rfl rfl (yv_neqS (by kernel_rfl) rfl rfl (Jg _ _ _ _ _ _ _ _ _ _)) ?_
 refine Zb 2 rfl ?_
 refine Zt 54 rfl (fun hb => ?_) (fun hb => ?_)
 ·replace H := Zq H hb
  refine Zb 8 rfl ?_
  refine Zg ?_
  refine Zc hK7 ?_
  refine Zs rfl rfl ?_
  refine Zd (fun K hK16 => ?_)
  refine Zf ?_
  refine Zb 1 rfl ?_
  refine Zg ?_
  refine Zc hK16 ?_
  refine Zk ?_
  refine Zi ?_
  refine Zl rfl (RV.tmp rfl RV.nil) rfl ?_
  obtain rfl := Option.some.inj H
  replace hS := hS.cut 0
  exact ⟨rfl, hS⟩
 replace H := Zp H hb
 refine Za rfl rfl rfl (Ze Zbm rfl) ?_
 refine Za rfl rfl rfl (Zh sc_27 rfl (RW.here _) hS Xt trivial Zfe) ?_
 refine Za rfl rfl rfl (Y1 el_27 rfl) ?_
 refine Za rfl rfl rfl (Ze Zbm rfl) ?_
 refine Za rfl rfl rfl (Zh sc_27 rfl (RW.here _) hS hs0 trivial Zfe) ?_
 refine Za rfl rfl rfl (Y1 el_27 rfl) ?_
 refine Za rfl rfl rfl (Xk rfl rfl) ?_
 refine Zb 1 rfl ?_
 refine Zg ?_
 refine Zc hK7 ?_
 refine Z0 rfl (fun hb => ?_) (fun hb => ?_)
 ·replace H := Zq H hb
  refine Zd (fun K hK17 => ?_)
  refine Zf ?_
  refine Zb 1 rfl ?_
  refine Zg ?_
  refine Zc hK17 ?_
  refine Zk ?_
  refine Zi ?_
  refine Zl rfl (RV.tmp rfl RV.nil) rfl ?_
  obtain rfl := Option.some.inj H
  replace hS := hS.cut 0
  exact ⟨rfl, hS⟩
 replace H := Zp H hb
 refine Zu ?_
 refine Zc hK6 ?_
 refine Zd (fun K hK18 => ?_)
 refine Zd (fun K hK19 => ?_)
 refine Zf ?_
 refine Zb 1 rfl ?_
 refine Zg ?_
 refine Zc hK19 ?_
 refine Yj ?_
 refine Jq (X := Nat × Bool × Int) (fun x => (2, .pointer (some ⟨b2, 0, none⟩)) :: (3, .pointer (some ⟨b4, 0, none⟩)) :: (4, .bool x.2.1) :: (5, .int .i64 x.2.2) :: []) (fun x w => St0 All w0 w (.box b4 [.int .i64 x1.id, .int .i64 x1.n, .int .u8 x1.role, .int .i64 x1.binary, .int .i64 x1.tuple.snap.index, .int .i64 x1.tuple.snap.term, .int .i64 x1.tuple.snap.sum, .int .i64 x1.tuple.snap.level, .bool x1.tuple.snap.final, .slice A5_ x1.tuple.log.length c5_, .int .i64 x1.tuple.term, .int .i64 x1.tuple.vote, .int .i64 x1.commit, .int .i64 x1.applied.index, .int .i64 x1.applied.term, .int .i64 x1.applied.sum, .int .i64 x1.applied.level, .bool x1.applied.final, .slice A6_ x1.votes.length c6_, .slice A7_ x1.next.length c7_, .slice A8_ x1.mtch.length c8_, .slice A9_ x1.caps.length c9_] 30 :: .box b2 [.int .i64 x0.id, .int .i64 x0.n, .int .u8 x0.role, .int .i64 x0.binary, .int .i64 x0.tuple.snap.index, .int .i64 x0.tuple.snap.term, .int .i64 x0.tuple.snap.sum, .int .i64 x0.tuple.snap.level, .bool x0.tuple.snap.final, .slice A0_ x0.tuple.log.length c0_, .int .i64 x0.tuple.term, .int .i64 x0.tuple.vote, .int .i64 x0.commit, .int .i64 x0.applied.index, .int .i64 x0.applied.term, .int .i64 x0.applied.sum, .int .i64 x0.applied.level, .bool x0.applied.final, .slice A1_ x0.votes.length c1_, .slice A2_ x0.next.length c2_, .slice A3_ x0.mtch.length c3_, .slice A4_ x0.caps.length c4_] 30 :: []) ∧ J2 x0 x1 x.1 x.2.1 x.2.2 = some r) (fun x => x.1) (X6, false, 0) (by repeat (first | exact Sub.nil | refine Sub.cons rfl ?_)) ⟨hS, H⟩ ?_
 rintro ⟨n, v20, v21⟩ w ⟨hS, H⟩
 dsimp only at hS H ⊢
 obtain _ | n := n
 ·have H0 : none = some r := H
  cases H0
 rw [J2] at H
 refine Zd (fun K hK22 => ?_)
 refine Zd (fun K hK23 => ?_)
 refine Zf ?_
 refine Zb 1 rfl ?_
 refine Za rfl rfl rfl (Ze Zbm rfl) ?_
 refine Za rfl rfl rfl (Zh sc_27 rfl (RW.here _) hS Xt trivial Zfe) ?_
 refine Za rfl rfl rfl (Y1 el_27 rfl) ?_
 refine Za rfl rfl rfl (Xv rfl rfl) ?_
 refine Zg ?_
 refine Zc hK23 ?_
 refine Z0 rfl (fun hb => ?_) (fun hb => ?_)
 ·replace H := Zq H hb
  refine Zu ?_
  refine Zc hK22 ?_
  refine Zd (fun K hK24 => ?_)
  refine Yj ?_
  refine Zd (fun K hK25 => ?_)
  refine Yo 11 [] (fun _ _ => True) ⟨by kernel_rfl, by kernel_rfl⟩ hS (fun w hS hB => ?_)
  refine Zm [true, true, true, true, true, true, true, true, true, true, true] (by decide +kernel) (by repeat (first | exact PF.body | exact PF.round | apply PF.then | apply PF.inBlock | apply PF.jump)) ?_
  refine LtK.put rfl rfl rfl (Ze Zbm rfl) ?_
  refine LtK.put rfl rfl rfl (Zh sc_27 rfl (RW.below _) hS Xt trivial Zfe) ?_
  refine LtK.put rfl rfl rfl (Zn rfl) ?_
  obtain ⟨e26, hi28, H⟩ := bind_some H
  obtain ⟨j27, hi28a, hi28b, hi28c⟩ := Y9 hi28
  refine LtK.put rfl rfl rfl (Xo el_27 rfl rfl hi28a hi28c (Rd.el (hS.rd0 s1_.rd) he_enO hi28b)) ?_
  refine LtK.put rfl rfl rfl (V4 sc_4 rfl (RW.below _) (Rd.el (hS.rd0 s1_.rd) he_enO hi28b) rfl) ?_
  refine LtK.put rfl rfl rfl (Ze Zbm rfl) ?_
  refine LtK.put rfl rfl rfl (Zh sc_27 rfl (RW.below _) hS hs0 trivial Zfe) ?_
  refine LtK.put rfl rfl rfl (Zn rfl) ?_
  obtain ⟨e29, hi31, H⟩ := bind_some H
  obtain ⟨j30, hi31a, hi31b, hi31c⟩ := Y9 hi31
  refine LtK.put rfl rfl rfl (Xo el_27 rfl rfl hi31a hi31c (Rd.el (hS.rd0 s6_.rd) he_enO hi31b)) ?_
  refine LtK.put rfl rfl rfl (V4 sc_4 rfl (RW.below _) (Rd.el (hS.rd0 s6_.rd) he_enO hi31b) rfl) ?_
  refine LtK.put rfl rfl rfl (yv_neqB (by kernel_rfl) rfl rfl) ?_
  refine LtK.nil ?_
  refine Z8 (by kernel_rfl) ?_
  refine Zc hK25 ?_
  refine Z0 rfl (fun hb => ?_) (fun hb => ?_)
  rotate_left
  ·replace H := Zp H hb
   refine Zu ?_
   refine Z1 ?_
   refine Zc hK24 ?_
   refine Zf ?_
   refine Zb 1 rfl ?_
   refine Za rfl rfl rfl (X1 rfl rfl) ?_
   refine Zb 1 rfl ?_
   refine Zg ?_
   exact Vp (n, v20, (IntKind.wrap .i64 (v21 + 1))) (by repeat (first | exact Sub.nil | refine Sub.cons rfl ?_)) ⟨hS, H⟩ (Nat.lt_succ_self _)
  replace H := Zq H hb
  refine Zd (fun K hK32 => ?_)
  refine Zf ?_
  refine Zb 1 rfl ?_
  refine Zg ?_
  refine Zc hK32 ?_
  refine Zk ?_
  refine Zv ?_
  refine Zi ?_
  refine Zi ?_
  refine Zv ?_
  refine Zi ?_
  refine Zl rfl (RV.tmp rfl RV.nil) rfl ?_
  obtain rfl := Option.some.inj H
  replace hS := hS.cut 0
  exact ⟨rfl, hS⟩
 replace H := Zp H hb
 refine Vo ?_
 refine Ye ?_
 refine Ye ?_
 refine Xf ?_
 refine Zc hK18 ?_
 refine Zd (fun K hK33 => ?_)
 refine Zf ?_
 refine Za rfl rfl rfl (Ze Zao rfl) ?_
 refine Za rfl rfl rfl (Zh V1 rfl (RW.here _) hS Xt trivial Zdn) ?_
 refine Za rfl rfl rfl (Ze Zao rfl) ?_
 refine Za rfl rfl rfl (Zh V1 rfl (RW.here _) hS hs0 trivial Zdn) ?_
 obtain ⟨r34, hm35, H⟩ := bind_some H
 refine Zr rfl rfl rfl rfl (by kernel_rfl) rfl (c_ref20_ints x0.next x1.next A2_ c2_ A7_ c7_ _ (SlI.of_rd s2_.k (hS.rd0 s2_.rd) (hS.blk0 s2_.blk)) (SlI.of_rd s7_.k (hS.rd0 s7_.rd) (hS.blk0 s7_.blk)) hm35) ?_
 rintro e w ⟨rfl, hN⟩; refine ⟨_, rfl, ?_⟩; have hB := hN.pure; have hS := hS.join hN; clear hN
 refine Zb 1 rfl ?_
 refine Zt 86 rfl (fun hb => ?_) (fun hb => ?_)
 rotate_left
 ·replace H := Zp H hb
  refine Zb 14 rfl ?_
  refine Zg ?_
  refine Zc hK33 ?_
  refine Zk ?_
  refine Zl rfl (RV.tmp rfl RV.nil) rfl ?_
  obtain rfl := Option.some.inj H
  replace hS := hS.cut 0
  exact ⟨rfl, hS⟩
 replace H := Zq H hb
 refine Za rfl rfl rfl (Ze Zco rfl) ?_
 refine Za rfl rfl rfl (Zh V1 rfl (RW.here _) hS Xt trivial Zfg) ?_
 refine Za rfl rfl rfl (Ze Zco rfl) ?_
 refine Za rfl rfl rfl (Zh V1 rfl (RW.here _) hS hs0 trivial Zfg) ?_
 obtain ⟨r36, hm37, H⟩ := bind_some H
 refine Zr rfl rfl rfl rfl (by kernel_rfl) rfl (c_ref20_ints x0.mtch x1.mtch A3_ c3_ A8_ c8_ _ (SlI.of_rd s3_.k (hS.rd0 s3_.rd) (hS.blk0 s3_.blk)) (SlI.of_rd s8_.k (hS.rd0 s8_.rd) (hS.blk0 s8_.blk)) hm37) ?_
 rintro e w ⟨rfl, hN⟩; refine ⟨_, rfl, ?_⟩; have hB := hN.pure; have hS := hS.join hN; clear hN
 refine Zb 2 rfl ?_
 refine Zt 93 rfl (fun hb => ?_) (fun hb => ?_)
 rotate_left
 ·replace H := Zp H hb
  refine Zb 7 rfl ?_
  refine Zg ?_
  refine Zc hK33 ?_
  refine Zk ?_
  refine Zl rfl (RV.tmp rfl RV.nil) rfl ?_
  obtain rfl := Option.some.inj H
  replace hS := hS.cut 0
  exact ⟨rfl, hS⟩
 replace H := Zq H hb
 refine Za rfl rfl rfl (Ze J3 rfl) ?_
 refine Za rfl rfl rfl (Zh V1 rfl (RW.here _) hS Xt trivial Zc9) ?_
 refine Za rfl rfl rfl (Ze J3 rfl) ?_
 refine Za rfl rfl rfl (Zh V1 rfl (RW.here _) hS hs0 trivial Zc9) ?_
 obtain ⟨r38, hm39, H⟩ := bind_some H
 refine Zr rfl rfl rfl rfl (by kernel_rfl) rfl (c_ref20_ints x0.caps x1.caps A4_ c4_ A9_ c9_ _ (SlI.of_rd s4_.k (hS.rd0 s4_.rd) (hS.blk0 s4_.blk)) (SlI.of_rd s9_.k (hS.rd0 s9_.rd) (hS.blk0 s9_.blk)) hm39) ?_
 rintro e w ⟨rfl, hN⟩; refine ⟨_, rfl, ?_⟩; have hB := hN.pure; have hS := hS.join hN; clear hN
 refine Zb 2 rfl ?_
 refine Zg ?_
 refine Zc hK33 ?_
 refine Zk ?_
 refine Zl rfl (RV.tmp rfl RV.nil) rfl ?_
 obtain rfl := Option.some.inj H
 replace hS := hS.cut 0
 exact ⟨rfl, hS⟩
theorem c_ref12_At (x0 : Tu) (x1 : Int) (A0_ : Option Addr) (c0_ : Nat) (w0 : World) (s0_ : SlI w0 Jv A0_ c0_ x0.log) {r : En × Bool} (H : Jc x0 x1 = some r) : Calls Try.prog 16 #[.agg #[.int .i64 x0.snap.index, .int .i64 x0.snap.term, .int .i64 x0.snap.sum, .int .i64 x0.snap.level, .bool x0.snap.final, .slice A0_ x0.log.length c0_, .int .i64 x0.term, .int .i64 x0.vote], .int .i64 x1] w0 fun e w' => e = .returned (.tuple #[.agg #[.int .i64 r.1.term, .int .i64 r.1.kind, .int .i64 r.1.value], .bool r.2]) ∧ St0 All w0 w' [] := by
 unfold Jc at H
 refine Yw Try.func16 rfl Try.ntmps16 rfl ?_
 have hS := St0.start All w0
 refine Zd (fun K hK1 => ?_)
 refine Zf ?_
 refine Z9 rfl rfl rfl CellsOf.agg hS (fun b2 w hS hB => ?_)
 refine Z6 rfl rfl Zb6 hS (fun b4 w hS hB => ?_)
 refine Zb 1 rfl ?_
 refine Zg ?_
 refine Zc hK1 ?_
 refine Zd (fun K hK6 => ?_)
 refine Zd (fun K hK7 => ?_)
 refine Zf ?_
 refine Zb 1 rfl ?_
 refine Za rfl rfl rfl (Ze Yx rfl) ?_
 refine Za rfl rfl rfl (Ze Z5 rfl) ?_
 refine Za rfl rfl rfl (Zh Zx rfl (RW.here _) hS Xt trivial Y2) ?_
 refine Za rfl rfl rfl (Za1 rfl rfl) ?_
 refine Zb 1 rfl ?_
 refine Zt 11 rfl (fun hb => ?_) (fun hb => ?_)
 ·replace H := Zq H hb
  refine Zb 5 rfl ?_
  refine Zg ?_
  refine Zc hK7 ?_
  refine Zs rfl rfl ?_
  refine Zd (fun K hK8 => ?_)
  refine Zf ?_
  refine Za rfl rfl rfl (Xx (cells := [.int .i64 0, .int .i64 0, .int .i64 0]) rfl (by kernel_rfl)) ?_
  refine Zo rfl rfl rfl CellsOf.agg hS ps0 st0_3 (by kernel_rfl) rfl (fun w hS hB => ?_)
  refine Zb 1 rfl ?_
  refine Zg ?_
  refine Zc hK8 ?_
  refine Zk ?_
  refine Zi ?_
  refine Zl rfl (RV.cell rfl (Z3 V3 hS hs0 Zcl) (RV.tmp rfl RV.nil)) rfl ?_
  obtain rfl := Option.some.inj H
  replace hS := hS.cut 0
  exact ⟨rfl, hS⟩
 replace H := Zp H hb
 refine Zb 1 rfl ?_
 refine Za rfl rfl rfl (Zj Xg rfl (RW.here _) hS Xt trivial Zfp) ?_
 obtain ⟨r9, hm10, H⟩ := bind_some H
 refine Zr rfl rfl rfl rfl (by kernel_rfl) rfl (Za7 x0 A0_ c0_ _ (SlI.of_rd s0_.k (hS.rd0 s0_.rd) (hS.blk0 s0_.blk)) hm10) ?_
 rintro e w ⟨rfl, hN⟩; refine ⟨_, rfl, ?_⟩; have hB := hN.pure; have hS := hS.join hN; clear hN
 refine Za rfl rfl rfl (Xa rfl rfl) ?_
 refine Zb 1 rfl ?_
 refine Zg ?_
 refine Zc hK7 ?_
 refine Z0 rfl (fun hb => ?_) (fun hb => ?_)
 ·replace H := Zq H hb
  refine Zd (fun K hK11 => ?_)
  refine Zf ?_
  refine Za rfl rfl rfl (Xx (cells := [.int .i64 0, .int .i64 0, .int .i64 0]) rfl (by kernel_rfl)) ?_
  refine Zo rfl rfl rfl CellsOf.agg hS ps0 st0_3 (by kernel_rfl) rfl (fun w hS hB => ?_)
  refine Zb 1 rfl ?_
  refine Zg ?_
  refine Zc hK11 ?_
  refine Zk ?_
  refine Zi ?_
  refine Zl rfl (RV.cell rfl (Z3 V3 hS hs0 Zcl) (RV.tmp rfl RV.nil)) rfl ?_
  obtain rfl := Option.some.inj H
  replace hS := hS.cut 0
  exact ⟨rfl, hS⟩
 replace H := Zp H hb
 refine Zu ?_
 refine Zc hK6 ?_
 refine Zd (fun K hK12 => ?_)
 refine Zf ?_
 refine Za rfl rfl rfl (Ze X5 rfl) ?_
 refine Za rfl rfl rfl (Zh V8 rfl (RW.here _) hS Xt trivial Zdw) ?_
 refine Zb 1 rfl ?_
 refine Za rfl rfl rfl (Ze Yx rfl) ?_
 refine Za rfl rfl rfl (Ze Z5 rfl) ?_
 refine Za rfl rfl rfl (Zh Zx rfl (RW.here _) hS Xt trivial Y2) ?_
 refine Za rfl rfl rfl (Zct rfl rfl) ?_
 refine Za rfl rfl rfl (Zct rfl rfl) ?_
 obtain ⟨e13, hi15, H⟩ := bind_some H
 obtain ⟨j14, hi15a, hi15b, hi15c⟩ := Y9 hi15
 refine Za rfl rfl rfl (Xo Va rfl rfl hi15a hi15c (Rd.el (hS.rd0 s0_.rd) Vi hi15b)) ?_
 refine Za rfl rfl rfl (Zei V3 rfl (RW.here _) (Rd.el (hS.rd0 s0_.rd) Vi hi15b) Zcl) ?_
 refine Zo rfl rfl rfl CellsOf.agg hS ps0 st0_3 (by kernel_rfl) rfl (fun w hS hB => ?_)
 refine Zb 1 rfl ?_
 refine Zg ?_
 refine Zc hK12 ?_
 refine Zk ?_
 refine Zl rfl (RV.cell rfl (Z3 V3 hS hs0 Zcl) (RV.tmp rfl RV.nil)) rfl ?_
 obtain rfl := Option.some.inj H
 replace hS := hS.cut 0
 exact ⟨rfl, hS⟩
theorem c_ref21_To (x0 : Co) (x1 : Ms) (A0_ : Option Addr) (c0_ : Nat) (A1_ : Option Addr) (c1_ : Nat) (A2_ : Option Addr) (c2_ : Nat) (A3_ : Option Addr) (c3_ : Nat) (A4_ : Option Addr) (c4_ : Nat) (A5_ : Option Addr) (c5_ : Nat) (w0 : World) (s0_ : SlI w0 Jv A0_ c0_ x0.tuple.log) (s1_ : SlI w0 enO A1_ c1_ x0.votes) (s2_ : SlI w0 Vu A2_ c2_ x0.next) (s3_ : SlI w0 Vu A3_ c3_ x0.mtch) (s4_ : SlI w0 Vu A4_ c4_ x0.caps) (s5_ : SlI w0 Jv A5_ c5_ x1.entries) {r : Bool} (H : Zcs x0 x1 = some r) : Calls Try.prog 21 #[.agg #[.int .i64 x0.id, .int .i64 x0.n, .int .u8 x0.role, .int .i64 x0.binary, .int .i64 x0.tuple.snap.index, .int .i64 x0.tuple.snap.term, .int .i64 x0.tuple.snap.sum, .int .i64 x0.tuple.snap.level, .bool x0.tuple.snap.final, .slice A0_ x0.tuple.log.length c0_, .int .i64 x0.tuple.term, .int .i64 x0.tuple.vote, .int .i64 x0.commit, .int .i64 x0.applied.index, .int .i64 x0.applied.term, .int .i64 x0.applied.sum, .int .i64 x0.applied.level, .bool x0.applied.final, .slice A1_ x0.votes.length c1_, .slice A2_ x0.next.length c2_, .slice A3_ x0.mtch.length c3_, .slice A4_ x0.caps.length c4_], .agg #[.int .u8 x1.kind, .int .i64 x1.frm, .int .i64 x1.dst, .int .i64 x1.term, .int .i64 x1.cap, .int .i64 x1.last, .int .i64 x1.lastTerm, .int .i64 x1.commit, .bool x1.okk, .slice A5_ x1.entries.length c5_, .int .i64 x1.snap.index, .int .i64 x1.snap.term, .int .i64 x1.snap.sum, .int .i64 x1.snap.level, .bool x1.snap.final]] w0 fun e w' => e = .returned (.bool r) ∧ St0 All w0 w' [] := by
 unfold Zcs at H
 refine Yw Try.func21 rfl Try.ntmps21 rfl ?_
 have hS := St0.start All w0
 refine Zd (fun K hK1 => ?_)
 refine Zf ?_
 refine Z9 rfl rfl rfl CellsOf.agg hS (fun b2 w hS hB => ?_)
 refine Z9 rfl rfl rfl CellsOf.agg hS (fun b4 w hS hB => ?_)
 refine Zb 1 rfl ?_
 refine Zg ?_
 refine Zc hK1 ?_
 refine Zd (fun K hK6 => ?_)
 refine Zf ?_
 refine Za rfl rfl rfl (Zj Yp rfl (RW.here _) hS Xt trivial Yb) ?_
 obtain ⟨r7, hm8, H⟩ := bind_some H
 refine Zr rfl rfl rfl rfl (by kernel_rfl) rfl (Zd9 x0 A0_ c0_ A1_ c1_ A2_ c2_ A3_ c3_ A4_ c4_ _ (SlI.of_rd s0_.k (hS.rd0 s0_.rd) (hS.blk0 s0_.blk)) (SlI.of_rd s1_.k (hS.rd0 s1_.rd) (hS.blk0 s1_.blk)) (SlI.of_rd s2_.k (hS.rd0 s2_.rd) (hS.blk0 s2_.blk)) (SlI.of_rd s3_.k (hS.rd0 s3_.rd) (hS.blk0 s3_.blk)) (SlI.of_rd s4_.k (hS.rd0 s4_.rd) (hS.blk0 s4_.blk)) hm8) ?_
 rintro e w ⟨rfl, hN⟩; refine ⟨_, rfl, ?_⟩; have hB := hN.pure; have hS := hS.join hN; clear hN
 refine Zb 1 rfl ?_
 refine Zt 7 rfl (fun hb => ?_) (fun hb => ?_)
 rotate_left
 ·replace H := Zp H hb
  refine Zb 13 rfl ?_
  refine Zg ?_
  refine Zc hK6 ?_
  refine Zk ?_
  refine Zl rfl (RV.tmp rfl RV.nil) rfl ?_
  obtain rfl := Option.some.inj H
  replace hS := hS.cut 0
  exact ⟨rfl, hS⟩
 replace H := Zq H hb
 refine Za rfl rfl rfl (Zj X7 rfl (RW.here _) hS hs0 trivial Xj) ?_
 refine Za rfl rfl rfl (Ze Vy rfl) ?_
 refine Za rfl rfl rfl (Zh Zx rfl (RW.here _) hS Xt trivial Vn) ?_
 obtain ⟨r9, hm10, H⟩ := bind_some H
 refine Zr rfl rfl rfl rfl (by kernel_rfl) rfl (c_ref20_Fine x1 x0.n A5_ c5_ _ (SlI.of_rd s5_.k (hS.rd0 s5_.rd) (hS.blk0 s5_.blk)) hm10) ?_
 rintro e w ⟨rfl, hN⟩; refine ⟨_, rfl, ?_⟩; have hB := hN.pure; have hS := hS.join hN; clear hN
 refine Zb 2 rfl ?_
 refine Zt 13 rfl (fun hb => ?_) (fun hb => ?_)
 rotate_left
 ·replace H := Zp H hb
  refine Zb 7 rfl ?_
  refine Zg ?_
  refine Zc hK6 ?_
  refine Zk ?_
  refine Zl rfl (RV.tmp rfl RV.nil) rfl ?_
  obtain rfl := Option.some.inj H
  replace hS := hS.cut 0
  exact ⟨rfl, hS⟩
 replace H := Zq H hb
 refine Za rfl rfl rfl (Ze Zdp rfl) ?_
 refine Za rfl rfl rfl (Zh Zx rfl (RW.here _) hS hs0 trivial J9) ?_
 refine Za rfl rfl rfl (Ze Ji rfl) ?_
 refine Za rfl rfl rfl (Zh Zx rfl (RW.here _) hS Xt trivial Y2) ?_
 refine Za rfl rfl rfl (Yy rfl rfl) ?_
 refine Zb 2 rfl ?_
 refine Zg ?_
 refine Zc hK6 ?_
 refine Zk ?_
 refine Zl rfl (RV.tmp rfl RV.nil) rfl ?_
 obtain rfl := Option.some.inj H
 replace hS := hS.cut 0
 exact ⟨rfl, hS⟩
end Go.Proofs.Ytenagnncpaabdaa
namespace Go.Proofs.Ytenagnncpaabdaa
open Go Go.RowKit
set_option maxRecDepth 100000
theorem lastT_app (t : Int) (a b : List En) : Jz t (a ++ b) = Jz (Jz t a) b := by
 induction a generalizing t with
 | nil => rfl
 | cons e a ih => exact ih _
theorem logB_app (t : Int) (a b : List En) : Zbn t (a ++ b) = (Zbn t a && Zbn (Jz t a) b) := by
 induction a generalizing t with
 | nil => simp [Zbn, Jz]
 | cons e a ih => simp [Zbn, Jz, ih, Bool.and_assoc]
theorem logB_drop (t : Int) (l : List En) (k : Nat) (h : Zbn t l = true) : Zbn (Jz t (l.take k)) (l.drop k) = true := by
 have h' := h
 rw [← List.take_append_drop k l, logB_app, Bool.and_eq_true] at h'
 exact h'.2
theorem lastT_cut (t : Int) (l : List En) (k : Nat) : Jz (Jz t (l.take k)) (l.drop k) = Jz t l := by rw [← lastT_app, List.take_append_drop]
theorem lastT_mono (t : Int) (l : List En) (h : Zbn t l = true) : t ≤ Jz t l := by
 induction l generalizing t with
 | nil => exact Int.le_refl _
 | cons e l ih =>
  simp only [Zbn, Bool.and_eq_true, decide_eq_true_eq] at h
  exact Int.le_trans h.1.2 (ih _ h.2)
theorem Zex (t : Tu) : Jo t = true ↔ FineP t.snap ∧ (t.snap.index ≤ 1073740824 ∧ t.log.length ≤ 200 ∧ 0 ≤ t.vote ∧ t.vote ≤ 5 ∧ t.term ≤ 1073741824) ∧ Zbn t.snap.term t.log = true ∧ Jz t.snap.term t.log ≤ t.term := by
 unfold Jo
 simp only [Bool.and_eq_true, decide_eq_true_eq, Zak, and_assoc]
theorem chg_no (x : Tu) (res : Option Tu) (h : ∀ y, res = some y → Jo y = false) : Zbj x res = x ∧ Ze0 x res = 2 := by
 have : Zdv x res = none := by
  unfold Zdv
  split
  ·cases res with
   | none => rfl
   | some y => simp [h y rfl]
  ·rfl
 unfold Zbj Ze0
 rw [this]
 exact ⟨rfl, rfl⟩
theorem chg_yes (x y : Tu) (res : Option Tu) (hx : Jo x = true) (h : res = some y) (hy : Jo y = true) : Zbj x res = y ∧ Ze0 x res = 0 := by
 have : Zdv x res = some y := by unfold Zdv; rw [if_pos hx, h]; exact if_pos hy
 unfold Zbj Ze0
 rw [this]
 exact ⟨rfl, rfl⟩
structure Step (x y : Tu) (e : Int) : Prop where
 right : Jo y = true
 err : e = 0 ∨ (e = 2 ∧ y = x)
 term : x.term ≤ y.term
 index : x.snap.index ≤ y.snap.index
 vote : y.term = x.term → 0 < x.vote → y.vote = x.vote
theorem step_no (x : Tu) (hx : Jo x = true) : Step x x 2 := ⟨hx, .inr ⟨rfl, rfl⟩, Int.le_refl _, Int.le_refl _, fun _ _ => rfl⟩
theorem step_of (x : Tu) (res : Option Tu) (hx : Jo x = true) (h : ∀ y, res = some y → x.term ≤ y.term ∧ x.snap.index ≤ y.snap.index ∧ (y.term = x.term → 0 < x.vote → y.vote = x.vote)) : Step x (Zbj x res) (Ze0 x res) := by
 cases hr : res with
 | none => have := chg_no x none (fun y h => by cases h); rw [this.1, this.2]; exact step_no x hx
 | some y =>
  cases hy : Jo y with
  | false => have := chg_no x (some y) (fun z h => by cases h; exact hy); rw [this.1, this.2]; exact step_no x hx
  | true =>
   have := chg_yes x y (some y) hx rfl hy
   rw [this.1, this.2]
   obtain ⟨h1, h2, h3⟩ := h y hr
   exact ⟨hy, .inl rfl, h1, h2, h3⟩
theorem saveR_parts (x : Tu) (s : St) (y : Tu) (h : Zay x s = some y) : y.term = x.term ∧ y.vote = x.vote ∧ x.snap.index ≤ y.snap.index := by
 have h1 := saveR_index x s y h
 unfold Zay at h
 split at h
 ·injection h with h; subst h; exact ⟨rfl, rfl, h1.2.2.1⟩
 ·cases h
theorem step_save (x : Tu) (s : St) (hx : Jo x = true) : Step x (Zbj x (Zay x s)) (Ze0 x (Zay x s)) :=
 step_of x _ hx fun y h => by
  have := saveR_parts x s y h
  exact ⟨by omega, this.2.2, fun _ _ => this.2.1⟩
theorem allS_log (s : St) (l : List En) (hs : FineP s) (h : Zbn s.term l = true) (hi : s.index + l.length ≤ 1073741824) : (Zca s l).index = s.index + l.length ∧ (Zca s l).term = Jz s.term l := by
 induction l generalizing s with
 | nil => exact ⟨by simp [Zca], rfl⟩
 | cons e l ih =>
  simp only [Zbn, Bool.and_eq_true, decide_eq_true_eq] at h
  rw [List.length_cons] at hi
  obtain ⟨h1, h2, _⟩ := next_parts s e hs (by omega) h.1.1
  have h3 := ih (Jh s e) (nextS_fine s e hs) (by rw [h2]; exact h.2) (by rw [h1]; omega)
  refine ⟨?_, ?_⟩
  ·show (Zca (Jh s e) l).index = _
   rw [h3.1, h1, List.length_cons]; omega
  ·show (Zca (Jh s e) l).term = _
   rw [h3.2, h2]; rfl
theorem termAt_log (x : Tu) (k : Nat) (hk : k ≤ x.log.length) : Zaw x (x.snap.index + k) = some (Jz x.snap.term (x.log.take k)) := by
 unfold Zaw Tu.last
 cases k with
 | zero => rw [if_pos (by simp)]; rfl
 | succ k =>
  rw [if_neg (by omega), if_pos (by omega)]
  have : (x.snap.index + ((k + 1 : Nat) : Int) - x.snap.index - 1).toNat = k := by omega
  rw [this, List.getElem?_eq_getElem (by omega), List.take_add_one, List.getElem?_eq_getElem (by omega)]
  show _ = some (Jz _ (_ ++ [x.log[k]]))
  rw [lastT_snoc]; rfl
theorem save_at (x : Tu) (k : Nat) (hx : Jo x = true) (hk : k ≤ x.log.length) :
  (Zca x.snap (x.log.take k)).index = x.snap.index + k ∧ (Zca x.snap (x.log.take k)).term = Jz x.snap.term (x.log.take k) ∧ FineP (Zca x.snap (x.log.take k)) ∧
   Zay x (Zca x.snap (x.log.take k)) = some { x with snap := Zca x.snap (x.log.take k), log := x.log.drop k } := by
 obtain ⟨h1, h2, h3, h4⟩ := (Zex x).1 hx
 have hl : (x.log.take k).length = k := by rw [List.length_take]; omega
 obtain ⟨h5, h6⟩ := allS_log x.snap (x.log.take k) h1 (Zfm _ _ _ h3) (by rw [hl]; omega)
 rw [hl] at h5
 have h7 := allS_fine x.snap (x.log.take k) h1
 refine ⟨h5, h6, h7, ?_⟩
 unfold Zay
 rw [h5, h6, if_pos ⟨termAt_log x k hk, (Zak _).2 h7⟩]
 have : (x.snap.index + (k : Int) - x.snap.index).toNat = k := by omega
 rw [this]
theorem save_yes (x : Tu) (k : Nat) (hx : Jo x = true) (hk : k ≤ x.log.length) (h : x.snap.index + k ≤ 1073740824) :
  Zbj x (Zay x (Zca x.snap (x.log.take k))) = { x with snap := Zca x.snap (x.log.take k), log := x.log.drop k } ∧ Ze0 x (Zay x (Zca x.snap (x.log.take k))) = 0 := by
 obtain ⟨h1, h2, h3, h4⟩ := save_at x k hx hk
 obtain ⟨g1, g2, g3, g4⟩ := (Zex x).1 hx
 refine chg_yes x _ _ hx h4 ((Zex _).2 ⟨h3, ⟨?_, ?_, g2.2.2⟩, ?_, ?_⟩)
 ·dsimp only; omega
 ·dsimp only; rw [List.length_drop]; omega
 ·dsimp only; rw [h2]; exact logB_drop _ _ _ g3
 ·dsimp only; rw [h2, lastT_cut]; exact g4
end Go.Proofs.Ytenagnncpaabdaa
