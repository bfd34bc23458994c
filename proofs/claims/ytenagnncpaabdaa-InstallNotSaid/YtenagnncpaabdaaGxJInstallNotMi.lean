/- Texts of one claim put together. -/
import Derived.Test.YtenagnncpaabdaaMi4
import Derived.Test.YtenagnncpaabdaaMi5
namespace Go.Proofs.Ytenagnncpaabdaa
open Go Go.RowKit
set_option maxRecDepth 100000
set_option maxHeartbeats 4000000
theorem c_law25_InstallNot (x0 : Co) (x1 : Ms) (x2 : Int) (A0_ : Option Addr) (c0_ : Nat) (A1_ : Option Addr) (c1_ : Nat) (A2_ : Option Addr) (c2_ : Nat) (A3_ : Option Addr) (c3_ : Nat) (A4_ : Option Addr) (c4_ : Nat) (A5_ : Option Addr) (c5_ : Nat) (w0 : World) (s0_ : SlI w0 Jv A0_ c0_ x0.tuple.log) (s1_ : SlI w0 enO A1_ c1_ x0.votes) (s2_ : SlI w0 Vu A2_ c2_ x0.next) (s3_ : SlI w0 Vu A3_ c3_ x0.mtch) (s4_ : SlI w0 Vu A4_ c4_ x0.caps) (s5_ : SlI w0 Jv A5_ c5_ x1.entries) {r : Bool} (H : Za4 x0 x1 x2 = some r) : Calls Try.prog 6 #[.agg #[.int .i64 x0.id, .int .i64 x0.n, .int .u8 x0.role, .int .i64 x0.binary, .int .i64 x0.tuple.snap.index, .int .i64 x0.tuple.snap.term, .int .i64 x0.tuple.snap.sum, .int .i64 x0.tuple.snap.level, .bool x0.tuple.snap.final, .slice A0_ x0.tuple.log.length c0_, .int .i64 x0.tuple.term, .int .i64 x0.tuple.vote, .int .i64 x0.commit, .int .i64 x0.applied.index, .int .i64 x0.applied.term, .int .i64 x0.applied.sum, .int .i64 x0.applied.level, .bool x0.applied.final, .slice A1_ x0.votes.length c1_, .slice A2_ x0.next.length c2_, .slice A3_ x0.mtch.length c3_, .slice A4_ x0.caps.length c4_], .agg #[.int .u8 x1.kind, .int .i64 x1.frm, .int .i64 x1.dst, .int .i64 x1.term, .int .i64 x1.cap, .int .i64 x1.last, .int .i64 x1.lastTerm, .int .i64 x1.commit, .bool x1.okk, .slice A5_ x1.entries.length c5_, .int .i64 x1.snap.index, .int .i64 x1.snap.term, .int .i64 x1.snap.sum, .int .i64 x1.snap.level, .bool x1.snap.final], .int .i64 x2] w0 fun e w' => e = .returned (.bool r) ∧ St0 All w0 w' [] := by
 unfold Za4 at H
 refine Zb1 Try.func6 rfl Try.ntmps6 rfl ?_
 have hS := St0.start All w0
 refine Zd (fun K hK1 => ?_)
 refine Zf ?_
 refine Z9 rfl rfl rfl CellsOf.agg hS (fun b2 w hS hB => ?_)
 refine Z9 rfl rfl rfl CellsOf.agg hS (fun b4 w hS hB => ?_)
 refine Zb 1 rfl ?_
 refine Zg ?_
 refine Zc hK1 ?_
 refine Zd (fun K hK6 => ?_)
 refine Zd (fun K hK7 => ?_)
 refine Zf ?_
 refine Za rfl rfl rfl (Zj Yp rfl (RW.here _) hS Xt trivial Yb) ?_
 refine Za rfl rfl rfl (Zj X7 rfl (RW.here _) hS hs0 trivial Xj) ?_
 obtain ⟨r8, hm9, H⟩ := bind_some H
 refine Zr rfl rfl rfl rfl (by kernel_rfl) rfl (c_law25_great x0 x1 A0_ c0_ A1_ c1_ A2_ c2_ A3_ c3_ A4_ c4_ A5_ c5_ _ (SlI.of_rd s0_.k (hS.rd0 s0_.rd) (hS.blk0 s0_.blk)) (SlI.of_rd s1_.k (hS.rd0 s1_.rd) (hS.blk0 s1_.blk)) (SlI.of_rd s2_.k (hS.rd0 s2_.rd) (hS.blk0 s2_.blk)) (SlI.of_rd s3_.k (hS.rd0 s3_.rd) (hS.blk0 s3_.blk)) (SlI.of_rd s4_.k (hS.rd0 s4_.rd) (hS.blk0 s4_.blk)) (SlI.of_rd s5_.k (hS.rd0 s5_.rd) (hS.blk0 s5_.blk)) hm9) ?_
 rintro e w ⟨rfl, hN⟩; refine ⟨_, rfl, ?_⟩; have hB := hN.pure; have hS := hS.join hN; clear hN
 refine Zg ?_
 refine Zc hK7 ?_
 refine Z0 rfl (fun hb => ?_) (fun hb => ?_)
 ·replace H := Zq H hb
  refine Zd (fun K hK10 => ?_)
  refine Zf ?_
  obtain ⟨r11, hm12, H⟩ := bind_some H
  refine Zr rfl rfl rfl rfl (by kernel_rfl) rfl (Xm _ hm12) ?_
  rintro e w ⟨rfl, hN⟩; refine ⟨_, rfl, ?_⟩; have hB := hN.pure; have hS := hS.join hN; clear hN
  refine Zb 1 rfl ?_
  refine Zg ?_
  refine Zc hK10 ?_
  refine Zk ?_
  refine Zi ?_
  refine Zl rfl (RV.tmp rfl RV.nil) rfl ?_
  obtain rfl := Option.some.inj H
  replace hS := hS.cut 0
  exact ⟨rfl, hS⟩
 replace H := Zp H hb
 refine Zu ?_
 refine Zc hK6 ?_
 refine Zd (fun K hK13 => ?_)
 refine Zf ?_
 refine Za rfl rfl rfl (Zj X7 rfl (RW.here _) hS hs0 trivial Xj) ?_
 refine Z6 rfl rfl Zfy hS (fun b14 w hS hB => ?_)
 refine Zo rfl rfl rfl CellsOf.agg hS ps0 Zax (by kernel_rfl) rfl (fun w hS hB => ?_)
 refine Zg ?_
 refine Zc hK13 ?_
 refine Zd (fun K hK16 => ?_)
 refine Zf ?_
 refine Zb 1 rfl ?_
 refine Za rfl rfl rfl (Ze Zdp rfl) ?_
 refine Zo rfl rfl rfl CellsOf.int hS ps0 st2_1 (by kernel_rfl) rfl (fun w hS hB => ?_)
 refine Zg ?_
 refine Zc hK16 ?_
 refine Zd (fun K hK17 => ?_)
 refine Zd (fun K hK18 => ?_)
 refine Zf ?_
 refine Zb 1 rfl ?_
 refine Za rfl rfl rfl (Ze Ji rfl) ?_
 refine Za rfl rfl rfl (Zh Zx rfl (RW.here _) hS Vh trivial Y2) ?_
 refine Za rfl rfl rfl (Yy rfl rfl) ?_
 refine Zg ?_
 refine Zc hK18 ?_
 refine Z0 rfl (fun hb => ?_) (fun hb => ?_)
 rotate_left
 ·replace H := Zp H hb
  refine Zu ?_
  refine Zc hK17 ?_
  refine Zd (fun K hK123 => ?_)
  refine Zf ?_
  refine Za rfl rfl rfl (Zj Yp rfl (RW.here _) hS Vh trivial Yb) ?_
  refine Za rfl rfl rfl (Zj X7 rfl (RW.here _) hS hs0 trivial Xj) ?_
  obtain ⟨r124, hm125, H⟩ := bind_some H
  refine Zr rfl rfl rfl rfl (by kernel_rfl) rfl (Zbr x0 (⟨x1.kind, x1.frm, x2, x1.term, x1.cap, x1.last, x1.lastTerm, x1.commit, x1.okk, x1.entries, x1.snap⟩ : Ms) A0_ c0_ A1_ c1_ A2_ c2_ A3_ c3_ A4_ c4_ A5_ c5_ _ (SlI.of_rd s0_.k (hS.rd0 s0_.rd) (hS.blk0 s0_.blk)) (SlI.of_rd s1_.k (hS.rd0 s1_.rd) (hS.blk0 s1_.blk)) (SlI.of_rd s2_.k (hS.rd0 s2_.rd) (hS.blk0 s2_.blk)) (SlI.of_rd s3_.k (hS.rd0 s3_.rd) (hS.blk0 s3_.blk)) (SlI.of_rd s4_.k (hS.rd0 s4_.rd) (hS.blk0 s4_.blk)) (SlI.of_rd s5_.k (hS.rd0 s5_.rd) (hS.blk0 s5_.blk)) hm125) ?_
  rintro e w ⟨A126, c127, A130, c131, A134, c135, A138, c139, A142, c143, A146, c147, q150, rfl, k128, k132, k136, k140, k144, k148, hq151, okq152, hN⟩; refine ⟨_, rfl, ?_⟩; have hB := hN.pure; have hS := hS.join hN; clear hN
  refine Zb 1 rfl ?_
  refine Za rfl rfl rfl (Ya rfl rfl) ?_
  refine Za rfl rfl rfl (Ya rfl rfl) ?_
  refine Z6 rfl rfl Zc0 hS (fun b154 w hS hB => ?_)
  refine Zo rfl rfl rfl CellsOf.agg hS ps0 Xq (by kernel_rfl) rfl (fun w hS hB => ?_)
  refine Zb 1 rfl ?_
  refine Zg ?_
  refine Zc hK123 ?_
  refine Zd (fun K hK156 => ?_)
  refine Zd (fun K hK157 => ?_)
  refine Zf ?_
  refine Za rfl rfl rfl (Zj Yp rfl (RW.here _) hS hs0 trivial Yb) ?_
  refine Za rfl rfl rfl (Zj Yp rfl (RW.here _) hS hs10 trivial Yb) ?_
  obtain ⟨r158, hm159, H⟩ := bind_some H
  refine Zr rfl rfl rfl rfl (by kernel_rfl) rfl (Za6 r124.1 x0 A126 c127 A130 c131 A134 c135 A138 c139 A142 c143 A0_ c0_ A1_ c1_ A2_ c2_ A3_ c3_ A4_ c4_ _ (SlI.of_rd k128 (hS.rd Xt) (hS.rd_blk Xt)) (SlI.of_rd k132 (hS.row_rd Vh) (hS.row_blk Vh)) (SlI.of_rd k136 (hS.row_rd hs3) (hS.row_blk hs3)) (SlI.of_rd k140 (hS.row_rd hs4) (hS.row_blk hs4)) (SlI.of_rd k144 (hS.row_rd hs5) (hS.row_blk hs5)) (SlI.of_rd s0_.k (hS.rd0 s0_.rd) (hS.blk0 s0_.blk)) (SlI.of_rd s1_.k (hS.rd0 s1_.rd) (hS.blk0 s1_.blk)) (SlI.of_rd s2_.k (hS.rd0 s2_.rd) (hS.blk0 s2_.blk)) (SlI.of_rd s3_.k (hS.rd0 s3_.rd) (hS.blk0 s3_.blk)) (SlI.of_rd s4_.k (hS.rd0 s4_.rd) (hS.blk0 s4_.blk)) hm159) ?_
  rintro e w ⟨rfl, hN⟩; refine ⟨_, rfl, ?_⟩; have hB := hN.pure; have hS := hS.join hN; clear hN
  refine Za rfl rfl rfl (Yt rfl) ?_
  refine Zb 1 rfl ?_
  refine Zt 37 rfl (fun hb => ?_) (fun hb => ?_)
  ·replace H := Zq H hb
   refine Zb 4 rfl ?_
   refine Zg ?_
   refine Zc hK157 ?_
   refine Zs rfl rfl ?_
   refine Zd (fun K hK160 => ?_)
   refine Zf ?_
   refine Zb 1 rfl ?_
   refine Zg ?_
   refine Zc hK160 ?_
   refine Zk ?_
   refine Zi ?_
   refine Zl rfl (RV.tmp rfl RV.nil) rfl ?_
   obtain rfl := Option.some.inj H
   replace hS := hS.cut 0
   exact ⟨rfl, hS⟩
  replace H := Zp H hb
  refine Zb 1 rfl ?_
  refine Za rfl rfl rfl (Y1 Zam rfl) ?_
  refine Za rfl rfl rfl (Xk rfl rfl) ?_
  refine Zb 1 rfl ?_
  refine Zg ?_
  refine Zc hK157 ?_
  refine Z0 rfl (fun hb => ?_) (fun hb => ?_)
  ·replace H := Zq H hb
   refine Zd (fun K hK161 => ?_)
   refine Zf ?_
   refine Zb 1 rfl ?_
   refine Zg ?_
   refine Zc hK161 ?_
   refine Zk ?_
   refine Zi ?_
   refine Zl rfl (RV.tmp rfl RV.nil) rfl ?_
   obtain rfl := Option.some.inj H
   replace hS := hS.cut 0
   exact ⟨rfl, hS⟩
  replace H := Zp H hb
  refine Zu ?_
  refine Zc hK156 ?_
  refine Zd (fun K hK162 => ?_)
  refine Zf ?_
  refine Za rfl rfl rfl (Zj Yp rfl (RW.here _) hS hs10 trivial Yb) ?_
  refine Za rfl rfl rfl (Zj X7 rfl (RW.here _) hS hs9 trivial Xj) ?_
  obtain ⟨r163, hm164, H⟩ := bind_some H
  refine Zr rfl rfl rfl rfl (by kernel_rfl) rfl (Zbr x0 x1 A0_ c0_ A1_ c1_ A2_ c2_ A3_ c3_ A4_ c4_ A5_ c5_ _ (SlI.of_rd s0_.k (hS.rd0 s0_.rd) (hS.blk0 s0_.blk)) (SlI.of_rd s1_.k (hS.rd0 s1_.rd) (hS.blk0 s1_.blk)) (SlI.of_rd s2_.k (hS.rd0 s2_.rd) (hS.blk0 s2_.blk)) (SlI.of_rd s3_.k (hS.rd0 s3_.rd) (hS.blk0 s3_.blk)) (SlI.of_rd s4_.k (hS.rd0 s4_.rd) (hS.blk0 s4_.blk)) (SlI.of_rd s5_.k (hS.rd0 s5_.rd) (hS.blk0 s5_.blk)) hm164) ?_
  rintro e w ⟨A165, c166, A169, c170, A173, c174, A177, c178, A181, c182, A185, c186, q189, rfl, k167, k171, k175, k179, k183, k187, hq190, okq191, hN⟩; refine ⟨_, rfl, ?_⟩; have hB := hN.pure; have hS := hS.join hN; clear hN
  refine Zb 1 rfl ?_
  refine Za rfl rfl rfl (Ya rfl rfl) ?_
  refine Za rfl rfl rfl (Ya rfl rfl) ?_
  refine Z6 rfl rfl Zc0 hS (fun b193 w hS hB => ?_)
  refine Zo rfl rfl rfl CellsOf.agg hS ps0 Xq (by kernel_rfl) rfl (fun w hS hB => ?_)
  refine Zb 1 rfl ?_
  refine Zg ?_
  refine Zc hK162 ?_
  refine Zd (fun K hK195 => ?_)
  refine Zd (fun K hK196 => ?_)
  refine Zf ?_
  refine Za rfl rfl rfl (Ze Vf rfl) ?_
  refine Za rfl rfl rfl (Zh Zai rfl (RW.here _) hS hs17 trivial Y2) ?_
  refine Za rfl rfl rfl (Xk rfl rfl) ?_
  refine Zb 1 rfl ?_
  refine Zt 51 rfl (fun hb => ?_) (fun hb => ?_)
  ·replace H := Zq H hb
   refine Zb 5 rfl ?_
   refine Zg ?_
   refine Zc hK196 ?_
   refine Zs rfl rfl ?_
   refine Zd (fun K hK197 => ?_)
   refine Zf ?_
   refine Za rfl rfl rfl (Zj Yp rfl (RW.here _) hS hs0 trivial Yb) ?_
   refine Za rfl rfl rfl (Zj Yp rfl (RW.here _) hS hs18 trivial Yb) ?_
   obtain ⟨r198, hm199, H⟩ := bind_some H
   refine Zr rfl rfl rfl rfl (by kernel_rfl) rfl (Za6 r163.1 x0 A165 c166 A169 c170 A173 c174 A177 c178 A181 c182 A0_ c0_ A1_ c1_ A2_ c2_ A3_ c3_ A4_ c4_ _ (SlI.of_rd k167 (hS.rd Xt) (hS.rd_blk Xt)) (SlI.of_rd k171 (hS.row_rd Vh) (hS.row_blk Vh)) (SlI.of_rd k175 (hS.row_rd hs3) (hS.row_blk hs3)) (SlI.of_rd k179 (hS.row_rd hs4) (hS.row_blk hs4)) (SlI.of_rd k183 (hS.row_rd hs5) (hS.row_blk hs5)) (SlI.of_rd s0_.k (hS.rd0 s0_.rd) (hS.blk0 s0_.blk)) (SlI.of_rd s1_.k (hS.rd0 s1_.rd) (hS.blk0 s1_.blk)) (SlI.of_rd s2_.k (hS.rd0 s2_.rd) (hS.blk0 s2_.blk)) (SlI.of_rd s3_.k (hS.rd0 s3_.rd) (hS.blk0 s3_.blk)) (SlI.of_rd s4_.k (hS.rd0 s4_.rd) (hS.blk0 s4_.blk)) hm199) ?_
   rintro e w ⟨rfl, hN⟩; refine ⟨_, rfl, ?_⟩; have hB := hN.pure; have hS := hS.join hN; clear hN
   refine Zb 1 rfl ?_
   refine Zt 60 rfl (fun hb => ?_) (fun hb => ?_)
   rotate_left
   ·replace H := Zp H hb
    refine Zb 8 rfl ?_
    refine Zg ?_
    refine Zc hK197 ?_
    refine Zk ?_
    refine Zi ?_
    refine Zl rfl (RV.tmp rfl RV.nil) rfl ?_
    obtain rfl := Option.some.inj H
    replace hS := hS.cut 0
    exact ⟨rfl, hS⟩
   replace H := Zq H hb
   refine Zb 1 rfl ?_
   refine Za rfl rfl rfl (Y1 Zam rfl) ?_
   refine Za rfl rfl rfl (Yy rfl rfl) ?_
   refine Zb 2 rfl ?_
   refine Zt 65 rfl (fun hb => ?_) (fun hb => ?_)
   rotate_left
   ·replace H := Zp H hb
    refine Zb 3 rfl ?_
    refine Zg ?_
    refine Zc hK197 ?_
    refine Zk ?_
    refine Zi ?_
    refine Zl rfl (RV.tmp rfl RV.nil) rfl ?_
    obtain rfl := Option.some.inj H
    replace hS := hS.cut 0
    exact ⟨rfl, hS⟩
   replace H := Zq H hb
   obtain ⟨r200, hm201, H⟩ := bind_some H
   refine Zr rfl rfl rfl rfl (by kernel_rfl) rfl (Xm _ hm201) ?_
   rintro e w ⟨rfl, hN⟩; refine ⟨_, rfl, ?_⟩; have hB := hN.pure; have hS := hS.join hN; clear hN
   refine Zb 2 rfl ?_
   refine Zg ?_
   refine Zc hK197 ?_
   refine Zk ?_
   refine Zi ?_
   refine Zl rfl (RV.tmp rfl RV.nil) rfl ?_
   obtain rfl := Option.some.inj H
   replace hS := hS.cut 0
   exact ⟨rfl, hS⟩
  replace H := Zp H hb
  refine Za rfl rfl rfl (Zj Yp rfl (RW.here _) hS hs18 trivial Yb) ?_
  refine Za rfl rfl rfl (Zj X7 rfl (RW.here _) hS hs17 trivial Xj) ?_
  obtain ⟨r202, hm203, H⟩ := bind_some H
  refine Zr rfl rfl rfl rfl (by kernel_rfl) rfl (c_ref21_To x0 x1 A0_ c0_ A1_ c1_ A2_ c2_ A3_ c3_ A4_ c4_ A5_ c5_ _ (SlI.of_rd s0_.k (hS.rd0 s0_.rd) (hS.blk0 s0_.blk)) (SlI.of_rd s1_.k (hS.rd0 s1_.rd) (hS.blk0 s1_.blk)) (SlI.of_rd s2_.k (hS.rd0 s2_.rd) (hS.blk0 s2_.blk)) (SlI.of_rd s3_.k (hS.rd0 s3_.rd) (hS.blk0 s3_.blk)) (SlI.of_rd s4_.k (hS.rd0 s4_.rd) (hS.blk0 s4_.blk)) (SlI.of_rd s5_.k (hS.rd0 s5_.rd) (hS.blk0 s5_.blk)) hm203) ?_
  rintro e w ⟨rfl, hN⟩; refine ⟨_, rfl, ?_⟩; have hB := hN.pure; have hS := hS.join hN; clear hN
  refine Za rfl rfl rfl (Yt rfl) ?_
  refine Zb 1 rfl ?_
  refine Zg ?_
  refine Zc hK196 ?_
  refine Z0 rfl (fun hb => ?_) (fun hb => ?_)
  ·replace H := Zq H hb
   refine Zd (fun K hK204 => ?_)
   refine Zf ?_
   refine Za rfl rfl rfl (Zj Yp rfl (RW.here _) hS hs0 trivial Yb) ?_
   refine Za rfl rfl rfl (Zj Yp rfl (RW.here _) hS hs18 trivial Yb) ?_
   obtain ⟨r205, hm206, H⟩ := bind_some H
   refine Zr rfl rfl rfl rfl (by kernel_rfl) rfl (Za6 r163.1 x0 A165 c166 A169 c170 A173 c174 A177 c178 A181 c182 A0_ c0_ A1_ c1_ A2_ c2_ A3_ c3_ A4_ c4_ _ (SlI.of_rd k167 (hS.rd Xt) (hS.rd_blk Xt)) (SlI.of_rd k171 (hS.row_rd Vh) (hS.row_blk Vh)) (SlI.of_rd k175 (hS.row_rd hs3) (hS.row_blk hs3)) (SlI.of_rd k179 (hS.row_rd hs4) (hS.row_blk hs4)) (SlI.of_rd k183 (hS.row_rd hs5) (hS.row_blk hs5)) (SlI.of_rd s0_.k (hS.rd0 s0_.rd) (hS.blk0 s0_.blk)) (SlI.of_rd s1_.k (hS.rd0 s1_.rd) (hS.blk0 s1_.blk)) (SlI.of_rd s2_.k (hS.rd0 s2_.rd) (hS.blk0 s2_.blk)) (SlI.of_rd s3_.k (hS.rd0 s3_.rd) (hS.blk0 s3_.blk)) (SlI.of_rd s4_.k (hS.rd0 s4_.rd) (hS.blk0 s4_.blk)) hm206) ?_
   rintro e w ⟨rfl, hN⟩; refine ⟨_, rfl, ?_⟩; have hB := hN.pure; have hS := hS.join hN; clear hN
   refine Zb 1 rfl ?_
   refine Zt 60 rfl (fun hb => ?_) (fun hb => ?_)
   rotate_left
   ·replace H := Zp H hb
    refine Zb 8 rfl ?_
    refine Zg ?_
    refine Zc hK204 ?_
    refine Zk ?_
    refine Zi ?_
    refine Zl rfl (RV.tmp rfl RV.nil) rfl ?_
    obtain rfl := Option.some.inj H
    replace hS := hS.cut 0
    exact ⟨rfl, hS⟩
   replace H := Zq H hb
   refine Zb 1 rfl ?_
   refine Za rfl rfl rfl (Y1 Zam rfl) ?_
   refine Za rfl rfl rfl (Yy rfl rfl) ?_
   refine Zb 2 rfl ?_
   refine Zt 65 rfl (fun hb => ?_) (fun hb => ?_)
   rotate_left
   ·replace H := Zp H hb
    refine Zb 3 rfl ?_
    refine Zg ?_
    refine Zc hK204 ?_
    refine Zk ?_
    refine Zi ?_
    refine Zl rfl (RV.tmp rfl RV.nil) rfl ?_
    obtain rfl := Option.some.inj H
    replace hS := hS.cut 0
    exact ⟨rfl, hS⟩
   replace H := Zq H hb
   obtain ⟨r207, hm208, H⟩ := bind_some H
   refine Zr rfl rfl rfl rfl (by kernel_rfl) rfl (Xm _ hm208) ?_
   rintro e w ⟨rfl, hN⟩; refine ⟨_, rfl, ?_⟩; have hB := hN.pure; have hS := hS.join hN; clear hN
   refine Zb 2 rfl ?_
   refine Zg ?_
   refine Zc hK204 ?_
   refine Zk ?_
   refine Zi ?_
   refine Zl rfl (RV.tmp rfl RV.nil) rfl ?_
   obtain rfl := Option.some.inj H
   replace hS := hS.cut 0
   exact ⟨rfl, hS⟩
  replace H := Zp H hb
  refine Zu ?_
  refine Zc hK195 ?_
  refine Zd (fun K hK209 => ?_)
  refine Zd (fun K hK210 => ?_)
  refine Zf ?_
  refine Za rfl rfl rfl (Ze Za8 rfl) ?_
  refine Za rfl rfl rfl (Zh Zx rfl (RW.here _) hS hs17 trivial Zag) ?_
  refine Za rfl rfl rfl (Ze Yu rfl) ?_
  refine Za rfl rfl rfl (Ze Xs rfl) ?_
  refine Za rfl rfl rfl (Zh Zx rfl (RW.here _) hS hs18 trivial V0) ?_
  refine Za rfl rfl rfl (Zbk rfl rfl) ?_
  refine Zg ?_
  refine Zc hK210 ?_
  refine Z0 rfl (fun hb => ?_) (fun hb => ?_)
  ·replace H := Zq H hb
   refine Zd (fun K hK211 => ?_)
   refine Zf ?_
   refine Za rfl rfl rfl (Ze Yu rfl) ?_
   refine Za rfl rfl rfl (Ze Xs rfl) ?_
   refine Za rfl rfl rfl (Zh Zx rfl (RW.here _) hS hs0 trivial V0) ?_
   refine Za rfl rfl rfl (Ze Za8 rfl) ?_
   refine Za rfl rfl rfl (Zh Zx rfl (RW.here _) hS hs17 trivial Zag) ?_
   refine Za rfl rfl rfl (Yy rfl rfl) ?_
   refine Zb 1 rfl ?_
   refine Zt 80 rfl (fun hb => ?_) (fun hb => ?_)
   rotate_left
   ·replace H := Zp H hb
    refine Zb 3 rfl ?_
    refine Zg ?_
    refine Zc hK211 ?_
    refine Zk ?_
    refine Zi ?_
    refine Zl rfl (RV.tmp rfl RV.nil) rfl ?_
    obtain rfl := Option.some.inj H
    replace hS := hS.cut 0
    exact ⟨rfl, hS⟩
   replace H := Zq H hb
   obtain ⟨r212, hm213, H⟩ := bind_some H
   refine Zr rfl rfl rfl rfl (by kernel_rfl) rfl (Xm _ hm213) ?_
   rintro e w ⟨rfl, hN⟩; refine ⟨_, rfl, ?_⟩; have hB := hN.pure; have hS := hS.join hN; clear hN
   refine Zb 2 rfl ?_
   refine Zg ?_
   refine Zc hK211 ?_
   refine Zk ?_
   refine Zi ?_
   refine Zl rfl (RV.tmp rfl RV.nil) rfl ?_
   obtain rfl := Option.some.inj H
   replace hS := hS.cut 0
   exact ⟨rfl, hS⟩
  replace H := Zp H hb
  refine Zu ?_
  refine Zc hK209 ?_
  refine Zd (fun K hK214 => ?_)
  refine Yo 38 [] (fun _ _ => True) ⟨by kernel_rfl, by kernel_rfl⟩ hS (fun w hS hB => ?_)
  refine Zm [true, true, true, true] (by decide +kernel) (by repeat (first | exact PF.body | exact PF.round | apply PF.then | apply PF.inBlock | apply PF.jump)) ?_
  refine LtK.put rfl rfl rfl (Zn rfl) ?_
  refine LtK.put rfl rfl rfl (Y1 Zam rfl) ?_
  refine LtK.put rfl rfl rfl (Yy rfl rfl) ?_
  refine LtK.put rfl rfl rfl (Zn rfl) ?_
  refine LtK.nil ?_
  refine Y8 86 rfl (fun hb => ?_) (fun hb => ?_)
  rotate_left
  ·replace H := Zp H hb
   refine Zm [false, false, false, false, true, true, true, true, true, true, true, true, true, true, true, true, true, true, true, true, true, true, true, true, true, true, true, true, true, true, true, true, true, true, true] (by decide +kernel) (by repeat (first | exact PF.body | exact PF.round | apply PF.then | apply PF.inBlock | apply PF.jump)) ?_
   refine LtK.skip rfl rfl rfl ?_
   refine LtK.skip rfl rfl rfl ?_
   refine LtK.skip rfl rfl rfl ?_
   refine LtK.skip rfl rfl rfl ?_
   refine LtK.skip rfl rfl rfl ?_
   refine LtK.put rfl rfl rfl (Zz rfl rfl rfl) ?_
   refine LtK.put rfl rfl rfl (Zn rfl) ?_
   refine LtK.skip rfl rfl rfl ?_
   refine LtK.skip rfl rfl rfl ?_
   refine LtK.skip rfl rfl rfl ?_
   refine LtK.skip rfl rfl rfl ?_
   refine LtK.skip rfl rfl rfl ?_
   refine LtK.skip rfl rfl rfl ?_
   refine LtK.skip rfl rfl rfl ?_
   refine LtK.skip rfl rfl rfl ?_
   refine LtK.put rfl rfl rfl (Zz rfl rfl rfl) ?_
   refine LtK.put rfl rfl rfl (Zn rfl) ?_
   refine LtK.skip rfl rfl rfl ?_
   refine LtK.skip rfl rfl rfl ?_
   refine LtK.skip rfl rfl rfl ?_
   refine LtK.skip rfl rfl rfl ?_
   refine LtK.skip rfl rfl rfl ?_
   refine LtK.put rfl rfl rfl (Zz rfl rfl rfl) ?_
   refine LtK.put rfl rfl rfl (Zn rfl) ?_
   refine LtK.skip rfl rfl rfl ?_
   refine LtK.skip rfl rfl rfl ?_
   refine LtK.skip rfl rfl rfl ?_
   refine LtK.skip rfl rfl rfl ?_
   refine LtK.skip rfl rfl rfl ?_
   refine LtK.put rfl rfl rfl (Zz rfl rfl rfl) ?_
   refine LtK.put rfl rfl rfl (Zn rfl) ?_
   refine LtK.nil ?_
   refine Z7 [false, false, false, false, false, false, false, false, false, false, false, false, false, false, false, false, false, false, false, false, false, false, false, false, false, false, false, false, false, false, false, false, false, false, false, true] 35 ⟨by decide, by kernel_rfl, by kernel_rfl⟩ rfl rfl ?_
   try dsimp only [Z2]
   refine Yz rfl rfl rfl ?_
   refine Zg ?_
   refine Yf (Below.refl _ _) ?_
   refine Zm [false, false, false, false, false, false, false, false, false, false, false, false, false, false, false, false, false, false, false, false, false, false, false, false, false, false, false, false, false, false, false, false, false, false, false, false, true, true] (by decide +kernel) (by repeat (first | exact PF.body | exact PF.round | apply PF.then | apply PF.inBlock | apply PF.jump)) ?_
   refine LtK.put rfl rfl rfl (Zz rfl rfl rfl) ?_
   refine LtK.put rfl rfl rfl (Z4 rfl) ?_
   refine LtK.nil ?_
   refine Z8 (by kernel_rfl) ?_
   refine Zc hK214 ?_
   refine Zk ?_
   refine Zl rfl (RV.tmp rfl RV.nil) rfl ?_
   obtain rfl := Option.some.inj H
   replace hS := hS.cut 0
   exact ⟨rfl, hS⟩
  replace H := Zq H hb
  refine Zm [false, false, false, false, true, true, true, true, true, true, true] (by decide +kernel) (by repeat (first | exact PF.body | exact PF.round | apply PF.then | apply PF.inBlock | apply PF.jump)) ?_
  refine LtK.put rfl rfl rfl (Zn rfl) ?_
  obtain ⟨e215, hi217, H⟩ := bind_some H
  obtain ⟨j216, A218, c219, hi217a, hi217b, hi217c⟩ := idxQ (q := q189) hq190 hi217
  refine LtK.put rfl rfl rfl (Xo Zam rfl rfl hi217a hi217c (Rd.el (hS.rd hs6) Vr hi217b)) ?_
  refine LtK.put rfl rfl rfl (Vc fo_32_8 rfl (Rd.el (hS.rd hs6) Vr hi217b)) ?_
  refine LtK.put rfl rfl rfl (yx_ld sc_4 rfl (RW.below _) (Rd.el (hS.rd hs6) Vr hi217b) rfl) ?_
  refine LtK.put rfl rfl rfl (Yt rfl) ?_
  refine LtK.put rfl rfl rfl (Zw rfl rfl rfl) ?_
  refine LtK.put rfl rfl rfl (Zn rfl) ?_
  refine LtK.nil ?_
  refine Y8 93 rfl (fun hb => ?_) (fun hb => ?_)
  rotate_left
  ·replace H := Zp H hb
   refine Zm [false, false, false, false, false, false, false, false, false, false, false, true, true, true, true, true, true, true, true, true, true, true, true, true, true, true, true, true, true, true, true, true, true, true, true] (by decide +kernel) (by repeat (first | exact PF.body | exact PF.round | apply PF.then | apply PF.inBlock | apply PF.jump)) ?_
   refine LtK.skip rfl rfl rfl ?_
   refine LtK.skip rfl rfl rfl ?_
   refine LtK.skip rfl rfl rfl ?_
   refine LtK.skip rfl rfl rfl ?_
   refine LtK.skip rfl rfl rfl ?_
   refine LtK.skip rfl rfl rfl ?_
   refine LtK.skip rfl rfl rfl ?_
   refine LtK.skip rfl rfl rfl ?_
   refine LtK.put rfl rfl rfl (Zz rfl rfl rfl) ?_
   refine LtK.put rfl rfl rfl (Zn rfl) ?_
   refine LtK.skip rfl rfl rfl ?_
   refine LtK.skip rfl rfl rfl ?_
   refine LtK.skip rfl rfl rfl ?_
   refine LtK.skip rfl rfl rfl ?_
   refine LtK.skip rfl rfl rfl ?_
   refine LtK.put rfl rfl rfl (Zz rfl rfl rfl) ?_
   refine LtK.put rfl rfl rfl (Zn rfl) ?_
   refine LtK.skip rfl rfl rfl ?_
   refine LtK.skip rfl rfl rfl ?_
   refine LtK.skip rfl rfl rfl ?_
   refine LtK.skip rfl rfl rfl ?_
   refine LtK.skip rfl rfl rfl ?_
   refine LtK.put rfl rfl rfl (Zz rfl rfl rfl) ?_
   refine LtK.put rfl rfl rfl (Zn rfl) ?_
   refine LtK.nil ?_
   refine Z7 [false, false, false, false, false, false, false, false, false, false, false, false, false, false, false, false, false, false, false, false, false, false, false, false, false, false, false, false, false, false, false, false, false, false, false, true] 35 ⟨by decide, by kernel_rfl, by kernel_rfl⟩ rfl rfl ?_
   try dsimp only [Z2]
   refine Yz rfl rfl rfl ?_
   refine Zg ?_
   refine Yf (Below.refl _ _) ?_
   refine Zm [false, false, false, false, false, false, false, false, false, false, false, false, false, false, false, false, false, false, false, false, false, false, false, false, false, false, false, false, false, false, false, false, false, false, false, false, true, true] (by decide +kernel) (by repeat (first | exact PF.body | exact PF.round | apply PF.then | apply PF.inBlock | apply PF.jump)) ?_
   refine LtK.put rfl rfl rfl (Zz rfl rfl rfl) ?_
   refine LtK.put rfl rfl rfl (Z4 rfl) ?_
   refine LtK.nil ?_
   refine Z8 (by kernel_rfl) ?_
   refine Zc hK214 ?_
   refine Zk ?_
   refine Zl rfl (RV.tmp rfl RV.nil) rfl ?_
   obtain rfl := Option.some.inj H
   replace hS := hS.cut 0
   exact ⟨rfl, hS⟩
  replace H := Zq H hb
  refine Zm [false, false, false, false, false, false, false, false, false, false, false, true, true, true, true, true, true, true, true, true, true] (by decide +kernel) (by repeat (first | exact PF.body | exact PF.round | apply PF.then | apply PF.inBlock | apply PF.jump)) ?_
  refine LtK.put rfl rfl rfl (Zn rfl) ?_
  obtain ⟨e220, hi222, H⟩ := bind_some H
  obtain ⟨j221, A223, c224, hi222a, hi222b, hi222c⟩ := idxQ (q := q189) hq190 hi222
  refine LtK.put rfl rfl rfl (Xo Zam rfl rfl hi222a hi222c (Rd.el (hS.rd hs6) Vr hi222b)) ?_
  refine LtK.put rfl rfl rfl (Vc Za8 rfl (Rd.el (hS.rd hs6) Vr hi222b)) ?_
  refine LtK.put rfl rfl rfl (yx_ld Zx rfl (RW.below _) (Rd.el (hS.rd hs6) Vr hi222b) rfl) ?_
  refine LtK.put rfl rfl rfl (Ze Yu rfl) ?_
  refine LtK.put rfl rfl rfl (Ze Xs rfl) ?_
  refine LtK.put rfl rfl rfl (Zh Zx rfl (RW.below _) hS hs18 trivial V0) ?_
  refine LtK.put rfl rfl rfl (Yy rfl rfl) ?_
  refine LtK.put rfl rfl rfl (Zw rfl rfl rfl) ?_
  refine LtK.put rfl rfl rfl (Zn rfl) ?_
  refine LtK.nil ?_
  refine Y8 103 rfl (fun hb => ?_) (fun hb => ?_)
  rotate_left
  ·replace H := Zp H hb
   refine Zm [false, false, false, false, false, false, false, false, false, false, false, false, false, false, false, false, false, false, false, false, false, true, true, true, true, true, true, true, true, true, true, true, true, true, true] (by decide +kernel) (by repeat (first | exact PF.body | exact PF.round | apply PF.then | apply PF.inBlock | apply PF.jump)) ?_
   refine LtK.skip rfl rfl rfl ?_
   refine LtK.skip rfl rfl rfl ?_
   refine LtK.skip rfl rfl rfl ?_
   refine LtK.skip rfl rfl rfl ?_
   refine LtK.skip rfl rfl rfl ?_
   refine LtK.put rfl rfl rfl (Zz rfl rfl rfl) ?_
   refine LtK.put rfl rfl rfl (Zn rfl) ?_
   refine LtK.skip rfl rfl rfl ?_
   refine LtK.skip rfl rfl rfl ?_
   refine LtK.skip rfl rfl rfl ?_
   refine LtK.skip rfl rfl rfl ?_
   refine LtK.skip rfl rfl rfl ?_
   refine LtK.put rfl rfl rfl (Zz rfl rfl rfl) ?_
   refine LtK.put rfl rfl rfl (Zn rfl) ?_
   refine LtK.nil ?_
   refine Z7 [false, false, false, false, false, false, false, false, false, false, false, false, false, false, false, false, false, false, false, false, false, false, false, false, false, false, false, false, false, false, false, false, false, false, false, true] 35 ⟨by decide, by kernel_rfl, by kernel_rfl⟩ rfl rfl ?_
   try dsimp only [Z2]
   refine Yz rfl rfl rfl ?_
   refine Zg ?_
   refine Yf (Below.refl _ _) ?_
   refine Zm [false, false, false, false, false, false, false, false, false, false, false, false, false, false, false, false, false, false, false, false, false, false, false, false, false, false, false, false, false, false, false, false, false, false, false, false, true, true] (by decide +kernel) (by repeat (first | exact PF.body | exact PF.round | apply PF.then | apply PF.inBlock | apply PF.jump)) ?_
   refine LtK.put rfl rfl rfl (Zz rfl rfl rfl) ?_
   refine LtK.put rfl rfl rfl (Z4 rfl) ?_
   refine LtK.nil ?_
   refine Z8 (by kernel_rfl) ?_
   refine Zc hK214 ?_
   refine Zk ?_
   refine Zl rfl (RV.tmp rfl RV.nil) rfl ?_
   obtain rfl := Option.some.inj H
   replace hS := hS.cut 0
   exact ⟨rfl, hS⟩
  replace H := Zq H hb
  refine Zm [false, false, false, false, false, false, false, false, false, false, false, false, false, false, false, false, false, false, false, false, false, true, true, true, true, true, true, true] (by decide +kernel) (by repeat (first | exact PF.body | exact PF.round | apply PF.then | apply PF.inBlock | apply PF.jump)) ?_
  refine LtK.put rfl rfl rfl (Ze Zah rfl) ?_
  refine LtK.put rfl rfl rfl (Zh Zx rfl (RW.below _) hS hs0 trivial Zbs) ?_
  refine LtK.put rfl rfl rfl (Ze Zah rfl) ?_
  refine LtK.put rfl rfl rfl (Zh Zx rfl (RW.below _) hS hs18 trivial Zbs) ?_
  refine LtK.put rfl rfl rfl (Yy rfl rfl) ?_
  refine LtK.put rfl rfl rfl (Zw rfl rfl rfl) ?_
  refine LtK.put rfl rfl rfl (Zn rfl) ?_
  refine LtK.nil ?_
  refine Y8 110 rfl (fun hb => ?_) (fun hb => ?_)
  rotate_left
  ·replace H := Zp H hb
   refine Zm [false, false, false, false, false, false, false, false, false, false, false, false, false, false, false, false, false, false, false, false, false, false, false, false, false, false, false, false, true, true, true, true, true, true, true] (by decide +kernel) (by repeat (first | exact PF.body | exact PF.round | apply PF.then | apply PF.inBlock | apply PF.jump)) ?_
   refine LtK.skip rfl rfl rfl ?_
   refine LtK.skip rfl rfl rfl ?_
   refine LtK.skip rfl rfl rfl ?_
   refine LtK.skip rfl rfl rfl ?_
   refine LtK.skip rfl rfl rfl ?_
   refine LtK.put rfl rfl rfl (Zz rfl rfl rfl) ?_
   refine LtK.put rfl rfl rfl (Zn rfl) ?_
   refine LtK.nil ?_
   refine Z7 [false, false, false, false, false, false, false, false, false, false, false, false, false, false, false, false, false, false, false, false, false, false, false, false, false, false, false, false, false, false, false, false, false, false, false, true] 35 ⟨by decide, by kernel_rfl, by kernel_rfl⟩ rfl rfl ?_
   try dsimp only [Z2]
   refine Yz rfl rfl rfl ?_
   refine Zg ?_
   refine Yf (Below.refl _ _) ?_
   refine Zm [false, false, false, false, false, false, false, false, false, false, false, false, false, false, false, false, false, false, false, false, false, false, false, false, false, false, false, false, false, false, false, false, false, false, false, false, true, true] (by decide +kernel) (by repeat (first | exact PF.body | exact PF.round | apply PF.then | apply PF.inBlock | apply PF.jump)) ?_
   refine LtK.put rfl rfl rfl (Zz rfl rfl rfl) ?_
   refine LtK.put rfl rfl rfl (Z4 rfl) ?_
   refine LtK.nil ?_
   refine Z8 (by kernel_rfl) ?_
   refine Zc hK214 ?_
   refine Zk ?_
   refine Zl rfl (RV.tmp rfl RV.nil) rfl ?_
   obtain rfl := Option.some.inj H
   replace hS := hS.cut 0
   exact ⟨rfl, hS⟩
  replace H := Zq H hb
  refine Zm [false, false, false, false, false, false, false, false, false, false, false, false, false, false, false, false, false, false, false, false, false, false, false, false, false, false, false, false, true, true, true, true, true, true, true] (by decide +kernel) (by repeat (first | exact PF.body | exact PF.round | apply PF.then | apply PF.inBlock | apply PF.jump)) ?_
  refine LtK.put rfl rfl rfl (Ze J6 rfl) ?_
  refine LtK.put rfl rfl rfl (Zh Zai rfl (RW.below _) hS hs0 trivial J9) ?_
  refine LtK.put rfl rfl rfl (Ze J6 rfl) ?_
  refine LtK.put rfl rfl rfl (Zh Zai rfl (RW.below _) hS hs18 trivial J9) ?_
  refine LtK.put rfl rfl rfl (Yy rfl rfl) ?_
  refine LtK.put rfl rfl rfl (Zw rfl rfl rfl) ?_
  refine LtK.put rfl rfl rfl (Zn rfl) ?_
  refine LtK.nil ?_
  refine Y8 117 rfl (fun hb => ?_) (fun hb => ?_)
  rotate_left
  ·replace H := Zp H hb
   refine Z7 [false, false, false, false, false, false, false, false, false, false, false, false, false, false, false, false, false, false, false, false, false, false, false, false, false, false, false, false, false, false, false, false, false, false, false, true] 35 ⟨by decide, by kernel_rfl, by kernel_rfl⟩ rfl rfl ?_
   try dsimp only [Z2]
   refine Yz rfl rfl rfl ?_
   refine Zg ?_
   refine Yf (Below.refl _ _) ?_
   refine Zm [false, false, false, false, false, false, false, false, false, false, false, false, false, false, false, false, false, false, false, false, false, false, false, false, false, false, false, false, false, false, false, false, false, false, false, false, true, true] (by decide +kernel) (by repeat (first | exact PF.body | exact PF.round | apply PF.then | apply PF.inBlock | apply PF.jump)) ?_
   refine LtK.put rfl rfl rfl (Zz rfl rfl rfl) ?_
   refine LtK.put rfl rfl rfl (Z4 rfl) ?_
   refine LtK.nil ?_
   refine Z8 (by kernel_rfl) ?_
   refine Zc hK214 ?_
   refine Zk ?_
   refine Zl rfl (RV.tmp rfl RV.nil) rfl ?_
   obtain rfl := Option.some.inj H
   replace hS := hS.cut 0
   exact ⟨rfl, hS⟩
  replace H := Zq H hb
  refine Z7 [false, false, false, false, false, false, false, false, false, false, false, false, false, false, false, false, false, false, false, false, false, false, false, false, false, false, false, false, false, false, false, false, false, false, false, true] 35 ⟨by decide, by kernel_rfl, by kernel_rfl⟩ rfl rfl ?_
  try dsimp only [Z2]
  obtain ⟨r225, hm226, H⟩ := bind_some H
  refine Zr rfl rfl rfl rfl (by kernel_rfl) rfl (Xm _ hm226) ?_
  rintro e w ⟨rfl, hN⟩; refine ⟨_, rfl, ?_⟩; have hB := hN.pure; have hS := hS.join hN; clear hN
  refine Zg ?_
  refine Yf hB ?_
  refine Zm [false, false, false, false, false, false, false, false, false, false, false, false, false, false, false, false, false, false, false, false, false, false, false, false, false, false, false, false, false, false, false, false, false, false, false, false, true, true] (by decide +kernel) (by repeat (first | exact PF.body | exact PF.round | apply PF.then | apply PF.inBlock | apply PF.jump)) ?_
  refine LtK.put rfl rfl rfl (Zw rfl rfl rfl) ?_
  refine LtK.put rfl rfl rfl (Z4 rfl) ?_
  refine LtK.nil ?_
  refine Z8 (by kernel_rfl) ?_
  refine Zc hK214 ?_
  refine Zk ?_
  refine Zl rfl (RV.tmp rfl RV.nil) rfl ?_
  obtain rfl := Option.some.inj H
  replace hS := hS.cut 0
  exact ⟨rfl, hS⟩
 replace H := Zq H hb
 refine Zf ?_
 refine Za rfl rfl rfl (Ze Ji rfl) ?_
 refine Za rfl rfl rfl (Zh Zx rfl (RW.here _) hS Vh trivial Y2) ?_
 refine Za rfl rfl rfl (X1 rfl rfl) ?_
 refine Za rfl rfl rfl (Ze Zdp rfl) ?_
 refine Zo rfl rfl rfl CellsOf.int hS ps0 st2_1 (by kernel_rfl) rfl (fun w hS hB => ?_)
 refine Zg ?_
 refine Zc hK17 ?_
 refine Zd (fun K hK19 => ?_)
 refine Zf ?_
 refine Za rfl rfl rfl (Zj Yp rfl (RW.here _) hS Vh trivial Yb) ?_
 refine Za rfl rfl rfl (Zj X7 rfl (RW.here _) hS hs0 trivial Xj) ?_
 obtain ⟨r20, hm21, H⟩ := bind_some H
 refine Zr rfl rfl rfl rfl (by kernel_rfl) rfl (Zbr x0 (⟨x1.kind, x1.frm, (IntKind.wrap .i64 (x0.id + 1)), x1.term, x1.cap, x1.last, x1.lastTerm, x1.commit, x1.okk, x1.entries, x1.snap⟩ : Ms) A0_ c0_ A1_ c1_ A2_ c2_ A3_ c3_ A4_ c4_ A5_ c5_ _ (SlI.of_rd s0_.k (hS.rd0 s0_.rd) (hS.blk0 s0_.blk)) (SlI.of_rd s1_.k (hS.rd0 s1_.rd) (hS.blk0 s1_.blk)) (SlI.of_rd s2_.k (hS.rd0 s2_.rd) (hS.blk0 s2_.blk)) (SlI.of_rd s3_.k (hS.rd0 s3_.rd) (hS.blk0 s3_.blk)) (SlI.of_rd s4_.k (hS.rd0 s4_.rd) (hS.blk0 s4_.blk)) (SlI.of_rd s5_.k (hS.rd0 s5_.rd) (hS.blk0 s5_.blk)) hm21) ?_
 rintro e w ⟨A22, c23, A26, c27, A30, c31, A34, c35, A38, c39, A42, c43, q46, rfl, k24, k28, k32, k36, k40, k44, hq47, okq48, hN⟩; refine ⟨_, rfl, ?_⟩; have hB := hN.pure; have hS := hS.join hN; clear hN
 refine Zb 1 rfl ?_
 refine Za rfl rfl rfl (Ya rfl rfl) ?_
 refine Za rfl rfl rfl (Ya rfl rfl) ?_
 refine Z6 rfl rfl Zc0 hS (fun b50 w hS hB => ?_)
 refine Zo rfl rfl rfl CellsOf.agg hS ps0 Xq (by kernel_rfl) rfl (fun w hS hB => ?_)
 refine Zb 1 rfl ?_
 refine Zg ?_
 refine Zc hK19 ?_
 refine Zd (fun K hK52 => ?_)
 refine Zd (fun K hK53 => ?_)
 refine Zf ?_
 refine Za rfl rfl rfl (Zj Yp rfl (RW.here _) hS hs0 trivial Yb) ?_
 refine Za rfl rfl rfl (Zj Yp rfl (RW.here _) hS hs10 trivial Yb) ?_
 obtain ⟨r54, hm55, H⟩ := bind_some H
 refine Zr rfl rfl rfl rfl (by kernel_rfl) rfl (Za6 r20.1 x0 A22 c23 A26 c27 A30 c31 A34 c35 A38 c39 A0_ c0_ A1_ c1_ A2_ c2_ A3_ c3_ A4_ c4_ _ (SlI.of_rd k24 (hS.rd Xt) (hS.rd_blk Xt)) (SlI.of_rd k28 (hS.row_rd Vh) (hS.row_blk Vh)) (SlI.of_rd k32 (hS.row_rd hs3) (hS.row_blk hs3)) (SlI.of_rd k36 (hS.row_rd hs4) (hS.row_blk hs4)) (SlI.of_rd k40 (hS.row_rd hs5) (hS.row_blk hs5)) (SlI.of_rd s0_.k (hS.rd0 s0_.rd) (hS.blk0 s0_.blk)) (SlI.of_rd s1_.k (hS.rd0 s1_.rd) (hS.blk0 s1_.blk)) (SlI.of_rd s2_.k (hS.rd0 s2_.rd) (hS.blk0 s2_.blk)) (SlI.of_rd s3_.k (hS.rd0 s3_.rd) (hS.blk0 s3_.blk)) (SlI.of_rd s4_.k (hS.rd0 s4_.rd) (hS.blk0 s4_.blk)) hm55) ?_
 rintro e w ⟨rfl, hN⟩; refine ⟨_, rfl, ?_⟩; have hB := hN.pure; have hS := hS.join hN; clear hN
 refine Za rfl rfl rfl (Yt rfl) ?_
 refine Zb 1 rfl ?_
 refine Zt 37 rfl (fun hb => ?_) (fun hb => ?_)
 ·replace H := Zq H hb
  refine Zb 4 rfl ?_
  refine Zg ?_
  refine Zc hK53 ?_
  refine Zs rfl rfl ?_
  refine Zd (fun K hK56 => ?_)
  refine Zf ?_
  refine Zb 1 rfl ?_
  refine Zg ?_
  refine Zc hK56 ?_
  refine Zk ?_
  refine Zi ?_
  refine Zl rfl (RV.tmp rfl RV.nil) rfl ?_
  obtain rfl := Option.some.inj H
  replace hS := hS.cut 0
  exact ⟨rfl, hS⟩
 replace H := Zp H hb
 refine Zb 1 rfl ?_
 refine Za rfl rfl rfl (Y1 Zam rfl) ?_
 refine Za rfl rfl rfl (Xk rfl rfl) ?_
 refine Zb 1 rfl ?_
 refine Zg ?_
 refine Zc hK53 ?_
 refine Z0 rfl (fun hb => ?_) (fun hb => ?_)
 ·replace H := Zq H hb
  refine Zd (fun K hK57 => ?_)
  refine Zf ?_
  refine Zb 1 rfl ?_
  refine Zg ?_
  refine Zc hK57 ?_
  refine Zk ?_
  refine Zi ?_
  refine Zl rfl (RV.tmp rfl RV.nil) rfl ?_
  obtain rfl := Option.some.inj H
  replace hS := hS.cut 0
  exact ⟨rfl, hS⟩
 replace H := Zp H hb
 refine Zu ?_
 refine Zc hK52 ?_
 refine Zd (fun K hK58 => ?_)
 refine Zf ?_
 refine Za rfl rfl rfl (Zj Yp rfl (RW.here _) hS hs10 trivial Yb) ?_
 refine Za rfl rfl rfl (Zj X7 rfl (RW.here _) hS hs9 trivial Xj) ?_
 obtain ⟨r59, hm60, H⟩ := bind_some H
 refine Zr rfl rfl rfl rfl (by kernel_rfl) rfl (Zbr x0 x1 A0_ c0_ A1_ c1_ A2_ c2_ A3_ c3_ A4_ c4_ A5_ c5_ _ (SlI.of_rd s0_.k (hS.rd0 s0_.rd) (hS.blk0 s0_.blk)) (SlI.of_rd s1_.k (hS.rd0 s1_.rd) (hS.blk0 s1_.blk)) (SlI.of_rd s2_.k (hS.rd0 s2_.rd) (hS.blk0 s2_.blk)) (SlI.of_rd s3_.k (hS.rd0 s3_.rd) (hS.blk0 s3_.blk)) (SlI.of_rd s4_.k (hS.rd0 s4_.rd) (hS.blk0 s4_.blk)) (SlI.of_rd s5_.k (hS.rd0 s5_.rd) (hS.blk0 s5_.blk)) hm60) ?_
 rintro e w ⟨A61, c62, A65, c66, A69, c70, A73, c74, A77, c78, A81, c82, q85, rfl, k63, k67, k71, k75, k79, k83, hq86, okq87, hN⟩; refine ⟨_, rfl, ?_⟩; have hB := hN.pure; have hS := hS.join hN; clear hN
 refine Zb 1 rfl ?_
 refine Za rfl rfl rfl (Ya rfl rfl) ?_
 refine Za rfl rfl rfl (Ya rfl rfl) ?_
 refine Z6 rfl rfl Zc0 hS (fun b89 w hS hB => ?_)
 refine Zo rfl rfl rfl CellsOf.agg hS ps0 Xq (by kernel_rfl) rfl (fun w hS hB => ?_)
 refine Zb 1 rfl ?_
 refine Zg ?_
 refine Zc hK58 ?_
 refine Zd (fun K hK91 => ?_)
 refine Zd (fun K hK92 => ?_)
 refine Zf ?_
 refine Za rfl rfl rfl (Ze Vf rfl) ?_
 refine Za rfl rfl rfl (Zh Zai rfl (RW.here _) hS hs17 trivial Y2) ?_
 refine Za rfl rfl rfl (Xk rfl rfl) ?_
 refine Zb 1 rfl ?_
 refine Zt 51 rfl (fun hb => ?_) (fun hb => ?_)
 ·replace H := Zq H hb
  refine Zb 5 rfl ?_
  refine Zg ?_
  refine Zc hK92 ?_
  refine Zs rfl rfl ?_
  refine Zd (fun K hK93 => ?_)
  refine Zf ?_
  refine Za rfl rfl rfl (Zj Yp rfl (RW.here _) hS hs0 trivial Yb) ?_
  refine Za rfl rfl rfl (Zj Yp rfl (RW.here _) hS hs18 trivial Yb) ?_
  obtain ⟨r94, hm95, H⟩ := bind_some H
  refine Zr rfl rfl rfl rfl (by kernel_rfl) rfl (Za6 r59.1 x0 A61 c62 A65 c66 A69 c70 A73 c74 A77 c78 A0_ c0_ A1_ c1_ A2_ c2_ A3_ c3_ A4_ c4_ _ (SlI.of_rd k63 (hS.rd Xt) (hS.rd_blk Xt)) (SlI.of_rd k67 (hS.row_rd Vh) (hS.row_blk Vh)) (SlI.of_rd k71 (hS.row_rd hs3) (hS.row_blk hs3)) (SlI.of_rd k75 (hS.row_rd hs4) (hS.row_blk hs4)) (SlI.of_rd k79 (hS.row_rd hs5) (hS.row_blk hs5)) (SlI.of_rd s0_.k (hS.rd0 s0_.rd) (hS.blk0 s0_.blk)) (SlI.of_rd s1_.k (hS.rd0 s1_.rd) (hS.blk0 s1_.blk)) (SlI.of_rd s2_.k (hS.rd0 s2_.rd) (hS.blk0 s2_.blk)) (SlI.of_rd s3_.k (hS.rd0 s3_.rd) (hS.blk0 s3_.blk)) (SlI.of_rd s4_.k (hS.rd0 s4_.rd) (hS.blk0 s4_.blk)) hm95) ?_
  rintro e w ⟨rfl, hN⟩; refine ⟨_, rfl, ?_⟩; have hB := hN.pure; have hS := hS.join hN; clear hN
  refine Zb 1 rfl ?_
  refine Zt 60 rfl (fun hb => ?_) (fun hb => ?_)
  rotate_left
  ·replace H := Zp H hb
   refine Zb 8 rfl ?_
   refine Zg ?_
   refine Zc hK93 ?_
   refine Zk ?_
   refine Zi ?_
   refine Zl rfl (RV.tmp rfl RV.nil) rfl ?_
   obtain rfl := Option.some.inj H
   replace hS := hS.cut 0
   exact ⟨rfl, hS⟩
  replace H := Zq H hb
  refine Zb 1 rfl ?_
  refine Za rfl rfl rfl (Y1 Zam rfl) ?_
  refine Za rfl rfl rfl (Yy rfl rfl) ?_
  refine Zb 2 rfl ?_
  refine Zt 65 rfl (fun hb => ?_) (fun hb => ?_)
  rotate_left
  ·replace H := Zp H hb
   refine Zb 3 rfl ?_
   refine Zg ?_
   refine Zc hK93 ?_
   refine Zk ?_
   refine Zi ?_
   refine Zl rfl (RV.tmp rfl RV.nil) rfl ?_
   obtain rfl := Option.some.inj H
   replace hS := hS.cut 0
   exact ⟨rfl, hS⟩
  replace H := Zq H hb
  obtain ⟨r96, hm97, H⟩ := bind_some H
  refine Zr rfl rfl rfl rfl (by kernel_rfl) rfl (Xm _ hm97) ?_
  rintro e w ⟨rfl, hN⟩; refine ⟨_, rfl, ?_⟩; have hB := hN.pure; have hS := hS.join hN; clear hN
  refine Zb 2 rfl ?_
  refine Zg ?_
  refine Zc hK93 ?_
  refine Zk ?_
  refine Zi ?_
  refine Zl rfl (RV.tmp rfl RV.nil) rfl ?_
  obtain rfl := Option.some.inj H
  replace hS := hS.cut 0
  exact ⟨rfl, hS⟩
 replace H := Zp H hb
 refine Za rfl rfl rfl (Zj Yp rfl (RW.here _) hS hs18 trivial Yb) ?_
 refine Za rfl rfl rfl (Zj X7 rfl (RW.here _) hS hs17 trivial Xj) ?_
 obtain ⟨r98, hm99, H⟩ := bind_some H
 refine Zr rfl rfl rfl rfl (by kernel_rfl) rfl (c_ref21_To x0 x1 A0_ c0_ A1_ c1_ A2_ c2_ A3_ c3_ A4_ c4_ A5_ c5_ _ (SlI.of_rd s0_.k (hS.rd0 s0_.rd) (hS.blk0 s0_.blk)) (SlI.of_rd s1_.k (hS.rd0 s1_.rd) (hS.blk0 s1_.blk)) (SlI.of_rd s2_.k (hS.rd0 s2_.rd) (hS.blk0 s2_.blk)) (SlI.of_rd s3_.k (hS.rd0 s3_.rd) (hS.blk0 s3_.blk)) (SlI.of_rd s4_.k (hS.rd0 s4_.rd) (hS.blk0 s4_.blk)) (SlI.of_rd s5_.k (hS.rd0 s5_.rd) (hS.blk0 s5_.blk)) hm99) ?_
 rintro e w ⟨rfl, hN⟩; refine ⟨_, rfl, ?_⟩; have hB := hN.pure; have hS := hS.join hN; clear hN
 refine Za rfl rfl rfl (Yt rfl) ?_
 refine Zb 1 rfl ?_
 refine Zg ?_
 refine Zc hK92 ?_
 refine Z0 rfl (fun hb => ?_) (fun hb => ?_)
 ·replace H := Zq H hb
  refine Zd (fun K hK100 => ?_)
  refine Zf ?_
  refine Za rfl rfl rfl (Zj Yp rfl (RW.here _) hS hs0 trivial Yb) ?_
  refine Za rfl rfl rfl (Zj Yp rfl (RW.here _) hS hs18 trivial Yb) ?_
  obtain ⟨r101, hm102, H⟩ := bind_some H
  refine Zr rfl rfl rfl rfl (by kernel_rfl) rfl (Za6 r59.1 x0 A61 c62 A65 c66 A69 c70 A73 c74 A77 c78 A0_ c0_ A1_ c1_ A2_ c2_ A3_ c3_ A4_ c4_ _ (SlI.of_rd k63 (hS.rd Xt) (hS.rd_blk Xt)) (SlI.of_rd k67 (hS.row_rd Vh) (hS.row_blk Vh)) (SlI.of_rd k71 (hS.row_rd hs3) (hS.row_blk hs3)) (SlI.of_rd k75 (hS.row_rd hs4) (hS.row_blk hs4)) (SlI.of_rd k79 (hS.row_rd hs5) (hS.row_blk hs5)) (SlI.of_rd s0_.k (hS.rd0 s0_.rd) (hS.blk0 s0_.blk)) (SlI.of_rd s1_.k (hS.rd0 s1_.rd) (hS.blk0 s1_.blk)) (SlI.of_rd s2_.k (hS.rd0 s2_.rd) (hS.blk0 s2_.blk)) (SlI.of_rd s3_.k (hS.rd0 s3_.rd) (hS.blk0 s3_.blk)) (SlI.of_rd s4_.k (hS.rd0 s4_.rd) (hS.blk0 s4_.blk)) hm102) ?_
  rintro e w ⟨rfl, hN⟩; refine ⟨_, rfl, ?_⟩; have hB := hN.pure; have hS := hS.join hN; clear hN
  refine Zb 1 rfl ?_
  refine Zt 60 rfl (fun hb => ?_) (fun hb => ?_)
  rotate_left
  ·replace H := Zp H hb
   refine Zb 8 rfl ?_
   refine Zg ?_
   refine Zc hK100 ?_
   refine Zk ?_
   refine Zi ?_
   refine Zl rfl (RV.tmp rfl RV.nil) rfl ?_
   obtain rfl := Option.some.inj H
   replace hS := hS.cut 0
   exact ⟨rfl, hS⟩
  replace H := Zq H hb
  refine Zb 1 rfl ?_
  refine Za rfl rfl rfl (Y1 Zam rfl) ?_
  refine Za rfl rfl rfl (Yy rfl rfl) ?_
  refine Zb 2 rfl ?_
  refine Zt 65 rfl (fun hb => ?_) (fun hb => ?_)
  rotate_left
  ·replace H := Zp H hb
   refine Zb 3 rfl ?_
   refine Zg ?_
   refine Zc hK100 ?_
   refine Zk ?_
   refine Zi ?_
   refine Zl rfl (RV.tmp rfl RV.nil) rfl ?_
   obtain rfl := Option.some.inj H
   replace hS := hS.cut 0
   exact ⟨rfl, hS⟩
  replace H := Zq H hb
  obtain ⟨r103, hm104, H⟩ := bind_some H
  refine Zr rfl rfl rfl rfl (by kernel_rfl) rfl (Xm _ hm104) ?_
  rintro e w ⟨rfl, hN⟩; refine ⟨_, rfl, ?_⟩; have hB := hN.pure; have hS := hS.join hN; clear hN
  refine Zb 2 rfl ?_
  refine Zg ?_
  refine Zc hK100 ?_
  refine Zk ?_
  refine Zi ?_
  refine Zl rfl (RV.tmp rfl RV.nil) rfl ?_
  obtain rfl := Option.some.inj H
  replace hS := hS.cut 0
  exact ⟨rfl, hS⟩
 replace H := Zp H hb
 refine Zu ?_
 refine Zc hK91 ?_
 refine Zd (fun K hK105 => ?_)
 refine Zd (fun K hK106 => ?_)
 refine Zf ?_
 refine Za rfl rfl rfl (Ze Za8 rfl) ?_
 refine Za rfl rfl rfl (Zh Zx rfl (RW.here _) hS hs17 trivial Zag) ?_
 refine Za rfl rfl rfl (Ze Yu rfl) ?_
 refine Za rfl rfl rfl (Ze Xs rfl) ?_
 refine Za rfl rfl rfl (Zh Zx rfl (RW.here _) hS hs18 trivial V0) ?_
 refine Za rfl rfl rfl (Zbk rfl rfl) ?_
 refine Zg ?_
 refine Zc hK106 ?_
 refine Z0 rfl (fun hb => ?_) (fun hb => ?_)
 ·replace H := Zq H hb
  refine Zd (fun K hK107 => ?_)
  refine Zf ?_
  refine Za rfl rfl rfl (Ze Yu rfl) ?_
  refine Za rfl rfl rfl (Ze Xs rfl) ?_
  refine Za rfl rfl rfl (Zh Zx rfl (RW.here _) hS hs0 trivial V0) ?_
  refine Za rfl rfl rfl (Ze Za8 rfl) ?_
  refine Za rfl rfl rfl (Zh Zx rfl (RW.here _) hS hs17 trivial Zag) ?_
  refine Za rfl rfl rfl (Yy rfl rfl) ?_
  refine Zb 1 rfl ?_
  refine Zt 80 rfl (fun hb => ?_) (fun hb => ?_)
  rotate_left
  ·replace H := Zp H hb
   refine Zb 3 rfl ?_
   refine Zg ?_
   refine Zc hK107 ?_
   refine Zk ?_
   refine Zi ?_
   refine Zl rfl (RV.tmp rfl RV.nil) rfl ?_
   obtain rfl := Option.some.inj H
   replace hS := hS.cut 0
   exact ⟨rfl, hS⟩
  replace H := Zq H hb
  obtain ⟨r108, hm109, H⟩ := bind_some H
  refine Zr rfl rfl rfl rfl (by kernel_rfl) rfl (Xm _ hm109) ?_
  rintro e w ⟨rfl, hN⟩; refine ⟨_, rfl, ?_⟩; have hB := hN.pure; have hS := hS.join hN; clear hN
  refine Zb 2 rfl ?_
  refine Zg ?_
  refine Zc hK107 ?_
  refine Zk ?_
  refine Zi ?_
  refine Zl rfl (RV.tmp rfl RV.nil) rfl ?_
  obtain rfl := Option.some.inj H
  replace hS := hS.cut 0
  exact ⟨rfl, hS⟩
 replace H := Zp H hb
 refine Zu ?_
 refine Zc hK105 ?_
 refine Zd (fun K hK110 => ?_)
 refine Yo 38 [] (fun _ _ => True) ⟨by kernel_rfl, by kernel_rfl⟩ hS (fun w hS hB => ?_)
 refine Zm [true, true, true, true] (by decide +kernel) (by repeat (first | exact PF.body | exact PF.round | apply PF.then | apply PF.inBlock | apply PF.jump)) ?_
 refine LtK.put rfl rfl rfl (Zn rfl) ?_
 refine LtK.put rfl rfl rfl (Y1 Zam rfl) ?_
 refine LtK.put rfl rfl rfl (Yy rfl rfl) ?_
 refine LtK.put rfl rfl rfl (Zn rfl) ?_
 refine LtK.nil ?_
 refine Y8 86 rfl (fun hb => ?_) (fun hb => ?_)
 rotate_left
 ·replace H := Zp H hb
  refine Zm [false, false, false, false, true, true, true, true, true, true, true, true, true, true, true, true, true, true, true, true, true, true, true, true, true, true, true, true, true, true, true, true, true, true, true] (by decide +kernel) (by repeat (first | exact PF.body | exact PF.round | apply PF.then | apply PF.inBlock | apply PF.jump)) ?_
  refine LtK.skip rfl rfl rfl ?_
  refine LtK.skip rfl rfl rfl ?_
  refine LtK.skip rfl rfl rfl ?_
  refine LtK.skip rfl rfl rfl ?_
  refine LtK.skip rfl rfl rfl ?_
  refine LtK.put rfl rfl rfl (Zz rfl rfl rfl) ?_
  refine LtK.put rfl rfl rfl (Zn rfl) ?_
  refine LtK.skip rfl rfl rfl ?_
  refine LtK.skip rfl rfl rfl ?_
  refine LtK.skip rfl rfl rfl ?_
  refine LtK.skip rfl rfl rfl ?_
  refine LtK.skip rfl rfl rfl ?_
  refine LtK.skip rfl rfl rfl ?_
  refine LtK.skip rfl rfl rfl ?_
  refine LtK.skip rfl rfl rfl ?_
  refine LtK.put rfl rfl rfl (Zz rfl rfl rfl) ?_
  refine LtK.put rfl rfl rfl (Zn rfl) ?_
  refine LtK.skip rfl rfl rfl ?_
  refine LtK.skip rfl rfl rfl ?_
  refine LtK.skip rfl rfl rfl ?_
  refine LtK.skip rfl rfl rfl ?_
  refine LtK.skip rfl rfl rfl ?_
  refine LtK.put rfl rfl rfl (Zz rfl rfl rfl) ?_
  refine LtK.put rfl rfl rfl (Zn rfl) ?_
  refine LtK.skip rfl rfl rfl ?_
  refine LtK.skip rfl rfl rfl ?_
  refine LtK.skip rfl rfl rfl ?_
  refine LtK.skip rfl rfl rfl ?_
  refine LtK.skip rfl rfl rfl ?_
  refine LtK.put rfl rfl rfl (Zz rfl rfl rfl) ?_
  refine LtK.put rfl rfl rfl (Zn rfl) ?_
  refine LtK.nil ?_
  refine Z7 [false, false, false, false, false, false, false, false, false, false, false, false, false, false, false, false, false, false, false, false, false, false, false, false, false, false, false, false, false, false, false, false, false, false, false, true] 35 ⟨by decide, by kernel_rfl, by kernel_rfl⟩ rfl rfl ?_
  try dsimp only [Z2]
  refine Yz rfl rfl rfl ?_
  refine Zg ?_
  refine Yf (Below.refl _ _) ?_
  refine Zm [false, false, false, false, false, false, false, false, false, false, false, false, false, false, false, false, false, false, false, false, false, false, false, false, false, false, false, false, false, false, false, false, false, false, false, false, true, true] (by decide +kernel) (by repeat (first | exact PF.body | exact PF.round | apply PF.then | apply PF.inBlock | apply PF.jump)) ?_
  refine LtK.put rfl rfl rfl (Zz rfl rfl rfl) ?_
  refine LtK.put rfl rfl rfl (Z4 rfl) ?_
  refine LtK.nil ?_
  refine Z8 (by kernel_rfl) ?_
  refine Zc hK110 ?_
  refine Zk ?_
  refine Zl rfl (RV.tmp rfl RV.nil) rfl ?_
  obtain rfl := Option.some.inj H
  replace hS := hS.cut 0
  exact ⟨rfl, hS⟩
 replace H := Zq H hb
 refine Zm [false, false, false, false, true, true, true, true, true, true, true] (by decide +kernel) (by repeat (first | exact PF.body | exact PF.round | apply PF.then | apply PF.inBlock | apply PF.jump)) ?_
 refine LtK.put rfl rfl rfl (Zn rfl) ?_
 obtain ⟨e111, hi113, H⟩ := bind_some H
 obtain ⟨j112, A114, c115, hi113a, hi113b, hi113c⟩ := idxQ (q := q85) hq86 hi113
 refine LtK.put rfl rfl rfl (Xo Zam rfl rfl hi113a hi113c (Rd.el (hS.rd hs6) Vr hi113b)) ?_
 refine LtK.put rfl rfl rfl (Vc fo_32_8 rfl (Rd.el (hS.rd hs6) Vr hi113b)) ?_
 refine LtK.put rfl rfl rfl (yx_ld sc_4 rfl (RW.below _) (Rd.el (hS.rd hs6) Vr hi113b) rfl) ?_
 refine LtK.put rfl rfl rfl (Yt rfl) ?_
 refine LtK.put rfl rfl rfl (Zw rfl rfl rfl) ?_
 refine LtK.put rfl rfl rfl (Zn rfl) ?_
 refine LtK.nil ?_
 refine Y8 93 rfl (fun hb => ?_) (fun hb => ?_)
 rotate_left
 ·replace H := Zp H hb
  refine Zm [false, false, false, false, false, false, false, false, false, false, false, true, true, true, true, true, true, true, true, true, true, true, true, true, true, true, true, true, true, true, true, true, true, true, true] (by decide +kernel) (by repeat (first | exact PF.body | exact PF.round | apply PF.then | apply PF.inBlock | apply PF.jump)) ?_
  refine LtK.skip rfl rfl rfl ?_
  refine LtK.skip rfl rfl rfl ?_
  refine LtK.skip rfl rfl rfl ?_
  refine LtK.skip rfl rfl rfl ?_
  refine LtK.skip rfl rfl rfl ?_
  refine LtK.skip rfl rfl rfl ?_
  refine LtK.skip rfl rfl rfl ?_
  refine LtK.skip rfl rfl rfl ?_
  refine LtK.put rfl rfl rfl (Zz rfl rfl rfl) ?_
  refine LtK.put rfl rfl rfl (Zn rfl) ?_
  refine LtK.skip rfl rfl rfl ?_
  refine LtK.skip rfl rfl rfl ?_
  refine LtK.skip rfl rfl rfl ?_
  refine LtK.skip rfl rfl rfl ?_
  refine LtK.skip rfl rfl rfl ?_
  refine LtK.put rfl rfl rfl (Zz rfl rfl rfl) ?_
  refine LtK.put rfl rfl rfl (Zn rfl) ?_
  refine LtK.skip rfl rfl rfl ?_
  refine LtK.skip rfl rfl rfl ?_
  refine LtK.skip rfl rfl rfl ?_
  refine LtK.skip rfl rfl rfl ?_
  refine LtK.skip rfl rfl rfl ?_
  refine LtK.put rfl rfl rfl (Zz rfl rfl rfl) ?_
  refine LtK.put rfl rfl rfl (Zn rfl) ?_
  refine LtK.nil ?_
  refine Z7 [false, false, false, false, false, false, false, false, false, false, false, false, false, false, false, false, false, false, false, false, false, false, false, false, false, false, false, false, false, false, false, false, false, false, false, true] 35 ⟨by decide, by kernel_rfl, by kernel_rfl⟩ rfl rfl ?_
  try dsimp only [Z2]
  refine Yz rfl rfl rfl ?_
  refine Zg ?_
  refine Yf (Below.refl _ _) ?_
  refine Zm [false, false, false, false, false, false, false, false, false, false, false, false, false, false, false, false, false, false, false, false, false, false, false, false, false, false, false, false, false, false, false, false, false, false, false, false, true, true] (by decide +kernel) (by repeat (first | exact PF.body | exact PF.round | apply PF.then | apply PF.inBlock | apply PF.jump)) ?_
  refine LtK.put rfl rfl rfl (Zz rfl rfl rfl) ?_
  refine LtK.put rfl rfl rfl (Z4 rfl) ?_
  refine LtK.nil ?_
  refine Z8 (by kernel_rfl) ?_
  refine Zc hK110 ?_
  refine Zk ?_
  refine Zl rfl (RV.tmp rfl RV.nil) rfl ?_
  obtain rfl := Option.some.inj H
  replace hS := hS.cut 0
  exact ⟨rfl, hS⟩
 replace H := Zq H hb
 refine Zm [false, false, false, false, false, false, false, false, false, false, false, true, true, true, true, true, true, true, true, true, true] (by decide +kernel) (by repeat (first | exact PF.body | exact PF.round | apply PF.then | apply PF.inBlock | apply PF.jump)) ?_
 refine LtK.put rfl rfl rfl (Zn rfl) ?_
 obtain ⟨e116, hi118, H⟩ := bind_some H
 obtain ⟨j117, A119, c120, hi118a, hi118b, hi118c⟩ := idxQ (q := q85) hq86 hi118
 refine LtK.put rfl rfl rfl (Xo Zam rfl rfl hi118a hi118c (Rd.el (hS.rd hs6) Vr hi118b)) ?_
 refine LtK.put rfl rfl rfl (Vc Za8 rfl (Rd.el (hS.rd hs6) Vr hi118b)) ?_
 refine LtK.put rfl rfl rfl (yx_ld Zx rfl (RW.below _) (Rd.el (hS.rd hs6) Vr hi118b) rfl) ?_
 refine LtK.put rfl rfl rfl (Ze Yu rfl) ?_
 refine LtK.put rfl rfl rfl (Ze Xs rfl) ?_
 refine LtK.put rfl rfl rfl (Zh Zx rfl (RW.below _) hS hs18 trivial V0) ?_
 refine LtK.put rfl rfl rfl (Yy rfl rfl) ?_
 refine LtK.put rfl rfl rfl (Zw rfl rfl rfl) ?_
 refine LtK.put rfl rfl rfl (Zn rfl) ?_
 refine LtK.nil ?_
 refine Y8 103 rfl (fun hb => ?_) (fun hb => ?_)
 rotate_left
 ·replace H := Zp H hb
  refine Zm [false, false, false, false, false, false, false, false, false, false, false, false, false, false, false, false, false, false, false, false, false, true, true, true, true, true, true, true, true, true, true, true, true, true, true] (by decide +kernel) (by repeat (first | exact PF.body | exact PF.round | apply PF.then | apply PF.inBlock | apply PF.jump)) ?_
  refine LtK.skip rfl rfl rfl ?_
  refine LtK.skip rfl rfl rfl ?_
  refine LtK.skip rfl rfl rfl ?_
  refine LtK.skip rfl rfl rfl ?_
  refine LtK.skip rfl rfl rfl ?_
  refine LtK.put rfl rfl rfl (Zz rfl rfl rfl) ?_
  refine LtK.put rfl rfl rfl (Zn rfl) ?_
  refine LtK.skip rfl rfl rfl ?_
  refine LtK.skip rfl rfl rfl ?_
  refine LtK.skip rfl rfl rfl ?_
  refine LtK.skip rfl rfl rfl ?_
  refine LtK.skip rfl rfl rfl ?_
  refine LtK.put rfl rfl rfl (Zz rfl rfl rfl) ?_
  refine LtK.put rfl rfl rfl (Zn rfl) ?_
  refine LtK.nil ?_
  refine Z7 [false, false, false, false, false, false, false, false, false, false, false, false, false, false, false, false, false, false, false, false, false, false, false, false, false, false, false, false, false, false, false, false, false, false, false, true] 35 ⟨by decide, by kernel_rfl, by kernel_rfl⟩ rfl rfl ?_
  try dsimp only [Z2]
  refine Yz rfl rfl rfl ?_
  refine Zg ?_
  refine Yf (Below.refl _ _) ?_
  refine Zm [false, false, false, false, false, false, false, false, false, false, false, false, false, false, false, false, false, false, false, false, false, false, false, false, false, false, false, false, false, false, false, false, false, false, false, false, true, true] (by decide +kernel) (by repeat (first | exact PF.body | exact PF.round | apply PF.then | apply PF.inBlock | apply PF.jump)) ?_
  refine LtK.put rfl rfl rfl (Zz rfl rfl rfl) ?_
  refine LtK.put rfl rfl rfl (Z4 rfl) ?_
  refine LtK.nil ?_
  refine Z8 (by kernel_rfl) ?_
  refine Zc hK110 ?_
  refine Zk ?_
  refine Zl rfl (RV.tmp rfl RV.nil) rfl ?_
  obtain rfl := Option.some.inj H
  replace hS := hS.cut 0
  exact ⟨rfl, hS⟩
 replace H := Zq H hb
 refine Zm [false, false, false, false, false, false, false, false, false, false, false, false, false, false, false, false, false, false, false, false, false, true, true, true, true, true, true, true] (by decide +kernel) (by repeat (first | exact PF.body | exact PF.round | apply PF.then | apply PF.inBlock | apply PF.jump)) ?_
 refine LtK.put rfl rfl rfl (Ze Zah rfl) ?_
 refine LtK.put rfl rfl rfl (Zh Zx rfl (RW.below _) hS hs0 trivial Zbs) ?_
 refine LtK.put rfl rfl rfl (Ze Zah rfl) ?_
 refine LtK.put rfl rfl rfl (Zh Zx rfl (RW.below _) hS hs18 trivial Zbs) ?_
 refine LtK.put rfl rfl rfl (Yy rfl rfl) ?_
 refine LtK.put rfl rfl rfl (Zw rfl rfl rfl) ?_
 refine LtK.put rfl rfl rfl (Zn rfl) ?_
 refine LtK.nil ?_
 refine Y8 110 rfl (fun hb => ?_) (fun hb => ?_)
 rotate_left
 ·replace H := Zp H hb
  refine Zm [false, false, false, false, false, false, false, false, false, false, false, false, false, false, false, false, false, false, false, false, false, false, false, false, false, false, false, false, true, true, true, true, true, true, true] (by decide +kernel) (by repeat (first | exact PF.body | exact PF.round | apply PF.then | apply PF.inBlock | apply PF.jump)) ?_
  refine LtK.skip rfl rfl rfl ?_
  refine LtK.skip rfl rfl rfl ?_
  refine LtK.skip rfl rfl rfl ?_
  refine LtK.skip rfl rfl rfl ?_
  refine LtK.skip rfl rfl rfl ?_
  refine LtK.put rfl rfl rfl (Zz rfl rfl rfl) ?_
  refine LtK.put rfl rfl rfl (Zn rfl) ?_
  refine LtK.nil ?_
  refine Z7 [false, false, false, false, false, false, false, false, false, false, false, false, false, false, false, false, false, false, false, false, false, false, false, false, false, false, false, false, false, false, false, false, false, false, false, true] 35 ⟨by decide, by kernel_rfl, by kernel_rfl⟩ rfl rfl ?_
  try dsimp only [Z2]
  refine Yz rfl rfl rfl ?_
  refine Zg ?_
  refine Yf (Below.refl _ _) ?_
  refine Zm [false, false, false, false, false, false, false, false, false, false, false, false, false, false, false, false, false, false, false, false, false, false, false, false, false, false, false, false, false, false, false, false, false, false, false, false, true, true] (by decide +kernel) (by repeat (first | exact PF.body | exact PF.round | apply PF.then | apply PF.inBlock | apply PF.jump)) ?_
  refine LtK.put rfl rfl rfl (Zz rfl rfl rfl) ?_
  refine LtK.put rfl rfl rfl (Z4 rfl) ?_
  refine LtK.nil ?_
  refine Z8 (by kernel_rfl) ?_
  refine Zc hK110 ?_
  refine Zk ?_
  refine Zl rfl (RV.tmp rfl RV.nil) rfl ?_
  obtain rfl := Option.some.inj H
  replace hS := hS.cut 0
  exact ⟨rfl, hS⟩
 replace H := Zq H hb
 refine Zm [false, false, false, false, false, false, false, false, false, false, false, false, false, false, false, false, false, false, false, false, false, false, false, false, false, false, false, false, true, true, true, true, true, true, true] (by decide +kernel) (by repeat (first | exact PF.body | exact PF.round | apply PF.then | apply PF.inBlock | apply PF.jump)) ?_
 refine LtK.put rfl rfl rfl (Ze J6 rfl) ?_
 refine LtK.put rfl rfl rfl (Zh Zai rfl (RW.below _) hS hs0 trivial J9) ?_
 refine LtK.put rfl rfl rfl (Ze J6 rfl) ?_
 refine LtK.put rfl rfl rfl (Zh Zai rfl (RW.below _) hS hs18 trivial J9) ?_
 refine LtK.put rfl rfl rfl (Yy rfl rfl) ?_
 refine LtK.put rfl rfl rfl (Zw rfl rfl rfl) ?_
 refine LtK.put rfl rfl rfl (Zn rfl) ?_
 refine LtK.nil ?_
 refine Y8 117 rfl (fun hb => ?_) (fun hb => ?_)
 rotate_left
 ·replace H := Zp H hb
  refine Z7 [false, false, false, false, false, false, false, false, false, false, false, false, false, false, false, false, false, false, false, false, false, false, false, false, false, false, false, false, false, false, false, false, false, false, false, true] 35 ⟨by decide, by kernel_rfl, by kernel_rfl⟩ rfl rfl ?_
  try dsimp only [Z2]
  refine Yz rfl rfl rfl ?_
  refine Zg ?_
  refine Yf (Below.refl _ _) ?_
  refine Zm [false, false, false, false, false, false, false, false, false, false, false, false, false, false, false, false, false, false, false, false, false, false, false, false, false, false, false, false, false, false, false, false, false, false, false, false, true, true] (by decide +kernel) (by repeat (first | exact PF.body | exact PF.round | apply PF.then | apply PF.inBlock | apply PF.jump)) ?_
  refine LtK.put rfl rfl rfl (Zz rfl rfl rfl) ?_
  refine LtK.put rfl rfl rfl (Z4 rfl) ?_
  refine LtK.nil ?_
  refine Z8 (by kernel_rfl) ?_
  refine Zc hK110 ?_
  refine Zk ?_
  refine Zl rfl (RV.tmp rfl RV.nil) rfl ?_
  obtain rfl := Option.some.inj H
  replace hS := hS.cut 0
  exact ⟨rfl, hS⟩
 replace H := Zq H hb
 refine Z7 [false, false, false, false, false, false, false, false, false, false, false, false, false, false, false, false, false, false, false, false, false, false, false, false, false, false, false, false, false, false, false, false, false, false, false, true] 35 ⟨by decide, by kernel_rfl, by kernel_rfl⟩ rfl rfl ?_
 try dsimp only [Z2]
 obtain ⟨r121, hm122, H⟩ := bind_some H
 refine Zr rfl rfl rfl rfl (by kernel_rfl) rfl (Xm _ hm122) ?_
 rintro e w ⟨rfl, hN⟩; refine ⟨_, rfl, ?_⟩; have hB := hN.pure; have hS := hS.join hN; clear hN
 refine Zg ?_
 refine Yf hB ?_
 refine Zm [false, false, false, false, false, false, false, false, false, false, false, false, false, false, false, false, false, false, false, false, false, false, false, false, false, false, false, false, false, false, false, false, false, false, false, false, true, true] (by decide +kernel) (by repeat (first | exact PF.body | exact PF.round | apply PF.then | apply PF.inBlock | apply PF.jump)) ?_
 refine LtK.put rfl rfl rfl (Zw rfl rfl rfl) ?_
 refine LtK.put rfl rfl rfl (Z4 rfl) ?_
 refine LtK.nil ?_
 refine Z8 (by kernel_rfl) ?_
 refine Zc hK110 ?_
 refine Zk ?_
 refine Zl rfl (RV.tmp rfl RV.nil) rfl ?_
 obtain rfl := Option.some.inj H
 replace hS := hS.cut 0
 exact ⟨rfl, hS⟩
end Go.Proofs.Ytenagnncpaabdaa
