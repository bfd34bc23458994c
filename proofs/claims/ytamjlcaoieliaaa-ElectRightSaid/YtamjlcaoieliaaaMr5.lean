/- Texts of one claim put together. -/
import Derived.Test.YtamjlcaoieliaaaMr1
import Derived.Test.YtamjlcaoieliaaaMr2
import Derived.Test.YtamjlcaoieliaaaMr4
namespace Go.Proofs.Ytamjlcaoieliaaa
open Go Go.RowKit
set_option maxRecDepth 100000
set_option maxHeartbeats 4000000
theorem c_elect_Vote (x0 : Co) (x1 : Ms) (A0_ : OA) (c0_ : Nat) (A1_ : OA) (c1_ : Nat) (A2_ : OA) (c2_ : Nat) (A3_ : OA) (c3_ : Nat) (A4_ : OA) (c4_ : Nat) (A5_ : OA) (c5_ : Nat) (w0 : World) (s0_ : SlI w0 enE A0_ c0_ x0.tuple.log) (s1_ : SlI w0 enO A1_ c1_ x0.votes) (s2_ : SlI w0 Vr A2_ c2_ x0.next) (s3_ : SlI w0 Vr A3_ c3_ x0.mtch) (s4_ : SlI w0 Vr A4_ c4_ x0.caps) (s5_ : SlW w0 enE A5_ c5_ x1.entries) {r : Co × List Ms} (H : V9 x0 x1 = some r) : Calls Try.prog 18 #[.agg #[.int .i64 x0.id, .int .i64 x0.n, .int .u8 x0.role, .int .i64 x0.binary, .int .i64 x0.tuple.snap.index, .int .i64 x0.tuple.snap.term, .int .i64 x0.tuple.snap.sum, .int .i64 x0.tuple.snap.level, .bool x0.tuple.snap.final, .slice A0_ x0.tuple.log.length c0_, .int .i64 x0.tuple.term, .int .i64 x0.tuple.vote, .int .i64 x0.commit, .int .i64 x0.applied.index, .int .i64 x0.applied.term, .int .i64 x0.applied.sum, .int .i64 x0.applied.level, .bool x0.applied.final, .slice A1_ x0.votes.length c1_, .slice A2_ x0.next.length c2_, .slice A3_ x0.mtch.length c3_, .slice A4_ x0.caps.length c4_], .agg #[.int .u8 x1.kind, .int .i64 x1.frm, .int .i64 x1.dst, .int .i64 x1.term, .int .i64 x1.cap, .int .i64 x1.last, .int .i64 x1.lastTerm, .int .i64 x1.commit, .bool x1.okk, .slice A5_ x1.entries.length c5_, .int .i64 x1.snap.index, .int .i64 x1.snap.term, .int .i64 x1.snap.sum, .int .i64 x1.snap.level, .bool x1.snap.final]] w0 fun e w' => ∃ (A0 : OA) (c0 : Nat) (A1 : OA) (c1 : Nat) (A2 : OA) (c2 : Nat) (A3 : OA) (c3 : Nat) (A4 : OA) (c4 : Nat) (A5 : OA) (c5 : Nat) (q5 : List Mq), e = .returned (.tuple #[.agg #[.int .i64 r.1.id, .int .i64 r.1.n, .int .u8 r.1.role, .int .i64 r.1.binary, .int .i64 r.1.tuple.snap.index, .int .i64 r.1.tuple.snap.term, .int .i64 r.1.tuple.snap.sum, .int .i64 r.1.tuple.snap.level, .bool r.1.tuple.snap.final, .slice A0 r.1.tuple.log.length c0, .int .i64 r.1.tuple.term, .int .i64 r.1.tuple.vote, .int .i64 r.1.commit, .int .i64 r.1.applied.index, .int .i64 r.1.applied.term, .int .i64 r.1.applied.sum, .int .i64 r.1.applied.level, .bool r.1.applied.final, .slice A1 r.1.votes.length c1, .slice A2 r.1.next.length c2, .slice A3 r.1.mtch.length c3, .slice A4 r.1.caps.length c4], .slice A5 r.2.length c5]) ∧ (r.1.tuple.log.length ≤ c0 ∧ c0 ≤ maxLen) ∧ (r.1.votes.length ≤ c1 ∧ c1 ≤ maxLen) ∧ (r.1.next.length ≤ c2 ∧ c2 ≤ maxLen) ∧ (r.1.mtch.length ≤ c3 ∧ c3 ≤ maxLen) ∧ (r.1.caps.length ≤ c4 ∧ c4 ≤ maxLen) ∧ (r.2.length ≤ c5 ∧ c5 ≤ maxLen) ∧ q5.map Mq.m = r.2 ∧ (∀ y ∈ q5, okQ y) ∧ St0 All w0 w' [.rd A0 (Z8 enE r.1.tuple.log), .row (.slice A1 r.1.votes.length c1) 4 1 r.1.votes.length (Z8 enO r.1.votes), .row (.slice A2 r.1.next.length c2) 3 1 r.1.next.length (Z8 Vr r.1.next), .row (.slice A3 r.1.mtch.length c3) 3 1 r.1.mtch.length (Z8 Vr r.1.mtch), .row (.slice A4 r.1.caps.length c4) 3 1 r.1.caps.length (Z8 Vr r.1.caps), .rd A5 (Z8 enQ q5), .rds (q5.map Zfk)] := by
 unfold V9 at H
 refine Xw Try.func18 rfl Try.ntmps18 rfl ?_
 have hS := St0.start All w0
 refine Zf (fun K hK1 => Zg (Yq rfl rfl rfl CellsOf.agg hS (fun b2 w hS hB => Yq rfl rfl rfl CellsOf.agg hS (fun b4 w hS hB => Yr rfl rfl Zcn hS (fun b6 w hS hB => Zb 1 rfl (Zh (Zd hK1 ?_)))))))
 refine Zf (fun K hK8 => Zf (fun K hK9 => Zg (Za rfl rfl rfl (Zk Ya rfl (Zgf _) hS Vt trivial Z1) (Za rfl rfl rfl (Zk Vz rfl (Zgf _) hS X9 trivial X7) ?_))))
 obtain ⟨r10, hm11, H⟩ := bind_some H
 refine Zt rfl rfl rfl rfl (by kernel_rfl) rfl (c_elect_fits x0 x1 A0_ c0_ A1_ c1_ A2_ c2_ A3_ c3_ A4_ c4_ A5_ c5_ _ (Zgi s0_.k (hS.rd0 s0_.rd) (hS.blk0 s0_.blk)) (Zgi s1_.k (hS.rd0 s1_.rd) (hS.blk0 s1_.blk)) (Zgi s2_.k (hS.rd0 s2_.rd) (hS.blk0 s2_.blk)) (Zgi s3_.k (hS.rd0 s3_.rd) (hS.blk0 s3_.blk)) (Zgi s4_.k (hS.rd0 s4_.rd) (hS.blk0 s4_.blk)) (SlW.of_rd s5_.k (hS.rd0 s5_.rd)) hm11) ?_
 rintro e w ⟨rfl, hN⟩; refine ⟨_, rfl, ?_⟩; obtain ⟨hB, hS⟩ := hS.jn hN
 refine Za rfl rfl rfl (Yt rfl) (Zb 1 rfl (Zs 12 rfl (fun hb => ?_) (fun hb => ?_)))
 ·replace H := Zp H hb
  refine Zb 4 rfl (Zh (Zd hK9 (Zn rfl rfl (Zf (fun K hK13 => Zg (Za rfl rfl rfl (Zk Ya rfl (Zgf _) hS Vt trivial Z1) ?_))))))
  obtain ⟨r14, hm15, H⟩ := bind_some H
  refine Zt rfl rfl rfl rfl (by kernel_rfl) rfl (Zdg x0 A0_ c0_ A1_ c1_ A2_ c2_ A3_ c3_ A4_ c4_ _ (Zgi s0_.k (hS.rd0 s0_.rd) (hS.blk0 s0_.blk)) (Zgi s1_.k (hS.rd0 s1_.rd) (hS.blk0 s1_.blk)) (Zgi s2_.k (hS.rd0 s2_.rd) (hS.blk0 s2_.blk)) (Zgi s3_.k (hS.rd0 s3_.rd) (hS.blk0 s3_.blk)) (Zgi s4_.k (hS.rd0 s4_.rd) (hS.blk0 s4_.blk)) hm15) ?_
  rintro e w ⟨A16, c17, A20, c21, A24, c25, A28, c29, A32, c33, rfl, k18, k22, k26, k30, k34, hN⟩; refine ⟨_, rfl, ?_⟩; obtain ⟨hB, hS⟩ := hS.jn hN
  refine Zr rfl rfl rfl CellsOf.agg hS ps5 Yo (by kernel_rfl) rfl (fun w hS hB => Zb 1 rfl (Zh (Zd hK13 (Zl (Ze (Zm rfl (RV.cell rfl (Z3 Ya hS hs5 Z1) (RV.tmp rfl RV.nil)) rfl ?_))))))
  obtain rfl := QJ H
  have hS := hS.nilRds
  replace hS := hS.nilRd
  have hS := hS.front 6 rfl
  have hS := hS.front 6 rfl
  have hS := hS.front 6 rfl
  have hS := hS.front 6 rfl
  have hS := hS.front 6 rfl
  replace hS := hS.weak Weak.rowRd
  replace hS := hS.cut 7
  exact ⟨A16, c17, A20, c21, A24, c25, A28, c29, A32, c33, none, 0, ([] : List Mq), rfl, k18, k22, k26, k30, k34, ⟨Nat.le_refl _, Nat.zero_le _⟩, rfl, Vh, hS⟩
 replace H := Zq H hb
 refine Za rfl rfl rfl (Zc V3 rfl) (Za rfl rfl rfl (Zi Zbi rfl (Zgf _) hS X9 trivial Yw) (Za rfl rfl rfl (Yl rfl rfl) (Zb 1 rfl (Zh (Zd hK9 (Zx rfl (fun hb => ?_) (fun hb => ?_)))))))
 ·replace H := Zp H hb
  refine Zf (fun K hK38 => Zg (Za rfl rfl rfl (Zk Ya rfl (Zgf _) hS Vt trivial Z1) ?_))
  obtain ⟨r39, hm40, H⟩ := bind_some H
  refine Zt rfl rfl rfl rfl (by kernel_rfl) rfl (Zdg x0 A0_ c0_ A1_ c1_ A2_ c2_ A3_ c3_ A4_ c4_ _ (Zgi s0_.k (hS.rd0 s0_.rd) (hS.blk0 s0_.blk)) (Zgi s1_.k (hS.rd0 s1_.rd) (hS.blk0 s1_.blk)) (Zgi s2_.k (hS.rd0 s2_.rd) (hS.blk0 s2_.blk)) (Zgi s3_.k (hS.rd0 s3_.rd) (hS.blk0 s3_.blk)) (Zgi s4_.k (hS.rd0 s4_.rd) (hS.blk0 s4_.blk)) hm40) ?_
  rintro e w ⟨A41, c42, A45, c46, A49, c50, A53, c54, A57, c58, rfl, k43, k47, k51, k55, k59, hN⟩; refine ⟨_, rfl, ?_⟩; obtain ⟨hB, hS⟩ := hS.jn hN
  refine Zr rfl rfl rfl CellsOf.agg hS ps5 Yo (by kernel_rfl) rfl (fun w hS hB => Zb 1 rfl (Zh (Zd hK38 (Zl (Ze (Zm rfl (RV.cell rfl (Z3 Ya hS hs5 Z1) (RV.tmp rfl RV.nil)) rfl ?_))))))
  obtain rfl := QJ H
  have hS := hS.nilRds
  replace hS := hS.nilRd
  have hS := hS.front 6 rfl
  have hS := hS.front 6 rfl
  have hS := hS.front 6 rfl
  have hS := hS.front 6 rfl
  have hS := hS.front 6 rfl
  replace hS := hS.weak Weak.rowRd
  replace hS := hS.cut 7
  exact ⟨A41, c42, A45, c46, A49, c50, A53, c54, A57, c58, none, 0, ([] : List Mq), rfl, k43, k47, k51, k55, k59, ⟨Nat.le_refl _, Nat.zero_le _⟩, rfl, Vh, hS⟩
 replace H := Zq H hb
 refine Zv (Zd hK8 (Zf (fun K hK62 => Zg (Za rfl rfl rfl (Zk Ya rfl (Zgf _) hS Vt trivial Z1) (Za rfl rfl rfl (Zk Vz rfl (Zgf _) hS X9 trivial X7) ?_)))))
 obtain ⟨r63, hm64, H⟩ := bind_some H
 refine Zt rfl rfl rfl rfl (by kernel_rfl) rfl (c_elect_Meet x0 x1 A0_ c0_ A1_ c1_ A2_ c2_ A3_ c3_ A4_ c4_ A5_ c5_ _ (Zgi s0_.k (hS.rd0 s0_.rd) (hS.blk0 s0_.blk)) (Zgi s1_.k (hS.rd0 s1_.rd) (hS.blk0 s1_.blk)) (Zgi s2_.k (hS.rd0 s2_.rd) (hS.blk0 s2_.blk)) (Zgi s3_.k (hS.rd0 s3_.rd) (hS.blk0 s3_.blk)) (Zgi s4_.k (hS.rd0 s4_.rd) (hS.blk0 s4_.blk)) (SlW.of_rd s5_.k (hS.rd0 s5_.rd)) hm64) ?_
 rintro e w ⟨A65, c66, A69, c70, A73, c74, A77, c78, A81, c82, rfl, k67, k71, k75, k79, k83, hN⟩; refine ⟨_, rfl, ?_⟩; obtain ⟨hB, hS⟩ := hS.jn hN
 refine Zr rfl rfl rfl CellsOf.agg hS ps7 Yo (by kernel_rfl) rfl (fun w hS hB => Zh (Zd hK62 (Zf (fun K hK85 => Zg (Za rfl rfl rfl (Zc Zz rfl) (Za rfl rfl rfl (Zc Vq rfl) (Za rfl rfl rfl (Zi Zy rfl (Zgf _) hS hs7 trivial Zbz) ?_)))))))
 refine Za rfl rfl rfl (Xh rfl rfl) (Zb 1 rfl (Zs 26 rfl (fun hb => ?_) (fun hb => ?_)))
 ·replace H := Zp H hb
  refine Zb 8 rfl (Zh (Zd hK85 (Zf (fun K hK87 => Zg (Zb 2 rfl (Za rfl rfl rfl (Zc Zbg rfl) (Za rfl rfl rfl (Zi Zbi rfl (Zgf _) hS hs7 trivial Zbj) ?_)))))))
  refine Za rfl rfl rfl (Xh rfl rfl) (Zb 2 rfl (Zs 40 rfl (fun hb => ?_) (fun hb => ?_)))
  rotate_left
  ·replace H := Zq H hb
   refine Zb 16 rfl (Zh (Zd hK87 (Zf (fun K hK133 => Zf (fun K hK134 => Zg (Zb 1 rfl (Zh ?_)))))))
   refine Zd hK134 (Ym rfl rfl (Zv (Zd hK133 (Zf (fun K hK135 => Yh 8 [6] (fun i b => (i = 6 → b ≠ b6)) ⟨by kernel_rfl, by kernel_rfl⟩ hS (fun w hS hB => Zo [Tt,Tt,Tt,Tt] (by decide +kernel) PFC.h (LtK.put rfl rfl rfl (Zk Ya rfl (Zgg _) hS hs7 trivial Z1) ?_)))))))
   refine LtK.put rfl rfl rfl (Zk Ya rfl (Zgg _) hS hs7 trivial Z1) (LtK.put rfl rfl rfl (Zk Vz rfl (Zgg _) hS Vv trivial X7) (LtK.put rfl rfl rfl (Zu rfl) (LtK.nil (Yd [Ff,Ff,Ff,Ff,Tt] 4 ⟨by decide, by kernel_rfl, by kernel_rfl⟩ rfl rfl ?_))))
   try dsimp only [Z2]
   obtain ⟨r136, hm137, H⟩ := bind_some H
   refine Zt rfl rfl rfl rfl (by kernel_rfl) rfl (Zbp r63 x1 2 false 0 A65 c66 A69 c70 A73 c74 A77 c78 A81 c82 A5_ c5_ _ (Zgi k67 (hS.rd hs0) (hS.rd_blk hs0)) (Zgi k71 (hS.row_rd X9) (hS.row_blk X9)) (Zgi k75 (hS.row_rd Vt) (hS.row_blk Vt)) (Zgi k79 (hS.row_rd hs3) (hS.row_blk hs3)) (Zgi k83 (hS.row_rd hs4) (hS.row_blk hs4)) (SlW.of_rd s5_.k (hS.rd0 s5_.rd)) hm137) ?_
   rintro e w ⟨A138, c139, rfl, k140, hN⟩; refine ⟨_, rfl, ?_⟩; obtain ⟨hB, hS⟩ := hS.jn hN
   refine Zh (Ye hB (Zcb [5, 6] ⟨by decide, by kernel_rfl⟩ rfl (.call [Ff,Ff,Ff,Ff,Ff,Tt] 5 rfl rfl rfl ?_ (.put [Ff,Ff,Ff,Ff,Ff,Ff,Tt] 6 rfl rfl rfl ?_ .nil))))
   ·try dsimp only [Z2]
    refine Xi (ps := [(0, .tmp 72)]) [.int .u8 r136.kind, .int .i64 r136.frm, .int .i64 r136.dst, .int .i64 r136.term, .int .i64 r136.cap, .int .i64 r136.last, .int .i64 r136.lastTerm, .int .i64 r136.commit, .bool r136.okk, .slice A138 r136.entries.length c139, .int .i64 r136.snap.index, .int .i64 r136.snap.term, .int .i64 r136.snap.sum, .int .i64 r136.snap.level, .bool r136.snap.final] Y9 Zbu rfl rfl rfl rfl rfl (by kernel_rfl) hS (fun b142 w hS hB => Zh (Ye hB (Xa [Ff,Ff,Ff,Ff,Ff,Ff,Tt] 6 ⟨by decide, by kernel_rfl, by kernel_rfl⟩ rfl rfl ?_)))
    try dsimp only [Z2]
    refine Zr rfl rfl rfl CellsOf.agg hS ps7 Yo (by kernel_rfl) rfl (fun w hS hB => Zh (Yu (hB.sub (fun _ _ h => by simpa using h)) (Zo [Ff,Ff,Ff,Ff,Ff,Ff,Ff,Tt] (by decide +kernel) PFC.h (LtK.put rfl rfl rfl (Z7 rfl) (LtK.nil (Z5 (by kernel_rfl) (Zd hK135 ?_)))))))
    refine Zl (Zm rfl (RV.cell rfl (Z3 Ya hS hs7 Z1) (RV.tmp rfl RV.nil)) rfl ?_)
    obtain rfl := QJ H
    have hS := hS.nilRds
    replace hS := hS.front 2 rfl
    replace hS := hS.absorbQ ⟨r136, A138, c139⟩
    replace hS := hS.front 1 rfl
    replace hS := hS.weak Weak.boxRd
    have hS := hS.front 6 rfl
    have hS := hS.front 6 rfl
    have hS := hS.front 6 rfl
    have hS := hS.front 6 rfl
    have hS := hS.front 6 rfl
    replace hS := hS.cut 7
    exact ⟨A65, c66, A69, c70, A73, c74, A77, c78, A81, c82, (some ⟨b142, 0, none⟩), 1, ([⟨r136, A138, c139⟩] : List Mq), rfl, k67, k71, k75, k79, k83, ⟨Nat.le_refl 1, by decide⟩, rfl, (Jw k140 Vh), hS⟩
   ·try dsimp only [Z2]
    refine Zr rfl rfl rfl CellsOf.agg hS ps6 Yo (by kernel_rfl) rfl (fun w hS hB => Zh (Yu (hB.sub (fun _ _ h => by simpa using h)) (Yd [Ff,Ff,Ff,Ff,Ff,Tt] 5 ⟨by decide, by kernel_rfl, by kernel_rfl⟩ rfl rfl ?_)))
    try dsimp only [Z2]
    refine Xi (ps := [(0, .tmp 72)]) [.int .u8 r136.kind, .int .i64 r136.frm, .int .i64 r136.dst, .int .i64 r136.term, .int .i64 r136.cap, .int .i64 r136.last, .int .i64 r136.lastTerm, .int .i64 r136.commit, .bool r136.okk, .slice A138 r136.entries.length c139, .int .i64 r136.snap.index, .int .i64 r136.snap.term, .int .i64 r136.snap.sum, .int .i64 r136.snap.level, .bool r136.snap.final] Y9 Zbu rfl rfl rfl rfl rfl (by kernel_rfl) hS (fun b142 w hS hB => Zh (Ye hB (Zo [Ff,Ff,Ff,Ff,Ff,Ff,Ff,Tt] (by decide +kernel) PFC.h (LtK.put rfl rfl rfl (Z7 rfl) (LtK.nil (Z5 (by kernel_rfl) (Zd hK135 ?_)))))))
    refine Zl (Zm rfl (RV.cell rfl (Z3 Ya hS hs7 Z1) (RV.tmp rfl RV.nil)) rfl ?_)
    obtain rfl := QJ H
    have hS := hS.nilRds
    replace hS := hS.front 2 rfl
    replace hS := hS.absorbQ ⟨r136, A138, c139⟩
    replace hS := hS.front 1 rfl
    replace hS := hS.weak Weak.boxRd
    have hS := hS.front 6 rfl
    have hS := hS.front 6 rfl
    have hS := hS.front 6 rfl
    have hS := hS.front 6 rfl
    have hS := hS.front 6 rfl
    replace hS := hS.cut 7
    exact ⟨A65, c66, A69, c70, A73, c74, A77, c78, A81, c82, (some ⟨b142, 0, none⟩), 1, ([⟨r136, A138, c139⟩] : List Mq), rfl, k67, k71, k75, k79, k83, ⟨Nat.le_refl 1, by decide⟩, rfl, (Jw k140 Vh), hS⟩
  replace H := Zp H hb
  refine Za rfl rfl rfl (Zc Je rfl) (Za rfl rfl rfl (Zi Zy rfl (Zgf _) hS Vv trivial Zbe) (Za rfl rfl rfl (Zc Zz rfl) (Za rfl rfl rfl (Zc Xc rfl) (Za rfl rfl rfl (Zi Zy rfl (Zgf _) hS hs7 trivial Xv) (Za rfl rfl rfl (Xh rfl rfl) (Zb 2 rfl (Zs 48 rfl (fun hb => ?_) (fun hb => ?_))))))))
  rotate_left
  ·replace H := Zq H hb
   refine Zb 8 rfl (Zh (Zd hK87 (Zf (fun K hK121 => Zf (fun K hK122 => Zg (Zb 1 rfl (Zh ?_)))))))
   refine Zd hK122 (Ym rfl rfl (Zv (Zd hK121 (Zf (fun K hK123 => Yh 8 [6] (fun i b => (i = 6 → b ≠ b6)) ⟨by kernel_rfl, by kernel_rfl⟩ hS (fun w hS hB => Zo [Tt,Tt,Tt,Tt] (by decide +kernel) PFC.h (LtK.put rfl rfl rfl (Zk Ya rfl (Zgg _) hS hs7 trivial Z1) ?_)))))))
   refine LtK.put rfl rfl rfl (Zk Ya rfl (Zgg _) hS hs7 trivial Z1) (LtK.put rfl rfl rfl (Zk Vz rfl (Zgg _) hS Vv trivial X7) (LtK.put rfl rfl rfl (Zu rfl) (LtK.nil (Yd [Ff,Ff,Ff,Ff,Tt] 4 ⟨by decide, by kernel_rfl, by kernel_rfl⟩ rfl rfl ?_))))
   try dsimp only [Z2]
   obtain ⟨r124, hm125, H⟩ := bind_some H
   refine Zt rfl rfl rfl rfl (by kernel_rfl) rfl (Zbp r63 x1 2 false 0 A65 c66 A69 c70 A73 c74 A77 c78 A81 c82 A5_ c5_ _ (Zgi k67 (hS.rd hs0) (hS.rd_blk hs0)) (Zgi k71 (hS.row_rd X9) (hS.row_blk X9)) (Zgi k75 (hS.row_rd Vt) (hS.row_blk Vt)) (Zgi k79 (hS.row_rd hs3) (hS.row_blk hs3)) (Zgi k83 (hS.row_rd hs4) (hS.row_blk hs4)) (SlW.of_rd s5_.k (hS.rd0 s5_.rd)) hm125) ?_
   rintro e w ⟨A126, c127, rfl, k128, hN⟩; refine ⟨_, rfl, ?_⟩; obtain ⟨hB, hS⟩ := hS.jn hN
   refine Zh (Ye hB (Zcb [5, 6] ⟨by decide, by kernel_rfl⟩ rfl (.call [Ff,Ff,Ff,Ff,Ff,Tt] 5 rfl rfl rfl ?_ (.put [Ff,Ff,Ff,Ff,Ff,Ff,Tt] 6 rfl rfl rfl ?_ .nil))))
   ·try dsimp only [Z2]
    refine Xi (ps := [(0, .tmp 72)]) [.int .u8 r124.kind, .int .i64 r124.frm, .int .i64 r124.dst, .int .i64 r124.term, .int .i64 r124.cap, .int .i64 r124.last, .int .i64 r124.lastTerm, .int .i64 r124.commit, .bool r124.okk, .slice A126 r124.entries.length c127, .int .i64 r124.snap.index, .int .i64 r124.snap.term, .int .i64 r124.snap.sum, .int .i64 r124.snap.level, .bool r124.snap.final] Y9 Zbu rfl rfl rfl rfl rfl (by kernel_rfl) hS (fun b130 w hS hB => Zh (Ye hB (Xa [Ff,Ff,Ff,Ff,Ff,Ff,Tt] 6 ⟨by decide, by kernel_rfl, by kernel_rfl⟩ rfl rfl ?_)))
    try dsimp only [Z2]
    refine Zr rfl rfl rfl CellsOf.agg hS ps7 Yo (by kernel_rfl) rfl (fun w hS hB => Zh (Yu (hB.sub (fun _ _ h => by simpa using h)) (Zo [Ff,Ff,Ff,Ff,Ff,Ff,Ff,Tt] (by decide +kernel) PFC.h (LtK.put rfl rfl rfl (Z7 rfl) (LtK.nil (Z5 (by kernel_rfl) (Zd hK123 ?_)))))))
    refine Zl (Zm rfl (RV.cell rfl (Z3 Ya hS hs7 Z1) (RV.tmp rfl RV.nil)) rfl ?_)
    obtain rfl := QJ H
    have hS := hS.nilRds
    replace hS := hS.front 2 rfl
    replace hS := hS.absorbQ ⟨r124, A126, c127⟩
    replace hS := hS.front 1 rfl
    replace hS := hS.weak Weak.boxRd
    have hS := hS.front 6 rfl
    have hS := hS.front 6 rfl
    have hS := hS.front 6 rfl
    have hS := hS.front 6 rfl
    have hS := hS.front 6 rfl
    replace hS := hS.cut 7
    exact ⟨A65, c66, A69, c70, A73, c74, A77, c78, A81, c82, (some ⟨b130, 0, none⟩), 1, ([⟨r124, A126, c127⟩] : List Mq), rfl, k67, k71, k75, k79, k83, ⟨Nat.le_refl 1, by decide⟩, rfl, (Jw k128 Vh), hS⟩
   ·try dsimp only [Z2]
    refine Zr rfl rfl rfl CellsOf.agg hS ps6 Yo (by kernel_rfl) rfl (fun w hS hB => Zh (Yu (hB.sub (fun _ _ h => by simpa using h)) (Yd [Ff,Ff,Ff,Ff,Ff,Tt] 5 ⟨by decide, by kernel_rfl, by kernel_rfl⟩ rfl rfl ?_)))
    try dsimp only [Z2]
    refine Xi (ps := [(0, .tmp 72)]) [.int .u8 r124.kind, .int .i64 r124.frm, .int .i64 r124.dst, .int .i64 r124.term, .int .i64 r124.cap, .int .i64 r124.last, .int .i64 r124.lastTerm, .int .i64 r124.commit, .bool r124.okk, .slice A126 r124.entries.length c127, .int .i64 r124.snap.index, .int .i64 r124.snap.term, .int .i64 r124.snap.sum, .int .i64 r124.snap.level, .bool r124.snap.final] Y9 Zbu rfl rfl rfl rfl rfl (by kernel_rfl) hS (fun b130 w hS hB => Zh (Ye hB (Zo [Ff,Ff,Ff,Ff,Ff,Ff,Ff,Tt] (by decide +kernel) PFC.h (LtK.put rfl rfl rfl (Z7 rfl) (LtK.nil (Z5 (by kernel_rfl) (Zd hK123 ?_)))))))
    refine Zl (Zm rfl (RV.cell rfl (Z3 Ya hS hs7 Z1) (RV.tmp rfl RV.nil)) rfl ?_)
    obtain rfl := QJ H
    have hS := hS.nilRds
    replace hS := hS.front 2 rfl
    replace hS := hS.absorbQ ⟨r124, A126, c127⟩
    replace hS := hS.front 1 rfl
    replace hS := hS.weak Weak.boxRd
    have hS := hS.front 6 rfl
    have hS := hS.front 6 rfl
    have hS := hS.front 6 rfl
    have hS := hS.front 6 rfl
    have hS := hS.front 6 rfl
    replace hS := hS.cut 7
    exact ⟨A65, c66, A69, c70, A73, c74, A77, c78, A81, c82, (some ⟨b130, 0, none⟩), 1, ([⟨r124, A126, c127⟩] : List Mq), rfl, k67, k71, k75, k79, k83, ⟨Nat.le_refl 1, by decide⟩, rfl, (Jw k128 Vh), hS⟩
  replace H := Zp H hb
  refine Za rfl rfl rfl (Zk Ya rfl (Zgf _) hS hs7 trivial Z1) (Za rfl rfl rfl (Zc fo_36_6 rfl) (Za rfl rfl rfl (Zi Zy rfl (Zgf _) hS Vv trivial sg6_1) (Za rfl rfl rfl (Zc fo_36_5 rfl) (Za rfl rfl rfl (Zi Zy rfl (Zgf _) hS Vv trivial Zes) ?_))))
  obtain ⟨r90, hm91, H⟩ := bind_some H
  refine Zt rfl rfl rfl rfl (by kernel_rfl) rfl (Zd9 r63 x1.lastTerm x1.last A65 c66 A69 c70 A73 c74 A77 c78 A81 c82 _ (Zgi k67 (hS.rd hs0) (hS.rd_blk hs0)) (Zgi k71 (hS.row_rd X9) (hS.row_blk X9)) (Zgi k75 (hS.row_rd Vt) (hS.row_blk Vt)) (Zgi k79 (hS.row_rd hs3) (hS.row_blk hs3)) (Zgi k83 (hS.row_rd hs4) (hS.row_blk hs4)) hm91) ?_
  rintro e w ⟨rfl, hN⟩; refine ⟨_, rfl, ?_⟩; obtain ⟨hB, hS⟩ := hS.jn hN
  refine Zb 2 rfl (Zh (Zd hK87 (Zf (fun K hK92 => Zf (fun K hK93 => Zg (Zb 1 rfl (Zh ?_)))))))
  refine Zd hK93 (Zx rfl (fun hb => ?_) (fun hb => ?_))
  rotate_left
  ·replace H := Zq H hb
   refine Zv (Zd hK92 (Zf (fun K hK111 => Yh 8 [6] (fun i b => (i = 6 → b ≠ b6)) ⟨by kernel_rfl, by kernel_rfl⟩ hS (fun w hS hB => Zo [Tt,Tt,Tt,Tt] (by decide +kernel) PFC.h (LtK.put rfl rfl rfl (Zk Ya rfl (Zgg _) hS hs7 trivial Z1) (LtK.put rfl rfl rfl (Zk Ya rfl (Zgg _) hS hs7 trivial Z1) (LtK.put rfl rfl rfl (Zk Vz rfl (Zgg _) hS Vv trivial X7) ?_)))))))
   refine LtK.put rfl rfl rfl (Zu rfl) (LtK.nil (Yd [Ff,Ff,Ff,Ff,Tt] 4 ⟨by decide, by kernel_rfl, by kernel_rfl⟩ rfl rfl ?_))
   try dsimp only [Z2]
   obtain ⟨r112, hm113, H⟩ := bind_some H
   refine Zt rfl rfl rfl rfl (by kernel_rfl) rfl (Zbp r63 x1 2 r90 0 A65 c66 A69 c70 A73 c74 A77 c78 A81 c82 A5_ c5_ _ (Zgi k67 (hS.rd hs0) (hS.rd_blk hs0)) (Zgi k71 (hS.row_rd X9) (hS.row_blk X9)) (Zgi k75 (hS.row_rd Vt) (hS.row_blk Vt)) (Zgi k79 (hS.row_rd hs3) (hS.row_blk hs3)) (Zgi k83 (hS.row_rd hs4) (hS.row_blk hs4)) (SlW.of_rd s5_.k (hS.rd0 s5_.rd)) hm113) ?_
   rintro e w ⟨A114, c115, rfl, k116, hN⟩; refine ⟨_, rfl, ?_⟩; obtain ⟨hB, hS⟩ := hS.jn hN
   refine Zh (Ye hB (Zcb [5, 6] ⟨by decide, by kernel_rfl⟩ rfl (.call [Ff,Ff,Ff,Ff,Ff,Tt] 5 rfl rfl rfl ?_ (.put [Ff,Ff,Ff,Ff,Ff,Ff,Tt] 6 rfl rfl rfl ?_ .nil))))
   ·try dsimp only [Z2]
    refine Xi (ps := [(0, .tmp 72)]) [.int .u8 r112.kind, .int .i64 r112.frm, .int .i64 r112.dst, .int .i64 r112.term, .int .i64 r112.cap, .int .i64 r112.last, .int .i64 r112.lastTerm, .int .i64 r112.commit, .bool r112.okk, .slice A114 r112.entries.length c115, .int .i64 r112.snap.index, .int .i64 r112.snap.term, .int .i64 r112.snap.sum, .int .i64 r112.snap.level, .bool r112.snap.final] Y9 Zbu rfl rfl rfl rfl rfl (by kernel_rfl) hS (fun b118 w hS hB => Zh (Ye hB (Xa [Ff,Ff,Ff,Ff,Ff,Ff,Tt] 6 ⟨by decide, by kernel_rfl, by kernel_rfl⟩ rfl rfl ?_)))
    try dsimp only [Z2]
    refine Zr rfl rfl rfl CellsOf.agg hS ps7 Yo (by kernel_rfl) rfl (fun w hS hB => Zh (Yu (hB.sub (fun _ _ h => by simpa using h)) (Zo [Ff,Ff,Ff,Ff,Ff,Ff,Ff,Tt] (by decide +kernel) PFC.h (LtK.put rfl rfl rfl (Z7 rfl) (LtK.nil (Z5 (by kernel_rfl) (Zd hK111 ?_)))))))
    refine Zl (Zm rfl (RV.cell rfl (Z3 Ya hS hs7 Z1) (RV.tmp rfl RV.nil)) rfl ?_)
    obtain rfl := QJ H
    have hS := hS.nilRds
    replace hS := hS.front 2 rfl
    replace hS := hS.absorbQ ⟨r112, A114, c115⟩
    replace hS := hS.front 1 rfl
    replace hS := hS.weak Weak.boxRd
    have hS := hS.front 6 rfl
    have hS := hS.front 6 rfl
    have hS := hS.front 6 rfl
    have hS := hS.front 6 rfl
    have hS := hS.front 6 rfl
    replace hS := hS.cut 7
    exact ⟨A65, c66, A69, c70, A73, c74, A77, c78, A81, c82, (some ⟨b118, 0, none⟩), 1, ([⟨r112, A114, c115⟩] : List Mq), rfl, k67, k71, k75, k79, k83, ⟨Nat.le_refl 1, by decide⟩, rfl, (Jw k116 Vh), hS⟩
   ·try dsimp only [Z2]
    refine Zr rfl rfl rfl CellsOf.agg hS ps6 Yo (by kernel_rfl) rfl (fun w hS hB => Zh (Yu (hB.sub (fun _ _ h => by simpa using h)) (Yd [Ff,Ff,Ff,Ff,Ff,Tt] 5 ⟨by decide, by kernel_rfl, by kernel_rfl⟩ rfl rfl ?_)))
    try dsimp only [Z2]
    refine Xi (ps := [(0, .tmp 72)]) [.int .u8 r112.kind, .int .i64 r112.frm, .int .i64 r112.dst, .int .i64 r112.term, .int .i64 r112.cap, .int .i64 r112.last, .int .i64 r112.lastTerm, .int .i64 r112.commit, .bool r112.okk, .slice A114 r112.entries.length c115, .int .i64 r112.snap.index, .int .i64 r112.snap.term, .int .i64 r112.snap.sum, .int .i64 r112.snap.level, .bool r112.snap.final] Y9 Zbu rfl rfl rfl rfl rfl (by kernel_rfl) hS (fun b118 w hS hB => Zh (Ye hB (Zo [Ff,Ff,Ff,Ff,Ff,Ff,Ff,Tt] (by decide +kernel) PFC.h (LtK.put rfl rfl rfl (Z7 rfl) (LtK.nil (Z5 (by kernel_rfl) (Zd hK111 ?_)))))))
    refine Zl (Zm rfl (RV.cell rfl (Z3 Ya hS hs7 Z1) (RV.tmp rfl RV.nil)) rfl ?_)
    obtain rfl := QJ H
    have hS := hS.nilRds
    replace hS := hS.front 2 rfl
    replace hS := hS.absorbQ ⟨r112, A114, c115⟩
    replace hS := hS.front 1 rfl
    replace hS := hS.weak Weak.boxRd
    have hS := hS.front 6 rfl
    have hS := hS.front 6 rfl
    have hS := hS.front 6 rfl
    have hS := hS.front 6 rfl
    have hS := hS.front 6 rfl
    replace hS := hS.cut 7
    exact ⟨A65, c66, A69, c70, A73, c74, A77, c78, A81, c82, (some ⟨b118, 0, none⟩), 1, ([⟨r112, A114, c115⟩] : List Mq), rfl, k67, k71, k75, k79, k83, ⟨Nat.le_refl 1, by decide⟩, rfl, (Jw k116 Vh), hS⟩
  replace H := Zp H hb
  refine Zg (Za rfl rfl rfl (Zc Zz rfl) (Za rfl rfl rfl (Zk V2 rfl (Zgf _) hS hs7 trivial Ze8) (Za rfl rfl rfl (Zc Je rfl) (Za rfl rfl rfl (Zi Zy rfl (Zgf _) hS Vv trivial Zbe) (Za rfl rfl rfl (Zc Ji rfl) (Za rfl rfl rfl (Zi Zy rfl (Zgf _) hS Vv trivial Xd) ?_))))))
  obtain ⟨r95, hm96, H⟩ := bind_some H
  refine Zt rfl rfl rfl rfl (by kernel_rfl) rfl (Ze0 r63.tuple x1.term x1.frm A65 c66 _ (Zgi k67 (hS.rd hs0) (hS.rd_blk hs0)) hm96) ?_
  rintro e w ⟨A97, c98, rfl, k99, hN⟩; refine ⟨_, rfl, ?_⟩; obtain ⟨hB, hS⟩ := hS.jn hN
  refine Zb 1 rfl (Za rfl rfl rfl (Yj rfl rfl) (Za rfl rfl rfl (Yj rfl rfl) (Za rfl rfl rfl (Zc Zz rfl) (Zr rfl rfl rfl CellsOf.agg hS ps8 st4_8 (by kernel_rfl) rfl (fun w hS hB => Zh (Zd hK92 (Zf (fun K hK101 => ?_))))))))
  refine Yh 8 [6] (fun i b => (i = 6 → b ≠ b6)) ⟨by kernel_rfl, by kernel_rfl⟩ hS (fun w hS hB => Zo [Tt,Tt,Tt,Tt] (by decide +kernel) PFC.h (LtK.put rfl rfl rfl (Zk Ya rfl (Zgg _) hS hs8 trivial Z1) (LtK.put rfl rfl rfl (Zk Ya rfl (Zgg _) hS hs8 trivial Z1) (LtK.put rfl rfl rfl (Zk Vz rfl (Zgg _) hS hs7 trivial X7) (LtK.put rfl rfl rfl (Zu rfl) (LtK.nil (Yd [Ff,Ff,Ff,Ff,Tt] 4 ⟨by decide, by kernel_rfl, by kernel_rfl⟩ rfl rfl ?_)))))))
  try dsimp only [Z2]
  obtain ⟨r102, hm103, H⟩ := bind_some H
  refine Zt rfl rfl rfl rfl (by kernel_rfl) rfl (Zbp {r63 with tuple := r95.1} x1 2 r90 0 A97 c98 A69 c70 A73 c74 A77 c78 A81 c82 A5_ c5_ _ (Zgi k99 (hS.rd hs0) (hS.rd_blk hs0)) (Zgi k71 (hS.row_rd Vt) (hS.row_blk Vt)) (Zgi k75 (hS.row_rd hs3) (hS.row_blk hs3)) (Zgi k79 (hS.row_rd hs4) (hS.row_blk hs4)) (Zgi k83 (hS.row_rd hs5) (hS.row_blk hs5)) (SlW.of_rd s5_.k (hS.rd0 s5_.rd)) hm103) ?_
  rintro e w ⟨A104, c105, rfl, k106, hN⟩; refine ⟨_, rfl, ?_⟩; obtain ⟨hB, hS⟩ := hS.jn hN
  refine Zh (Ye hB (Zcb [5, 6] ⟨by decide, by kernel_rfl⟩ rfl (.call [Ff,Ff,Ff,Ff,Ff,Tt] 5 rfl rfl rfl ?_ (.put [Ff,Ff,Ff,Ff,Ff,Ff,Tt] 6 rfl rfl rfl ?_ .nil))))
  ·try dsimp only [Z2]
   refine Xi (ps := [(0, .tmp 72)]) [.int .u8 r102.kind, .int .i64 r102.frm, .int .i64 r102.dst, .int .i64 r102.term, .int .i64 r102.cap, .int .i64 r102.last, .int .i64 r102.lastTerm, .int .i64 r102.commit, .bool r102.okk, .slice A104 r102.entries.length c105, .int .i64 r102.snap.index, .int .i64 r102.snap.term, .int .i64 r102.snap.sum, .int .i64 r102.snap.level, .bool r102.snap.final] Y9 Zbu rfl rfl rfl rfl rfl (by kernel_rfl) hS (fun b108 w hS hB => Zh (Ye hB (Xa [Ff,Ff,Ff,Ff,Ff,Ff,Tt] 6 ⟨by decide, by kernel_rfl, by kernel_rfl⟩ rfl rfl ?_)))
   try dsimp only [Z2]
   refine Zr rfl rfl rfl CellsOf.agg hS ps8 Yo (by kernel_rfl) rfl (fun w hS hB => Zh (Yu (hB.sub (fun _ _ h => by simpa using h)) (Zo [Ff,Ff,Ff,Ff,Ff,Ff,Ff,Tt] (by decide +kernel) PFC.h (LtK.put rfl rfl rfl (Z7 rfl) (LtK.nil (Z5 (by kernel_rfl) (Zd hK101 ?_)))))))
   refine Zl (Zm rfl (RV.cell rfl (Z3 Ya hS hs8 Z1) (RV.tmp rfl RV.nil)) rfl ?_)
   obtain rfl := QJ H
   have hS := hS.nilRds
   replace hS := hS.front 2 rfl
   replace hS := hS.absorbQ ⟨r102, A104, c105⟩
   replace hS := hS.front 1 rfl
   replace hS := hS.weak Weak.boxRd
   have hS := hS.front 7 rfl
   have hS := hS.front 7 rfl
   have hS := hS.front 7 rfl
   have hS := hS.front 7 rfl
   have hS := hS.front 6 rfl
   replace hS := hS.cut 7
   exact ⟨A97, c98, A69, c70, A73, c74, A77, c78, A81, c82, (some ⟨b108, 0, none⟩), 1, ([⟨r102, A104, c105⟩] : List Mq), rfl, k99, k71, k75, k79, k83, ⟨Nat.le_refl 1, by decide⟩, rfl, (Jw k106 Vh), hS⟩
  ·try dsimp only [Z2]
   refine Zr rfl rfl rfl CellsOf.agg hS ps7 Yo (by kernel_rfl) rfl (fun w hS hB => Zh (Yu (hB.sub (fun _ _ h => by simpa using h)) (Yd [Ff,Ff,Ff,Ff,Ff,Tt] 5 ⟨by decide, by kernel_rfl, by kernel_rfl⟩ rfl rfl ?_)))
   try dsimp only [Z2]
   refine Xi (ps := [(0, .tmp 72)]) [.int .u8 r102.kind, .int .i64 r102.frm, .int .i64 r102.dst, .int .i64 r102.term, .int .i64 r102.cap, .int .i64 r102.last, .int .i64 r102.lastTerm, .int .i64 r102.commit, .bool r102.okk, .slice A104 r102.entries.length c105, .int .i64 r102.snap.index, .int .i64 r102.snap.term, .int .i64 r102.snap.sum, .int .i64 r102.snap.level, .bool r102.snap.final] Y9 Zbu rfl rfl rfl rfl rfl (by kernel_rfl) hS (fun b108 w hS hB => Zh (Ye hB (Zo [Ff,Ff,Ff,Ff,Ff,Ff,Ff,Tt] (by decide +kernel) PFC.h (LtK.put rfl rfl rfl (Z7 rfl) (LtK.nil (Z5 (by kernel_rfl) (Zd hK101 ?_)))))))
   refine Zl (Zm rfl (RV.cell rfl (Z3 Ya hS hs8 Z1) (RV.tmp rfl RV.nil)) rfl ?_)
   obtain rfl := QJ H
   have hS := hS.nilRds
   replace hS := hS.front 2 rfl
   replace hS := hS.absorbQ ⟨r102, A104, c105⟩
   replace hS := hS.front 1 rfl
   replace hS := hS.weak Weak.boxRd
   have hS := hS.front 7 rfl
   have hS := hS.front 7 rfl
   have hS := hS.front 7 rfl
   have hS := hS.front 7 rfl
   have hS := hS.front 6 rfl
   replace hS := hS.cut 7
   exact ⟨A97, c98, A69, c70, A73, c74, A77, c78, A81, c82, (some ⟨b108, 0, none⟩), 1, ([⟨r102, A104, c105⟩] : List Mq), rfl, k99, k71, k75, k79, k83, ⟨Nat.le_refl 1, by decide⟩, rfl, (Jw k106 Vh), hS⟩
 replace H := Zq H hb
 refine Za rfl rfl rfl (Zc Zz rfl) (Za rfl rfl rfl (Zc Vq rfl) (Za rfl rfl rfl (Zi Zy rfl (Zgf _) hS hs7 trivial Zbz) (Za rfl rfl rfl (Zc Ji rfl) (Za rfl rfl rfl (Zi Zy rfl (Zgf _) hS Vv trivial Xd) (Za rfl rfl rfl (Xh rfl rfl) (Zb 2 rfl (Zh ?_)))))))
 refine Zd hK85 (Zf (fun K hK145 => Zg (Zb 2 rfl (Zs 35 rfl (fun hb => ?_) (fun hb => ?_)))))
 rotate_left
 ·replace H := Zq H hb
  refine Zb 21 rfl (Zh (Zd hK145 (Zf (fun K hK204 => Zf (fun K hK205 => Zg (Zb 1 rfl (Zh ?_)))))))
  refine Zd hK205 (Ym rfl rfl (Zv (Zd hK204 (Zf (fun K hK206 => Yh 8 [6] (fun i b => (i = 6 → b ≠ b6)) ⟨by kernel_rfl, by kernel_rfl⟩ hS (fun w hS hB => Zo [Tt,Tt,Tt,Tt] (by decide +kernel) PFC.h (LtK.put rfl rfl rfl (Zk Ya rfl (Zgg _) hS hs7 trivial Z1) ?_)))))))
  refine LtK.put rfl rfl rfl (Zk Ya rfl (Zgg _) hS hs7 trivial Z1) (LtK.put rfl rfl rfl (Zk Vz rfl (Zgg _) hS Vv trivial X7) (LtK.put rfl rfl rfl (Zu rfl) (LtK.nil (Yd [Ff,Ff,Ff,Ff,Tt] 4 ⟨by decide, by kernel_rfl, by kernel_rfl⟩ rfl rfl ?_))))
  try dsimp only [Z2]
  obtain ⟨r207, hm208, H⟩ := bind_some H
  refine Zt rfl rfl rfl rfl (by kernel_rfl) rfl (Zbp r63 x1 2 false 0 A65 c66 A69 c70 A73 c74 A77 c78 A81 c82 A5_ c5_ _ (Zgi k67 (hS.rd hs0) (hS.rd_blk hs0)) (Zgi k71 (hS.row_rd X9) (hS.row_blk X9)) (Zgi k75 (hS.row_rd Vt) (hS.row_blk Vt)) (Zgi k79 (hS.row_rd hs3) (hS.row_blk hs3)) (Zgi k83 (hS.row_rd hs4) (hS.row_blk hs4)) (SlW.of_rd s5_.k (hS.rd0 s5_.rd)) hm208) ?_
  rintro e w ⟨A209, c210, rfl, k211, hN⟩; refine ⟨_, rfl, ?_⟩; obtain ⟨hB, hS⟩ := hS.jn hN
  refine Zh (Ye hB (Zcb [5, 6] ⟨by decide, by kernel_rfl⟩ rfl (.call [Ff,Ff,Ff,Ff,Ff,Tt] 5 rfl rfl rfl ?_ (.put [Ff,Ff,Ff,Ff,Ff,Ff,Tt] 6 rfl rfl rfl ?_ .nil))))
  ·try dsimp only [Z2]
   refine Xi (ps := [(0, .tmp 72)]) [.int .u8 r207.kind, .int .i64 r207.frm, .int .i64 r207.dst, .int .i64 r207.term, .int .i64 r207.cap, .int .i64 r207.last, .int .i64 r207.lastTerm, .int .i64 r207.commit, .bool r207.okk, .slice A209 r207.entries.length c210, .int .i64 r207.snap.index, .int .i64 r207.snap.term, .int .i64 r207.snap.sum, .int .i64 r207.snap.level, .bool r207.snap.final] Y9 Zbu rfl rfl rfl rfl rfl (by kernel_rfl) hS (fun b213 w hS hB => Zh (Ye hB (Xa [Ff,Ff,Ff,Ff,Ff,Ff,Tt] 6 ⟨by decide, by kernel_rfl, by kernel_rfl⟩ rfl rfl ?_)))
   try dsimp only [Z2]
   refine Zr rfl rfl rfl CellsOf.agg hS ps7 Yo (by kernel_rfl) rfl (fun w hS hB => Zh (Yu (hB.sub (fun _ _ h => by simpa using h)) (Zo [Ff,Ff,Ff,Ff,Ff,Ff,Ff,Tt] (by decide +kernel) PFC.h (LtK.put rfl rfl rfl (Z7 rfl) (LtK.nil (Z5 (by kernel_rfl) (Zd hK206 ?_)))))))
   refine Zl (Zm rfl (RV.cell rfl (Z3 Ya hS hs7 Z1) (RV.tmp rfl RV.nil)) rfl ?_)
   obtain rfl := QJ H
   have hS := hS.nilRds
   replace hS := hS.front 2 rfl
   replace hS := hS.absorbQ ⟨r207, A209, c210⟩
   replace hS := hS.front 1 rfl
   replace hS := hS.weak Weak.boxRd
   have hS := hS.front 6 rfl
   have hS := hS.front 6 rfl
   have hS := hS.front 6 rfl
   have hS := hS.front 6 rfl
   have hS := hS.front 6 rfl
   replace hS := hS.cut 7
   exact ⟨A65, c66, A69, c70, A73, c74, A77, c78, A81, c82, (some ⟨b213, 0, none⟩), 1, ([⟨r207, A209, c210⟩] : List Mq), rfl, k67, k71, k75, k79, k83, ⟨Nat.le_refl 1, by decide⟩, rfl, (Jw k211 Vh), hS⟩
  ·try dsimp only [Z2]
   refine Zr rfl rfl rfl CellsOf.agg hS ps6 Yo (by kernel_rfl) rfl (fun w hS hB => Zh (Yu (hB.sub (fun _ _ h => by simpa using h)) (Yd [Ff,Ff,Ff,Ff,Ff,Tt] 5 ⟨by decide, by kernel_rfl, by kernel_rfl⟩ rfl rfl ?_)))
   try dsimp only [Z2]
   refine Xi (ps := [(0, .tmp 72)]) [.int .u8 r207.kind, .int .i64 r207.frm, .int .i64 r207.dst, .int .i64 r207.term, .int .i64 r207.cap, .int .i64 r207.last, .int .i64 r207.lastTerm, .int .i64 r207.commit, .bool r207.okk, .slice A209 r207.entries.length c210, .int .i64 r207.snap.index, .int .i64 r207.snap.term, .int .i64 r207.snap.sum, .int .i64 r207.snap.level, .bool r207.snap.final] Y9 Zbu rfl rfl rfl rfl rfl (by kernel_rfl) hS (fun b213 w hS hB => Zh (Ye hB (Zo [Ff,Ff,Ff,Ff,Ff,Ff,Ff,Tt] (by decide +kernel) PFC.h (LtK.put rfl rfl rfl (Z7 rfl) (LtK.nil (Z5 (by kernel_rfl) (Zd hK206 ?_)))))))
   refine Zl (Zm rfl (RV.cell rfl (Z3 Ya hS hs7 Z1) (RV.tmp rfl RV.nil)) rfl ?_)
   obtain rfl := QJ H
   have hS := hS.nilRds
   replace hS := hS.front 2 rfl
   replace hS := hS.absorbQ ⟨r207, A209, c210⟩
   replace hS := hS.front 1 rfl
   replace hS := hS.weak Weak.boxRd
   have hS := hS.front 6 rfl
   have hS := hS.front 6 rfl
   have hS := hS.front 6 rfl
   have hS := hS.front 6 rfl
   have hS := hS.front 6 rfl
   replace hS := hS.cut 7
   exact ⟨A65, c66, A69, c70, A73, c74, A77, c78, A81, c82, (some ⟨b213, 0, none⟩), 1, ([⟨r207, A209, c210⟩] : List Mq), rfl, k67, k71, k75, k79, k83, ⟨Nat.le_refl 1, by decide⟩, rfl, (Jw k211 Vh), hS⟩
 replace H := Zp H hb
 refine Za rfl rfl rfl (Zc Zbg rfl) (Za rfl rfl rfl (Zi Zbi rfl (Zgf _) hS hs7 trivial Zbj) (Za rfl rfl rfl (Xh rfl rfl) (Zb 2 rfl (Zs 40 rfl (fun hb => ?_) (fun hb => ?_)))))
 rotate_left
 ·replace H := Zq H hb
  refine Zb 16 rfl (Zh (Zd hK145 (Zf (fun K hK192 => Zf (fun K hK193 => Zg (Zb 1 rfl (Zh ?_)))))))
  refine Zd hK193 (Ym rfl rfl (Zv (Zd hK192 (Zf (fun K hK194 => Yh 8 [6] (fun i b => (i = 6 → b ≠ b6)) ⟨by kernel_rfl, by kernel_rfl⟩ hS (fun w hS hB => Zo [Tt,Tt,Tt,Tt] (by decide +kernel) PFC.h (LtK.put rfl rfl rfl (Zk Ya rfl (Zgg _) hS hs7 trivial Z1) ?_)))))))
  refine LtK.put rfl rfl rfl (Zk Ya rfl (Zgg _) hS hs7 trivial Z1) (LtK.put rfl rfl rfl (Zk Vz rfl (Zgg _) hS Vv trivial X7) (LtK.put rfl rfl rfl (Zu rfl) (LtK.nil (Yd [Ff,Ff,Ff,Ff,Tt] 4 ⟨by decide, by kernel_rfl, by kernel_rfl⟩ rfl rfl ?_))))
  try dsimp only [Z2]
  obtain ⟨r195, hm196, H⟩ := bind_some H
  refine Zt rfl rfl rfl rfl (by kernel_rfl) rfl (Zbp r63 x1 2 false 0 A65 c66 A69 c70 A73 c74 A77 c78 A81 c82 A5_ c5_ _ (Zgi k67 (hS.rd hs0) (hS.rd_blk hs0)) (Zgi k71 (hS.row_rd X9) (hS.row_blk X9)) (Zgi k75 (hS.row_rd Vt) (hS.row_blk Vt)) (Zgi k79 (hS.row_rd hs3) (hS.row_blk hs3)) (Zgi k83 (hS.row_rd hs4) (hS.row_blk hs4)) (SlW.of_rd s5_.k (hS.rd0 s5_.rd)) hm196) ?_
  rintro e w ⟨A197, c198, rfl, k199, hN⟩; refine ⟨_, rfl, ?_⟩; obtain ⟨hB, hS⟩ := hS.jn hN
  refine Zh (Ye hB (Zcb [5, 6] ⟨by decide, by kernel_rfl⟩ rfl (.call [Ff,Ff,Ff,Ff,Ff,Tt] 5 rfl rfl rfl ?_ (.put [Ff,Ff,Ff,Ff,Ff,Ff,Tt] 6 rfl rfl rfl ?_ .nil))))
  ·try dsimp only [Z2]
   refine Xi (ps := [(0, .tmp 72)]) [.int .u8 r195.kind, .int .i64 r195.frm, .int .i64 r195.dst, .int .i64 r195.term, .int .i64 r195.cap, .int .i64 r195.last, .int .i64 r195.lastTerm, .int .i64 r195.commit, .bool r195.okk, .slice A197 r195.entries.length c198, .int .i64 r195.snap.index, .int .i64 r195.snap.term, .int .i64 r195.snap.sum, .int .i64 r195.snap.level, .bool r195.snap.final] Y9 Zbu rfl rfl rfl rfl rfl (by kernel_rfl) hS (fun b201 w hS hB => Zh (Ye hB (Xa [Ff,Ff,Ff,Ff,Ff,Ff,Tt] 6 ⟨by decide, by kernel_rfl, by kernel_rfl⟩ rfl rfl ?_)))
   try dsimp only [Z2]
   refine Zr rfl rfl rfl CellsOf.agg hS ps7 Yo (by kernel_rfl) rfl (fun w hS hB => Zh (Yu (hB.sub (fun _ _ h => by simpa using h)) (Zo [Ff,Ff,Ff,Ff,Ff,Ff,Ff,Tt] (by decide +kernel) PFC.h (LtK.put rfl rfl rfl (Z7 rfl) (LtK.nil (Z5 (by kernel_rfl) (Zd hK194 ?_)))))))
   refine Zl (Zm rfl (RV.cell rfl (Z3 Ya hS hs7 Z1) (RV.tmp rfl RV.nil)) rfl ?_)
   obtain rfl := QJ H
   have hS := hS.nilRds
   replace hS := hS.front 2 rfl
   replace hS := hS.absorbQ ⟨r195, A197, c198⟩
   replace hS := hS.front 1 rfl
   replace hS := hS.weak Weak.boxRd
   have hS := hS.front 6 rfl
   have hS := hS.front 6 rfl
   have hS := hS.front 6 rfl
   have hS := hS.front 6 rfl
   have hS := hS.front 6 rfl
   replace hS := hS.cut 7
   exact ⟨A65, c66, A69, c70, A73, c74, A77, c78, A81, c82, (some ⟨b201, 0, none⟩), 1, ([⟨r195, A197, c198⟩] : List Mq), rfl, k67, k71, k75, k79, k83, ⟨Nat.le_refl 1, by decide⟩, rfl, (Jw k199 Vh), hS⟩
  ·try dsimp only [Z2]
   refine Zr rfl rfl rfl CellsOf.agg hS ps6 Yo (by kernel_rfl) rfl (fun w hS hB => Zh (Yu (hB.sub (fun _ _ h => by simpa using h)) (Yd [Ff,Ff,Ff,Ff,Ff,Tt] 5 ⟨by decide, by kernel_rfl, by kernel_rfl⟩ rfl rfl ?_)))
   try dsimp only [Z2]
   refine Xi (ps := [(0, .tmp 72)]) [.int .u8 r195.kind, .int .i64 r195.frm, .int .i64 r195.dst, .int .i64 r195.term, .int .i64 r195.cap, .int .i64 r195.last, .int .i64 r195.lastTerm, .int .i64 r195.commit, .bool r195.okk, .slice A197 r195.entries.length c198, .int .i64 r195.snap.index, .int .i64 r195.snap.term, .int .i64 r195.snap.sum, .int .i64 r195.snap.level, .bool r195.snap.final] Y9 Zbu rfl rfl rfl rfl rfl (by kernel_rfl) hS (fun b201 w hS hB => Zh (Ye hB (Zo [Ff,Ff,Ff,Ff,Ff,Ff,Ff,Tt] (by decide +kernel) PFC.h (LtK.put rfl rfl rfl (Z7 rfl) (LtK.nil (Z5 (by kernel_rfl) (Zd hK194 ?_)))))))
   refine Zl (Zm rfl (RV.cell rfl (Z3 Ya hS hs7 Z1) (RV.tmp rfl RV.nil)) rfl ?_)
   obtain rfl := QJ H
   have hS := hS.nilRds
   replace hS := hS.front 2 rfl
   replace hS := hS.absorbQ ⟨r195, A197, c198⟩
   replace hS := hS.front 1 rfl
   replace hS := hS.weak Weak.boxRd
   have hS := hS.front 6 rfl
   have hS := hS.front 6 rfl
   have hS := hS.front 6 rfl
   have hS := hS.front 6 rfl
   have hS := hS.front 6 rfl
   replace hS := hS.cut 7
   exact ⟨A65, c66, A69, c70, A73, c74, A77, c78, A81, c82, (some ⟨b201, 0, none⟩), 1, ([⟨r195, A197, c198⟩] : List Mq), rfl, k67, k71, k75, k79, k83, ⟨Nat.le_refl 1, by decide⟩, rfl, (Jw k199 Vh), hS⟩
 replace H := Zp H hb
 refine Za rfl rfl rfl (Zc Je rfl) (Za rfl rfl rfl (Zi Zy rfl (Zgf _) hS Vv trivial Zbe) (Za rfl rfl rfl (Zc Zz rfl) (Za rfl rfl rfl (Zc Xc rfl) (Za rfl rfl rfl (Zi Zy rfl (Zgf _) hS hs7 trivial Xv) (Za rfl rfl rfl (Xh rfl rfl) (Zb 2 rfl (Zs 48 rfl (fun hb => ?_) (fun hb => ?_))))))))
 rotate_left
 ·replace H := Zq H hb
  refine Zb 8 rfl (Zh (Zd hK145 (Zf (fun K hK180 => Zf (fun K hK181 => Zg (Zb 1 rfl (Zh ?_)))))))
  refine Zd hK181 (Ym rfl rfl (Zv (Zd hK180 (Zf (fun K hK182 => Yh 8 [6] (fun i b => (i = 6 → b ≠ b6)) ⟨by kernel_rfl, by kernel_rfl⟩ hS (fun w hS hB => Zo [Tt,Tt,Tt,Tt] (by decide +kernel) PFC.h (LtK.put rfl rfl rfl (Zk Ya rfl (Zgg _) hS hs7 trivial Z1) ?_)))))))
  refine LtK.put rfl rfl rfl (Zk Ya rfl (Zgg _) hS hs7 trivial Z1) (LtK.put rfl rfl rfl (Zk Vz rfl (Zgg _) hS Vv trivial X7) (LtK.put rfl rfl rfl (Zu rfl) (LtK.nil (Yd [Ff,Ff,Ff,Ff,Tt] 4 ⟨by decide, by kernel_rfl, by kernel_rfl⟩ rfl rfl ?_))))
  try dsimp only [Z2]
  obtain ⟨r183, hm184, H⟩ := bind_some H
  refine Zt rfl rfl rfl rfl (by kernel_rfl) rfl (Zbp r63 x1 2 false 0 A65 c66 A69 c70 A73 c74 A77 c78 A81 c82 A5_ c5_ _ (Zgi k67 (hS.rd hs0) (hS.rd_blk hs0)) (Zgi k71 (hS.row_rd X9) (hS.row_blk X9)) (Zgi k75 (hS.row_rd Vt) (hS.row_blk Vt)) (Zgi k79 (hS.row_rd hs3) (hS.row_blk hs3)) (Zgi k83 (hS.row_rd hs4) (hS.row_blk hs4)) (SlW.of_rd s5_.k (hS.rd0 s5_.rd)) hm184) ?_
  rintro e w ⟨A185, c186, rfl, k187, hN⟩; refine ⟨_, rfl, ?_⟩; obtain ⟨hB, hS⟩ := hS.jn hN
  refine Zh (Ye hB (Zcb [5, 6] ⟨by decide, by kernel_rfl⟩ rfl (.call [Ff,Ff,Ff,Ff,Ff,Tt] 5 rfl rfl rfl ?_ (.put [Ff,Ff,Ff,Ff,Ff,Ff,Tt] 6 rfl rfl rfl ?_ .nil))))
  ·try dsimp only [Z2]
   refine Xi (ps := [(0, .tmp 72)]) [.int .u8 r183.kind, .int .i64 r183.frm, .int .i64 r183.dst, .int .i64 r183.term, .int .i64 r183.cap, .int .i64 r183.last, .int .i64 r183.lastTerm, .int .i64 r183.commit, .bool r183.okk, .slice A185 r183.entries.length c186, .int .i64 r183.snap.index, .int .i64 r183.snap.term, .int .i64 r183.snap.sum, .int .i64 r183.snap.level, .bool r183.snap.final] Y9 Zbu rfl rfl rfl rfl rfl (by kernel_rfl) hS (fun b189 w hS hB => Zh (Ye hB (Xa [Ff,Ff,Ff,Ff,Ff,Ff,Tt] 6 ⟨by decide, by kernel_rfl, by kernel_rfl⟩ rfl rfl ?_)))
   try dsimp only [Z2]
   refine Zr rfl rfl rfl CellsOf.agg hS ps7 Yo (by kernel_rfl) rfl (fun w hS hB => Zh (Yu (hB.sub (fun _ _ h => by simpa using h)) (Zo [Ff,Ff,Ff,Ff,Ff,Ff,Ff,Tt] (by decide +kernel) PFC.h (LtK.put rfl rfl rfl (Z7 rfl) (LtK.nil (Z5 (by kernel_rfl) (Zd hK182 ?_)))))))
   refine Zl (Zm rfl (RV.cell rfl (Z3 Ya hS hs7 Z1) (RV.tmp rfl RV.nil)) rfl ?_)
   obtain rfl := QJ H
   have hS := hS.nilRds
   replace hS := hS.front 2 rfl
   replace hS := hS.absorbQ ⟨r183, A185, c186⟩
   replace hS := hS.front 1 rfl
   replace hS := hS.weak Weak.boxRd
   have hS := hS.front 6 rfl
   have hS := hS.front 6 rfl
   have hS := hS.front 6 rfl
   have hS := hS.front 6 rfl
   have hS := hS.front 6 rfl
   replace hS := hS.cut 7
   exact ⟨A65, c66, A69, c70, A73, c74, A77, c78, A81, c82, (some ⟨b189, 0, none⟩), 1, ([⟨r183, A185, c186⟩] : List Mq), rfl, k67, k71, k75, k79, k83, ⟨Nat.le_refl 1, by decide⟩, rfl, (Jw k187 Vh), hS⟩
  ·try dsimp only [Z2]
   refine Zr rfl rfl rfl CellsOf.agg hS ps6 Yo (by kernel_rfl) rfl (fun w hS hB => Zh (Yu (hB.sub (fun _ _ h => by simpa using h)) (Yd [Ff,Ff,Ff,Ff,Ff,Tt] 5 ⟨by decide, by kernel_rfl, by kernel_rfl⟩ rfl rfl ?_)))
   try dsimp only [Z2]
   refine Xi (ps := [(0, .tmp 72)]) [.int .u8 r183.kind, .int .i64 r183.frm, .int .i64 r183.dst, .int .i64 r183.term, .int .i64 r183.cap, .int .i64 r183.last, .int .i64 r183.lastTerm, .int .i64 r183.commit, .bool r183.okk, .slice A185 r183.entries.length c186, .int .i64 r183.snap.index, .int .i64 r183.snap.term, .int .i64 r183.snap.sum, .int .i64 r183.snap.level, .bool r183.snap.final] Y9 Zbu rfl rfl rfl rfl rfl (by kernel_rfl) hS (fun b189 w hS hB => Zh (Ye hB (Zo [Ff,Ff,Ff,Ff,Ff,Ff,Ff,Tt] (by decide +kernel) PFC.h (LtK.put rfl rfl rfl (Z7 rfl) (LtK.nil (Z5 (by kernel_rfl) (Zd hK182 ?_)))))))
   refine Zl (Zm rfl (RV.cell rfl (Z3 Ya hS hs7 Z1) (RV.tmp rfl RV.nil)) rfl ?_)
   obtain rfl := QJ H
   have hS := hS.nilRds
   replace hS := hS.front 2 rfl
   replace hS := hS.absorbQ ⟨r183, A185, c186⟩
   replace hS := hS.front 1 rfl
   replace hS := hS.weak Weak.boxRd
   have hS := hS.front 6 rfl
   have hS := hS.front 6 rfl
   have hS := hS.front 6 rfl
   have hS := hS.front 6 rfl
   have hS := hS.front 6 rfl
   replace hS := hS.cut 7
   exact ⟨A65, c66, A69, c70, A73, c74, A77, c78, A81, c82, (some ⟨b189, 0, none⟩), 1, ([⟨r183, A185, c186⟩] : List Mq), rfl, k67, k71, k75, k79, k83, ⟨Nat.le_refl 1, by decide⟩, rfl, (Jw k187 Vh), hS⟩
 replace H := Zp H hb
 refine Za rfl rfl rfl (Zk Ya rfl (Zgf _) hS hs7 trivial Z1) (Za rfl rfl rfl (Zc fo_36_6 rfl) (Za rfl rfl rfl (Zi Zy rfl (Zgf _) hS Vv trivial sg6_1) (Za rfl rfl rfl (Zc fo_36_5 rfl) (Za rfl rfl rfl (Zi Zy rfl (Zgf _) hS Vv trivial Zes) ?_))))
 obtain ⟨r149, hm150, H⟩ := bind_some H
 refine Zt rfl rfl rfl rfl (by kernel_rfl) rfl (Zd9 r63 x1.lastTerm x1.last A65 c66 A69 c70 A73 c74 A77 c78 A81 c82 _ (Zgi k67 (hS.rd hs0) (hS.rd_blk hs0)) (Zgi k71 (hS.row_rd X9) (hS.row_blk X9)) (Zgi k75 (hS.row_rd Vt) (hS.row_blk Vt)) (Zgi k79 (hS.row_rd hs3) (hS.row_blk hs3)) (Zgi k83 (hS.row_rd hs4) (hS.row_blk hs4)) hm150) ?_
 rintro e w ⟨rfl, hN⟩; refine ⟨_, rfl, ?_⟩; obtain ⟨hB, hS⟩ := hS.jn hN
 refine Zb 2 rfl (Zh (Zd hK145 (Zf (fun K hK151 => Zf (fun K hK152 => Zg (Zb 1 rfl (Zh ?_)))))))
 refine Zd hK152 (Zx rfl (fun hb => ?_) (fun hb => ?_))
 rotate_left
 ·replace H := Zq H hb
  refine Zv (Zd hK151 (Zf (fun K hK170 => Yh 8 [6] (fun i b => (i = 6 → b ≠ b6)) ⟨by kernel_rfl, by kernel_rfl⟩ hS (fun w hS hB => Zo [Tt,Tt,Tt,Tt] (by decide +kernel) PFC.h (LtK.put rfl rfl rfl (Zk Ya rfl (Zgg _) hS hs7 trivial Z1) (LtK.put rfl rfl rfl (Zk Ya rfl (Zgg _) hS hs7 trivial Z1) (LtK.put rfl rfl rfl (Zk Vz rfl (Zgg _) hS Vv trivial X7) ?_)))))))
  refine LtK.put rfl rfl rfl (Zu rfl) (LtK.nil (Yd [Ff,Ff,Ff,Ff,Tt] 4 ⟨by decide, by kernel_rfl, by kernel_rfl⟩ rfl rfl ?_))
  try dsimp only [Z2]
  obtain ⟨r171, hm172, H⟩ := bind_some H
  refine Zt rfl rfl rfl rfl (by kernel_rfl) rfl (Zbp r63 x1 2 r149 0 A65 c66 A69 c70 A73 c74 A77 c78 A81 c82 A5_ c5_ _ (Zgi k67 (hS.rd hs0) (hS.rd_blk hs0)) (Zgi k71 (hS.row_rd X9) (hS.row_blk X9)) (Zgi k75 (hS.row_rd Vt) (hS.row_blk Vt)) (Zgi k79 (hS.row_rd hs3) (hS.row_blk hs3)) (Zgi k83 (hS.row_rd hs4) (hS.row_blk hs4)) (SlW.of_rd s5_.k (hS.rd0 s5_.rd)) hm172) ?_
  rintro e w ⟨A173, c174, rfl, k175, hN⟩; refine ⟨_, rfl, ?_⟩; obtain ⟨hB, hS⟩ := hS.jn hN
  refine Zh (Ye hB (Zcb [5, 6] ⟨by decide, by kernel_rfl⟩ rfl (.call [Ff,Ff,Ff,Ff,Ff,Tt] 5 rfl rfl rfl ?_ (.put [Ff,Ff,Ff,Ff,Ff,Ff,Tt] 6 rfl rfl rfl ?_ .nil))))
  ·try dsimp only [Z2]
   refine Xi (ps := [(0, .tmp 72)]) [.int .u8 r171.kind, .int .i64 r171.frm, .int .i64 r171.dst, .int .i64 r171.term, .int .i64 r171.cap, .int .i64 r171.last, .int .i64 r171.lastTerm, .int .i64 r171.commit, .bool r171.okk, .slice A173 r171.entries.length c174, .int .i64 r171.snap.index, .int .i64 r171.snap.term, .int .i64 r171.snap.sum, .int .i64 r171.snap.level, .bool r171.snap.final] Y9 Zbu rfl rfl rfl rfl rfl (by kernel_rfl) hS (fun b177 w hS hB => Zh (Ye hB (Xa [Ff,Ff,Ff,Ff,Ff,Ff,Tt] 6 ⟨by decide, by kernel_rfl, by kernel_rfl⟩ rfl rfl ?_)))
   try dsimp only [Z2]
   refine Zr rfl rfl rfl CellsOf.agg hS ps7 Yo (by kernel_rfl) rfl (fun w hS hB => Zh (Yu (hB.sub (fun _ _ h => by simpa using h)) (Zo [Ff,Ff,Ff,Ff,Ff,Ff,Ff,Tt] (by decide +kernel) PFC.h (LtK.put rfl rfl rfl (Z7 rfl) (LtK.nil (Z5 (by kernel_rfl) (Zd hK170 ?_)))))))
   refine Zl (Zm rfl (RV.cell rfl (Z3 Ya hS hs7 Z1) (RV.tmp rfl RV.nil)) rfl ?_)
   obtain rfl := QJ H
   have hS := hS.nilRds
   replace hS := hS.front 2 rfl
   replace hS := hS.absorbQ ⟨r171, A173, c174⟩
   replace hS := hS.front 1 rfl
   replace hS := hS.weak Weak.boxRd
   have hS := hS.front 6 rfl
   have hS := hS.front 6 rfl
   have hS := hS.front 6 rfl
   have hS := hS.front 6 rfl
   have hS := hS.front 6 rfl
   replace hS := hS.cut 7
   exact ⟨A65, c66, A69, c70, A73, c74, A77, c78, A81, c82, (some ⟨b177, 0, none⟩), 1, ([⟨r171, A173, c174⟩] : List Mq), rfl, k67, k71, k75, k79, k83, ⟨Nat.le_refl 1, by decide⟩, rfl, (Jw k175 Vh), hS⟩
  ·try dsimp only [Z2]
   refine Zr rfl rfl rfl CellsOf.agg hS ps6 Yo (by kernel_rfl) rfl (fun w hS hB => Zh (Yu (hB.sub (fun _ _ h => by simpa using h)) (Yd [Ff,Ff,Ff,Ff,Ff,Tt] 5 ⟨by decide, by kernel_rfl, by kernel_rfl⟩ rfl rfl ?_)))
   try dsimp only [Z2]
   refine Xi (ps := [(0, .tmp 72)]) [.int .u8 r171.kind, .int .i64 r171.frm, .int .i64 r171.dst, .int .i64 r171.term, .int .i64 r171.cap, .int .i64 r171.last, .int .i64 r171.lastTerm, .int .i64 r171.commit, .bool r171.okk, .slice A173 r171.entries.length c174, .int .i64 r171.snap.index, .int .i64 r171.snap.term, .int .i64 r171.snap.sum, .int .i64 r171.snap.level, .bool r171.snap.final] Y9 Zbu rfl rfl rfl rfl rfl (by kernel_rfl) hS (fun b177 w hS hB => Zh (Ye hB (Zo [Ff,Ff,Ff,Ff,Ff,Ff,Ff,Tt] (by decide +kernel) PFC.h (LtK.put rfl rfl rfl (Z7 rfl) (LtK.nil (Z5 (by kernel_rfl) (Zd hK170 ?_)))))))
   refine Zl (Zm rfl (RV.cell rfl (Z3 Ya hS hs7 Z1) (RV.tmp rfl RV.nil)) rfl ?_)
   obtain rfl := QJ H
   have hS := hS.nilRds
   replace hS := hS.front 2 rfl
   replace hS := hS.absorbQ ⟨r171, A173, c174⟩
   replace hS := hS.front 1 rfl
   replace hS := hS.weak Weak.boxRd
   have hS := hS.front 6 rfl
   have hS := hS.front 6 rfl
   have hS := hS.front 6 rfl
   have hS := hS.front 6 rfl
   have hS := hS.front 6 rfl
   replace hS := hS.cut 7
   exact ⟨A65, c66, A69, c70, A73, c74, A77, c78, A81, c82, (some ⟨b177, 0, none⟩), 1, ([⟨r171, A173, c174⟩] : List Mq), rfl, k67, k71, k75, k79, k83, ⟨Nat.le_refl 1, by decide⟩, rfl, (Jw k175 Vh), hS⟩
 replace H := Zp H hb
 refine Zg (Za rfl rfl rfl (Zc Zz rfl) (Za rfl rfl rfl (Zk V2 rfl (Zgf _) hS hs7 trivial Ze8) (Za rfl rfl rfl (Zc Je rfl) (Za rfl rfl rfl (Zi Zy rfl (Zgf _) hS Vv trivial Zbe) (Za rfl rfl rfl (Zc Ji rfl) (Za rfl rfl rfl (Zi Zy rfl (Zgf _) hS Vv trivial Xd) ?_))))))
 obtain ⟨r154, hm155, H⟩ := bind_some H
 refine Zt rfl rfl rfl rfl (by kernel_rfl) rfl (Ze0 r63.tuple x1.term x1.frm A65 c66 _ (Zgi k67 (hS.rd hs0) (hS.rd_blk hs0)) hm155) ?_
 rintro e w ⟨A156, c157, rfl, k158, hN⟩; refine ⟨_, rfl, ?_⟩; obtain ⟨hB, hS⟩ := hS.jn hN
 refine Zb 1 rfl (Za rfl rfl rfl (Yj rfl rfl) (Za rfl rfl rfl (Yj rfl rfl) (Za rfl rfl rfl (Zc Zz rfl) (Zr rfl rfl rfl CellsOf.agg hS ps8 st4_8 (by kernel_rfl) rfl (fun w hS hB => Zh (Zd hK151 (Zf (fun K hK160 => ?_))))))))
 refine Yh 8 [6] (fun i b => (i = 6 → b ≠ b6)) ⟨by kernel_rfl, by kernel_rfl⟩ hS (fun w hS hB => Zo [Tt,Tt,Tt,Tt] (by decide +kernel) PFC.h (LtK.put rfl rfl rfl (Zk Ya rfl (Zgg _) hS hs8 trivial Z1) (LtK.put rfl rfl rfl (Zk Ya rfl (Zgg _) hS hs8 trivial Z1) (LtK.put rfl rfl rfl (Zk Vz rfl (Zgg _) hS hs7 trivial X7) (LtK.put rfl rfl rfl (Zu rfl) (LtK.nil (Yd [Ff,Ff,Ff,Ff,Tt] 4 ⟨by decide, by kernel_rfl, by kernel_rfl⟩ rfl rfl ?_)))))))
 try dsimp only [Z2]
 obtain ⟨r161, hm162, H⟩ := bind_some H
 refine Zt rfl rfl rfl rfl (by kernel_rfl) rfl (Zbp {r63 with tuple := r154.1} x1 2 r149 0 A156 c157 A69 c70 A73 c74 A77 c78 A81 c82 A5_ c5_ _ (Zgi k158 (hS.rd hs0) (hS.rd_blk hs0)) (Zgi k71 (hS.row_rd Vt) (hS.row_blk Vt)) (Zgi k75 (hS.row_rd hs3) (hS.row_blk hs3)) (Zgi k79 (hS.row_rd hs4) (hS.row_blk hs4)) (Zgi k83 (hS.row_rd hs5) (hS.row_blk hs5)) (SlW.of_rd s5_.k (hS.rd0 s5_.rd)) hm162) ?_
 rintro e w ⟨A163, c164, rfl, k165, hN⟩; refine ⟨_, rfl, ?_⟩; obtain ⟨hB, hS⟩ := hS.jn hN
 refine Zh (Ye hB (Zcb [5, 6] ⟨by decide, by kernel_rfl⟩ rfl (.call [Ff,Ff,Ff,Ff,Ff,Tt] 5 rfl rfl rfl ?_ (.put [Ff,Ff,Ff,Ff,Ff,Ff,Tt] 6 rfl rfl rfl ?_ .nil))))
 ·try dsimp only [Z2]
  refine Xi (ps := [(0, .tmp 72)]) [.int .u8 r161.kind, .int .i64 r161.frm, .int .i64 r161.dst, .int .i64 r161.term, .int .i64 r161.cap, .int .i64 r161.last, .int .i64 r161.lastTerm, .int .i64 r161.commit, .bool r161.okk, .slice A163 r161.entries.length c164, .int .i64 r161.snap.index, .int .i64 r161.snap.term, .int .i64 r161.snap.sum, .int .i64 r161.snap.level, .bool r161.snap.final] Y9 Zbu rfl rfl rfl rfl rfl (by kernel_rfl) hS (fun b167 w hS hB => Zh (Ye hB (Xa [Ff,Ff,Ff,Ff,Ff,Ff,Tt] 6 ⟨by decide, by kernel_rfl, by kernel_rfl⟩ rfl rfl ?_)))
  try dsimp only [Z2]
  refine Zr rfl rfl rfl CellsOf.agg hS ps8 Yo (by kernel_rfl) rfl (fun w hS hB => Zh (Yu (hB.sub (fun _ _ h => by simpa using h)) (Zo [Ff,Ff,Ff,Ff,Ff,Ff,Ff,Tt] (by decide +kernel) PFC.h (LtK.put rfl rfl rfl (Z7 rfl) (LtK.nil (Z5 (by kernel_rfl) (Zd hK160 ?_)))))))
  refine Zl (Zm rfl (RV.cell rfl (Z3 Ya hS hs8 Z1) (RV.tmp rfl RV.nil)) rfl ?_)
  obtain rfl := QJ H
  have hS := hS.nilRds
  replace hS := hS.front 2 rfl
  replace hS := hS.absorbQ ⟨r161, A163, c164⟩
  replace hS := hS.front 1 rfl
  replace hS := hS.weak Weak.boxRd
  have hS := hS.front 7 rfl
  have hS := hS.front 7 rfl
  have hS := hS.front 7 rfl
  have hS := hS.front 7 rfl
  have hS := hS.front 6 rfl
  replace hS := hS.cut 7
  exact ⟨A156, c157, A69, c70, A73, c74, A77, c78, A81, c82, (some ⟨b167, 0, none⟩), 1, ([⟨r161, A163, c164⟩] : List Mq), rfl, k158, k71, k75, k79, k83, ⟨Nat.le_refl 1, by decide⟩, rfl, (Jw k165 Vh), hS⟩
 ·try dsimp only [Z2]
  refine Zr rfl rfl rfl CellsOf.agg hS ps7 Yo (by kernel_rfl) rfl (fun w hS hB => Zh (Yu (hB.sub (fun _ _ h => by simpa using h)) (Yd [Ff,Ff,Ff,Ff,Ff,Tt] 5 ⟨by decide, by kernel_rfl, by kernel_rfl⟩ rfl rfl ?_)))
  try dsimp only [Z2]
  refine Xi (ps := [(0, .tmp 72)]) [.int .u8 r161.kind, .int .i64 r161.frm, .int .i64 r161.dst, .int .i64 r161.term, .int .i64 r161.cap, .int .i64 r161.last, .int .i64 r161.lastTerm, .int .i64 r161.commit, .bool r161.okk, .slice A163 r161.entries.length c164, .int .i64 r161.snap.index, .int .i64 r161.snap.term, .int .i64 r161.snap.sum, .int .i64 r161.snap.level, .bool r161.snap.final] Y9 Zbu rfl rfl rfl rfl rfl (by kernel_rfl) hS (fun b167 w hS hB => Zh (Ye hB (Zo [Ff,Ff,Ff,Ff,Ff,Ff,Ff,Tt] (by decide +kernel) PFC.h (LtK.put rfl rfl rfl (Z7 rfl) (LtK.nil (Z5 (by kernel_rfl) (Zd hK160 ?_)))))))
  refine Zl (Zm rfl (RV.cell rfl (Z3 Ya hS hs8 Z1) (RV.tmp rfl RV.nil)) rfl ?_)
  obtain rfl := QJ H
  have hS := hS.nilRds
  replace hS := hS.front 2 rfl
  replace hS := hS.absorbQ ⟨r161, A163, c164⟩
  replace hS := hS.front 1 rfl
  replace hS := hS.weak Weak.boxRd
  have hS := hS.front 7 rfl
  have hS := hS.front 7 rfl
  have hS := hS.front 7 rfl
  have hS := hS.front 7 rfl
  have hS := hS.front 6 rfl
  replace hS := hS.cut 7
  exact ⟨A156, c157, A69, c70, A73, c74, A77, c78, A81, c82, (some ⟨b167, 0, none⟩), 1, ([⟨r161, A163, c164⟩] : List Mq), rfl, k158, k71, k75, k79, k83, ⟨Nat.le_refl 1, by decide⟩, rfl, (Jw k165 Vh), hS⟩
theorem c_elect_Voted (x0 : Co) (x1 : Ms) (A0_ : OA) (c0_ : Nat) (A1_ : OA) (c1_ : Nat) (A2_ : OA) (c2_ : Nat) (A3_ : OA) (c3_ : Nat) (A4_ : OA) (c4_ : Nat) (A5_ : OA) (c5_ : Nat) (w0 : World) (s0_ : SlI w0 enE A0_ c0_ x0.tuple.log) (s1_ : SlI w0 enO A1_ c1_ x0.votes) (s2_ : SlI w0 Vr A2_ c2_ x0.next) (s3_ : SlI w0 Vr A3_ c3_ x0.mtch) (s4_ : SlI w0 Vr A4_ c4_ x0.caps) (s5_ : SlW w0 enE A5_ c5_ x1.entries) {r : Co × List Ms} (H : J8 x0 x1 = some r) : Calls Try.prog 19 #[.agg #[.int .i64 x0.id, .int .i64 x0.n, .int .u8 x0.role, .int .i64 x0.binary, .int .i64 x0.tuple.snap.index, .int .i64 x0.tuple.snap.term, .int .i64 x0.tuple.snap.sum, .int .i64 x0.tuple.snap.level, .bool x0.tuple.snap.final, .slice A0_ x0.tuple.log.length c0_, .int .i64 x0.tuple.term, .int .i64 x0.tuple.vote, .int .i64 x0.commit, .int .i64 x0.applied.index, .int .i64 x0.applied.term, .int .i64 x0.applied.sum, .int .i64 x0.applied.level, .bool x0.applied.final, .slice A1_ x0.votes.length c1_, .slice A2_ x0.next.length c2_, .slice A3_ x0.mtch.length c3_, .slice A4_ x0.caps.length c4_], .agg #[.int .u8 x1.kind, .int .i64 x1.frm, .int .i64 x1.dst, .int .i64 x1.term, .int .i64 x1.cap, .int .i64 x1.last, .int .i64 x1.lastTerm, .int .i64 x1.commit, .bool x1.okk, .slice A5_ x1.entries.length c5_, .int .i64 x1.snap.index, .int .i64 x1.snap.term, .int .i64 x1.snap.sum, .int .i64 x1.snap.level, .bool x1.snap.final]] w0 fun e w' => ∃ (A0 : OA) (c0 : Nat) (A1 : OA) (c1 : Nat) (A2 : OA) (c2 : Nat) (A3 : OA) (c3 : Nat) (A4 : OA) (c4 : Nat) (A5 : OA) (c5 : Nat) (q5 : List Mq), e = .returned (.tuple #[.agg #[.int .i64 r.1.id, .int .i64 r.1.n, .int .u8 r.1.role, .int .i64 r.1.binary, .int .i64 r.1.tuple.snap.index, .int .i64 r.1.tuple.snap.term, .int .i64 r.1.tuple.snap.sum, .int .i64 r.1.tuple.snap.level, .bool r.1.tuple.snap.final, .slice A0 r.1.tuple.log.length c0, .int .i64 r.1.tuple.term, .int .i64 r.1.tuple.vote, .int .i64 r.1.commit, .int .i64 r.1.applied.index, .int .i64 r.1.applied.term, .int .i64 r.1.applied.sum, .int .i64 r.1.applied.level, .bool r.1.applied.final, .slice A1 r.1.votes.length c1, .slice A2 r.1.next.length c2, .slice A3 r.1.mtch.length c3, .slice A4 r.1.caps.length c4], .slice A5 r.2.length c5]) ∧ (r.1.tuple.log.length ≤ c0 ∧ c0 ≤ maxLen) ∧ (r.1.votes.length ≤ c1 ∧ c1 ≤ maxLen) ∧ (r.1.next.length ≤ c2 ∧ c2 ≤ maxLen) ∧ (r.1.mtch.length ≤ c3 ∧ c3 ≤ maxLen) ∧ (r.1.caps.length ≤ c4 ∧ c4 ≤ maxLen) ∧ (r.2.length ≤ c5 ∧ c5 ≤ maxLen) ∧ q5.map Mq.m = r.2 ∧ (∀ y ∈ q5, okQ y) ∧ St0 All w0 w' [.rd A0 (Z8 enE r.1.tuple.log), .row (.slice A1 r.1.votes.length c1) 4 1 r.1.votes.length (Z8 enO r.1.votes), .row (.slice A2 r.1.next.length c2) 3 1 r.1.next.length (Z8 Vr r.1.next), .row (.slice A3 r.1.mtch.length c3) 3 1 r.1.mtch.length (Z8 Vr r.1.mtch), .row (.slice A4 r.1.caps.length c4) 3 1 r.1.caps.length (Z8 Vr r.1.caps), .rd A5 (Z8 enQ q5), .rds (q5.map Zfk)] := by
 unfold J8 at H
 refine Xw Try.func19 rfl Try.ntmps19 rfl ?_
 have hS := St0.start All w0
 refine Zf (fun K hK1 => Zg (Yq rfl rfl rfl CellsOf.agg hS (fun b2 w hS hB => Yq rfl rfl rfl CellsOf.agg hS (fun b4 w hS hB => Yr rfl rfl Zcn hS (fun b6 w hS hB => Zb 1 rfl (Zh (Zd hK1 ?_)))))))
 refine wpC_scope1 0 rfl (Zf (fun K hK8 => Zf (fun K hK9 => Zg (Za rfl rfl rfl (Zk Ya rfl (Zgf _) hS Vt trivial Z1) (Za rfl rfl rfl (Zk Vz rfl (Zgf _) hS X9 trivial X7) ?_)))))
 obtain ⟨r10, hm11, H⟩ := bind_some H
 refine Zt rfl rfl rfl rfl (by kernel_rfl) rfl (c_elect_fits x0 x1 A0_ c0_ A1_ c1_ A2_ c2_ A3_ c3_ A4_ c4_ A5_ c5_ _ (Zgi s0_.k (hS.rd0 s0_.rd) (hS.blk0 s0_.blk)) (Zgi s1_.k (hS.rd0 s1_.rd) (hS.blk0 s1_.blk)) (Zgi s2_.k (hS.rd0 s2_.rd) (hS.blk0 s2_.blk)) (Zgi s3_.k (hS.rd0 s3_.rd) (hS.blk0 s3_.blk)) (Zgi s4_.k (hS.rd0 s4_.rd) (hS.blk0 s4_.blk)) (SlW.of_rd s5_.k (hS.rd0 s5_.rd)) hm11) ?_
 rintro e w ⟨rfl, hN⟩; refine ⟨_, rfl, ?_⟩; obtain ⟨hB, hS⟩ := hS.jn hN
 refine Za rfl rfl rfl (Yt rfl) (Zb 1 rfl (Zs 10 rfl (fun hb => ?_) (fun hb => ?_)))
 ·replace H := Zp H hb
  refine Zb 4 rfl (Zh (Zd hK9 (Zn rfl rfl (Zf (fun K hK13 => Zg (Za rfl rfl rfl (Zk Ya rfl (Zgf _) hS Vt trivial Z1) ?_))))))
  obtain ⟨r14, hm15, H⟩ := bind_some H
  refine Zt rfl rfl rfl rfl (by kernel_rfl) rfl (Zdg x0 A0_ c0_ A1_ c1_ A2_ c2_ A3_ c3_ A4_ c4_ _ (Zgi s0_.k (hS.rd0 s0_.rd) (hS.blk0 s0_.blk)) (Zgi s1_.k (hS.rd0 s1_.rd) (hS.blk0 s1_.blk)) (Zgi s2_.k (hS.rd0 s2_.rd) (hS.blk0 s2_.blk)) (Zgi s3_.k (hS.rd0 s3_.rd) (hS.blk0 s3_.blk)) (Zgi s4_.k (hS.rd0 s4_.rd) (hS.blk0 s4_.blk)) hm15) ?_
  rintro e w ⟨A16, c17, A20, c21, A24, c25, A28, c29, A32, c33, rfl, k18, k22, k26, k30, k34, hN⟩; refine ⟨_, rfl, ?_⟩; obtain ⟨hB, hS⟩ := hS.jn hN
  refine Zr rfl rfl rfl CellsOf.agg hS ps5 Yo (by kernel_rfl) rfl (fun w hS hB => Zb 1 rfl (Zh (Zd hK13 (Zl (Ze (Yn (Zm rfl (RV.cell rfl (Z3 Ya hS hs5 Z1) (RV.tmp rfl RV.nil)) rfl ?_)))))))
  obtain rfl := QJ H
  have hS := hS.nilRds
  replace hS := hS.nilRd
  have hS := hS.front 6 rfl
  have hS := hS.front 6 rfl
  have hS := hS.front 6 rfl
  have hS := hS.front 6 rfl
  have hS := hS.front 6 rfl
  replace hS := hS.weak Weak.rowRd
  replace hS := hS.cut 7
  exact ⟨A16, c17, A20, c21, A24, c25, A28, c29, A32, c33, none, 0, ([] : List Mq), rfl, k18, k22, k26, k30, k34, ⟨Nat.le_refl _, Nat.zero_le _⟩, rfl, Vh, hS⟩
 replace H := Zq H hb
 refine Za rfl rfl rfl (Zc V3 rfl) (Za rfl rfl rfl (Zi Zbi rfl (Zgf _) hS X9 trivial Yw) (Za rfl rfl rfl (Yl rfl rfl) (Zb 1 rfl (Zh (Zd hK9 (Zx rfl (fun hb => ?_) (fun hb => ?_)))))))
 ·replace H := Zp H hb
  refine Zf (fun K hK38 => Zg (Za rfl rfl rfl (Zk Ya rfl (Zgf _) hS Vt trivial Z1) ?_))
  obtain ⟨r39, hm40, H⟩ := bind_some H
  refine Zt rfl rfl rfl rfl (by kernel_rfl) rfl (Zdg x0 A0_ c0_ A1_ c1_ A2_ c2_ A3_ c3_ A4_ c4_ _ (Zgi s0_.k (hS.rd0 s0_.rd) (hS.blk0 s0_.blk)) (Zgi s1_.k (hS.rd0 s1_.rd) (hS.blk0 s1_.blk)) (Zgi s2_.k (hS.rd0 s2_.rd) (hS.blk0 s2_.blk)) (Zgi s3_.k (hS.rd0 s3_.rd) (hS.blk0 s3_.blk)) (Zgi s4_.k (hS.rd0 s4_.rd) (hS.blk0 s4_.blk)) hm40) ?_
  rintro e w ⟨A41, c42, A45, c46, A49, c50, A53, c54, A57, c58, rfl, k43, k47, k51, k55, k59, hN⟩; refine ⟨_, rfl, ?_⟩; obtain ⟨hB, hS⟩ := hS.jn hN
  refine Zr rfl rfl rfl CellsOf.agg hS ps5 Yo (by kernel_rfl) rfl (fun w hS hB => Zb 1 rfl (Zh (Zd hK38 (Zl (Ze (Yn (Zm rfl (RV.cell rfl (Z3 Ya hS hs5 Z1) (RV.tmp rfl RV.nil)) rfl ?_)))))))
  obtain rfl := QJ H
  have hS := hS.nilRds
  replace hS := hS.nilRd
  have hS := hS.front 6 rfl
  have hS := hS.front 6 rfl
  have hS := hS.front 6 rfl
  have hS := hS.front 6 rfl
  have hS := hS.front 6 rfl
  replace hS := hS.weak Weak.rowRd
  replace hS := hS.cut 7
  exact ⟨A41, c42, A45, c46, A49, c50, A53, c54, A57, c58, none, 0, ([] : List Mq), rfl, k43, k47, k51, k55, k59, ⟨Nat.le_refl _, Nat.zero_le _⟩, rfl, Vh, hS⟩
 replace H := Zq H hb
 refine Zv (Zd hK8 (Zf (fun K hK62 => Zg (Za rfl rfl rfl (Zk Ya rfl (Zgf _) hS Vt trivial Z1) (Za rfl rfl rfl (Zk Vz rfl (Zgf _) hS X9 trivial X7) ?_)))))
 obtain ⟨r63, hm64, H⟩ := bind_some H
 refine Zt rfl rfl rfl rfl (by kernel_rfl) rfl (c_elect_Meet x0 x1 A0_ c0_ A1_ c1_ A2_ c2_ A3_ c3_ A4_ c4_ A5_ c5_ _ (Zgi s0_.k (hS.rd0 s0_.rd) (hS.blk0 s0_.blk)) (Zgi s1_.k (hS.rd0 s1_.rd) (hS.blk0 s1_.blk)) (Zgi s2_.k (hS.rd0 s2_.rd) (hS.blk0 s2_.blk)) (Zgi s3_.k (hS.rd0 s3_.rd) (hS.blk0 s3_.blk)) (Zgi s4_.k (hS.rd0 s4_.rd) (hS.blk0 s4_.blk)) (SlW.of_rd s5_.k (hS.rd0 s5_.rd)) hm64) ?_
 rintro e w ⟨A65, c66, A69, c70, A73, c74, A77, c78, A81, c82, rfl, k67, k71, k75, k79, k83, hN⟩; refine ⟨_, rfl, ?_⟩; obtain ⟨hB, hS⟩ := hS.jn hN
 refine Zr rfl rfl rfl CellsOf.agg hS ps7 Yo (by kernel_rfl) rfl (fun w hS hB => Zh (Zd hK62 (Zf (fun K hK85 => Zf (fun K hK86 => Zg (Za rfl rfl rfl (Zc fo_36_8 rfl) (Za rfl rfl rfl (Zi sc_4 rfl (Zgf _) hS Vv trivial sg8_1) ?_)))))))
 refine Za rfl rfl rfl (Yt rfl) (Zb 1 rfl (Zs 23 rfl (fun hb => ?_) (fun hb => ?_)))
 ·replace H := Zp H hb
  refine Zb 12 rfl (Zh (Zd hK86 (Zn rfl rfl (Jh (Xx (Jz (Zf (fun K hK88 => ?_))))))))
  refine Zv (Zd hK88 (Zf (fun K hK89 => Zg (Za rfl rfl rfl (Zk Ya rfl (Zgf _) hS hs7 trivial Z1) (Zr rfl rfl rfl CellsOf.agg hS ps5 Yo (by kernel_rfl) rfl (fun w hS hB => Zb 1 rfl (Zh ?_)))))))
  refine Zd hK89 (Zl (Yn (Zm rfl (RV.cell rfl (Z3 Ya hS hs5 Z1) (RV.tmp rfl RV.nil)) rfl ?_)))
  obtain rfl := QJ H
  have hS := hS.nilRds
  replace hS := hS.nilRd
  have hS := hS.front 6 rfl
  have hS := hS.front 6 rfl
  have hS := hS.front 6 rfl
  have hS := hS.front 6 rfl
  have hS := hS.front 6 rfl
  replace hS := hS.cut 7
  exact ⟨A65, c66, A69, c70, A73, c74, A77, c78, A81, c82, none, 0, ([] : List Mq), rfl, k67, k71, k75, k79, k83, ⟨Nat.le_refl _, Nat.zero_le _⟩, rfl, Vh, hS⟩
 replace H := Zq H hb
 refine Za rfl rfl rfl (Zc Zbg rfl) (Za rfl rfl rfl (Zi Zbi rfl (Zgf _) hS hs7 trivial Zbj) (Za rfl rfl rfl (Yl rfl rfl) (Zb 2 rfl (Zs 28 rfl (fun hb => ?_) (fun hb => ?_)))))
 ·replace H := Zp H hb
  refine Zb 7 rfl (Zh (Zd hK86 (Zn rfl rfl (Jh (Xx (Jz (Zf (fun K hK92 => ?_))))))))
  refine Zv (Zd hK92 (Zf (fun K hK93 => Zg (Za rfl rfl rfl (Zk Ya rfl (Zgf _) hS hs7 trivial Z1) (Zr rfl rfl rfl CellsOf.agg hS ps5 Yo (by kernel_rfl) rfl (fun w hS hB => Zb 1 rfl (Zh ?_)))))))
  refine Zd hK93 (Zl (Yn (Zm rfl (RV.cell rfl (Z3 Ya hS hs5 Z1) (RV.tmp rfl RV.nil)) rfl ?_)))
  obtain rfl := QJ H
  have hS := hS.nilRds
  replace hS := hS.nilRd
  have hS := hS.front 6 rfl
  have hS := hS.front 6 rfl
  have hS := hS.front 6 rfl
  have hS := hS.front 6 rfl
  have hS := hS.front 6 rfl
  replace hS := hS.cut 7
  exact ⟨A65, c66, A69, c70, A73, c74, A77, c78, A81, c82, none, 0, ([] : List Mq), rfl, k67, k71, k75, k79, k83, ⟨Nat.le_refl _, Nat.zero_le _⟩, rfl, Vh, hS⟩
 replace H := Zq H hb
 refine Za rfl rfl rfl (Zc Je rfl) (Za rfl rfl rfl (Zi Zy rfl (Zgf _) hS Vv trivial Zbe) (Za rfl rfl rfl (Zc Zz rfl) (Za rfl rfl rfl (Zc Xc rfl) (Za rfl rfl rfl (Zi Zy rfl (Zgf _) hS hs7 trivial Xv) (Za rfl rfl rfl (Yl rfl rfl) (Zb 1 rfl (Zh ?_)))))))
 refine Zd hK86 (Zx rfl (fun hb => ?_) (fun hb => ?_))
 ·replace H := Zp H hb
  refine Jh (Xx (Jz (Zf (fun K hK96 => Zv (Zd hK96 (Zf (fun K hK97 => Zg ?_)))))))
  refine Za rfl rfl rfl (Zk Ya rfl (Zgf _) hS hs7 trivial Z1) (Zr rfl rfl rfl CellsOf.agg hS ps5 Yo (by kernel_rfl) rfl (fun w hS hB => Zb 1 rfl (Zh (Zd hK97 (Zl (Yn (Zm rfl (RV.cell rfl (Z3 Ya hS hs5 Z1) (RV.tmp rfl RV.nil)) rfl ?_)))))))
  obtain rfl := QJ H
  have hS := hS.nilRds
  replace hS := hS.nilRd
  have hS := hS.front 6 rfl
  have hS := hS.front 6 rfl
  have hS := hS.front 6 rfl
  have hS := hS.front 6 rfl
  have hS := hS.front 6 rfl
  replace hS := hS.cut 7
  exact ⟨A65, c66, A69, c70, A73, c74, A77, c78, A81, c82, none, 0, ([] : List Mq), rfl, k67, k71, k75, k79, k83, ⟨Nat.le_refl _, Nat.zero_le _⟩, rfl, Vh, hS⟩
 replace H := Zq H hb
 refine Zv (Zd hK85 (Zf (fun K hK99 => Zf (fun K hK100 => Zg (Za rfl rfl rfl (Zc Zaq rfl) (Za rfl rfl rfl (Zi Zf9 rfl (Zgf _) hS hs7 trivial Zeq) (Za rfl rfl rfl (Zc Ji rfl) ?_)))))))
 refine Za rfl rfl rfl (Zi Zy rfl (Zgf _) hS Vv trivial Xd) (Za rfl rfl rfl (Zeo rfl rfl) ?_)
 obtain ⟨e101, hi103, H⟩ := bind_some H
 obtain ⟨j102, hi103a, hi103b, hi103c⟩ := Xn hi103
 refine Za rfl rfl rfl (Y2 Zff rfl rfl hi103a hi103c (Rd.el (hS.row_rd X9) Zco hi103b)) (Ze6 (a' := true) (zs := (Zbf r63.votes (IntKind.wrap .i64 (x1.frm - 1)) true)) Zco rfl rfl rfl CellsOf.bool hS ps1 (Rd.el (hS.row_rd X9) Zco hi103b) hi103a hi103b rfl Zfn (by kernel_rfl) rfl (fun w hS => ?_))
 have hi104b := Zfr (a := true) hi103a hi103b
 have hi104a := hi103a
 refine Zh (Zd hK100 (Zf (fun K hK105 => Zg (Za rfl rfl rfl (Zc Zaq rfl) (Za rfl rfl rfl (Zi Zf9 rfl (Zgf _) hS hs7 trivial Zeq) ?_)))))
 obtain ⟨r106, hm107, H⟩ := bind_some H
 refine Zt rfl rfl rfl rfl (by kernel_rfl) (by (repeat rw [(Vu rfl)]); rfl) (Zdl (Zbf r63.votes (IntKind.wrap .i64 (x1.frm - 1)) true) A69 c70 _ (Zgi (Zdv k71) (hS.row_rd X9) (hS.row_blk X9)) hm107) ?_
 rintro e w ⟨rfl, hN⟩; refine ⟨_, rfl, ?_⟩; obtain ⟨hB, hS⟩ := hS.jn hN
 refine Zh (Zd hK105 (Zx rfl (fun hb => ?_) (fun hb => ?_)))
 rotate_left
 ·replace H := Zq H hb
  refine Zv (Zd hK99 (Zf (fun K hK134 => Zd0 (Zd hK134 (Zf (fun K hK135 => Zg (Za rfl rfl rfl (Zk Ya rfl (Zgf _) hS hs7 trivial Z1) ?_)))))))
  refine Zr rfl rfl rfl CellsOf.agg hS ps5 Yo (by kernel_rfl) rfl (fun w hS hB => Zb 1 rfl (Zh (Zd hK135 (Zl (Yn (Zm rfl (RV.cell rfl (Z3 Ya hS hs5 Z1) (RV.tmp rfl RV.nil)) rfl ?_))))))
  obtain rfl := QJ H
  have hS := hS.nilRds
  replace hS := hS.nilRd
  have hS := hS.front 6 rfl
  have hS := hS.front 6 rfl
  have hS := hS.front 6 rfl
  have hS := hS.front 6 rfl
  have hS := hS.front 6 rfl
  replace hS := hS.cut 7
  exact ⟨A65, c66, A69, c70, A73, c74, A77, c78, A81, c82, none, 0, ([] : List Mq), by (repeat rw [(Vu rfl)]); rfl, k67, (Zdv k71), k75, k79, k83, ⟨Nat.le_refl _, Nat.zero_le _⟩, rfl, Vh, hS.eqv (by (repeat rw [(Vu rfl)]); rfl)⟩
 replace H := Zp H hb
 refine Zg (Za rfl rfl rfl (Zk Ya rfl (Zgf _) hS hs7 trivial Z1) ?_)
 obtain ⟨r109, hm110, H⟩ := bind_some H
 refine Zt rfl rfl rfl rfl (by kernel_rfl) (by (repeat rw [(Vu rfl)]); rfl) (c_elect_Lead {r63 with votes := (Zbf r63.votes (IntKind.wrap .i64 (x1.frm - 1)) true)} A65 c66 A69 c70 A73 c74 A77 c78 A81 c82 _ (Zgi k67 (hS.rd hs0) (hS.rd_blk hs0)) (Zgi (Zdv k71) (hS.row_rd X9) (hS.row_blk X9)) (Zgi k75 (hS.row_rd Vt) (hS.row_blk Vt)) (Zgi k79 (hS.row_rd hs3) (hS.row_blk hs3)) (Zgi k83 (hS.row_rd hs4) (hS.row_blk hs4)) hm110) ?_
 rintro e w ⟨A111, c112, A115, c116, A119, c120, A123, c124, A127, c128, rfl, k113, k117, k121, k125, k129, hN⟩; refine ⟨_, rfl, ?_⟩; obtain ⟨hB, hS⟩ := hS.jn hN
 refine Zr rfl rfl rfl CellsOf.agg hS ps12 Yo (by kernel_rfl) rfl (fun w hS hB => Zh (Zd hK99 (Zf (fun K hK131 => Zd0 (Zd hK131 (Zf (fun K hK132 => Zg ?_)))))))
 refine Za rfl rfl rfl (Zk Ya rfl (Zgf _) hS hs12 trivial Z1) (Zr rfl rfl rfl CellsOf.agg hS ps10 Yo (by kernel_rfl) rfl (fun w hS hB => Zb 1 rfl (Zh (Zd hK132 (Zl (Yn (Zm rfl (RV.cell rfl (Z3 Ya hS hs10 Z1) (RV.tmp rfl RV.nil)) rfl ?_)))))))
 obtain rfl := QJ H
 have hS := hS.nilRds
 replace hS := hS.nilRd
 have hS := hS.front 6 rfl
 have hS := hS.front 6 rfl
 have hS := hS.front 6 rfl
 have hS := hS.front 6 rfl
 have hS := hS.front 6 rfl
 replace hS := hS.cut 7
 exact ⟨A111, c112, A115, c116, A119, c120, A123, c124, A127, c128, none, 0, ([] : List Mq), rfl, k113, k117, k121, k125, k129, ⟨Nat.le_refl _, Nat.zero_le _⟩, rfl, Vh, hS⟩
theorem Zbb (w0 : World) {r : Bool} (H : Jl = some r) : Calls Try.prog 11 #[] w0 fun e w' => e = .returned (.bool r) ∧ St0 All w0 w' [] := by
 unfold Jl at H
 refine gw_enter0 Try.func11 rfl Try.ntmps11 rfl ?_
 have hS := St0.start All w0
 refine Zf (fun K hK1 => Zg (Zb 1 rfl (Zh (Zd hK1 (Zf (fun K hK2 => Zg ?_))))))
 obtain ⟨r3, hm4, H⟩ := bind_some H
 refine Zt rfl rfl rfl rfl (by kernel_rfl) rfl (Zf0 _ hm4) ?_
 rintro e w ⟨A5, c6, rfl, k7, hN⟩; refine ⟨_, rfl, ?_⟩; obtain ⟨hB, hS⟩ := hS.jn hN
 obtain ⟨r9, hm10, H⟩ := bind_some H
 refine Zt rfl rfl rfl rfl (by kernel_rfl) rfl (c_ref20_New 1 1 1 r3 A5 c6 _ (Zgi k7 (hS.rd hs0) (hS.rd_blk hs0)) hm10) ?_
 rintro e w ⟨A11, c12, A15, c16, A19, c20, A23, c24, A27, c28, rfl, k13, k17, k21, k25, k29, hN⟩; refine ⟨_, rfl, ?_⟩; obtain ⟨hB, hS⟩ := hS.jn hN
 obtain ⟨r31, hm32, H⟩ := bind_some H
 refine Zt rfl rfl rfl rfl (by kernel_rfl) rfl (Zep r9 A11 c12 A15 c16 A19 c20 A23 c24 A27 c28 _ (Zgi k13 (hS.row_rd hs0) (hS.row_blk hs0)) (Zgi k17 (hS.row_rd X9) (hS.row_blk X9)) (Zgi k21 (hS.row_rd Vt) (hS.row_blk Vt)) (Zgi k25 (hS.row_rd hs3) (hS.row_blk hs3)) (Zgi k29 (hS.row_rd hs4) (hS.row_blk hs4)) hm32) ?_
 rintro e w ⟨A33, c34, A37, c38, A41, c42, A45, c46, A49, c50, A53, c54, q57, rfl, k35, k39, k43, k47, k51, k55, hq58, okq59, hN⟩; refine ⟨_, rfl, ?_⟩; obtain ⟨hB, hS⟩ := hS.jn hN
 refine Zb 1 rfl (Za rfl rfl rfl (Yj rfl rfl) (Za rfl rfl rfl (Yj rfl rfl) (Yr rfl rfl Zcn hS (fun b61 w hS hB => Zr rfl rfl rfl CellsOf.agg hS ps0 Yo (by kernel_rfl) rfl (fun w hS hB => Zb 1 rfl (Zh (Zd hK2 ?_)))))))
 refine Zf (fun K hK63 => Zg ?_)
 obtain ⟨r64, hm65, H⟩ := bind_some H
 refine Zt rfl rfl rfl rfl (by kernel_rfl) rfl (Zf0 _ hm65) ?_
 rintro e w ⟨A66, c67, rfl, k68, hN⟩; refine ⟨_, rfl, ?_⟩; obtain ⟨hB, hS⟩ := hS.jn hN
 obtain ⟨r70, hm71, H⟩ := bind_some H
 refine Zt rfl rfl rfl rfl (by kernel_rfl) rfl (c_ref20_New 1 3 1 r64 A66 c67 _ (Zgi k68 (hS.rd hs0) (hS.rd_blk hs0)) hm71) ?_
 rintro e w ⟨A72, c73, A76, c77, A80, c81, A84, c85, A88, c89, rfl, k74, k78, k82, k86, k90, hN⟩; refine ⟨_, rfl, ?_⟩; obtain ⟨hB, hS⟩ := hS.jn hN
 obtain ⟨r92, hm93, H⟩ := bind_some H
 refine Zt rfl rfl rfl rfl (by kernel_rfl) rfl (Zep r70 A72 c73 A76 c77 A80 c81 A84 c85 A88 c89 _ (Zgi k74 (hS.row_rd hs0) (hS.row_blk hs0)) (Zgi k78 (hS.row_rd X9) (hS.row_blk X9)) (Zgi k82 (hS.row_rd Vt) (hS.row_blk Vt)) (Zgi k86 (hS.row_rd hs3) (hS.row_blk hs3)) (Zgi k90 (hS.row_rd hs4) (hS.row_blk hs4)) hm93) ?_
 rintro e w ⟨A94, c95, A98, c99, A102, c103, A106, c107, A110, c111, A114, c115, q118, rfl, k96, k100, k104, k108, k112, k116, hq119, okq120, hN⟩; refine ⟨_, rfl, ?_⟩; obtain ⟨hB, hS⟩ := hS.jn hN
 refine Zb 1 rfl (Za rfl rfl rfl (Yj rfl rfl) (Za rfl rfl rfl (Yj rfl rfl) (Yr rfl rfl Zcn hS (fun b122 w hS hB => Zr rfl rfl rfl CellsOf.agg hS ps0 Yo (by kernel_rfl) rfl (fun w hS hB => Zb 1 rfl (Zh (Zd hK63 ?_)))))))
 refine Zf (fun K hK124 => Zf (fun K hK125 => Zg (Zb 1 rfl (Za rfl rfl rfl (Yb Y9 rfl) (Za rfl rfl rfl (Yl rfl rfl) (Zb 1 rfl (Zs 26 rfl (fun hb => ?_) (fun hb => ?_))))))))
 ·replace H := Zp H hb
  refine Zb 5 rfl (Zh (Zd hK125 (Zn rfl rfl (Zf (fun K hK127 => Zg (Zb 1 rfl (Zh ?_)))))))
  refine Zd hK127 (Zl (Ze (Zm rfl (RV.tmp rfl RV.nil) rfl ?_)))
  obtain rfl := QJ H
  replace hS := hS.cut 0
  exact ⟨rfl, hS⟩
 replace H := Zq H hb
 refine Za rfl rfl rfl (Zc Zaq rfl) (Za rfl rfl rfl (Zi Zf9 rfl (Zgf _) hS hs0 trivial Zeq) (Za rfl rfl rfl (Yb Zff rfl) (Za rfl rfl rfl (Yl rfl rfl) (Zb 1 rfl (Zh (Zd hK125 (Zx rfl (fun hb => ?_) (fun hb => ?_))))))))
 ·replace H := Zp H hb
  refine Zf (fun K hK130 => Zg (Zb 1 rfl (Zh (Zd hK130 (Zl (Ze (Zm rfl (RV.tmp rfl RV.nil) rfl ?_)))))))
  obtain rfl := QJ H
  replace hS := hS.cut 0
  exact ⟨rfl, hS⟩
 replace H := Zq H hb
 refine Zv (Zd hK124 (Zf (fun K hK132 => Yh 12 [10] (fun i b => (i = 10 → b = b122 ∨ b = b61)) ⟨by kernel_rfl, by kernel_rfl⟩ hS (fun w hS hB => wpRF_start [⟨9, 5, 30, [.int .i64 0, .int .i64 0, .int .u8 0, .int .i64 0, .int .i64 0, .int .i64 0, .int .i64 0, .int .i64 0, .bool false, .slice none 0 0, .int .i64 0, .int .i64 0, .int .i64 0, .int .i64 0, .int .i64 0, .int .i64 0, .int .i64 0, .bool false, .slice none 0 0, .slice none 0 0, .slice none 0 0, .slice none 0 0]⟩] (.cons rfl Zcn rfl rfl rfl .nil) hS (fun hok => ?_)))))
 dsimp only [List.cons_append, List.nil_append]
 refine Zcc [Ff,Ff,Tt,Tt,Tt] [] (fun _ => True) (by decide +kernel) (fun _ h => by cases h) PFC.h (fun X Y tk ht w hS => LtK.put rfl rfl rfl (Zu rfl) ?_)
 obtain ⟨e133, hi135, H⟩ := bind_some H
 obtain ⟨j134, A136, c137, hi135a, hi135b, hi135c⟩ := Zar (q := q118) hq119 hi135
 refine LtK.put rfl rfl rfl (Y2 Y9 rfl rfl hi135a hi135c (Rd.el (hS.rd Vv) Yc hi135b)) (LtK.put rfl rfl rfl (V8 Vz rfl (Zgh _ _) (Rd.el (hS.rd Vv) Yc hi135b) X7) (LtK_F' ht hS (by repeat (first | exact App.nil | apply App.cons)) (by repeat (first | exact App.nil | apply App.cons)) ?_))
 dsimp only [List.cons_append, List.nil_append]
 refine Zf8 [true] 0 hok ⟨by decide, by decide +kernel, by decide, by decide⟩ rfl rfl (fun _ => rfl) (fun _ => rfl) rfl (hend_of (by decide +kernel)) (fun X Y tk ht w hS => ?_)
 try dsimp only [Z2]
 obtain ⟨r138, hm139, H⟩ := bind_some H
 refine Zt rfl rfl rfl rfl (by kernel_rfl) rfl (Zf0 _ hm139) ?_
 rintro e w ⟨A140, c141, rfl, k142, hN⟩; refine ⟨_, rfl, ?_⟩; obtain ⟨hB, hS⟩ := hS.jn hN
 refine Zh (Zge ht hS hB (by repeat (first | exact App.nil | apply App.cons)) (by repeat (first | exact App.nil | apply App.cons)) ?_)
 dsimp only [List.cons_append, List.nil_append]
 refine Zf8 [Ff,Tt] 1 hok ⟨by decide, by decide +kernel, by decide, by decide⟩ rfl rfl (fun _ => rfl) (fun _ => rfl) rfl (hend_of (by decide +kernel)) (fun X Y tk ht w hS => ?_)
 try dsimp only [Z2]
 obtain ⟨r144, hm145, H⟩ := bind_some H
 refine Zt rfl rfl rfl rfl (by kernel_rfl) rfl (c_ref20_New 2 3 2 r138 A140 c141 _ (Zgi k142 (hS.rd hs0) (hS.rd_blk hs0)) hm145) ?_
 rintro e w ⟨A146, c147, A150, c151, A154, c155, A158, c159, A162, c163, rfl, k148, k152, k156, k160, k164, hN⟩; refine ⟨_, rfl, ?_⟩; obtain ⟨hB, hS⟩ := hS.jn hN
 refine Zh (Zge ht hS hB (by repeat (first | exact App.nil | apply App.cons)) (by repeat (first | exact App.nil | apply App.cons)) ?_)
 dsimp only [List.cons_append, List.nil_append]
 refine Zf8 [Ff,Ff,Ff,Ff,Ff,Tt] 5 hok ⟨by decide, by decide +kernel, by decide, by decide⟩ rfl rfl (fun _ => rfl) (fun _ => rfl) rfl (hend_of (by decide +kernel)) (fun X Y tk ht w hS => ?_)
 try dsimp only [Z2]
 obtain ⟨r166, hm167, H⟩ := bind_some H
 refine Zt rfl rfl rfl rfl (by kernel_rfl) rfl (c_elect_Vote r144 e133 A146 c147 A150 c151 A154 c155 A158 c159 A162 c163 A136 c137 _ (Zgi k148 (hS.row_rd hs0) (hS.row_blk hs0)) (Zgi k152 (hS.row_rd X9) (hS.row_blk X9)) (Zgi k156 (hS.row_rd Vt) (hS.row_blk Vt)) (Zgi k160 (hS.row_rd hs3) (hS.row_blk hs3)) (Zgi k164 (hS.row_rd hs4) (hS.row_blk hs4)) (SlW.of_rd (okq120 _ (List.mem_of_getElem? hi135b)) (hS.rds_rd hs13 hi135b)) hm167) ?_
 rintro e w ⟨A168, c169, A172, c173, A176, c177, A180, c181, A184, c185, A188, c189, q192, rfl, k170, k174, k178, k182, k186, k190, hq193, okq194, hN⟩; refine ⟨_, rfl, ?_⟩; obtain ⟨hB, hS⟩ := hS.jn hN
 refine Zh (Zge ht hS hB (by repeat (first | exact App.nil | apply App.cons)) (by repeat (first | exact App.nil | apply App.cons)) ?_)
 dsimp only [List.cons_append, List.nil_append]
 refine Zcc [Ff,Ff,Ff,Ff,Ff,Ff,Tt,Tt] [] (fun _ => True) (by decide +kernel) (fun _ h => by cases h) PFC.h (fun X Y tk ht w hS => LtK.put rfl rfl rfl (Zu rfl) (LtK.put rfl rfl rfl (Yj rfl rfl) (LtK_F' ht hS (by repeat (first | exact App.nil | apply App.cons)) (by repeat (first | exact App.nil | apply App.cons)) ?_)))
 dsimp only [List.cons_append, List.nil_append]
 refine Zcc [Ff,Ff,Ff,Ff,Ff,Ff,Ff,Ff,Tt] [10] (fun b => (b = b122 ∨ b = b61)) (by decide +kernel) (by intro j hj b hb; simp only [List.mem_cons, List.not_mem_nil, or_false] at hj; (try rcases hj with rfl | rfl | rfl | rfl | rfl) <;> first | (simp [hb]; done) | simp_all) PFC.h (fun X Y tk ht w hS => LtK.put rfl rfl rfl (Yj rfl rfl) (LtK_F' ht hS (by repeat (first | exact App.nil | apply App.cons)) (by repeat (first | exact App.nil | apply App.cons)) ?_))
 dsimp only [List.cons_append, List.nil_append]
 refine wpRF_done hok (by decide) (by decide +kernel) (fun _ => rfl) (fun _ => rfl) rfl (fun tk htk w hS => ?_)
 obtain ⟨b196, tkb196, rfl, htk198⟩ := tk_cons htk
 obtain rfl := tk_nil htk198
 dsimp only [tkH, tkL, List.map] at hS ⊢
 refine Xa [Ff,Ff,Ff,Ff,Ff,Ff,Ff,Ff,Ff,Ff,Tt] 10 ⟨by decide, by kernel_rfl, by kernel_rfl⟩ rfl rfl ?_
 try dsimp only [Z2]
 refine Zr rfl rfl rfl CellsOf.agg hS ps41 Yo (by kernel_rfl) rfl (fun w hS hB => Zh (Yu (hB.sub (fun b _ h => by have h0 : b = b122 ∨ b = b61 := (by simpa using h); rcases h0 with h0 | h0; (rw [h0]; exact hS.ne 13 41 rfl rfl rfl); (rw [h0]; exact hS.ne 27 41 rfl rfl rfl))) (Zo [Ff,Ff,Ff,Ff,Ff,Ff,Ff,Ff,Ff,Ff,Ff,Tt] (by decide +kernel) PFC.h (LtK.put rfl rfl rfl (Z7 rfl) (LtK.nil (Z5 (by kernel_rfl) (Zd hK132 ?_)))))))
 refine Zf (fun K hK199 => Zf (fun K hK200 => Zg (Zb 1 rfl (Za rfl rfl rfl (Yb Y9 rfl) (Za rfl rfl rfl (Yl rfl rfl) (Zh (Zd hK200 ?_)))))))
 refine Zx rfl (fun hb => ?_) (fun hb => ?_)
 ·replace H := Zp H hb
  refine Zf (fun K hK202 => Zg (Zb 1 rfl (Zh (Zd hK202 (Zl (Ze (Zm rfl (RV.tmp rfl RV.nil) rfl ?_)))))))
  obtain rfl := QJ H
  replace hS := hS.cut 0
  exact ⟨rfl, hS⟩
 replace H := Zq H hb
 refine Zv (Zd hK199 (Zf (fun K hK204 => Yh 11 [9] (fun i b => (i = 9 → b = b122 ∨ b = b61 ∨ b = b196)) ⟨by kernel_rfl, by kernel_rfl⟩ hS (fun w hS hB => wpRF_start [⟨8, 7, 30, [.int .i64 0, .int .i64 0, .int .u8 0, .int .i64 0, .int .i64 0, .int .i64 0, .int .i64 0, .int .i64 0, .bool false, .slice none 0 0, .int .i64 0, .int .i64 0, .int .i64 0, .int .i64 0, .int .i64 0, .int .i64 0, .int .i64 0, .bool false, .slice none 0 0, .slice none 0 0, .slice none 0 0, .slice none 0 0]⟩] (.cons rfl Zcn rfl rfl rfl .nil) hS (fun hok => ?_)))))
 dsimp only [List.cons_append, List.nil_append]
 refine Zcc [Tt,Tt,Tt,Tt] [] (fun _ => True) (by decide +kernel) (fun _ h => by cases h) PFC.h (fun X Y tk ht w hS => LtK.put rfl rfl rfl (Zk Ya rfl (Zgh _ _) hS hs13 trivial Z1) (LtK.put rfl rfl rfl (Zu rfl) ?_))
 obtain ⟨e205, hi207, H⟩ := bind_some H
 obtain ⟨j206, A208, c209, hi207a, hi207b, hi207c⟩ := Zar (q := q192) hq193 hi207
 refine LtK.put rfl rfl rfl (Y2 Y9 rfl rfl hi207a hi207c (Rd.el (hS.rd hs5) Yc hi207b)) (LtK.put rfl rfl rfl (V8 Vz rfl (Zgh _ _) (Rd.el (hS.rd hs5) Yc hi207b) X7) (LtK_F' ht hS (by repeat (first | exact App.nil | apply App.cons)) (by repeat (first | exact App.nil | apply App.cons)) ?_))
 dsimp only [List.cons_append, List.nil_append]
 refine Zf8 [Ff,Ff,Ff,Ff,Tt] 4 hok ⟨by decide, by decide +kernel, by decide, by decide⟩ rfl rfl (fun _ => rfl) (fun _ => rfl) rfl (hend_of (by decide +kernel)) (fun X Y tk ht w hS => ?_)
 try dsimp only [Z2]
 obtain ⟨r210, hm211, H⟩ := bind_some H
 refine Zt rfl rfl rfl rfl (by kernel_rfl) rfl (c_elect_Voted r92.1 e205 A94 c95 A98 c99 A102 c103 A106 c107 A110 c111 A208 c209 _ (Zgi k96 (hS.rd Jv) (hS.rd_blk Jv)) (Zgi k100 (hS.row_rd hs15) (hS.row_blk hs15)) (Zgi k104 (hS.row_rd hs16) (hS.row_blk hs16)) (Zgi k108 (hS.row_rd hs17) (hS.row_blk hs17)) (Zgi k112 (hS.row_rd hs18) (hS.row_blk hs18)) (SlW.of_rd (okq194 _ (List.mem_of_getElem? hi207b)) (hS.rds_rd Vv hi207b)) hm211) ?_
 rintro e w ⟨A212, c213, A216, c217, A220, c221, A224, c225, A228, c229, A232, c233, q236, rfl, k214, k218, k222, k226, k230, k234, hq237, okq238, hN⟩; refine ⟨_, rfl, ?_⟩; obtain ⟨hB, hS⟩ := hS.jn hN
 refine Zh (Zge ht hS hB (by repeat (first | exact App.nil | apply App.cons)) (by repeat (first | exact App.nil | apply App.cons)) ?_)
 dsimp only [List.cons_append, List.nil_append]
 refine Zcc [Ff,Ff,Ff,Ff,Ff,Tt,Tt] [] (fun _ => True) (by decide +kernel) (fun _ h => by cases h) PFC.h (fun X Y tk ht w hS => LtK.put rfl rfl rfl (Zu rfl) (LtK.put rfl rfl rfl (Yj rfl rfl) (LtK_F' ht hS (by repeat (first | exact App.nil | apply App.cons)) (by repeat (first | exact App.nil | apply App.cons)) ?_)))
 dsimp only [List.cons_append, List.nil_append]
 refine Zcc [Ff,Ff,Ff,Ff,Ff,Ff,Ff,Tt] [9] (fun b => (b = b122 ∨ b = b61 ∨ b = b196)) (by decide +kernel) (by intro j hj b hb; simp only [List.mem_cons, List.not_mem_nil, or_false] at hj; (try rcases hj with rfl | rfl | rfl | rfl | rfl) <;> first | (simp [hb]; done) | simp_all) PFC.h (fun X Y tk ht w hS => LtK.put rfl rfl rfl (Yj rfl rfl) (LtK_F' ht hS (by repeat (first | exact App.nil | apply App.cons)) (by repeat (first | exact App.nil | apply App.cons)) ?_))
 dsimp only [List.cons_append, List.nil_append]
 refine wpRF_done hok (by decide) (by decide +kernel) (fun _ => rfl) (fun _ => rfl) rfl (fun tk htk w hS => ?_)
 obtain ⟨b240, tkb240, rfl, htk242⟩ := tk_cons htk
 obtain rfl := tk_nil htk242
 dsimp only [tkH, tkL, List.map] at hS ⊢
 refine Xa [Ff,Ff,Ff,Ff,Ff,Ff,Ff,Ff,Ff,Tt] 9 ⟨by decide, by kernel_rfl, by kernel_rfl⟩ rfl rfl ?_
 try dsimp only [Z2]
 refine Zr rfl rfl rfl CellsOf.agg hS ps49 Yo (by kernel_rfl) rfl (fun w hS hB => Zh (Yu (hB.sub (fun b _ h => by have h0 : b = b122 ∨ b = b61 ∨ b = b196 := (by simpa using h); rcases h0 with h0 | h0 | h0; (rw [h0]; exact hS.ne 20 49 rfl rfl rfl); (rw [h0]; exact hS.ne 34 49 rfl rfl rfl); (rw [h0]; exact hS.ne 48 49 rfl rfl rfl))) (Zo [Ff,Ff,Ff,Ff,Ff,Ff,Ff,Ff,Ff,Ff,Tt] (by decide +kernel) PFC.h (LtK.put rfl rfl rfl (Z7 rfl) (LtK.nil (Z5 (by kernel_rfl) (Zd hK204 ?_)))))))
 refine Zf (fun K hK243 => Zg (Za rfl rfl rfl (Zk Ya rfl (Zgf _) hS hs48 trivial Z1) (Za rfl rfl rfl (Vk (cells := [.int .u8 1, .int .i64 3, .int .i64 2, .int .i64 1, .int .i64 1, .int .i64 0, .int .i64 0, .int .i64 0, .bool false, .slice none 0 0, .int .i64 0, .int .i64 0, .int .i64 0, .int .i64 0, .bool false]) rfl (by kernel_rfl)) ?_)))
 obtain ⟨r244, hm245, H⟩ := bind_some H
 refine Zt rfl rfl rfl rfl (by kernel_rfl) rfl (c_elect_Vote r166.1 (⟨1, 3, 2, 1, 1, 0, 0, 0, false, [], (⟨0, 0, 0, 0, false⟩ : St)⟩ : Ms) A168 c169 A172 c173 A176 c177 A180 c181 A184 c185 none 0 _ (Zgi k170 (hS.rd hs7) (hS.rd_blk hs7)) (Zgi k174 (hS.row_rd hs8) (hS.row_blk hs8)) (Zgi k178 (hS.row_rd hs9) (hS.row_blk hs9)) (Zgi k182 (hS.row_rd hs10) (hS.row_blk hs10)) (Zgi k186 (hS.row_rd hs11) (hS.row_blk hs11)) (SlW.nil _ _) hm245) ?_
 rintro e w ⟨A246, c247, A250, c251, A254, c255, A258, c259, A262, c263, A266, c267, q270, rfl, k248, k252, k256, k260, k264, k268, hq271, okq272, hN⟩; refine ⟨_, rfl, ?_⟩; obtain ⟨hB, hS⟩ := hS.jn hN
 refine Zb 1 rfl (Za rfl rfl rfl (Yj rfl rfl) (Za rfl rfl rfl (Yj rfl rfl) (Yr rfl rfl Zcn hS (fun b274 w hS hB => Zr rfl rfl rfl CellsOf.agg hS ps0 Yo (by kernel_rfl) rfl (fun w hS hB => Zb 1 rfl (Zh (Zd hK243 ?_)))))))
 refine Zf (fun K hK276 => Zf (fun K hK277 => Zg (Zb 1 rfl (Za rfl rfl rfl (Yb Y9 rfl) (Za rfl rfl rfl (Yl rfl rfl) (Zh (Zd hK277 ?_)))))))
 refine Zx rfl (fun hb => ?_) (fun hb => ?_)
 ·replace H := Zp H hb
  refine Zf (fun K hK279 => Zg (Zb 1 rfl (Zh (Zd hK279 (Zl (Ze (Zm rfl (RV.tmp rfl RV.nil) rfl ?_)))))))
  obtain rfl := QJ H
  replace hS := hS.cut 0
  exact ⟨rfl, hS⟩
 replace H := Zq H hb
 refine Zv (Zd hK276 (Zf (fun K hK281 => Zg (Za rfl rfl rfl (Zc Zbg rfl) (Za rfl rfl rfl (Zi Zbi rfl (Zgf _) hS hs42 trivial Zbj) (Za rfl rfl rfl (Xh rfl rfl) (Zb 1 rfl ?_)))))))
 refine Zs 64 rfl (fun hb => ?_) (fun hb => ?_)
 rotate_left
 ·replace H := Zq H hb
  refine Zb 83 rfl (Zh (Zd hK281 (Zl (Zm rfl (RV.tmp rfl RV.nil) rfl ?_))))
  obtain rfl := QJ H
  replace hS := hS.cut 0
  exact ⟨rfl, hS⟩
 replace H := Zp H hb
 refine Zb 1 rfl (Za rfl rfl rfl (Yb Y9 rfl) (Za rfl rfl rfl (Xh rfl rfl) (Zb 2 rfl (Zs 69 rfl (fun hb => ?_) (fun hb => ?_)))))
 rotate_left
 ·replace H := Zq H hb
  refine Zb 78 rfl (Zh (Zd hK281 (Zl (Zm rfl (RV.tmp rfl RV.nil) rfl ?_))))
  obtain rfl := QJ H
  replace hS := hS.cut 0
  exact ⟨rfl, hS⟩
 replace H := Zp H hb
 refine Za rfl rfl rfl (Zc Zz rfl) (Za rfl rfl rfl (Zc Xc rfl) (Za rfl rfl rfl (Zi Zy rfl (Zgf _) hS hs42 trivial Xv) (Za rfl rfl rfl (Xh rfl rfl) (Zb 2 rfl (Zs 75 rfl (fun hb => ?_) (fun hb => ?_))))))
 rotate_left
 ·replace H := Zq H hb
  refine Zb 72 rfl (Zh (Zd hK281 (Zl (Zm rfl (RV.tmp rfl RV.nil) rfl ?_))))
  obtain rfl := QJ H
  replace hS := hS.cut 0
  exact ⟨rfl, hS⟩
 replace H := Zp H hb
 refine Za rfl rfl rfl (Zc Zz rfl) (Za rfl rfl rfl (Zc Yg rfl) (Za rfl rfl rfl (Zi Y6 rfl (Zgf _) hS hs42 trivial Xt) (Za rfl rfl rfl (Yb Y1 rfl) (Za rfl rfl rfl (Xh rfl rfl) (Zb 2 rfl (Zs 82 rfl (fun hb => ?_) (fun hb => ?_)))))))
 rotate_left
 ·replace H := Zq H hb
  refine Zb 65 rfl (Zh (Zd hK281 (Zl (Zm rfl (RV.tmp rfl RV.nil) rfl ?_))))
  obtain rfl := QJ H
  replace hS := hS.cut 0
  exact ⟨rfl, hS⟩
 replace H := Zp H hb
 refine Za rfl rfl rfl (Zc Zbg rfl) (Za rfl rfl rfl (Zi Zbi rfl (Zgf _) hS hs28 trivial Zbj) (Za rfl rfl rfl (Xh rfl rfl) (Zb 2 rfl (Zs 87 rfl (fun hb => ?_) (fun hb => ?_)))))
 rotate_left
 ·replace H := Zq H hb
  refine Zb 60 rfl (Zh (Zd hK281 (Zl (Zm rfl (RV.tmp rfl RV.nil) rfl ?_))))
  obtain rfl := QJ H
  replace hS := hS.cut 0
  exact ⟨rfl, hS⟩
 replace H := Zp H hb
 refine Zb 1 rfl ?_
 obtain ⟨e287, hi289, H⟩ := bind_some H
 obtain ⟨j288, A290, c291, hi289a, hi289b, hi289c⟩ := Zar (q := q192) hq193 hi289
 refine Za rfl rfl rfl (Y2 Y9 rfl rfl hi289a hi289c (Rd.el (hS.rd hs20) Yc hi289b)) (Za rfl rfl rfl (Y0 fo_36_8 rfl (Rd.el (hS.rd hs20) Yc hi289b)) (Za rfl rfl rfl (Za6 sc_4 rfl (Zgf _) (Rd.el (hS.rd hs20) Yc hi289b) rfl) (Zb 2 rfl (Zs 93 rfl (fun hb => ?_) (fun hb => ?_)))))
 rotate_left
 ·replace H := Zq H hb
  refine Zb 54 rfl (Zh (Zd hK281 (Zl (Zm rfl (RV.tmp rfl RV.nil) rfl ?_))))
  obtain rfl := QJ H
  replace hS := hS.cut 0
  exact ⟨rfl, hS⟩
 replace H := Zp H hb
 refine Za rfl rfl rfl (Zc Zz rfl) (Za rfl rfl rfl (Zc Vq rfl) (Za rfl rfl rfl (Zi Zy rfl (Zgf _) hS hs56 trivial Zbz) (Za rfl rfl rfl (Xh rfl rfl) (Zb 2 rfl (Zs 99 rfl (fun hb => ?_) (fun hb => ?_))))))
 rotate_left
 ·replace H := Zq H hb
  refine Zb 48 rfl (Zh (Zd hK281 (Zl (Zm rfl (RV.tmp rfl RV.nil) rfl ?_))))
  obtain rfl := QJ H
  replace hS := hS.cut 0
  exact ⟨rfl, hS⟩
 replace H := Zp H hb
 refine Za rfl rfl rfl (Zc Zbg rfl) (Za rfl rfl rfl (Zi Zbi rfl (Zgf _) hS hs57 trivial Zbj) (Za rfl rfl rfl (Xh rfl rfl) (Zb 2 rfl (Zs 104 rfl (fun hb => ?_) (fun hb => ?_)))))
 rotate_left
 ·replace H := Zq H hb
  refine Zb 43 rfl (Zh (Zd hK281 (Zl (Zm rfl (RV.tmp rfl RV.nil) rfl ?_))))
  obtain rfl := QJ H
  replace hS := hS.cut 0
  exact ⟨rfl, hS⟩
 replace H := Zp H hb
 refine Zb 1 rfl (Za rfl rfl rfl (Yb Y9 rfl) (Za rfl rfl rfl (Xh rfl rfl) (Zb 2 rfl (Zs 109 rfl (fun hb => ?_) (fun hb => ?_)))))
 rotate_left
 ·replace H := Zq H hb
  refine Zb 38 rfl (Zh (Zd hK281 (Zl (Zm rfl (RV.tmp rfl RV.nil) rfl ?_))))
  obtain rfl := QJ H
  replace hS := hS.cut 0
  exact ⟨rfl, hS⟩
 replace H := Zp H hb
 refine Za rfl rfl rfl (Zc Zam rfl) (Za rfl rfl rfl (Zi Zat rfl (Zgf _) hS hs57 trivial Zdy) ?_)
 obtain ⟨e296, hi298, H⟩ := bind_some H
 obtain ⟨j297, hi298a, hi298b, hi298c⟩ := Xn hi298
 refine Za rfl rfl rfl (Y2 Jy rfl rfl hi298a hi298c (Rd.el (hS.row_rd hs12) Ve hi298b)) (Za rfl rfl rfl (Zav Zy rfl (Zgf _) (Rd.el (hS.row_rd hs12) Ve hi298b) rfl) (Za rfl rfl rfl (Xh rfl rfl) (Zb 2 rfl (Zs 116 rfl (fun hb => ?_) (fun hb => ?_)))))
 rotate_left
 ·replace H := Zq H hb
  refine Zb 31 rfl (Zh (Zd hK281 (Zl (Zm rfl (RV.tmp rfl RV.nil) rfl ?_))))
  obtain rfl := QJ H
  replace hS := hS.cut 0
  exact ⟨rfl, hS⟩
 replace H := Zp H hb
 refine Zb 1 rfl ?_
 obtain ⟨e300, hi302, H⟩ := bind_some H
 obtain ⟨j301, A303, c304, hi302a, hi302b, hi302c⟩ := Zar (q := q270) hq271 hi302
 refine Za rfl rfl rfl (Y2 Y9 rfl rfl hi302a hi302c (Rd.el (hS.rd Vv) Yc hi302b)) (Za rfl rfl rfl (Y0 fo_36_8 rfl (Rd.el (hS.rd Vv) Yc hi302b)) (Za rfl rfl rfl (Za6 sc_4 rfl (Zgf _) (Rd.el (hS.rd Vv) Yc hi302b) rfl) (Za rfl rfl rfl (Yt rfl) (Zb 2 rfl (Zs 123 rfl (fun hb => ?_) (fun hb => ?_))))))
 rotate_left
 ·replace H := Zq H hb
  refine Zb 24 rfl (Zh (Zd hK281 (Zl (Zm rfl (RV.tmp rfl RV.nil) rfl ?_))))
  obtain rfl := QJ H
  replace hS := hS.cut 0
  exact ⟨rfl, hS⟩
 replace H := Zp H hb
 refine Za rfl rfl rfl (Zc Zz rfl) (Za rfl rfl rfl (Zc Vq rfl) (Za rfl rfl rfl (Zi Zy rfl (Zgf _) hS hs0 trivial Zbz) (Za rfl rfl rfl (Xh rfl rfl) (Zb 2 rfl (Zs 129 rfl (fun hb => ?_) (fun hb => ?_))))))
 rotate_left
 ·replace H := Zq H hb
  refine Zb 18 rfl (Zh (Zd hK281 (Zl (Zm rfl (RV.tmp rfl RV.nil) rfl ?_))))
  obtain rfl := QJ H
  replace hS := hS.cut 0
  exact ⟨rfl, hS⟩
 replace H := Zp H hb
 refine Xi (ps := [(0, .const (.bool true)), (1, .const (.bool true)), (2, .const (.bool false))]) [.bool true, .bool true, .bool false] Zff zc_4 rfl rfl rfl rfl rfl (by kernel_rfl) hS (fun b307 w hS hB => ?_)
 obtain ⟨r309, hm310, H⟩ := bind_some H
 refine Zt rfl rfl rfl rfl (by kernel_rfl) rfl (Zdl ([Tt,Tt,Ff] : List Bool) (some ⟨b307, 0, none⟩) 3 _ (Zgi ⟨Nat.le_refl 3, by decide⟩ (hS.box_rd hs0) (hS.box_blk hs0)) hm310) ?_
 rintro e w ⟨rfl, hN⟩; refine ⟨_, rfl, ?_⟩; obtain ⟨hB, hS⟩ := hS.jn hN
 refine Zb 2 rfl (Zs 133 rfl (fun hb => ?_) (fun hb => ?_))
 rotate_left
 ·replace H := Zq H hb
  refine Zb 14 rfl (Zh (Zd hK281 (Zl (Zm rfl (RV.tmp rfl RV.nil) rfl ?_))))
  obtain rfl := QJ H
  replace hS := hS.cut 0
  exact ⟨rfl, hS⟩
 replace H := Zp H hb
 refine Xi (ps := [(0, .const (.bool true)), (1, .const (.bool false))]) [.bool true, .bool false] Zff zc_4 rfl rfl rfl rfl rfl (by kernel_rfl) hS (fun b312 w hS hB => ?_)
 obtain ⟨r314, hm315, H⟩ := bind_some H
 refine Zt rfl rfl rfl rfl (by kernel_rfl) rfl (Zdl ([Tt,Ff] : List Bool) (some ⟨b312, 0, none⟩) 2 _ (Zgi ⟨Nat.le_refl 2, by decide⟩ (hS.box_rd hs0) (hS.box_blk hs0)) hm315) ?_
 rintro e w ⟨rfl, hN⟩; refine ⟨_, rfl, ?_⟩; obtain ⟨hB, hS⟩ := hS.jn hN
 refine Za rfl rfl rfl (Yt rfl) (Zb 2 rfl (Zs 138 rfl (fun hb => ?_) (fun hb => ?_)))
 rotate_left
 ·replace H := Zq H hb
  refine Zb 9 rfl (Zh (Zd hK281 (Zl (Zm rfl (RV.tmp rfl RV.nil) rfl ?_))))
  obtain rfl := QJ H
  replace hS := hS.cut 0
  exact ⟨rfl, hS⟩
 replace H := Zp H hb
 refine Za rfl rfl rfl (Zk Ya rfl (Zgf _) hS hs30 trivial Z1) ?_
 obtain ⟨r317, hm318, H⟩ := bind_some H
 refine Zt rfl rfl rfl rfl (by kernel_rfl) rfl (Zd9 r92.1 0 0 A94 c95 A98 c99 A102 c103 A106 c107 A110 c111 _ (Zgi k96 (hS.rd hs31) (hS.rd_blk hs31)) (Zgi k100 (hS.row_rd hs32) (hS.row_blk hs32)) (Zgi k104 (hS.row_rd hs33) (hS.row_blk hs33)) (Zgi k108 (hS.row_rd hs34) (hS.row_blk hs34)) (Zgi k112 (hS.row_rd hs35) (hS.row_blk hs35)) hm318) ?_
 rintro e w ⟨rfl, hN⟩; refine ⟨_, rfl, ?_⟩; obtain ⟨hB, hS⟩ := hS.jn hN
 refine Zb 2 rfl (Zs 142 rfl (fun hb => ?_) (fun hb => ?_))
 rotate_left
 ·replace H := Zq H hb
  refine Zb 5 rfl (Zh (Zd hK281 (Zl (Zm rfl (RV.tmp rfl RV.nil) rfl ?_))))
  obtain rfl := QJ H
  replace hS := hS.cut 0
  exact ⟨rfl, hS⟩
 replace H := Zp H hb
 refine Za rfl rfl rfl (Zk Ya rfl (Zgf _) hS hs59 trivial Z1) ?_
 obtain ⟨r320, hm321, H⟩ := bind_some H
 refine Zt rfl rfl rfl rfl (by kernel_rfl) rfl (Zd9 r210.1 0 9 A212 c213 A216 c217 A220 c221 A224 c225 A228 c229 _ (Zgi k214 (hS.rd hs10) (hS.rd_blk hs10)) (Zgi k218 (hS.row_rd hs11) (hS.row_blk hs11)) (Zgi k222 (hS.row_rd hs12) (hS.row_blk hs12)) (Zgi k226 (hS.row_rd hs13) (hS.row_blk hs13)) (Zgi k230 (hS.row_rd Jv) (hS.row_blk Jv)) hm321) ?_
 rintro e w ⟨rfl, hN⟩; refine ⟨_, rfl, ?_⟩; obtain ⟨hB, hS⟩ := hS.jn hN
 refine Za rfl rfl rfl (Yt rfl) (Zb 2 rfl (Zh (Zd hK281 (Zl (Zm rfl (RV.tmp rfl RV.nil) rfl ?_)))))
 obtain rfl := QJ H
 replace hS := hS.cut 0
 exact ⟨rfl, hS⟩
theorem Zex (x0 : Co) (x1 : Int) (x2 : Ms) (A0_ : OA) (c0_ : Nat) (A1_ : OA) (c1_ : Nat) (A2_ : OA) (c2_ : Nat) (A3_ : OA) (c3_ : Nat) (A4_ : OA) (c4_ : Nat) (A5_ : OA) (c5_ : Nat) (w0 : World) (s0_ : SlI w0 enE A0_ c0_ x0.tuple.log) (s1_ : SlI w0 enO A1_ c1_ x0.votes) (s2_ : SlI w0 Vr A2_ c2_ x0.next) (s3_ : SlI w0 Vr A3_ c3_ x0.mtch) (s4_ : SlI w0 Vr A4_ c4_ x0.caps) (s5_ : SlW w0 enE A5_ c5_ x2.entries) {r : Co × List Ms} (H : Zaz x0 x1 x2 = some r) : Calls Try.prog 12 #[.agg #[.int .i64 x0.id, .int .i64 x0.n, .int .u8 x0.role, .int .i64 x0.binary, .int .i64 x0.tuple.snap.index, .int .i64 x0.tuple.snap.term, .int .i64 x0.tuple.snap.sum, .int .i64 x0.tuple.snap.level, .bool x0.tuple.snap.final, .slice A0_ x0.tuple.log.length c0_, .int .i64 x0.tuple.term, .int .i64 x0.tuple.vote, .int .i64 x0.commit, .int .i64 x0.applied.index, .int .i64 x0.applied.term, .int .i64 x0.applied.sum, .int .i64 x0.applied.level, .bool x0.applied.final, .slice A1_ x0.votes.length c1_, .slice A2_ x0.next.length c2_, .slice A3_ x0.mtch.length c3_, .slice A4_ x0.caps.length c4_], .int .u8 x1, .agg #[.int .u8 x2.kind, .int .i64 x2.frm, .int .i64 x2.dst, .int .i64 x2.term, .int .i64 x2.cap, .int .i64 x2.last, .int .i64 x2.lastTerm, .int .i64 x2.commit, .bool x2.okk, .slice A5_ x2.entries.length c5_, .int .i64 x2.snap.index, .int .i64 x2.snap.term, .int .i64 x2.snap.sum, .int .i64 x2.snap.level, .bool x2.snap.final]] w0 fun e w' => ∃ (A0 : OA) (c0 : Nat) (A1 : OA) (c1 : Nat) (A2 : OA) (c2 : Nat) (A3 : OA) (c3 : Nat) (A4 : OA) (c4 : Nat) (A5 : OA) (c5 : Nat) (q5 : List Mq), e = .returned (.tuple #[.agg #[.int .i64 r.1.id, .int .i64 r.1.n, .int .u8 r.1.role, .int .i64 r.1.binary, .int .i64 r.1.tuple.snap.index, .int .i64 r.1.tuple.snap.term, .int .i64 r.1.tuple.snap.sum, .int .i64 r.1.tuple.snap.level, .bool r.1.tuple.snap.final, .slice A0 r.1.tuple.log.length c0, .int .i64 r.1.tuple.term, .int .i64 r.1.tuple.vote, .int .i64 r.1.commit, .int .i64 r.1.applied.index, .int .i64 r.1.applied.term, .int .i64 r.1.applied.sum, .int .i64 r.1.applied.level, .bool r.1.applied.final, .slice A1 r.1.votes.length c1, .slice A2 r.1.next.length c2, .slice A3 r.1.mtch.length c3, .slice A4 r.1.caps.length c4], .slice A5 r.2.length c5]) ∧ (r.1.tuple.log.length ≤ c0 ∧ c0 ≤ maxLen) ∧ (r.1.votes.length ≤ c1 ∧ c1 ≤ maxLen) ∧ (r.1.next.length ≤ c2 ∧ c2 ≤ maxLen) ∧ (r.1.mtch.length ≤ c3 ∧ c3 ≤ maxLen) ∧ (r.1.caps.length ≤ c4 ∧ c4 ≤ maxLen) ∧ (r.2.length ≤ c5 ∧ c5 ≤ maxLen) ∧ q5.map Mq.m = r.2 ∧ (∀ y ∈ q5, okQ y) ∧ St0 All w0 w' [.rd A0 (Z8 enE r.1.tuple.log), .row (.slice A1 r.1.votes.length c1) 4 1 r.1.votes.length (Z8 enO r.1.votes), .row (.slice A2 r.1.next.length c2) 3 1 r.1.next.length (Z8 Vr r.1.next), .row (.slice A3 r.1.mtch.length c3) 3 1 r.1.mtch.length (Z8 Vr r.1.mtch), .row (.slice A4 r.1.caps.length c4) 3 1 r.1.caps.length (Z8 Vr r.1.caps), .rd A5 (Z8 enQ q5), .rds (q5.map Zfk)] := by
 unfold Zaz at H
 refine Zcg Try.func12 rfl Try.ntmps12 rfl ?_
 have hS := St0.start All w0
 refine Zf (fun K hK1 => Zg (Yq rfl rfl rfl CellsOf.agg hS (fun b2 w hS hB => Yq rfl rfl rfl CellsOf.agg hS (fun b4 w hS hB => Yr rfl rfl Zcn hS (fun b6 w hS hB => Zb 1 rfl (Zh (Zd hK1 ?_)))))))
 refine Zf (fun K hK8 => Zf (fun K hK9 => Zg (Zb 1 rfl (Za rfl rfl rfl (yx_rem rfl rfl (by decide)) ?_))))
 refine Zh (Zd hK9 (Z6 (Zf (fun K hK10 => Zg (Za rfl rfl rfl (Xh rfl rfl) (Zb 1 rfl (Zh ?_)))))))
 refine Zd hK10 (Zx rfl (fun hb => ?_) (fun hb => ?_))
 ·replace H := Zp H hb
  refine Zf (fun K hK12 => Zg (Za rfl rfl rfl (Zk Ya rfl (Zgf _) hS Vt trivial Z1) ?_))
  obtain ⟨r13, hm14, H⟩ := bind_some H
  refine Zt rfl rfl rfl rfl (by kernel_rfl) rfl (Zep x0 A0_ c0_ A1_ c1_ A2_ c2_ A3_ c3_ A4_ c4_ _ (Zgi s0_.k (hS.rd0 s0_.rd) (hS.blk0 s0_.blk)) (Zgi s1_.k (hS.rd0 s1_.rd) (hS.blk0 s1_.blk)) (Zgi s2_.k (hS.rd0 s2_.rd) (hS.blk0 s2_.blk)) (Zgi s3_.k (hS.rd0 s3_.rd) (hS.blk0 s3_.blk)) (Zgi s4_.k (hS.rd0 s4_.rd) (hS.blk0 s4_.blk)) hm14) ?_
  rintro e w ⟨A15, c16, A19, c20, A23, c24, A27, c28, A31, c32, A35, c36, q39, rfl, k17, k21, k25, k29, k33, k37, hq40, okq41, hN⟩; refine ⟨_, rfl, ?_⟩; obtain ⟨hB, hS⟩ := hS.jn hN
  refine Za rfl rfl rfl (Yj rfl rfl) (Za rfl rfl rfl (Yj rfl rfl) (Zr rfl rfl rfl CellsOf.agg hS ps7 Yo (by kernel_rfl) rfl (fun w hS hB => Zb 1 rfl (Zh (Zd hK12 (Zl (Zj ?_)))))))
  refine Ze (Zm rfl (RV.cell rfl (Z3 Ya hS hs7 Z1) (RV.tmp rfl RV.nil)) rfl ?_)
  obtain rfl := QJ H
  have hS := hS.front 6 rfl
  replace hS := hS.front 6 rfl
  have hS := hS.front 6 rfl
  have hS := hS.front 6 rfl
  have hS := hS.front 6 rfl
  have hS := hS.front 6 rfl
  have hS := hS.front 6 rfl
  replace hS := hS.cut 7
  exact ⟨A15, c16, A19, c20, A23, c24, A27, c28, A31, c32, A35, c36, q39, rfl, k17, k21, k25, k29, k33, k37, hq40, okq41, hS⟩
 replace H := Zq H hb
 refine Zf (fun K hK44 => Zg (Za rfl rfl rfl (Xh rfl rfl) (Zb 1 rfl (Zh (Zd hK44 (Zx rfl (fun hb => ?_) (fun hb => ?_)))))))
 ·replace H := Zp H hb
  refine Zf (fun K hK46 => Zg (Za rfl rfl rfl (Zk Ya rfl (Zgf _) hS Vt trivial Z1) (Za rfl rfl rfl (Zk Vz rfl (Zgf _) hS X9 trivial X7) ?_)))
  obtain ⟨r47, hm48, H⟩ := bind_some H
  refine Zt rfl rfl rfl rfl (by kernel_rfl) rfl (c_elect_Vote x0 x2 A0_ c0_ A1_ c1_ A2_ c2_ A3_ c3_ A4_ c4_ A5_ c5_ _ (Zgi s0_.k (hS.rd0 s0_.rd) (hS.blk0 s0_.blk)) (Zgi s1_.k (hS.rd0 s1_.rd) (hS.blk0 s1_.blk)) (Zgi s2_.k (hS.rd0 s2_.rd) (hS.blk0 s2_.blk)) (Zgi s3_.k (hS.rd0 s3_.rd) (hS.blk0 s3_.blk)) (Zgi s4_.k (hS.rd0 s4_.rd) (hS.blk0 s4_.blk)) (SlW.of_rd s5_.k (hS.rd0 s5_.rd)) hm48) ?_
  rintro e w ⟨A49, c50, A53, c54, A57, c58, A61, c62, A65, c66, A69, c70, q73, rfl, k51, k55, k59, k63, k67, k71, hq74, okq75, hN⟩; refine ⟨_, rfl, ?_⟩; obtain ⟨hB, hS⟩ := hS.jn hN
  refine Za rfl rfl rfl (Yj rfl rfl) (Za rfl rfl rfl (Yj rfl rfl) (Zr rfl rfl rfl CellsOf.agg hS ps7 Yo (by kernel_rfl) rfl (fun w hS hB => Zb 1 rfl (Zh (Zd hK46 (Zl (Zj ?_)))))))
  refine Ze (Zm rfl (RV.cell rfl (Z3 Ya hS hs7 Z1) (RV.tmp rfl RV.nil)) rfl ?_)
  obtain rfl := QJ H
  have hS := hS.front 6 rfl
  replace hS := hS.front 6 rfl
  have hS := hS.front 6 rfl
  have hS := hS.front 6 rfl
  have hS := hS.front 6 rfl
  have hS := hS.front 6 rfl
  have hS := hS.front 6 rfl
  replace hS := hS.cut 7
  exact ⟨A49, c50, A53, c54, A57, c58, A61, c62, A65, c66, A69, c70, q73, rfl, k51, k55, k59, k63, k67, k71, hq74, okq75, hS⟩
 replace H := Zq H hb
 refine Zf (fun K hK78 => Zg (Za rfl rfl rfl (Xh rfl rfl) (Zb 1 rfl (Zh (Zd hK78 (Zx rfl (fun hb => ?_) (fun hb => ?_)))))))
 rotate_left
 ·replace H := Zq H hb
  refine Zv (Zw (Zd hK8 (Zf (fun K hK112 => Zg (Za rfl rfl rfl (Zk Ya rfl (Zgf _) hS Vt trivial Z1) (Za rfl rfl rfl (Zk Vz rfl (Zgf _) hS X9 trivial X7) ?_))))))
  obtain ⟨r113, hm114, H⟩ := bind_some H
  refine Zt rfl rfl rfl rfl (by kernel_rfl) rfl (c_elect_Meet x0 x2 A0_ c0_ A1_ c1_ A2_ c2_ A3_ c3_ A4_ c4_ A5_ c5_ _ (Zgi s0_.k (hS.rd0 s0_.rd) (hS.blk0 s0_.blk)) (Zgi s1_.k (hS.rd0 s1_.rd) (hS.blk0 s1_.blk)) (Zgi s2_.k (hS.rd0 s2_.rd) (hS.blk0 s2_.blk)) (Zgi s3_.k (hS.rd0 s3_.rd) (hS.blk0 s3_.blk)) (Zgi s4_.k (hS.rd0 s4_.rd) (hS.blk0 s4_.blk)) (SlW.of_rd s5_.k (hS.rd0 s5_.rd)) hm114) ?_
  rintro e w ⟨A115, c116, A119, c120, A123, c124, A127, c128, A131, c132, rfl, k117, k121, k125, k129, k133, hN⟩; refine ⟨_, rfl, ?_⟩; obtain ⟨hB, hS⟩ := hS.jn hN
  refine Zr rfl rfl rfl CellsOf.agg hS ps5 Yo (by kernel_rfl) rfl (fun w hS hB => Zb 1 rfl (Zh (Zd hK112 (Zl (Zm rfl (RV.cell rfl (Z3 Ya hS hs5 Z1) (RV.tmp rfl RV.nil)) rfl ?_)))))
  obtain rfl := QJ H
  have hS := hS.nilRds
  replace hS := hS.nilRd
  have hS := hS.front 6 rfl
  have hS := hS.front 6 rfl
  have hS := hS.front 6 rfl
  have hS := hS.front 6 rfl
  have hS := hS.front 6 rfl
  replace hS := hS.cut 7
  exact ⟨A115, c116, A119, c120, A123, c124, A127, c128, A131, c132, none, 0, ([] : List Mq), rfl, k117, k121, k125, k129, k133, ⟨Nat.le_refl _, Nat.zero_le _⟩, rfl, Vh, hS⟩
 replace H := Zp H hb
 refine Zf (fun K hK80 => Zg (Za rfl rfl rfl (Zk Ya rfl (Zgf _) hS Vt trivial Z1) (Za rfl rfl rfl (Zk Vz rfl (Zgf _) hS X9 trivial X7) ?_)))
 obtain ⟨r81, hm82, H⟩ := bind_some H
 refine Zt rfl rfl rfl rfl (by kernel_rfl) rfl (c_elect_Voted x0 x2 A0_ c0_ A1_ c1_ A2_ c2_ A3_ c3_ A4_ c4_ A5_ c5_ _ (Zgi s0_.k (hS.rd0 s0_.rd) (hS.blk0 s0_.blk)) (Zgi s1_.k (hS.rd0 s1_.rd) (hS.blk0 s1_.blk)) (Zgi s2_.k (hS.rd0 s2_.rd) (hS.blk0 s2_.blk)) (Zgi s3_.k (hS.rd0 s3_.rd) (hS.blk0 s3_.blk)) (Zgi s4_.k (hS.rd0 s4_.rd) (hS.blk0 s4_.blk)) (SlW.of_rd s5_.k (hS.rd0 s5_.rd)) hm82) ?_
 rintro e w ⟨A83, c84, A87, c88, A91, c92, A95, c96, A99, c100, A103, c104, q107, rfl, k85, k89, k93, k97, k101, k105, hq108, okq109, hN⟩; refine ⟨_, rfl, ?_⟩; obtain ⟨hB, hS⟩ := hS.jn hN
 refine Za rfl rfl rfl (Yj rfl rfl) (Za rfl rfl rfl (Yj rfl rfl) (Zr rfl rfl rfl CellsOf.agg hS ps7 Yo (by kernel_rfl) rfl (fun w hS hB => Zb 1 rfl (Zh (Zd hK80 (Zl (Zj ?_)))))))
 refine Ze (Zm rfl (RV.cell rfl (Z3 Ya hS hs7 Z1) (RV.tmp rfl RV.nil)) rfl ?_)
 obtain rfl := QJ H
 have hS := hS.front 6 rfl
 replace hS := hS.front 6 rfl
 have hS := hS.front 6 rfl
 have hS := hS.front 6 rfl
 have hS := hS.front 6 rfl
 have hS := hS.front 6 rfl
 have hS := hS.front 6 rfl
 replace hS := hS.cut 7
 exact ⟨A83, c84, A87, c88, A91, c92, A95, c96, A99, c100, A103, c104, q107, rfl, k85, k89, k93, k97, k101, k105, hq108, okq109, hS⟩
theorem Ja (x0 : List En) (x1 : List En) (A0_ : OA) (c0_ : Nat) (A1_ : OA) (c1_ : Nat) (w0 : World) (s0_ : SlI w0 enE A0_ c0_ x0) (s1_ : SlI w0 enE A1_ c1_ x1) {r : Bool} (H : Va x0 x1 = some r) : Calls Try.prog 13 #[.slice A0_ x0.length c0_, .slice A1_ x1.length c1_] w0 fun e w' => e = .returned (.bool r) ∧ St0 All w0 w' [] := by
 unfold Va at H
 refine Xw Try.func13 rfl Try.ntmps13 rfl ?_
 have hS := St0.start All w0
 refine Zf (fun K hK1 => Zg (Zb 1 rfl (Zh (Zd hK1 (Zf (fun K hK2 => Zf (fun K hK3 => Zg ?_)))))))
 refine Zb 1 rfl (Za rfl rfl rfl (Yb Y1 rfl) (Zb 1 rfl (Za rfl rfl rfl (Yb Y1 rfl) (Za rfl rfl rfl (Yl rfl rfl) (Zh (Zd hK3 (Zx rfl (fun hb => ?_) (fun hb => ?_))))))))
 ·replace H := Zp H hb
  refine Zf (fun K hK5 => Zg (Zb 1 rfl (Zh (Zd hK5 (Zl (Ze (Zm rfl (RV.tmp rfl RV.nil) rfl ?_)))))))
  obtain rfl := QJ H
  replace hS := hS.cut 0
  exact ⟨rfl, hS⟩
 replace H := Zq H hb
 refine Zv (Zd hK2 (Zf (fun K hK7 => Zf (fun K hK8 => Zg (Zb 1 rfl (Zh (Zd hK8 ?_)))))))
 refine Z6 (Vp (X := Nat × Bool × Int) (fun x => (0, .slice A0_ x0.length c0_) :: (1, .slice A1_ x1.length c1_) :: (4, .bool x.2.1) :: (5, .int .i64 x.2.2) :: []) (fun x w => St0 All w0 w ([]) ∧ Zad x0 x1 x.1 x.2.1 x.2.2 = some r) (fun x => x.1) (Yy, false, 0) (by repeat (first | exact Sub.nil | refine Sub.cons rfl ?_)) ⟨hS, H⟩ ?_)
 rintro ⟨n, v9, v10⟩ w ⟨hS, H⟩
 dsimp only at hS H ⊢
 obtain _ | n := n
 ·have H0 : none = some r := H
  cases H0
 rw [Zad] at H
 refine Zf (fun K hK11 => Zf (fun K hK12 => Zg (Zb 2 rfl (Za rfl rfl rfl (Yb Y1 rfl) (Za rfl rfl rfl (Y4 rfl rfl) (Zh (Zd hK12 ?_)))))))
 refine Zx rfl (fun hb => ?_) (fun hb => ?_)
 rotate_left
 ·replace H := Zq H hb
  refine Xy (Z4 (Z4 (Yz (Zd hK7 (Zf (fun K hK26 => Zg (Zb 1 rfl ?_)))))))
  refine Zh (Zd hK26 (Zl (Zm rfl (RV.tmp rfl RV.nil) rfl ?_)))
  obtain rfl := QJ H
  replace hS := hS.cut 0
  exact ⟨rfl, hS⟩
 replace H := Zp H hb
 refine Zv (Zd hK11 (Zf (fun K hK14 => Z6 (Zf (fun K hK15 => Yh 9 [] (fun _ _ => True) ⟨by kernel_rfl, by kernel_rfl⟩ hS (fun w hS hB => Zo [Tt,Tt,Tt,Tt,Tt,Tt,Tt,Tt,Tt] (by decide +kernel) PFC.h (LtK.put rfl rfl rfl (Zu rfl) ?_)))))))
 refine LtK.put rfl rfl rfl (Zu rfl) ?_
 obtain ⟨e16, hi18, H⟩ := bind_some H
 obtain ⟨j17, hi18a, hi18b, hi18c⟩ := Xn hi18
 refine LtK.put rfl rfl rfl (Y2 Y1 rfl rfl hi18a hi18c (Rd.el (hS.rd0 s0_.rd) Vf hi18b)) (LtK.put rfl rfl rfl (V8 Zb5 rfl (Zgg _) (Rd.el (hS.rd0 s0_.rd) Vf hi18b) Zfx) (LtK.put rfl rfl rfl (Zu rfl) (LtK.put rfl rfl rfl (Zu rfl) ?_)))
 obtain ⟨e19, hi21, H⟩ := bind_some H
 obtain ⟨j20, hi21a, hi21b, hi21c⟩ := Xn hi21
 refine LtK.put rfl rfl rfl (Y2 Y1 rfl rfl hi21a hi21c (Rd.el (hS.rd0 s1_.rd) Vf hi21b)) (LtK.put rfl rfl rfl (V8 Zb5 rfl (Zgg _) (Rd.el (hS.rd0 s1_.rd) Vf hi21b) Zfx) (LtK.put rfl rfl rfl (Zb0 (by kernel_rfl) rfl rfl (eqT_56 _ _ _ _ _ _)) (LtK.nil (Z5 (by kernel_rfl) (Zd hK15 (Zx rfl (fun hb => ?_) (fun hb => ?_)))))))
 rotate_left
 ·replace H := Zq H hb
  refine Zv (Zw (Zd hK14 (Zg (Zb 1 rfl (Za rfl rfl rfl (Xu rfl rfl) (Zb 1 rfl (Zh ?_)))))))
  exact Xo (n, v9, (IntKind.wrap .i64 (v10 + 1))) (by repeat (first | exact Sub.nil | refine Sub.cons rfl ?_)) ⟨hS, H⟩ (Nat.lt_succ_self _)
 replace H := Zp H hb
 refine Zf (fun K hK23 => Zg (Zb 1 rfl (Zh (Zd hK23 (Zl (Zj (Ze ?_)))))))
 refine Ze (Zj (Ze (Zm rfl (RV.tmp rfl RV.nil) rfl ?_)))
 obtain rfl := QJ H
 replace hS := hS.cut 0
 exact ⟨rfl, hS⟩
theorem Zfd (x0 : Int) (w0 : World) {r : Bool} (H : Zao x0 = some r) : Calls Try.prog 38 #[.int .i64 x0] w0 fun e w' => e = .returned (.bool r) ∧ St0 All w0 w' [] := by
 unfold Zao at H
 refine Yp Try.func38 rfl Try.ntmps38 rfl ?_
 have hS := St0.start All w0
 refine Zf (fun K hK1 => Zg (Zb 1 rfl (Zh (Zd hK1 (Zf (fun K hK2 => Zg (Zb 1 rfl ?_)))))))
 refine Za rfl rfl rfl (Zda rfl rfl) (Zb 1 rfl (Zs 5 rfl (fun hb => ?_) (fun hb => ?_)))
 rotate_left
 ·replace H := Zq H hb
  refine Zb 4 rfl (Zh (Zd hK2 (Zl (Zm rfl (RV.tmp rfl RV.nil) rfl ?_))))
  obtain rfl := QJ H
  replace hS := hS.cut 0
  exact ⟨rfl, hS⟩
 replace H := Zp H hb
 refine Zb 1 rfl (Za rfl rfl rfl (Zen rfl rfl) (Zb 2 rfl (Zh (Zd hK2 (Zl (Zm rfl (RV.tmp rfl RV.nil) rfl ?_))))))
 obtain rfl := QJ H
 replace hS := hS.cut 0
 exact ⟨rfl, hS⟩
theorem c_ref20_entries (x0 : Ms) (A0_ : OA) (c0_ : Nat) (w0 : World) (s0_ : SlW w0 enE A0_ c0_ x0.entries) {r : Bool} (H : Zbv x0 = some r) : Calls Try.prog 39 #[.agg #[.int .u8 x0.kind, .int .i64 x0.frm, .int .i64 x0.dst, .int .i64 x0.term, .int .i64 x0.cap, .int .i64 x0.last, .int .i64 x0.lastTerm, .int .i64 x0.commit, .bool x0.okk, .slice A0_ x0.entries.length c0_, .int .i64 x0.snap.index, .int .i64 x0.snap.term, .int .i64 x0.snap.sum, .int .i64 x0.snap.level, .bool x0.snap.final]] w0 fun e w' => e = .returned (.bool r) ∧ St0 All w0 w' [] := by
 unfold Zbv at H
 refine Yp Try.func39 rfl Try.ntmps39 rfl ?_
 have hS := St0.start All w0
 refine Zf (fun K hK1 => Zg (Yq rfl rfl rfl CellsOf.agg hS (fun b2 w hS hB => Zb 1 rfl (Zh (Zd hK1 (Zf (fun K hK4 => Zg ?_)))))))
 refine Za rfl rfl rfl (Zc fo_36_6 rfl) (Za rfl rfl rfl (Zi Zy rfl (Zgf _) hS hs0 trivial sg6_1) (Zb 1 rfl (Zh (Zd hK4 (Zf (fun K hK5 => Zf (fun K hK6 => Zg ?_)))))))
 refine Zb 1 rfl (Zh (Zd hK6 (Z6 (Vp (X := Nat × Bool × Int × Int) (fun x => (1, .pointer (some ⟨b2, 0, none⟩)) :: (2, .bool x.2.1) :: (3, .int .i64 x.2.2.1) :: (4, .int .i64 x.2.2.2) :: []) (fun x w => St0 All w0 w (.box b2 [.int .u8 x0.kind, .int .i64 x0.frm, .int .i64 x0.dst, .int .i64 x0.term, .int .i64 x0.cap, .int .i64 x0.last, .int .i64 x0.lastTerm, .int .i64 x0.commit, .bool x0.okk, .slice A0_ x0.entries.length c0_, .int .i64 x0.snap.index, .int .i64 x0.snap.term, .int .i64 x0.snap.sum, .int .i64 x0.snap.level, .bool x0.snap.final] 36 :: []) ∧ Jf x0 x.1 x.2.1 x.2.2.1 x.2.2.2 = some r) (fun x => x.1) (Yy, false, x0.lastTerm, 0) (by repeat (first | exact Sub.nil | refine Sub.cons rfl ?_)) ⟨hS, H⟩ ?_))))
 rintro ⟨n, v7, v8, v9⟩ w ⟨hS, H⟩
 dsimp only at hS H ⊢
 obtain _ | n := n
 ·have H0 : none = some r := H
  cases H0
 rw [Jf] at H
 refine Zf (fun K hK10 => Zf (fun K hK11 => Zg (Zb 1 rfl (Za rfl rfl rfl (Zc Zb2 rfl) (Za rfl rfl rfl (Zi Y6 rfl (Zgf _) hS hs0 trivial Xt) (Za rfl rfl rfl (Yb Y1 rfl) (Za rfl rfl rfl (Y4 rfl rfl) ?_)))))))
 refine Zh (Zd hK11 (Zx rfl (fun hb => ?_) (fun hb => ?_)))
 rotate_left
 ·replace H := Zq H hb
  refine Xy (Z4 (Z4 (Yz (Zd hK5 (Zf (fun K hK40 => Zg (Za rfl rfl rfl (Zc Zb2 rfl) ?_)))))))
  refine Za rfl rfl rfl (Zi Y6 rfl (Zgf _) hS hs0 trivial Xt) (Za rfl rfl rfl (Yb Y1 rfl) (Za rfl rfl rfl (Zen rfl rfl) (Zb 1 rfl (Zh (Zd hK40 (Zl (Zm rfl (RV.tmp rfl RV.nil) rfl ?_)))))))
  obtain rfl := QJ H
  replace hS := hS.cut 0
  exact ⟨rfl, hS⟩
 replace H := Zp H hb
 refine Zv (Zd hK10 (Zf (fun K hK13 => Z6 (Zf (fun K hK14 => Zf (fun K hK15 => Yh 28 [] (fun _ _ => True) ⟨by kernel_rfl, by kernel_rfl⟩ hS (fun w hS hB => Zo [Tt,Tt,Tt,Tt,Tt] (by decide +kernel) PFC.h ?_)))))))
 refine LtK.put rfl rfl rfl (Zc Zb2 rfl) (LtK.put rfl rfl rfl (Zi Y6 rfl (Zgg _) hS hs0 trivial Xt) (LtK.put rfl rfl rfl (Zu rfl) ?_))
 obtain ⟨e16, hi18, H⟩ := bind_some H
 obtain ⟨j17, hi18a, hi18b, hi18c⟩ := Xn hi18
 refine LtK.put rfl rfl rfl (Y2 Y1 rfl rfl hi18a hi18c (Rd.el (hS.rd0 s0_.rd) Vf hi18b)) (LtK.put rfl rfl rfl (V8 Zb5 rfl (Zgg _) (Rd.el (hS.rd0 s0_.rd) Vf hi18b) Zfx) (LtK.nil (Yd [Ff,Ff,Ff,Ff,Ff,Tt] 5 ⟨by decide, by kernel_rfl, by kernel_rfl⟩ rfl rfl ?_)))
 try dsimp only [Z2]
 obtain ⟨r19, hm20, H⟩ := bind_some H
 refine Zt rfl rfl rfl rfl (by kernel_rfl) rfl (Zf1 e16 _ hm20) ?_
 rintro e w ⟨rfl, hN⟩; refine ⟨_, rfl, ?_⟩; obtain ⟨hB, hS⟩ := hS.jn hN
 refine Zh (Ye hB (Zo [Ff,Ff,Ff,Ff,Ff,Ff,Tt,Tt] (by decide +kernel) PFC.h (LtK.put rfl rfl rfl (Yt rfl) (LtK.put rfl rfl rfl (Zu rfl) (LtK.nil (Xf 21 rfl (fun hb => ?_) (fun hb => ?_)))))))
 ·replace H := Zp H hb
  refine Zo [Ff,Ff,Ff,Ff,Ff,Ff,Ff,Ff,Tt,Tt,Tt,Tt,Tt,Tt,Tt,Tt,Tt,Tt,Tt,Tt,Tt,Tt,Tt,Tt,Tt,Tt,Tt,Tt] (by decide +kernel) PFC.h (LtK.skip rfl rfl rfl (LtK.skip rfl rfl rfl (LtK.skip rfl rfl rfl (LtK.skip rfl rfl rfl (LtK.skip rfl rfl rfl (LtK.skip rfl rfl rfl (LtK.skip rfl rfl rfl ?_)))))))
  refine LtK.skip rfl rfl rfl (LtK.put rfl rfl rfl (Z9 rfl rfl rfl) (LtK.put rfl rfl rfl (Zu rfl) (LtK.skip rfl rfl rfl (LtK.skip rfl rfl rfl (LtK.skip rfl rfl rfl (LtK.skip rfl rfl rfl (LtK.skip rfl rfl rfl ?_)))))))
  refine LtK.skip rfl rfl rfl (LtK.skip rfl rfl rfl (LtK.skip rfl rfl rfl (LtK.skip rfl rfl rfl (LtK.put rfl rfl rfl (Z9 rfl rfl rfl) (LtK.nil (Z5 (by kernel_rfl) (Zd hK15 ?_)))))))
  refine Zn rfl rfl (Zf (fun K hK22 => Zg (Zb 1 rfl (Zh (Zd hK22 (Zl (Ze ?_)))))))
  refine Zj (Ze (Ze (Zj (Ze (Zm rfl (RV.tmp rfl RV.nil) rfl ?_)))))
  obtain rfl := QJ H
  replace hS := hS.cut 0
  exact ⟨rfl, hS⟩
 replace H := Zq H hb
 refine Zo [Ff,Ff,Ff,Ff,Ff,Ff,Ff,Ff,Tt,Tt,Tt,Tt,Tt,Tt,Tt,Tt,Tt,Tt] (by decide +kernel) PFC.h (LtK.put rfl rfl rfl (Zc Zb2 rfl) (LtK.put rfl rfl rfl (Zi Y6 rfl (Zgg _) hS hs0 trivial Xt) (LtK.put rfl rfl rfl (Zu rfl) ?_)))
 obtain ⟨e24, hi26, H⟩ := bind_some H
 obtain ⟨j25, hi26a, hi26b, hi26c⟩ := Xn hi26
 refine LtK.put rfl rfl rfl (Y2 Y1 rfl rfl hi26a hi26c (Rd.el (hS.rd0 s0_.rd) Vf hi26b)) (LtK.put rfl rfl rfl (Y0 Zcj rfl (Rd.el (hS.rd0 s0_.rd) Vf hi26b)) (LtK.put rfl rfl rfl (Zav Zy rfl (Zgg _) (Rd.el (hS.rd0 s0_.rd) Vf hi26b) rfl) (LtK.put rfl rfl rfl (Zu rfl) (LtK.put rfl rfl rfl (Y4 rfl rfl) (LtK.put rfl rfl rfl (Yk rfl rfl rfl) (LtK.put rfl rfl rfl (Zu rfl) (LtK.nil ?_)))))))
 refine Xf 31 rfl (fun hb => ?_) (fun hb => ?_)
 ·replace H := Zp H hb
  refine Zo [Ff,Ff,Ff,Ff,Ff,Ff,Ff,Ff,Ff,Ff,Ff,Ff,Ff,Ff,Ff,Ff,Ff,Ff,Tt,Tt,Tt,Tt,Tt,Tt,Tt,Tt,Tt,Tt] (by decide +kernel) PFC.h (LtK.skip rfl rfl rfl (LtK.skip rfl rfl rfl (LtK.skip rfl rfl rfl (LtK.skip rfl rfl rfl (LtK.skip rfl rfl rfl (LtK.skip rfl rfl rfl (LtK.skip rfl rfl rfl ?_)))))))
  refine LtK.skip rfl rfl rfl (LtK.skip rfl rfl rfl (LtK.put rfl rfl rfl (Z9 rfl rfl rfl) (LtK.nil (Z5 (by kernel_rfl) (Zd hK15 (Zn rfl rfl (Zf (fun K hK28 => ?_))))))))
  refine Zg (Zb 1 rfl (Zh (Zd hK28 (Zl (Ze (Zj (Ze ?_)))))))
  refine Ze (Zj (Ze (Zm rfl (RV.tmp rfl RV.nil) rfl ?_)))
  obtain rfl := QJ H
  replace hS := hS.cut 0
  exact ⟨rfl, hS⟩
 replace H := Zq H hb
 refine Zo [Ff,Ff,Ff,Ff,Ff,Ff,Ff,Ff,Ff,Ff,Ff,Ff,Ff,Ff,Ff,Ff,Ff,Ff,Tt,Tt,Tt,Tt,Tt,Tt,Tt,Tt,Tt,Tt] (by decide +kernel) PFC.h (LtK.put rfl rfl rfl (Zc Zb2 rfl) (LtK.put rfl rfl rfl (Zi Y6 rfl (Zgg _) hS hs0 trivial Xt) (LtK.put rfl rfl rfl (Zu rfl) ?_)))
 obtain ⟨e30, hi32, H⟩ := bind_some H
 obtain ⟨j31, hi32a, hi32b, hi32c⟩ := Xn hi32
 refine LtK.put rfl rfl rfl (Y2 Y1 rfl rfl hi32a hi32c (Rd.el (hS.rd0 s0_.rd) Vf hi32b)) (LtK.put rfl rfl rfl (Y0 Zcj rfl (Rd.el (hS.rd0 s0_.rd) Vf hi32b)) (LtK.put rfl rfl rfl (Zav Zy rfl (Zgg _) (Rd.el (hS.rd0 s0_.rd) Vf hi32b) rfl) (LtK.put rfl rfl rfl (Zc Je rfl) (LtK.put rfl rfl rfl (Zi Zy rfl (Zgg _) hS hs0 trivial Zbe) (LtK.put rfl rfl rfl (Y8 rfl rfl) (LtK.put rfl rfl rfl (Yk rfl rfl rfl) (LtK.nil ?_)))))))
 refine Z5 (by kernel_rfl) (Zd hK15 (Zx rfl (fun hb => ?_) (fun hb => ?_)))
 ·replace H := Zp H hb
  refine Zf (fun K hK34 => Zg (Zb 1 rfl (Zh (Zd hK34 (Zl (Ze (Zj ?_)))))))
  refine Ze (Ze (Zj (Ze (Zm rfl (RV.tmp rfl RV.nil) rfl ?_))))
  obtain rfl := QJ H
  replace hS := hS.cut 0
  exact ⟨rfl, hS⟩
 replace H := Zq H hb
 refine Zv (Zd hK14 (Zg (Za rfl rfl rfl (Zc Zb2 rfl) (Za rfl rfl rfl (Zi Y6 rfl (Zgf _) hS hs0 trivial Xt) (Zb 1 rfl ?_)))))
 obtain ⟨e36, hi38, H⟩ := bind_some H
 obtain ⟨j37, hi38a, hi38b, hi38c⟩ := Xn hi38
 refine Za rfl rfl rfl (Y2 Y1 rfl rfl hi38a hi38c (Rd.el (hS.rd0 s0_.rd) Vf hi38b)) (Za rfl rfl rfl (Y0 Zcj rfl (Rd.el (hS.rd0 s0_.rd) Vf hi38b)) (Za rfl rfl rfl (Zav Zy rfl (Zgf _) (Rd.el (hS.rd0 s0_.rd) Vf hi38b) rfl) (Zb 1 rfl (Zh (Zw (Zd hK13 (Zg ?_)))))))
 refine Zb 1 rfl (Za rfl rfl rfl (Xu rfl rfl) (Zb 1 rfl (Zh ?_)))
 exact Xo (n, v7, e36.term, (IntKind.wrap .i64 (v9 + 1))) (by repeat (first | exact Sub.nil | refine Sub.cons rfl ?_)) ⟨hS, H⟩ (Nat.lt_succ_self _)
theorem Jc (x0 : Ms) (x1 : Int) (A0_ : OA) (c0_ : Nat) (w0 : World) (s0_ : SlW w0 enE A0_ c0_ x0.entries) {r : Bool} (H : Vl x0 x1 = some r) : Calls Try.prog 14 #[.agg #[.int .u8 x0.kind, .int .i64 x0.frm, .int .i64 x0.dst, .int .i64 x0.term, .int .i64 x0.cap, .int .i64 x0.last, .int .i64 x0.lastTerm, .int .i64 x0.commit, .bool x0.okk, .slice A0_ x0.entries.length c0_, .int .i64 x0.snap.index, .int .i64 x0.snap.term, .int .i64 x0.snap.sum, .int .i64 x0.snap.level, .bool x0.snap.final], .int .i64 x1] w0 fun e w' => e = .returned (.bool r) ∧ St0 All w0 w' [] := by
 unfold Vl at H
 refine Xw Try.func14 rfl Try.ntmps14 rfl ?_
 have hS := St0.start All w0
 refine Zf (fun K hK1 => Zg (Yq rfl rfl rfl CellsOf.agg hS (fun b2 w hS hB => Zb 1 rfl (Zh (Zd hK1 (Zf (fun K hK4 => Zf (fun K hK5 => ?_))))))))
 refine Zg (Zb 1 rfl (Za rfl rfl rfl (Y4 rfl rfl) (Zb 1 rfl (Zs 7 rfl (fun hb => ?_) (fun hb => ?_)))))
 ·replace H := Zp H hb
  refine Zb 62 rfl (Zh (Zd hK5 (Zn rfl rfl (Zf (fun K hK7 => Zg (Zb 1 rfl (Zh ?_)))))))
  refine Zd hK7 (Zl (Ze (Zm rfl (RV.tmp rfl RV.nil) rfl ?_)))
  obtain rfl := QJ H
  replace hS := hS.cut 0
  exact ⟨rfl, hS⟩
 replace H := Zq H hb
 refine Zb 1 rfl (Za rfl rfl rfl (Y8 rfl rfl) (Zb 2 rfl (Zs 11 rfl (fun hb => ?_) (fun hb => ?_))))
 ·replace H := Zp H hb
  refine Zb 58 rfl (Zh (Zd hK5 (Zn rfl rfl (Zf (fun K hK10 => Zg (Zb 1 rfl (Zh ?_)))))))
  refine Zd hK10 (Zl (Ze (Zm rfl (RV.tmp rfl RV.nil) rfl ?_)))
  obtain rfl := QJ H
  replace hS := hS.cut 0
  exact ⟨rfl, hS⟩
 replace H := Zq H hb
 refine Za rfl rfl rfl (Zc Ji rfl) (Za rfl rfl rfl (Zi Zy rfl (Zgf _) hS hs0 trivial Xd) (Za rfl rfl rfl (Y4 rfl rfl) (Zb 2 rfl (Zs 16 rfl (fun hb => ?_) (fun hb => ?_)))))
 ·replace H := Zp H hb
  refine Zb 53 rfl (Zh (Zd hK5 (Zn rfl rfl (Zf (fun K hK13 => Zg (Zb 1 rfl (Zh ?_)))))))
  refine Zd hK13 (Zl (Ze (Zm rfl (RV.tmp rfl RV.nil) rfl ?_)))
  obtain rfl := QJ H
  replace hS := hS.cut 0
  exact ⟨rfl, hS⟩
 replace H := Zq H hb
 refine Za rfl rfl rfl (Zc Ji rfl) (Za rfl rfl rfl (Zi Zy rfl (Zgf _) hS hs0 trivial Xd) (Zb 1 rfl (Za rfl rfl rfl (Y8 rfl rfl) (Zb 2 rfl (Zs 22 rfl (fun hb => ?_) (fun hb => ?_))))))
 ·replace H := Zp H hb
  refine Zb 47 rfl (Zh (Zd hK5 (Zn rfl rfl (Zf (fun K hK16 => Zg (Zb 1 rfl (Zh ?_)))))))
  refine Zd hK16 (Zl (Ze (Zm rfl (RV.tmp rfl RV.nil) rfl ?_)))
  obtain rfl := QJ H
  replace hS := hS.cut 0
  exact ⟨rfl, hS⟩
 replace H := Zq H hb
 refine Za rfl rfl rfl (Zc Zc5 rfl) (Za rfl rfl rfl (Zi Zy rfl (Zgf _) hS hs0 trivial Zbj) (Za rfl rfl rfl (Y4 rfl rfl) (Zb 2 rfl (Zs 27 rfl (fun hb => ?_) (fun hb => ?_)))))
 ·replace H := Zp H hb
  refine Zb 42 rfl (Zh (Zd hK5 (Zn rfl rfl (Zf (fun K hK19 => Zg (Zb 1 rfl (Zh ?_)))))))
  refine Zd hK19 (Zl (Ze (Zm rfl (RV.tmp rfl RV.nil) rfl ?_)))
  obtain rfl := QJ H
  replace hS := hS.cut 0
  exact ⟨rfl, hS⟩
 replace H := Zq H hb
 refine Za rfl rfl rfl (Zc Zc5 rfl) (Za rfl rfl rfl (Zi Zy rfl (Zgf _) hS hs0 trivial Zbj) (Zb 1 rfl (Za rfl rfl rfl (Y8 rfl rfl) (Zb 2 rfl (Zs 33 rfl (fun hb => ?_) (fun hb => ?_))))))
 ·replace H := Zp H hb
  refine Zb 36 rfl (Zh (Zd hK5 (Zn rfl rfl (Zf (fun K hK22 => Zg (Zb 1 rfl (Zh ?_)))))))
  refine Zd hK22 (Zl (Ze (Zm rfl (RV.tmp rfl RV.nil) rfl ?_)))
  obtain rfl := QJ H
  replace hS := hS.cut 0
  exact ⟨rfl, hS⟩
 replace H := Zq H hb
 refine Za rfl rfl rfl (Zc Ji rfl) (Za rfl rfl rfl (Zi Zy rfl (Zgf _) hS hs0 trivial Xd) (Za rfl rfl rfl (Zc Zc5 rfl) (Za rfl rfl rfl (Zi Zy rfl (Zgf _) hS hs0 trivial Zbj) (Za rfl rfl rfl (Xh rfl rfl) (Zb 2 rfl (Zs 40 rfl (fun hb => ?_) (fun hb => ?_)))))))
 ·replace H := Zp H hb
  refine Zb 29 rfl (Zh (Zd hK5 (Zn rfl rfl (Zf (fun K hK25 => Zg (Zb 1 rfl (Zh ?_)))))))
  refine Zd hK25 (Zl (Ze (Zm rfl (RV.tmp rfl RV.nil) rfl ?_)))
  obtain rfl := QJ H
  replace hS := hS.cut 0
  exact ⟨rfl, hS⟩
 replace H := Zq H hb
 refine Za rfl rfl rfl (Zc V3 rfl) (Za rfl rfl rfl (Zi Zbi rfl (Zgf _) hS hs0 trivial Yw) (Za rfl rfl rfl (Y4 rfl rfl) (Zb 2 rfl (Zs 45 rfl (fun hb => ?_) (fun hb => ?_)))))
 ·replace H := Zp H hb
  refine Zb 24 rfl (Zh (Zd hK5 (Zn rfl rfl (Zf (fun K hK28 => Zg (Zb 1 rfl (Zh ?_)))))))
  refine Zd hK28 (Zl (Ze (Zm rfl (RV.tmp rfl RV.nil) rfl ?_)))
  obtain rfl := QJ H
  replace hS := hS.cut 0
  exact ⟨rfl, hS⟩
 replace H := Zq H hb
 refine Za rfl rfl rfl (Zc V3 rfl) (Za rfl rfl rfl (Zi Zbi rfl (Zgf _) hS hs0 trivial Yw) (Za rfl rfl rfl (Zda rfl rfl) (Zb 2 rfl (Zs 50 rfl (fun hb => ?_) (fun hb => ?_)))))
 ·replace H := Zp H hb
  refine Zb 19 rfl (Zh (Zd hK5 (Zn rfl rfl (Zf (fun K hK31 => Zg (Zb 1 rfl (Zh ?_)))))))
  refine Zd hK31 (Zl (Ze (Zm rfl (RV.tmp rfl RV.nil) rfl ?_)))
  obtain rfl := QJ H
  replace hS := hS.cut 0
  exact ⟨rfl, hS⟩
 replace H := Zq H hb
 refine Za rfl rfl rfl (Zc Je rfl) (Za rfl rfl rfl (Zi Zy rfl (Zgf _) hS hs0 trivial Zbe) (Za rfl rfl rfl (Y4 rfl rfl) (Zb 2 rfl (Zs 55 rfl (fun hb => ?_) (fun hb => ?_)))))
 ·replace H := Zp H hb
  refine Zb 14 rfl (Zh (Zd hK5 (Zn rfl rfl (Zf (fun K hK34 => Zg (Zb 1 rfl (Zh ?_)))))))
  refine Zd hK34 (Zl (Ze (Zm rfl (RV.tmp rfl RV.nil) rfl ?_)))
  obtain rfl := QJ H
  replace hS := hS.cut 0
  exact ⟨rfl, hS⟩
 replace H := Zq H hb
 refine Za rfl rfl rfl (Zc Je rfl) (Za rfl rfl rfl (Zi Zy rfl (Zgf _) hS hs0 trivial Zbe) (Za rfl rfl rfl (Y8 rfl rfl) (Zb 2 rfl (Zs 60 rfl (fun hb => ?_) (fun hb => ?_)))))
 ·replace H := Zp H hb
  refine Zb 9 rfl (Zh (Zd hK5 (Zn rfl rfl (Zf (fun K hK37 => Zg (Zb 1 rfl (Zh ?_)))))))
  refine Zd hK37 (Zl (Ze (Zm rfl (RV.tmp rfl RV.nil) rfl ?_)))
  obtain rfl := QJ H
  replace hS := hS.cut 0
  exact ⟨rfl, hS⟩
 replace H := Zq H hb
 refine Za rfl rfl rfl (Zc fo_36_4 rfl) (Za rfl rfl rfl (Zi Zy rfl (Zgf _) hS hs0 trivial sg4_1) (Za rfl rfl rfl (Y4 rfl rfl) (Zb 2 rfl (Zs 65 rfl (fun hb => ?_) (fun hb => ?_)))))
 ·replace H := Zp H hb
  refine Zb 4 rfl (Zh (Zd hK5 (Zn rfl rfl (Zf (fun K hK40 => Zg (Zb 1 rfl (Zh ?_)))))))
  refine Zd hK40 (Zl (Ze (Zm rfl (RV.tmp rfl RV.nil) rfl ?_)))
  obtain rfl := QJ H
  replace hS := hS.cut 0
  exact ⟨rfl, hS⟩
 replace H := Zq H hb
 refine Za rfl rfl rfl (Zc fo_36_4 rfl) (Za rfl rfl rfl (Zi Zy rfl (Zgf _) hS hs0 trivial sg4_1) (Za rfl rfl rfl (Y8 rfl rfl) (Zb 1 rfl (Zh (Zd hK5 (Zx rfl (fun hb => ?_) (fun hb => ?_)))))))
 ·replace H := Zp H hb
  refine Zf (fun K hK43 => Zg (Zb 1 rfl (Zh (Zd hK43 (Zl (Ze (Zm rfl (RV.tmp rfl RV.nil) rfl ?_)))))))
  obtain rfl := QJ H
  replace hS := hS.cut 0
  exact ⟨rfl, hS⟩
 replace H := Zq H hb
 refine Zv (Zd hK4 (Zf (fun K hK45 => Zf (fun K hK46 => Zg (Za rfl rfl rfl (Zc fo_36_5 rfl) (Za rfl rfl rfl (Zi Zy rfl (Zgf _) hS hs0 trivial Zes) ?_))))))
 obtain ⟨r47, hm48, H⟩ := bind_some H
 refine Zt rfl rfl rfl rfl (by kernel_rfl) rfl (Zfd x0.last _ hm48) ?_
 rintro e w ⟨rfl, hN⟩; refine ⟨_, rfl, ?_⟩; obtain ⟨hB, hS⟩ := hS.jn hN
 refine Za rfl rfl rfl (Yt rfl) (Zb 1 rfl (Zs 74 rfl (fun hb => ?_) (fun hb => ?_)))
 ·replace H := Zp H hb
  refine Zb 16 rfl (Zh (Zd hK46 (Zn rfl rfl (Zf (fun K hK50 => Zg (Zb 1 rfl (Zh ?_)))))))
  refine Zd hK50 (Zl (Ze (Zm rfl (RV.tmp rfl RV.nil) rfl ?_)))
  obtain rfl := QJ H
  replace hS := hS.cut 0
  exact ⟨rfl, hS⟩
 replace H := Zq H hb
 refine Za rfl rfl rfl (Zc fo_36_6 rfl) (Za rfl rfl rfl (Zi Zy rfl (Zgf _) hS hs0 trivial sg6_1) ?_)
 obtain ⟨r52, hm53, H⟩ := bind_some H
 refine Zt rfl rfl rfl rfl (by kernel_rfl) rfl (Zfd x0.lastTerm _ hm53) ?_
 rintro e w ⟨rfl, hN⟩; refine ⟨_, rfl, ?_⟩; obtain ⟨hB, hS⟩ := hS.jn hN
 refine Za rfl rfl rfl (Yt rfl) (Zb 2 rfl (Zs 80 rfl (fun hb => ?_) (fun hb => ?_)))
 ·replace H := Zp H hb
  refine Zb 10 rfl (Zh (Zd hK46 (Zn rfl rfl (Zf (fun K hK55 => Zg (Zb 1 rfl (Zh ?_)))))))
  refine Zd hK55 (Zl (Ze (Zm rfl (RV.tmp rfl RV.nil) rfl ?_)))
  obtain rfl := QJ H
  replace hS := hS.cut 0
  exact ⟨rfl, hS⟩
 replace H := Zq H hb
 refine Za rfl rfl rfl (Zc fo_36_7 rfl) (Za rfl rfl rfl (Zi Zy rfl (Zgf _) hS hs0 trivial sg7_1) ?_)
 obtain ⟨r57, hm58, H⟩ := bind_some H
 refine Zt rfl rfl rfl rfl (by kernel_rfl) rfl (Zfd x0.commit _ hm58) ?_
 rintro e w ⟨rfl, hN⟩; refine ⟨_, rfl, ?_⟩; obtain ⟨hB, hS⟩ := hS.jn hN
 refine Za rfl rfl rfl (Yt rfl) (Zb 2 rfl (Zs 86 rfl (fun hb => ?_) (fun hb => ?_)))
 ·replace H := Zp H hb
  refine Zb 4 rfl (Zh (Zd hK46 (Zn rfl rfl (Zf (fun K hK60 => Zg (Zb 1 rfl (Zh ?_)))))))
  refine Zd hK60 (Zl (Ze (Zm rfl (RV.tmp rfl RV.nil) rfl ?_)))
  obtain rfl := QJ H
  replace hS := hS.cut 0
  exact ⟨rfl, hS⟩
 replace H := Zq H hb
 refine Za rfl rfl rfl (Zk Vz rfl (Zgf _) hS hs0 trivial X7) ?_
 obtain ⟨r62, hm63, H⟩ := bind_some H
 refine Zt rfl rfl rfl rfl (by kernel_rfl) rfl (c_ref20_entries x0 A0_ c0_ _ (SlW.of_rd s0_.k (hS.rd0 s0_.rd)) hm63) ?_
 rintro e w ⟨rfl, hN⟩; refine ⟨_, rfl, ?_⟩; obtain ⟨hB, hS⟩ := hS.jn hN
 refine Za rfl rfl rfl (Yt rfl) (Zb 1 rfl (Zh (Zd hK46 (Zx rfl (fun hb => ?_) (fun hb => ?_)))))
 ·replace H := Zp H hb
  refine Zf (fun K hK65 => Zg (Zb 1 rfl (Zh (Zd hK65 (Zl (Ze (Zm rfl (RV.tmp rfl RV.nil) rfl ?_)))))))
  obtain rfl := QJ H
  replace hS := hS.cut 0
  exact ⟨rfl, hS⟩
 replace H := Zq H hb
 refine Zv (Zd hK45 (Zf (fun K hK67 => Zf (fun K hK68 => Zg (Za rfl rfl rfl (Zc V3 rfl) (Za rfl rfl rfl (Zi Zbi rfl (Zgf _) hS hs0 trivial Yw) (Za rfl rfl rfl (Yl rfl rfl) ?_)))))))
 refine Zb 1 rfl (Zs 94 rfl (fun hb => ?_) (fun hb => ?_))
 rotate_left
 ·replace H := Zq H hb
  refine Zb 11 rfl (Za rfl rfl rfl (Zc fo_36_8 rfl) (Za rfl rfl rfl (Zi sc_4 rfl (Zgf _) hS hs0 trivial sg8_1) (Zb 1 rfl (Zs 108 rfl (fun hb => ?_) (fun hb => ?_)))))
  rotate_left
  ·replace H := Zq H hb
   refine Zb 10 rfl (Zh (Zd hK68 (Ym rfl rfl (Zv (Zd hK67 (Zf (fun K hK141 => Zf (fun K hK142 => ?_))))))))
   refine Zg (Za rfl rfl rfl (Zc V3 rfl) (Za rfl rfl rfl (Zi Zbi rfl (Zgf _) hS hs0 trivial Yw) (Za rfl rfl rfl (Xh rfl rfl) (Zh (Zd hK142 (Zx rfl (fun hb => ?_) (fun hb => ?_)))))))
   rotate_left
   ·replace H := Zq H hb
    refine Zv (Zd hK141 (Zf (fun K hK150 => Zg (Za rfl rfl rfl (Zc Xm rfl) (Za rfl rfl rfl (Zk Y3 rfl (Zgf _) hS hs0 trivial Zag) (Za rfl rfl rfl (Vk (cells := [.int .i64 0, .int .i64 0, .int .i64 0, .int .i64 0, .bool false]) rfl (by kernel_rfl)) (Za rfl rfl rfl (Zap (by kernel_rfl) rfl rfl (Jg _ _ _ _ _ _ _ _ _ _)) ?_)))))))
    refine Zb 1 rfl (Zh (Zd hK150 (Zl (Zm rfl (RV.tmp rfl RV.nil) rfl ?_))))
    obtain rfl := QJ H
    replace hS := hS.cut 0
    exact ⟨rfl, hS⟩
   replace H := Zp H hb
   refine Zf (fun K hK144 => Zg (Za rfl rfl rfl (Zc Xm rfl) (Za rfl rfl rfl (Zk Y3 rfl (Zgf _) hS hs0 trivial Zag) ?_)))
   obtain ⟨r145, hm146, H⟩ := bind_some H
   refine Zt rfl rfl rfl rfl (by kernel_rfl) rfl (Za7 x0.snap _ hm146) ?_
   rintro e w ⟨rfl, hN⟩; refine ⟨_, rfl, ?_⟩; obtain ⟨hB, hS⟩ := hS.jn hN
   refine Zb 1 rfl (Zs 125 rfl (fun hb => ?_) (fun hb => ?_))
   rotate_left
   ·replace H := Zq H hb
    refine Zb 6 rfl (Zh (Zd hK144 (Zl (Ze (Zm rfl (RV.tmp rfl RV.nil) rfl ?_)))))
    obtain rfl := QJ H
    replace hS := hS.cut 0
    exact ⟨rfl, hS⟩
   replace H := Zp H hb
   refine Za rfl rfl rfl (Zc Xm rfl) (Za rfl rfl rfl (Zc Ys rfl) (Za rfl rfl rfl (Zi Zy rfl (Zgf _) hS hs0 trivial Xv) (Za rfl rfl rfl (Y8 rfl rfl) (Zb 2 rfl (Zh (Zd hK144 (Zl ?_)))))))
   refine Ze (Zm rfl (RV.tmp rfl RV.nil) rfl ?_)
   obtain rfl := QJ H
   replace hS := hS.cut 0
   exact ⟨rfl, hS⟩
  replace H := Zp H hb
  refine Za rfl rfl rfl (Zc V3 rfl) (Za rfl rfl rfl (Zi Zbi rfl (Zgf _) hS hs0 trivial Yw) (Za rfl rfl rfl (Yl rfl rfl) (Zb 2 rfl (Zs 113 rfl (fun hb => ?_) (fun hb => ?_)))))
  rotate_left
  ·replace H := Zq H hb
   refine Zb 5 rfl (Zh (Zd hK68 (Ym rfl rfl (Zv (Zd hK67 (Zf (fun K hK130 => Zf (fun K hK131 => ?_))))))))
   refine Zg (Za rfl rfl rfl (Zc V3 rfl) (Za rfl rfl rfl (Zi Zbi rfl (Zgf _) hS hs0 trivial Yw) (Za rfl rfl rfl (Xh rfl rfl) (Zh (Zd hK131 (Zx rfl (fun hb => ?_) (fun hb => ?_)))))))
   rotate_left
   ·replace H := Zq H hb
    refine Zv (Zd hK130 (Zf (fun K hK139 => Zg (Za rfl rfl rfl (Zc Xm rfl) (Za rfl rfl rfl (Zk Y3 rfl (Zgf _) hS hs0 trivial Zag) (Za rfl rfl rfl (Vk (cells := [.int .i64 0, .int .i64 0, .int .i64 0, .int .i64 0, .bool false]) rfl (by kernel_rfl)) (Za rfl rfl rfl (Zap (by kernel_rfl) rfl rfl (Jg _ _ _ _ _ _ _ _ _ _)) ?_)))))))
    refine Zb 1 rfl (Zh (Zd hK139 (Zl (Zm rfl (RV.tmp rfl RV.nil) rfl ?_))))
    obtain rfl := QJ H
    replace hS := hS.cut 0
    exact ⟨rfl, hS⟩
   replace H := Zp H hb
   refine Zf (fun K hK133 => Zg (Za rfl rfl rfl (Zc Xm rfl) (Za rfl rfl rfl (Zk Y3 rfl (Zgf _) hS hs0 trivial Zag) ?_)))
   obtain ⟨r134, hm135, H⟩ := bind_some H
   refine Zt rfl rfl rfl rfl (by kernel_rfl) rfl (Za7 x0.snap _ hm135) ?_
   rintro e w ⟨rfl, hN⟩; refine ⟨_, rfl, ?_⟩; obtain ⟨hB, hS⟩ := hS.jn hN
   refine Zb 1 rfl (Zs 125 rfl (fun hb => ?_) (fun hb => ?_))
   rotate_left
   ·replace H := Zq H hb
    refine Zb 6 rfl (Zh (Zd hK133 (Zl (Ze (Zm rfl (RV.tmp rfl RV.nil) rfl ?_)))))
    obtain rfl := QJ H
    replace hS := hS.cut 0
    exact ⟨rfl, hS⟩
   replace H := Zp H hb
   refine Za rfl rfl rfl (Zc Xm rfl) (Za rfl rfl rfl (Zc Ys rfl) (Za rfl rfl rfl (Zi Zy rfl (Zgf _) hS hs0 trivial Xv) (Za rfl rfl rfl (Y8 rfl rfl) (Zb 2 rfl (Zh (Zd hK133 (Zl ?_)))))))
   refine Ze (Zm rfl (RV.tmp rfl RV.nil) rfl ?_)
   obtain rfl := QJ H
   replace hS := hS.cut 0
   exact ⟨rfl, hS⟩
  replace H := Zp H hb
  refine Za rfl rfl rfl (Zc V3 rfl) (Za rfl rfl rfl (Zi Zbi rfl (Zgf _) hS hs0 trivial Yw) (Za rfl rfl rfl (Yl rfl rfl) (Zb 2 rfl (Zh (Zd hK68 (Zx rfl (fun hb => ?_) (fun hb => ?_)))))))
  ·replace H := Zp H hb
   refine Zf (fun K hK117 => Zg (Zb 1 rfl (Zh (Zd hK117 (Zl (Ze (Zm rfl (RV.tmp rfl RV.nil) rfl ?_)))))))
   obtain rfl := QJ H
   replace hS := hS.cut 0
   exact ⟨rfl, hS⟩
  replace H := Zq H hb
  refine Zv (Zd hK67 (Zf (fun K hK119 => Zf (fun K hK120 => Zg (Za rfl rfl rfl (Zc V3 rfl) (Za rfl rfl rfl (Zi Zbi rfl (Zgf _) hS hs0 trivial Yw) (Za rfl rfl rfl (Xh rfl rfl) ?_)))))))
  refine Zh (Zd hK120 (Zx rfl (fun hb => ?_) (fun hb => ?_)))
  rotate_left
  ·replace H := Zq H hb
   refine Zv (Zd hK119 (Zf (fun K hK128 => Zg (Za rfl rfl rfl (Zc Xm rfl) (Za rfl rfl rfl (Zk Y3 rfl (Zgf _) hS hs0 trivial Zag) (Za rfl rfl rfl (Vk (cells := [.int .i64 0, .int .i64 0, .int .i64 0, .int .i64 0, .bool false]) rfl (by kernel_rfl)) (Za rfl rfl rfl (Zap (by kernel_rfl) rfl rfl (Jg _ _ _ _ _ _ _ _ _ _)) ?_)))))))
   refine Zb 1 rfl (Zh (Zd hK128 (Zl (Zm rfl (RV.tmp rfl RV.nil) rfl ?_))))
   obtain rfl := QJ H
   replace hS := hS.cut 0
   exact ⟨rfl, hS⟩
  replace H := Zp H hb
  refine Zf (fun K hK122 => Zg (Za rfl rfl rfl (Zc Xm rfl) (Za rfl rfl rfl (Zk Y3 rfl (Zgf _) hS hs0 trivial Zag) ?_)))
  obtain ⟨r123, hm124, H⟩ := bind_some H
  refine Zt rfl rfl rfl rfl (by kernel_rfl) rfl (Za7 x0.snap _ hm124) ?_
  rintro e w ⟨rfl, hN⟩; refine ⟨_, rfl, ?_⟩; obtain ⟨hB, hS⟩ := hS.jn hN
  refine Zb 1 rfl (Zs 125 rfl (fun hb => ?_) (fun hb => ?_))
  rotate_left
  ·replace H := Zq H hb
   refine Zb 6 rfl (Zh (Zd hK122 (Zl (Ze (Zm rfl (RV.tmp rfl RV.nil) rfl ?_)))))
   obtain rfl := QJ H
   replace hS := hS.cut 0
   exact ⟨rfl, hS⟩
  replace H := Zp H hb
  refine Za rfl rfl rfl (Zc Xm rfl) (Za rfl rfl rfl (Zc Ys rfl) (Za rfl rfl rfl (Zi Zy rfl (Zgf _) hS hs0 trivial Xv) (Za rfl rfl rfl (Y8 rfl rfl) (Zb 2 rfl (Zh (Zd hK122 (Zl ?_)))))))
  refine Ze (Zm rfl (RV.tmp rfl RV.nil) rfl ?_)
  obtain rfl := QJ H
  replace hS := hS.cut 0
  exact ⟨rfl, hS⟩
 replace H := Zp H hb
 refine Za rfl rfl rfl (Zc Zb2 rfl) (Za rfl rfl rfl (Zi Y6 rfl (Zgf _) hS hs0 trivial Xt) (Za rfl rfl rfl (Yb Y1 rfl) (Za rfl rfl rfl (Y8 rfl rfl) (Zb 1 rfl (Zs 99 rfl (fun hb => ?_) (fun hb => ?_))))))
 ·replace H := Zp H hb
  refine Zb 19 rfl (Zh (Zd hK68 (Zn rfl rfl (Zf (fun K hK71 => Zg (Zb 1 rfl (Zh ?_)))))))
  refine Zd hK71 (Zl (Ze (Zm rfl (RV.tmp rfl RV.nil) rfl ?_)))
  obtain rfl := QJ H
  replace hS := hS.cut 0
  exact ⟨rfl, hS⟩
 replace H := Zq H hb
 refine Za rfl rfl rfl (Zc fo_36_7 rfl) (Za rfl rfl rfl (Zi Zy rfl (Zgf _) hS hs0 trivial sg7_1) (Za rfl rfl rfl (Y8 rfl rfl) (Zb 3 rfl (Zs 105 rfl (fun hb => ?_) (fun hb => ?_)))))
 ·replace H := Zp H hb
  refine Zb 13 rfl (Zh (Zd hK68 (Zn rfl rfl (Zf (fun K hK74 => Zg (Zb 1 rfl (Zh ?_)))))))
  refine Zd hK74 (Zl (Ze (Zm rfl (RV.tmp rfl RV.nil) rfl ?_)))
  obtain rfl := QJ H
  replace hS := hS.cut 0
  exact ⟨rfl, hS⟩
 replace H := Zq H hb
 refine Za rfl rfl rfl (Zc fo_36_8 rfl) (Za rfl rfl rfl (Zi sc_4 rfl (Zgf _) hS hs0 trivial sg8_1) (Zb 1 rfl (Zs 108 rfl (fun hb => ?_) (fun hb => ?_))))
 rotate_left
 ·replace H := Zq H hb
  refine Zb 10 rfl (Zh (Zd hK68 (Ym rfl rfl (Zv (Zd hK67 (Zf (fun K hK103 => Zf (fun K hK104 => ?_))))))))
  refine Zg (Za rfl rfl rfl (Zc V3 rfl) (Za rfl rfl rfl (Zi Zbi rfl (Zgf _) hS hs0 trivial Yw) (Za rfl rfl rfl (Xh rfl rfl) (Zh (Zd hK104 (Zx rfl (fun hb => ?_) (fun hb => ?_)))))))
  rotate_left
  ·replace H := Zq H hb
   refine Zv (Zd hK103 (Zf (fun K hK112 => Zg (Za rfl rfl rfl (Zc Xm rfl) (Za rfl rfl rfl (Zk Y3 rfl (Zgf _) hS hs0 trivial Zag) (Za rfl rfl rfl (Vk (cells := [.int .i64 0, .int .i64 0, .int .i64 0, .int .i64 0, .bool false]) rfl (by kernel_rfl)) (Za rfl rfl rfl (Zap (by kernel_rfl) rfl rfl (Jg _ _ _ _ _ _ _ _ _ _)) ?_)))))))
   refine Zb 1 rfl (Zh (Zd hK112 (Zl (Zm rfl (RV.tmp rfl RV.nil) rfl ?_))))
   obtain rfl := QJ H
   replace hS := hS.cut 0
   exact ⟨rfl, hS⟩
  replace H := Zp H hb
  refine Zf (fun K hK106 => Zg (Za rfl rfl rfl (Zc Xm rfl) (Za rfl rfl rfl (Zk Y3 rfl (Zgf _) hS hs0 trivial Zag) ?_)))
  obtain ⟨r107, hm108, H⟩ := bind_some H
  refine Zt rfl rfl rfl rfl (by kernel_rfl) rfl (Za7 x0.snap _ hm108) ?_
  rintro e w ⟨rfl, hN⟩; refine ⟨_, rfl, ?_⟩; obtain ⟨hB, hS⟩ := hS.jn hN
  refine Zb 1 rfl (Zs 125 rfl (fun hb => ?_) (fun hb => ?_))
  rotate_left
  ·replace H := Zq H hb
   refine Zb 6 rfl (Zh (Zd hK106 (Zl (Ze (Zm rfl (RV.tmp rfl RV.nil) rfl ?_)))))
   obtain rfl := QJ H
   replace hS := hS.cut 0
   exact ⟨rfl, hS⟩
  replace H := Zp H hb
  refine Za rfl rfl rfl (Zc Xm rfl) (Za rfl rfl rfl (Zc Ys rfl) (Za rfl rfl rfl (Zi Zy rfl (Zgf _) hS hs0 trivial Xv) (Za rfl rfl rfl (Y8 rfl rfl) (Zb 2 rfl (Zh (Zd hK106 (Zl ?_)))))))
  refine Ze (Zm rfl (RV.tmp rfl RV.nil) rfl ?_)
  obtain rfl := QJ H
  replace hS := hS.cut 0
  exact ⟨rfl, hS⟩
 replace H := Zp H hb
 refine Za rfl rfl rfl (Zc V3 rfl) (Za rfl rfl rfl (Zi Zbi rfl (Zgf _) hS hs0 trivial Yw) (Za rfl rfl rfl (Yl rfl rfl) (Zb 2 rfl (Zs 113 rfl (fun hb => ?_) (fun hb => ?_)))))
 rotate_left
 ·replace H := Zq H hb
  refine Zb 5 rfl (Zh (Zd hK68 (Ym rfl rfl (Zv (Zd hK67 (Zf (fun K hK92 => Zf (fun K hK93 => ?_))))))))
  refine Zg (Za rfl rfl rfl (Zc V3 rfl) (Za rfl rfl rfl (Zi Zbi rfl (Zgf _) hS hs0 trivial Yw) (Za rfl rfl rfl (Xh rfl rfl) (Zh (Zd hK93 (Zx rfl (fun hb => ?_) (fun hb => ?_)))))))
  rotate_left
  ·replace H := Zq H hb
   refine Zv (Zd hK92 (Zf (fun K hK101 => Zg (Za rfl rfl rfl (Zc Xm rfl) (Za rfl rfl rfl (Zk Y3 rfl (Zgf _) hS hs0 trivial Zag) (Za rfl rfl rfl (Vk (cells := [.int .i64 0, .int .i64 0, .int .i64 0, .int .i64 0, .bool false]) rfl (by kernel_rfl)) (Za rfl rfl rfl (Zap (by kernel_rfl) rfl rfl (Jg _ _ _ _ _ _ _ _ _ _)) ?_)))))))
   refine Zb 1 rfl (Zh (Zd hK101 (Zl (Zm rfl (RV.tmp rfl RV.nil) rfl ?_))))
   obtain rfl := QJ H
   replace hS := hS.cut 0
   exact ⟨rfl, hS⟩
  replace H := Zp H hb
  refine Zf (fun K hK95 => Zg (Za rfl rfl rfl (Zc Xm rfl) (Za rfl rfl rfl (Zk Y3 rfl (Zgf _) hS hs0 trivial Zag) ?_)))
  obtain ⟨r96, hm97, H⟩ := bind_some H
  refine Zt rfl rfl rfl rfl (by kernel_rfl) rfl (Za7 x0.snap _ hm97) ?_
  rintro e w ⟨rfl, hN⟩; refine ⟨_, rfl, ?_⟩; obtain ⟨hB, hS⟩ := hS.jn hN
  refine Zb 1 rfl (Zs 125 rfl (fun hb => ?_) (fun hb => ?_))
  rotate_left
  ·replace H := Zq H hb
   refine Zb 6 rfl (Zh (Zd hK95 (Zl (Ze (Zm rfl (RV.tmp rfl RV.nil) rfl ?_)))))
   obtain rfl := QJ H
   replace hS := hS.cut 0
   exact ⟨rfl, hS⟩
  replace H := Zp H hb
  refine Za rfl rfl rfl (Zc Xm rfl) (Za rfl rfl rfl (Zc Ys rfl) (Za rfl rfl rfl (Zi Zy rfl (Zgf _) hS hs0 trivial Xv) (Za rfl rfl rfl (Y8 rfl rfl) (Zb 2 rfl (Zh (Zd hK95 (Zl ?_)))))))
  refine Ze (Zm rfl (RV.tmp rfl RV.nil) rfl ?_)
  obtain rfl := QJ H
  replace hS := hS.cut 0
  exact ⟨rfl, hS⟩
 replace H := Zp H hb
 refine Za rfl rfl rfl (Zc V3 rfl) (Za rfl rfl rfl (Zi Zbi rfl (Zgf _) hS hs0 trivial Yw) (Za rfl rfl rfl (Yl rfl rfl) (Zb 2 rfl (Zh (Zd hK68 (Zx rfl (fun hb => ?_) (fun hb => ?_)))))))
 ·replace H := Zp H hb
  refine Zf (fun K hK79 => Zg (Zb 1 rfl (Zh (Zd hK79 (Zl (Ze (Zm rfl (RV.tmp rfl RV.nil) rfl ?_)))))))
  obtain rfl := QJ H
  replace hS := hS.cut 0
  exact ⟨rfl, hS⟩
 replace H := Zq H hb
 refine Zv (Zd hK67 (Zf (fun K hK81 => Zf (fun K hK82 => Zg (Za rfl rfl rfl (Zc V3 rfl) (Za rfl rfl rfl (Zi Zbi rfl (Zgf _) hS hs0 trivial Yw) (Za rfl rfl rfl (Xh rfl rfl) ?_)))))))
 refine Zh (Zd hK82 (Zx rfl (fun hb => ?_) (fun hb => ?_)))
 rotate_left
 ·replace H := Zq H hb
  refine Zv (Zd hK81 (Zf (fun K hK90 => Zg (Za rfl rfl rfl (Zc Xm rfl) (Za rfl rfl rfl (Zk Y3 rfl (Zgf _) hS hs0 trivial Zag) (Za rfl rfl rfl (Vk (cells := [.int .i64 0, .int .i64 0, .int .i64 0, .int .i64 0, .bool false]) rfl (by kernel_rfl)) (Za rfl rfl rfl (Zap (by kernel_rfl) rfl rfl (Jg _ _ _ _ _ _ _ _ _ _)) ?_)))))))
  refine Zb 1 rfl (Zh (Zd hK90 (Zl (Zm rfl (RV.tmp rfl RV.nil) rfl ?_))))
  obtain rfl := QJ H
  replace hS := hS.cut 0
  exact ⟨rfl, hS⟩
 replace H := Zp H hb
 refine Zf (fun K hK84 => Zg (Za rfl rfl rfl (Zc Xm rfl) (Za rfl rfl rfl (Zk Y3 rfl (Zgf _) hS hs0 trivial Zag) ?_)))
 obtain ⟨r85, hm86, H⟩ := bind_some H
 refine Zt rfl rfl rfl rfl (by kernel_rfl) rfl (Za7 x0.snap _ hm86) ?_
 rintro e w ⟨rfl, hN⟩; refine ⟨_, rfl, ?_⟩; obtain ⟨hB, hS⟩ := hS.jn hN
 refine Zb 1 rfl (Zs 125 rfl (fun hb => ?_) (fun hb => ?_))
 rotate_left
 ·replace H := Zq H hb
  refine Zb 6 rfl (Zh (Zd hK84 (Zl (Ze (Zm rfl (RV.tmp rfl RV.nil) rfl ?_)))))
  obtain rfl := QJ H
  replace hS := hS.cut 0
  exact ⟨rfl, hS⟩
 replace H := Zp H hb
 refine Za rfl rfl rfl (Zc Xm rfl) (Za rfl rfl rfl (Zc Ys rfl) (Za rfl rfl rfl (Zi Zy rfl (Zgf _) hS hs0 trivial Xv) (Za rfl rfl rfl (Y8 rfl rfl) (Zb 2 rfl (Zh (Zd hK84 (Zl ?_)))))))
 refine Ze (Zm rfl (RV.tmp rfl RV.nil) rfl ?_)
 obtain rfl := QJ H
 replace hS := hS.cut 0
 exact ⟨rfl, hS⟩
end Go.Proofs.Ytamjlcaoieliaaa
