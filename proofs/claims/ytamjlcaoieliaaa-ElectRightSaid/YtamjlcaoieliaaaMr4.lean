/- Texts of one claim put together. -/
import Derived.Test.YtamjlcaoieliaaaMr1
import Derived.Test.YtamjlcaoieliaaaMr2
import Derived.Test.YtamjlcaoieliaaaMr3
namespace Go.Proofs.Ytamjlcaoieliaaa
open Go Go.RowKit
set_option maxRecDepth 100000
set_option maxHeartbeats 4000000
theorem c_elect_Lead (x0 : Co) (A0_ : OA) (c0_ : Nat) (A1_ : OA) (c1_ : Nat) (A2_ : OA) (c2_ : Nat) (A3_ : OA) (c3_ : Nat) (A4_ : OA) (c4_ : Nat) (w0 : World) (s0_ : SlI w0 enE A0_ c0_ x0.tuple.log) (s1_ : SlI w0 enO A1_ c1_ x0.votes) (s2_ : SlI w0 Vr A2_ c2_ x0.next) (s3_ : SlI w0 Vr A3_ c3_ x0.mtch) (s4_ : SlI w0 Vr A4_ c4_ x0.caps) {r : Co} (H : Jd x0 = some r) : Calls Try.prog 22 #[.agg #[.int .i64 x0.id, .int .i64 x0.n, .int .u8 x0.role, .int .i64 x0.binary, .int .i64 x0.tuple.snap.index, .int .i64 x0.tuple.snap.term, .int .i64 x0.tuple.snap.sum, .int .i64 x0.tuple.snap.level, .bool x0.tuple.snap.final, .slice A0_ x0.tuple.log.length c0_, .int .i64 x0.tuple.term, .int .i64 x0.tuple.vote, .int .i64 x0.commit, .int .i64 x0.applied.index, .int .i64 x0.applied.term, .int .i64 x0.applied.sum, .int .i64 x0.applied.level, .bool x0.applied.final, .slice A1_ x0.votes.length c1_, .slice A2_ x0.next.length c2_, .slice A3_ x0.mtch.length c3_, .slice A4_ x0.caps.length c4_]] w0 fun e w' => ∃ (A0 : OA) (c0 : Nat) (A1 : OA) (c1 : Nat) (A2 : OA) (c2 : Nat) (A3 : OA) (c3 : Nat) (A4 : OA) (c4 : Nat), e = .returned (.agg #[.int .i64 r.id, .int .i64 r.n, .int .u8 r.role, .int .i64 r.binary, .int .i64 r.tuple.snap.index, .int .i64 r.tuple.snap.term, .int .i64 r.tuple.snap.sum, .int .i64 r.tuple.snap.level, .bool r.tuple.snap.final, .slice A0 r.tuple.log.length c0, .int .i64 r.tuple.term, .int .i64 r.tuple.vote, .int .i64 r.commit, .int .i64 r.applied.index, .int .i64 r.applied.term, .int .i64 r.applied.sum, .int .i64 r.applied.level, .bool r.applied.final, .slice A1 r.votes.length c1, .slice A2 r.next.length c2, .slice A3 r.mtch.length c3, .slice A4 r.caps.length c4]) ∧ (r.tuple.log.length ≤ c0 ∧ c0 ≤ maxLen) ∧ (r.votes.length ≤ c1 ∧ c1 ≤ maxLen) ∧ (r.next.length ≤ c2 ∧ c2 ≤ maxLen) ∧ (r.mtch.length ≤ c3 ∧ c3 ≤ maxLen) ∧ (r.caps.length ≤ c4 ∧ c4 ≤ maxLen) ∧ St0 All w0 w' [.rd A0 (Z8 enE r.tuple.log), .row (.slice A1 r.votes.length c1) 4 1 r.votes.length (Z8 enO r.votes), .row (.slice A2 r.next.length c2) 3 1 r.next.length (Z8 Vr r.next), .row (.slice A3 r.mtch.length c3) 3 1 r.mtch.length (Z8 Vr r.mtch), .row (.slice A4 r.caps.length c4) 3 1 r.caps.length (Z8 Vr r.caps)] := by
 unfold Jd at H
 refine Yp Try.func22 rfl Try.ntmps22 rfl ?_
 have hS := St0.start All w0
 refine Zf (fun K hK1 => Zg (Yq rfl rfl rfl CellsOf.agg hS (fun b2 w hS hB => Yr rfl rfl Zcn hS (fun b4 w hS hB => Zh (Zd hK1 (Zf (fun K hK6 => Zg ?_)))))))
 refine Za rfl rfl rfl (Zk Ya rfl (Zgf _) hS X9 trivial Z1) ?_
 obtain ⟨r7, hm8, H⟩ := bind_some H
 refine Zt rfl rfl rfl rfl (by kernel_rfl) rfl (Zdg x0 A0_ c0_ A1_ c1_ A2_ c2_ A3_ c3_ A4_ c4_ _ (Zgi s0_.k (hS.rd0 s0_.rd) (hS.blk0 s0_.blk)) (Zgi s1_.k (hS.rd0 s1_.rd) (hS.blk0 s1_.blk)) (Zgi s2_.k (hS.rd0 s2_.rd) (hS.blk0 s2_.blk)) (Zgi s3_.k (hS.rd0 s3_.rd) (hS.blk0 s3_.blk)) (Zgi s4_.k (hS.rd0 s4_.rd) (hS.blk0 s4_.blk)) hm8) ?_
 rintro e w ⟨A9, c10, A13, c14, A17, c18, A21, c22, A25, c26, rfl, k11, k15, k19, k23, k27, hN⟩; refine ⟨_, rfl, ?_⟩; obtain ⟨hB, hS⟩ := hS.jn hN
 refine Zr rfl rfl rfl CellsOf.agg hS ps6 Yo (by kernel_rfl) rfl (fun w hS hB => Zh (Zd hK6 (Zf (fun K hK29 => Zf (fun K hK30 => Zg (Za rfl rfl rfl (Zc Zbg rfl) (Za rfl rfl rfl (Zi Zbi rfl (Zgf _) hS Vv trivial Zbj) ?_)))))))
 refine Za rfl rfl rfl (Yl rfl rfl) (Zb 1 rfl (Zs 12 rfl (fun hb => ?_) (fun hb => ?_)))
 ·replace H := Zp H hb
  refine Zb 4 rfl (Zh (Zd hK30 (Zn rfl rfl (Zf (fun K hK32 => Zg (Za rfl rfl rfl (Zk Ya rfl (Zgf _) hS Vv trivial Z1) (Zr rfl rfl rfl CellsOf.agg hS ps5 Yo (by kernel_rfl) rfl (fun w hS hB => ?_))))))))
  refine Zh (Zd hK32 (Zl (Ze (Zm rfl (RV.cell rfl (Z3 Ya hS hs5 Z1) RV.nil) rfl ?_))))
  obtain rfl := QJ H
  have hS := hS.front 4 rfl
  have hS := hS.front 4 rfl
  have hS := hS.front 4 rfl
  have hS := hS.front 4 rfl
  have hS := hS.front 4 rfl
  replace hS := hS.weak Weak.rowRd
  replace hS := hS.cut 5
  exact ⟨A9, c10, A13, c14, A17, c18, A21, c22, A25, c26, rfl, k11, k15, k19, k23, k27, hS⟩
 replace H := Zq H hb
 refine Za rfl rfl rfl (Zk Ya rfl (Zgf _) hS Vv trivial Z1) ?_
 obtain ⟨r34, hm35, H⟩ := bind_some H
 refine Zt rfl rfl rfl rfl (by kernel_rfl) rfl (Zdb r7 A9 c10 A13 c14 A17 c18 A21 c22 A25 c26 _ (Zgi k11 (hS.row_rd hs0) (hS.row_blk hs0)) (Zgi k15 (hS.row_rd X9) (hS.row_blk X9)) (Zgi k19 (hS.row_rd Vt) (hS.row_blk Vt)) (Zgi k23 (hS.row_rd hs3) (hS.row_blk hs3)) (Zgi k27 (hS.row_rd hs4) (hS.row_blk hs4)) hm35) ?_
 rintro e w ⟨rfl, hN⟩; refine ⟨_, rfl, ?_⟩; obtain ⟨hB, hS⟩ := hS.jn hN
 refine Za rfl rfl rfl (Yt rfl) (Zb 1 rfl (Zh (Zd hK30 (Zx rfl (fun hb => ?_) (fun hb => ?_)))))
 ·replace H := Zp H hb
  refine Zf (fun K hK37 => Zg (Za rfl rfl rfl (Zk Ya rfl (Zgf _) hS Vv trivial Z1) (Zr rfl rfl rfl CellsOf.agg hS ps5 Yo (by kernel_rfl) rfl (fun w hS hB => Zh (Zd hK37 (Zl (Ze ?_)))))))
  refine Zm rfl (RV.cell rfl (Z3 Ya hS hs5 Z1) RV.nil) rfl ?_
  obtain rfl := QJ H
  have hS := hS.front 4 rfl
  have hS := hS.front 4 rfl
  have hS := hS.front 4 rfl
  have hS := hS.front 4 rfl
  have hS := hS.front 4 rfl
  replace hS := hS.weak Weak.rowRd
  replace hS := hS.cut 5
  exact ⟨A9, c10, A13, c14, A17, c18, A21, c22, A25, c26, rfl, k11, k15, k19, k23, k27, hS⟩
 replace H := Zq H hb
 refine Zv (Zd hK29 (Zf (fun K hK39 => Zg (Za rfl rfl rfl (Zc Zz rfl) (Za rfl rfl rfl (Zk V2 rfl (Zgf _) hS Vv trivial Ze8) (Za rfl rfl rfl (Zc Zz rfl) (Za rfl rfl rfl (Zc Xc rfl) ?_)))))))
 refine Za rfl rfl rfl (Zi Zy rfl (Zgf _) hS Vv trivial Xv) (Za rfl rfl rfl (Vk (cells := [.int .i64 r7.tuple.term, .int .i64 0, .int .i64 0]) rfl (by kernel_rfl)) (Xi (ps := [(0, .tmp 24)]) [.int .i64 r7.tuple.term, .int .i64 0, .int .i64 0] Y1 zc_56 rfl rfl rfl rfl rfl (by kernel_rfl) hS (fun b40 w hS hB => ?_)))
 obtain ⟨r42, hm43, H⟩ := bind_some H
 refine Zt rfl rfl rfl rfl (by kernel_rfl) rfl (c_tuple_Append r7.tuple ([(⟨r7.tuple.term, 0, 0⟩ : En)] : List En) A9 c10 (some ⟨b40, 0, none⟩) 1 _ (Zgi k11 (hS.row_rd X9) (hS.row_blk X9)) (Zgi ⟨Nat.le_refl 1, by decide⟩ (hS.box_rd hs0) (hS.box_blk hs0)) hm43) ?_
 rintro e w ⟨A44, c45, rfl, k46, hN⟩; refine ⟨_, rfl, ?_⟩; obtain ⟨hB, hS⟩ := hS.jn hN
 refine Zb 1 rfl (Za rfl rfl rfl (Yj rfl rfl) (Za rfl rfl rfl (Yj rfl rfl) (Yr rfl rfl zc_26 hS (fun b48 w hS hB => Zr rfl rfl rfl CellsOf.agg hS ps0 st0_8 (by kernel_rfl) rfl (fun w hS hB => Zb 1 rfl (Zh (Zd hK39 ?_)))))))
 refine Zf (fun K hK50 => Zf (fun K hK51 => Zg (Zb 1 rfl (Za rfl rfl rfl (Yl rfl rfl) (Zh (Zd hK51 (Zx rfl (fun hb => ?_) (fun hb => ?_))))))))
 ·replace H := Zp H hb
  refine Zf (fun K hK53 => Zg (Za rfl rfl rfl (Zc Zbg rfl) (Zr rfl rfl rfl CellsOf.int hS ps9 st2_1 (by kernel_rfl) rfl (fun w hS hB => Zh (Zd hK53 (Zf (fun K hK54 => Zg ?_)))))))
  refine Za rfl rfl rfl (Zk Ya rfl (Zgf _) hS hs9 trivial Z1) (Zr rfl rfl rfl CellsOf.agg hS ps8 Yo (by kernel_rfl) rfl (fun w hS hB => Zh (Zd hK54 (Zl (Ze (Zm rfl (RV.cell rfl (Z3 Ya hS hs8 Z1) RV.nil) rfl ?_))))))
  obtain rfl := QJ H
  have hS := hS.front 7 rfl
  have hS := hS.front 7 rfl
  have hS := hS.front 7 rfl
  have hS := hS.front 7 rfl
  have hS := hS.front 7 rfl
  replace hS := hS.weak Weak.rowRd
  replace hS := hS.cut 5
  exact ⟨A9, c10, A13, c14, A17, c18, A21, c22, A25, c26, rfl, k11, k15, k19, k23, k27, hS⟩
 replace H := Zq H hb
 refine Zv (Zd hK50 (Zf (fun K hK56 => Zg (Za rfl rfl rfl (Zk V2 rfl (Zgf _) hS hs0 trivial sg0_8) (Za rfl rfl rfl (Zc Zz rfl) (Zr rfl rfl rfl CellsOf.agg hS ps9 st4_8 (by kernel_rfl) rfl (fun w hS hB => Za rfl rfl rfl (Zc Zbg rfl) ?_)))))))
 refine Zr rfl rfl rfl CellsOf.int hS ps9 st2_1 (by kernel_rfl) rfl (fun w hS hB => Zh (Zd hK56 (Zf (fun K hK57 => Zg (Za rfl rfl rfl (Zk V2 rfl (Zgf _) hS hs0 trivial sg0_8) ?_)))))
 obtain ⟨r58, hm59, H⟩ := bind_some H
 refine Zt rfl rfl rfl rfl (by kernel_rfl) rfl (Ze1 r42.1 A44 c45 _ (Zgi k46 (hS.rd X9) (hS.rd_blk X9)) hm59) ?_
 rintro e w ⟨rfl, hN⟩; refine ⟨_, rfl, ?_⟩; obtain ⟨hB, hS⟩ := hS.jn hN
 refine Zb 1 rfl (Zh (Zd hK57 (Zf (fun K hK60 => Zf (fun K hK61 => Zg (Za rfl rfl rfl (Zc Yx rfl) (Za rfl rfl rfl (Zi Zy rfl (Zgf _) hS hs9 trivial Xd) ?_)))))))
 refine Zb 1 rfl (Zh (Zd hK61 (Z6 (Vp (X := Nat × Int × List Int × List Int) (fun x => (1, .pointer (some ⟨b2, 0, none⟩)) :: (2, .pointer (some ⟨b4, 0, none⟩)) :: (5, .int .i64 r58) :: (39, .int .i64 r7.n) :: (40, .int .i64 x.2.1) :: []) (fun x w => St0 All w0 w (.box b48 [.int .i64 r42.1.snap.index, .int .i64 r42.1.snap.term, .int .i64 r42.1.snap.sum, .int .i64 r42.1.snap.level, .bool r42.1.snap.final, .slice A44 r42.1.log.length c45, .int .i64 r42.1.term, .int .i64 r42.1.vote] 26 :: .rd A44 (Z8 enE r42.1.log) :: .box b40 [.int .i64 r7.tuple.term, .int .i64 0, .int .i64 0] 56 :: .row (.slice A9 r7.tuple.log.length c10) 56 3 r7.tuple.log.length (Z8 enE r7.tuple.log) :: .row (.slice A13 r7.votes.length c14) 4 1 r7.votes.length (Z8 enO r7.votes) :: .row (.slice A17 r7.next.length c18) 3 1 r7.next.length (Z8 Vr x.2.2.1) :: .row (.slice A21 r7.mtch.length c22) 3 1 r7.mtch.length (Z8 Vr x.2.2.2) :: .row (.slice A25 r7.caps.length c26) 3 1 r7.caps.length (Z8 Vr r7.caps) :: .box b4 [.int .i64 0, .int .i64 0, .int .u8 0, .int .i64 0, .int .i64 0, .int .i64 0, .int .i64 0, .int .i64 0, .bool false, .slice none 0 0, .int .i64 0, .int .i64 0, .int .i64 0, .int .i64 0, .int .i64 0, .int .i64 0, .int .i64 0, .bool false, .slice none 0 0, .slice none 0 0, .slice none 0 0, .slice none 0 0] 30 :: .box b2 [.int .i64 r7.id, .int .i64 r7.n, .int .u8 2, .int .i64 r7.binary, .int .i64 r42.1.snap.index, .int .i64 r42.1.snap.term, .int .i64 r42.1.snap.sum, .int .i64 r42.1.snap.level, .bool r42.1.snap.final, .slice A44 r42.1.log.length c45, .int .i64 r42.1.term, .int .i64 r42.1.vote, .int .i64 r7.commit, .int .i64 r7.applied.index, .int .i64 r7.applied.term, .int .i64 r7.applied.sum, .int .i64 r7.applied.level, .bool r7.applied.final, .slice A13 r7.votes.length c14, .slice A17 r7.next.length c18, .slice A21 r7.mtch.length c22, .slice A25 r7.caps.length c26] 30 :: []) ∧ (x.2.2.1.length ≤ c18 ∧ c18 ≤ maxLen) ∧ (x.2.2.1.length = r7.next.length) ∧ (x.2.2.2.length ≤ c22 ∧ c22 ≤ maxLen) ∧ (x.2.2.2.length = r7.mtch.length) ∧ Zaf r7 r42 r58 x.1 x.2.1 x.2.2.1 x.2.2.2 = some r) (fun x => x.1) (Yy, 0, r7.next, r7.mtch) (by repeat (first | exact Sub.nil | refine Sub.cons rfl ?_)) ⟨hS, k19, rfl, k23, rfl, H⟩ ?_))))
 rintro ⟨n, v62, v63, v66⟩ w ⟨hS, k64, hl65, k67, hl68, H⟩
 dsimp only at hS k64 hl65 k67 hl68 H ⊢
 obtain _ | n := n
 ·have H0 : none = some r := H
  cases H0
 rw [Zaf] at H
 refine Zf (fun K hK69 => Zg (Za rfl rfl rfl (Y4 rfl rfl) (Zh (Zd hK69 (Zf (fun K hK70 => Zx rfl (fun hb => ?_) (fun hb => ?_)))))))
 rotate_left
 ·replace H := Zq H hb
  refine Xy (Z4 (Z4 (Yz (Zd hK60 (Zf (fun K hK83 => Zg (Za rfl rfl rfl (Zc Zdm rfl) ?_)))))))
  refine Za rfl rfl rfl (Zi Zat rfl (Zgf _) hS hs9 trivial sg20_1) (Za rfl rfl rfl (Zc Xb rfl) (Za rfl rfl rfl (Zi Zy rfl (Zgf _) hS hs9 trivial Yw) (Za rfl rfl rfl (Zeo rfl rfl) (Zb 1 rfl ?_))))
  obtain ⟨e84, hi86, H⟩ := bind_some H
  obtain ⟨j85, hi86a, hi86b, hi86c⟩ := Xn hi86
  refine Za rfl rfl rfl (Y2 Jy rfl rfl hi86a (Nat.lt_of_lt_of_eq hi86c hl68) (Rd.el (hS.row_rd Vv) Ve hi86b)) (Ze6 (a' := r58) (zs := (Zbf v66 (IntKind.wrap .i64 (r7.id - 1)) r58)) Ve rfl rfl rfl CellsOf.int hS ps6 (Rd.el (hS.row_rd Vv) Ve hi86b) hi86a hi86b rfl Zfn (by kernel_rfl) rfl (fun w hS => ?_))
  have hi87b := Zfr (a := r58) hi86a hi86b
  have hi87a := hi86a
  refine Zh (Zd hK83 (Zf (fun K hK88 => Zg (Za rfl rfl rfl (Zk Ya rfl (Zgf _) hS hs9 trivial Z1) (Zr rfl rfl rfl CellsOf.agg hS ps8 Yo (by kernel_rfl) rfl (fun w hS hB => Zh (Zd hK88 ?_)))))))
  refine Zl (Zm rfl (RV.cell rfl (Z3 Ya hS hs8 Z1) RV.nil) rfl ?_)
  obtain rfl := QJ H
  have hS := hS.front 7 rfl
  have hS := hS.front 7 rfl
  have hS := hS.front 7 rfl
  have hS := hS.front 7 rfl
  have hS := hS.front 5 rfl
  replace hS := hS.cut 5
  exact ⟨A44, c45, A13, c14, A17, c18, A21, c22, A25, c26, by rw [hl65, (Vu hl68)]; rfl, k46, k15, k64, (Zdv k67), k27, hS.eqv (by rw [hl65, (Vu hl68)]; rfl)⟩
 replace H := Zp H hb
 refine Zv (Zd hK70 (Zf (fun K hK72 => Z6 (Zf (fun K hK73 => Zg (Zb 2 rfl (Zh ?_)))))))
 refine Zd hK73 (Yh 12 [9, 11] (fun i b => (i = 9 → b = b48 ∨ b = b40 ∨ b = b4 ∨ b = b2) ∧ (i = 11 → b = b48 ∨ b = b40 ∨ b = b4 ∨ b = b2)) ⟨by kernel_rfl, by kernel_rfl⟩ hS (fun w hS hB => Zo [Tt,Tt,Tt,Ff,Ff,Ff,Tt,Tt,Tt] (by decide +kernel) PFC.h (LtK.put rfl rfl rfl (Zc Zea rfl) (LtK.put rfl rfl rfl (Zi Zat rfl (Zgg _) hS hs9 trivial sg19_1) (LtK.put rfl rfl rfl (Zu rfl) (LtK.put rfl rfl rfl (Zu rfl) (LtK.put rfl rfl rfl (Xu rfl rfl) ?_)))))))
 obtain ⟨e74, hi76, H⟩ := bind_some H
 obtain ⟨j75, hi76a, hi76b, hi76c⟩ := Xn hi76
 refine LtK.put rfl rfl rfl (Y2 Jy rfl rfl hi76a (Nat.lt_of_lt_of_eq hi76c hl65) (Rd.el (hS.row_rd hs5) Ve hi76b)) (LtK.nil (Zae [Ff,Ff,Ff,Tt,Tt,Tt] [9] (fun b => (b = b48 ∨ b = b40 ∨ b = b4 ∨ b = b2)) (by decide +kernel) (by intro j hj b hb; simp only [List.mem_cons, List.not_mem_nil, or_false] at hj; (try rcases hj with rfl | rfl | rfl | rfl | rfl) <;> first | (simp [hb]; done) | simp_all) PFC.h (LtK.put rfl rfl rfl (Zc Zdm rfl) (LtK.put rfl rfl rfl (Zi Zat rfl (Zgh _ _) hS hs9 (.inr (.inr (.inr (rfl)))) sg20_1) (LtK.put rfl rfl rfl (Zu rfl) (LtK.nil (Xa [Ff,Ff,Ff,Ff,Ff,Ff,Ff,Ff,Ff,Tt] 9 ⟨by decide, by kernel_rfl, by kernel_rfl⟩ rfl rfl ?_)))))))
 try dsimp only [Z2]
 refine wpX_storeR3 (a' := (IntKind.wrap .i64 (r58 + 1))) (zs := (Zbf v63 v62 (IntKind.wrap .i64 (r58 + 1)))) Ve rfl rfl rfl CellsOf.int hS ps5 (Rd.el (hS.row_rd hs5) Ve hi76b) hi76a hi76b rfl Zfn (by kernel_rfl) rfl (fun w hS hB => ?_)
 have hi77b := Zfr (a := (IntKind.wrap .i64 (r58 + 1))) hi76a hi76b
 have hi77a := hi76a
 refine Zh (Yu (hB.sub (fun b _ h => by have h0 : b = b48 ∨ b = b40 ∨ b = b4 ∨ b = b2 := (by simpa using h); rcases h0 with h0 | h0 | h0 | h0; (rw [h0]; exact hS.neRow 0 5 rfl rfl); (rw [h0]; exact hS.neRow 2 5 rfl rfl); (rw [h0]; exact hS.neRow 8 5 rfl rfl); (rw [h0]; exact hS.neRow 9 5 rfl rfl))) ?_)
 refine Zo [Ff,Ff,Ff,Ff,Ff,Ff,Ff,Ff,Ff,Ff,Tt] (by decide +kernel) PFC.h ?_
 obtain ⟨e78, hi80, H⟩ := bind_some H
 obtain ⟨j79, hi80a, hi80b, hi80c⟩ := Xn hi80
 refine LtK.put rfl rfl rfl (Y2 Jy rfl rfl hi80a (Nat.lt_of_lt_of_eq hi80c hl68) (Rd.el (hS.row_rd Vv) Ve hi80b)) (LtK.nil (Xa [Ff,Ff,Ff,Ff,Ff,Ff,Ff,Ff,Ff,Ff,Ff,Tt] 11 ⟨by decide, by kernel_rfl, by kernel_rfl⟩ rfl rfl ?_))
 try dsimp only [Z2]
 refine wpX_storeR3 (a' := 0) (zs := (Zbf v66 v62 0)) Ve rfl rfl rfl CellsOf.int hS ps6 (Rd.el (hS.row_rd Vv) Ve hi80b) hi80a hi80b rfl Zfn (by kernel_rfl) rfl (fun w hS hB => ?_)
 have hi81b := Zfr (a := 0) hi80a hi80b
 have hi81a := hi80a
 refine Zh (Yu (hB.sub (fun b _ h => by have h0 : b = b48 ∨ b = b40 ∨ b = b4 ∨ b = b2 := (by simpa using h); rcases h0 with h0 | h0 | h0 | h0; (rw [h0]; exact hS.neRow 0 6 rfl rfl); (rw [h0]; exact hS.neRow 2 6 rfl rfl); (rw [h0]; exact hS.neRow 8 6 rfl rfl); (rw [h0]; exact hS.neRow 9 6 rfl rfl))) ?_)
 refine Z5 (by kernel_rfl) (Zw (Zd hK72 (Zg (Za rfl rfl rfl (Xu rfl rfl) (Zb 1 rfl (Zh ?_))))))
 exact Xo (n, (IntKind.wrap .i64 (v62 + 1)), (Zbf v63 v62 (IntKind.wrap .i64 (r58 + 1))), (Zbf v66 v62 0)) (by repeat (first | exact Sub.nil | refine Sub.cons rfl ?_)) ⟨hS, (Zdv k64), (Vu hl65), (Zdv k67), (Vu hl68), H⟩ (Nat.lt_succ_self _)
theorem c_tuple_At (x0 : Tu) (x1 : Int) (A0_ : OA) (c0_ : Nat) (w0 : World) (s0_ : SlI w0 enE A0_ c0_ x0.log) {r : En × Bool} (H : m_tuple_At x0 x1 = some r) : Calls Try.prog 93 #[.agg #[.int .i64 x0.snap.index, .int .i64 x0.snap.term, .int .i64 x0.snap.sum, .int .i64 x0.snap.level, .bool x0.snap.final, .slice A0_ x0.log.length c0_, .int .i64 x0.term, .int .i64 x0.vote], .int .i64 x1] w0 fun e w' => e = .returned (.tuple #[.agg #[.int .i64 r.1.term, .int .i64 r.1.kind, .int .i64 r.1.value], .bool r.2]) ∧ St0 All w0 w' [] := by
 unfold m_tuple_At at H
 refine Xw Try.func93 rfl Try.ntmps93 rfl ?_
 have hS := St0.start All w0
 refine Zf (fun K hK1 => Zg (Yq rfl rfl rfl CellsOf.agg hS (fun b2 w hS hB => Yr rfl rfl zc_56 hS (fun b4 w hS hB => Zb 1 rfl (Zh (Zd hK1 (Zf (fun K hK6 => ?_))))))))
 refine Zf (fun K hK7 => Zg (Zb 1 rfl (Za rfl rfl rfl (Zc Xe rfl) (Za rfl rfl rfl (Zc Ys rfl) (Za rfl rfl rfl (Zi Zy rfl (Zgf _) hS X9 trivial Yw) (Za rfl rfl rfl (Zen rfl rfl) (Zb 1 rfl ?_)))))))
 refine Zs 11 rfl (fun hb => ?_) (fun hb => ?_)
 ·replace H := Zp H hb
  refine Zb 5 rfl (Zh (Zd hK7 (Zn rfl rfl (Zf (fun K hK9 => Zg (Za rfl rfl rfl (Zk Zb5 rfl (Zgf _) hS hs0 trivial Zfx) (Zr rfl rfl rfl CellsOf.agg hS ps0 st0_3 (by kernel_rfl) rfl (fun w hS hB => ?_))))))))
  refine Zb 1 rfl (Zh (Zd hK9 (Zl (Ze (Zm rfl (RV.cell rfl (Z3 Zb5 hS hs0 Zfx) (RV.tmp rfl RV.nil)) rfl ?_)))))
  obtain rfl := QJ H
  replace hS := hS.cut 0
  exact ⟨rfl, hS⟩
 replace H := Zq H hb
 refine Zb 1 rfl (Za rfl rfl rfl (Zk V2 rfl (Zgf _) hS X9 trivial sg0_8) ?_)
 obtain ⟨r11, hm12, H⟩ := bind_some H
 refine Zt rfl rfl rfl rfl (by kernel_rfl) rfl (Ze1 x0 A0_ c0_ _ (Zgi s0_.k (hS.rd0 s0_.rd) (hS.blk0 s0_.blk)) hm12) ?_
 rintro e w ⟨rfl, hN⟩; refine ⟨_, rfl, ?_⟩; obtain ⟨hB, hS⟩ := hS.jn hN
 refine Za rfl rfl rfl (Y8 rfl rfl) (Zb 1 rfl (Zh (Zd hK7 (Zx rfl (fun hb => ?_) (fun hb => ?_)))))
 ·replace H := Zp H hb
  refine Zf (fun K hK14 => Zg (Za rfl rfl rfl (Zk Zb5 rfl (Zgf _) hS hs0 trivial Zfx) (Zr rfl rfl rfl CellsOf.agg hS ps0 st0_3 (by kernel_rfl) rfl (fun w hS hB => Zb 1 rfl (Zh (Zd hK14 (Zl ?_)))))))
  refine Ze (Zm rfl (RV.cell rfl (Z3 Zb5 hS hs0 Zfx) (RV.tmp rfl RV.nil)) rfl ?_)
  obtain rfl := QJ H
  replace hS := hS.cut 0
  exact ⟨rfl, hS⟩
 replace H := Zq H hb
 refine Zv (Zd hK6 (Zf (fun K hK16 => Zg (Za rfl rfl rfl (Zc Yg rfl) (Za rfl rfl rfl (Zi Y6 rfl (Zgf _) hS X9 trivial Zes) (Zb 1 rfl (Za rfl rfl rfl (Zc Xe rfl) ?_)))))))
 refine Za rfl rfl rfl (Zc Ys rfl) (Za rfl rfl rfl (Zi Zy rfl (Zgf _) hS X9 trivial Yw) (Za rfl rfl rfl (Zeo rfl rfl) (Za rfl rfl rfl (Zeo rfl rfl) ?_)))
 obtain ⟨e17, hi19, H⟩ := bind_some H
 obtain ⟨j18, hi19a, hi19b, hi19c⟩ := Xn hi19
 refine Za rfl rfl rfl (Y2 Y1 rfl rfl hi19a hi19c (Rd.el (hS.rd0 s0_.rd) Vf hi19b)) (Za rfl rfl rfl (V8 Zb5 rfl (Zgf _) (Rd.el (hS.rd0 s0_.rd) Vf hi19b) Zfx) (Zr rfl rfl rfl CellsOf.agg hS ps0 st0_3 (by kernel_rfl) rfl (fun w hS hB => Zb 1 rfl (Zh (Zd hK16 (Zl (Zm rfl (RV.cell rfl (Z3 Zb5 hS hs0 Zfx) (RV.tmp rfl RV.nil)) rfl ?_)))))))
 obtain rfl := QJ H
 replace hS := hS.cut 0
 exact ⟨rfl, hS⟩
theorem c_tuple_TermAt (x0 : Tu) (x1 : Int) (A0_ : OA) (c0_ : Nat) (w0 : World) (s0_ : SlI w0 enE A0_ c0_ x0.log) {r : Int × Bool} (H : Zcd x0 x1 = some r) : Calls Try.prog 57 #[.agg #[.int .i64 x0.snap.index, .int .i64 x0.snap.term, .int .i64 x0.snap.sum, .int .i64 x0.snap.level, .bool x0.snap.final, .slice A0_ x0.log.length c0_, .int .i64 x0.term, .int .i64 x0.vote], .int .i64 x1] w0 fun e w' => e = .returned (.tuple #[.int .i64 r.1, .bool r.2]) ∧ St0 All w0 w' [] := by
 unfold Zcd at H
 refine Xw Try.func57 rfl Try.ntmps57 rfl ?_
 have hS := St0.start All w0
 refine Zf (fun K hK1 => Zg (Yq rfl rfl rfl CellsOf.agg hS (fun b2 w hS hB => Zb 2 rfl (Zh (Zd hK1 (Zf (fun K hK4 => Zf (fun K hK5 => ?_))))))))
 refine Zg (Zb 1 rfl (Za rfl rfl rfl (Zc Xe rfl) (Za rfl rfl rfl (Zc Ys rfl) (Za rfl rfl rfl (Zi Zy rfl (Zgf _) hS hs0 trivial Yw) (Za rfl rfl rfl (Xh rfl rfl) (Zh (Zd hK5 ?_)))))))
 refine Zx rfl (fun hb => ?_) (fun hb => ?_)
 ·replace H := Zp H hb
  refine Zf (fun K hK7 => Zg (Za rfl rfl rfl (Zc Xe rfl) (Za rfl rfl rfl (Zc Zc3 rfl) (Za rfl rfl rfl (Zi Zy rfl (Zgf _) hS hs0 trivial Xd) (Zb 2 rfl (Zh (Zd hK7 ?_)))))))
  refine Zl (Ze (Zm rfl (RV.tmp rfl (RV.tmp rfl RV.nil)) rfl ?_))
  obtain rfl := QJ H
  replace hS := hS.cut 0
  exact ⟨rfl, hS⟩
 replace H := Zq H hb
 refine Zv (Zd hK4 (Zf (fun K hK9 => Zg (Za rfl rfl rfl (Zk V2 rfl (Zgf _) hS hs0 trivial sg0_8) (Zb 1 rfl ?_)))))
 obtain ⟨r10, hm11, H⟩ := bind_some H
 refine Zt rfl rfl rfl rfl (by kernel_rfl) rfl (c_tuple_At x0 x1 A0_ c0_ _ (Zgi s0_.k (hS.rd0 s0_.rd) (hS.blk0 s0_.blk)) hm11) ?_
 rintro e w ⟨rfl, hN⟩; refine ⟨_, rfl, ?_⟩; obtain ⟨hB, hS⟩ := hS.jn hN
 refine Zb 1 rfl (Za rfl rfl rfl (Yj rfl rfl) (Za rfl rfl rfl (Yj rfl rfl) (Yr rfl rfl zc_56 hS (fun b12 w hS hB => Zr rfl rfl rfl CellsOf.agg hS ps0 st0_3 (by kernel_rfl) rfl (fun w hS hB => Zb 1 rfl (Zh (Zd hK9 ?_)))))))
 refine Zf (fun K hK14 => Zg (Za rfl rfl rfl (Zc Zcj rfl) (Za rfl rfl rfl (Zi Zy rfl (Zgf _) hS hs0 trivial Yw) (Zb 3 rfl (Zh (Zd hK14 (Zl ?_)))))))
 refine Zm rfl (RV.tmp rfl (RV.tmp rfl RV.nil)) rfl ?_
 obtain rfl := QJ H
 replace hS := hS.cut 0
 exact ⟨rfl, hS⟩
theorem c_elect_end (x0 : Co) (A0_ : OA) (c0_ : Nat) (A1_ : OA) (c1_ : Nat) (A2_ : OA) (c2_ : Nat) (A3_ : OA) (c3_ : Nat) (A4_ : OA) (c4_ : Nat) (w0 : World) (s0_ : SlI w0 enE A0_ c0_ x0.tuple.log) (s1_ : SlI w0 enO A1_ c1_ x0.votes) (s2_ : SlI w0 Vr A2_ c2_ x0.next) (s3_ : SlI w0 Vr A3_ c3_ x0.mtch) (s4_ : SlI w0 Vr A4_ c4_ x0.caps) {r : Int × Int} (H : Zb6 x0 = some r) : Calls Try.prog 46 #[.agg #[.int .i64 x0.id, .int .i64 x0.n, .int .u8 x0.role, .int .i64 x0.binary, .int .i64 x0.tuple.snap.index, .int .i64 x0.tuple.snap.term, .int .i64 x0.tuple.snap.sum, .int .i64 x0.tuple.snap.level, .bool x0.tuple.snap.final, .slice A0_ x0.tuple.log.length c0_, .int .i64 x0.tuple.term, .int .i64 x0.tuple.vote, .int .i64 x0.commit, .int .i64 x0.applied.index, .int .i64 x0.applied.term, .int .i64 x0.applied.sum, .int .i64 x0.applied.level, .bool x0.applied.final, .slice A1_ x0.votes.length c1_, .slice A2_ x0.next.length c2_, .slice A3_ x0.mtch.length c3_, .slice A4_ x0.caps.length c4_]] w0 fun e w' => e = .returned (.tuple #[.int .i64 r.1, .int .i64 r.2]) ∧ St0 All w0 w' [] := by
 unfold Zb6 at H
 refine Yp Try.func46 rfl Try.ntmps46 rfl ?_
 have hS := St0.start All w0
 refine Zf (fun K hK1 => Zg (Yq rfl rfl rfl CellsOf.agg hS (fun b2 w hS hB => Zb 2 rfl (Zh (Zd hK1 (Zf (fun K hK4 => Zg ?_)))))))
 refine Za rfl rfl rfl (Zc Zz rfl) (Za rfl rfl rfl (Zk V2 rfl (Zgf _) hS hs0 trivial Ze8) ?_)
 obtain ⟨r5, hm6, H⟩ := bind_some H
 refine Zt rfl rfl rfl rfl (by kernel_rfl) rfl (Ze1 x0.tuple A0_ c0_ _ (Zgi s0_.k (hS.rd0 s0_.rd) (hS.blk0 s0_.blk)) hm6) ?_
 rintro e w ⟨rfl, hN⟩; refine ⟨_, rfl, ?_⟩; obtain ⟨hB, hS⟩ := hS.jn hN
 refine Zb 1 rfl (Zh (Zd hK4 (Zf (fun K hK7 => Zg (Za rfl rfl rfl (Zc Zz rfl) (Za rfl rfl rfl (Zk V2 rfl (Zgf _) hS hs0 trivial Ze8) (Zb 1 rfl ?_)))))))
 obtain ⟨r8, hm9, H⟩ := bind_some H
 refine Zt rfl rfl rfl rfl (by kernel_rfl) rfl (c_tuple_TermAt x0.tuple r5 A0_ c0_ _ (Zgi s0_.k (hS.rd0 s0_.rd) (hS.blk0 s0_.blk)) hm9) ?_
 rintro e w ⟨rfl, hN⟩; refine ⟨_, rfl, ?_⟩; obtain ⟨hB, hS⟩ := hS.jn hN
 refine Zb 1 rfl (Za rfl rfl rfl (Yj rfl rfl) (Za rfl rfl rfl (Yj rfl rfl) (Zb 1 rfl (Zh (Zd hK7 (Zf (fun K hK10 => Zg ?_)))))))
 refine Zb 4 rfl (Zh (Zd hK10 (Zl (Zm rfl (RV.tmp rfl (RV.tmp rfl RV.nil)) rfl ?_))))
 obtain rfl := QJ H
 replace hS := hS.cut 0
 exact ⟨rfl, hS⟩
theorem c_msg_others (x0 : Co) (A0_ : OA) (c0_ : Nat) (A1_ : OA) (c1_ : Nat) (A2_ : OA) (c2_ : Nat) (A3_ : OA) (c3_ : Nat) (A4_ : OA) (c4_ : Nat) (w0 : World) (s0_ : SlI w0 enE A0_ c0_ x0.tuple.log) (s1_ : SlI w0 enO A1_ c1_ x0.votes) (s2_ : SlI w0 Vr A2_ c2_ x0.next) (s3_ : SlI w0 Vr A3_ c3_ x0.mtch) (s4_ : SlI w0 Vr A4_ c4_ x0.caps) : Calls Try.prog 82 #[.agg #[.int .i64 x0.id, .int .i64 x0.n, .int .u8 x0.role, .int .i64 x0.binary, .int .i64 x0.tuple.snap.index, .int .i64 x0.tuple.snap.term, .int .i64 x0.tuple.snap.sum, .int .i64 x0.tuple.snap.level, .bool x0.tuple.snap.final, .slice A0_ x0.tuple.log.length c0_, .int .i64 x0.tuple.term, .int .i64 x0.tuple.vote, .int .i64 x0.commit, .int .i64 x0.applied.index, .int .i64 x0.applied.term, .int .i64 x0.applied.sum, .int .i64 x0.applied.level, .bool x0.applied.final, .slice A1_ x0.votes.length c1_, .slice A2_ x0.next.length c2_, .slice A3_ x0.mtch.length c3_, .slice A4_ x0.caps.length c4_]] w0 fun e w' => ∃ (b0_ : Nat), e = .returned (.func (.func 110) #[] #[.pointer (some ⟨b0_, 0, none⟩)]) ∧ St0 All w0 w' [.box b0_ [.int .i64 x0.id, .int .i64 x0.n, .int .u8 x0.role, .int .i64 x0.binary, .int .i64 x0.tuple.snap.index, .int .i64 x0.tuple.snap.term, .int .i64 x0.tuple.snap.sum, .int .i64 x0.tuple.snap.level, .bool x0.tuple.snap.final, .slice A0_ x0.tuple.log.length c0_, .int .i64 x0.tuple.term, .int .i64 x0.tuple.vote, .int .i64 x0.commit, .int .i64 x0.applied.index, .int .i64 x0.applied.term, .int .i64 x0.applied.sum, .int .i64 x0.applied.level, .bool x0.applied.final, .slice A1_ x0.votes.length c1_, .slice A2_ x0.next.length c2_, .slice A3_ x0.mtch.length c3_, .slice A4_ x0.caps.length c4_] 30] := by
 refine Yp Try.func82 rfl Try.ntmps82 rfl ?_
 have hS := St0.start All w0
 refine Zf (fun K hK1 => Zg (Yq rfl rfl rfl CellsOf.agg hS (fun b2 w hS hB => Zb 1 rfl (Zh (Zd hK1 (Zf (fun K hK4 => Zg ?_)))))))
 refine Za rfl rfl rfl (V0 rfl rfl) (Zb 1 rfl (Zh (Zd hK4 (Zl (Zm rfl (RV.tmp rfl RV.nil) rfl ?_)))))
 exact ⟨b2, rfl, hS.sub (List.Sublist.cons_cons _ List.Sublist.slnil)⟩
theorem c_msg_Others (x0 : Co) (x1 : Ms) (A0_ : OA) (c0_ : Nat) (A1_ : OA) (c1_ : Nat) (A2_ : OA) (c2_ : Nat) (A3_ : OA) (c3_ : Nat) (A4_ : OA) (c4_ : Nat) (A5_ : OA) (c5_ : Nat) (w0 : World) (s0_ : SlI w0 enE A0_ c0_ x0.tuple.log) (s1_ : SlI w0 enO A1_ c1_ x0.votes) (s2_ : SlI w0 Vr A2_ c2_ x0.next) (s3_ : SlI w0 Vr A3_ c3_ x0.mtch) (s4_ : SlI w0 Vr A4_ c4_ x0.caps) (s5_ : SlW w0 enE A5_ c5_ x1.entries) {r : List Ms} (H : Zcm x0 x1 = some r) : Calls Try.prog 47 #[.agg #[.int .i64 x0.id, .int .i64 x0.n, .int .u8 x0.role, .int .i64 x0.binary, .int .i64 x0.tuple.snap.index, .int .i64 x0.tuple.snap.term, .int .i64 x0.tuple.snap.sum, .int .i64 x0.tuple.snap.level, .bool x0.tuple.snap.final, .slice A0_ x0.tuple.log.length c0_, .int .i64 x0.tuple.term, .int .i64 x0.tuple.vote, .int .i64 x0.commit, .int .i64 x0.applied.index, .int .i64 x0.applied.term, .int .i64 x0.applied.sum, .int .i64 x0.applied.level, .bool x0.applied.final, .slice A1_ x0.votes.length c1_, .slice A2_ x0.next.length c2_, .slice A3_ x0.mtch.length c3_, .slice A4_ x0.caps.length c4_], .agg #[.int .u8 x1.kind, .int .i64 x1.frm, .int .i64 x1.dst, .int .i64 x1.term, .int .i64 x1.cap, .int .i64 x1.last, .int .i64 x1.lastTerm, .int .i64 x1.commit, .bool x1.okk, .slice A5_ x1.entries.length c5_, .int .i64 x1.snap.index, .int .i64 x1.snap.term, .int .i64 x1.snap.sum, .int .i64 x1.snap.level, .bool x1.snap.final]] w0 fun e w' => ∃ (A0 : OA) (c0 : Nat) (q0 : List Mq), e = .returned (.slice A0 r.length c0) ∧ (r.length ≤ c0 ∧ c0 ≤ maxLen) ∧ q0.map Mq.m = r ∧ (∀ y ∈ q0, okQ y) ∧ St0 All w0 w' [.rd A0 (Z8 enQ q0), .rds (q0.map Zfk)] := by
 unfold Zcm at H
 refine Xw Try.func47 rfl Try.ntmps47 rfl ?_
 have hS := St0.start All w0
 refine Zf (fun K hK1 => Zg (Yq rfl rfl rfl CellsOf.agg hS (fun b2 w hS hB => Yq rfl rfl rfl CellsOf.agg hS (fun b4 w hS hB => Yr rfl rfl zc_32 hS (fun b6 w hS hB => Zh (Zd hK1 (Zf (fun K hK8 => ?_))))))))
 refine Zf (fun K hK9 => Zg (Za rfl rfl rfl (Zk Ya rfl (Zgf _) hS Vt trivial Z1) ?_))
 have hM10 := hS
 refine Zt rfl rfl rfl rfl (by kernel_rfl) rfl (c_msg_others x0 A0_ c0_ A1_ c1_ A2_ c2_ A3_ c3_ A4_ c4_ _ (Zgi s0_.k (hS.rd0 s0_.rd) (hS.blk0 s0_.blk)) (Zgi s1_.k (hS.rd0 s1_.rd) (hS.blk0 s1_.blk)) (Zgi s2_.k (hS.rd0 s2_.rd) (hS.blk0 s2_.blk)) (Zgi s3_.k (hS.rd0 s3_.rd) (hS.blk0 s3_.blk)) (Zgi s4_.k (hS.rd0 s4_.rd) (hS.blk0 s4_.blk))) ?_
 rintro e w ⟨b12, rfl, hN11⟩; refine ⟨_, rfl, ?_⟩; have hB := hN11.pure; have hS := hS.join hN11
 refine Zh (Zd hK9 (Z6 ?_))
 replace hS := hS.nilRds
 replace hS := hS.nilRow 36 15
 replace hM10 := hM10.nilRds
 replace hM10 := hM10.nilRow 36 15
 obtain ⟨xs24, hx25, H⟩ := bind_some H
 refine wpC_range (w0 := w0) (X := List Ms × OA × Nat × List Mq) rfl (by kernel_rfl) (it_others x0 _ _ _ hM10.pure b12 hN11 hx25) ⟨hM10.size, hN11.size⟩ (fun _ => rfl) (by kernel_rfl) (fun k x => .row (.slice x.2.1 x.1.length x.2.2.1) 36 15 x.1.length (Z8 enQ x.2.2.2) :: .rds (x.2.2.2.map Zfk) :: .box b6 [.slice x.2.1 x.1.length x.2.2.1] 32 :: .box b4 [.int .u8 x1.kind, .int .i64 x1.frm, .int .i64 x1.dst, .int .i64 x1.term, .int .i64 x1.cap, .int .i64 x1.last, .int .i64 x1.lastTerm, .int .i64 x1.commit, .bool x1.okk, .slice A5_ x1.entries.length c5_, .int .i64 x1.snap.index, .int .i64 x1.snap.term, .int .i64 x1.snap.sum, .int .i64 x1.snap.level, .bool x1.snap.final] 36 :: .box b2 [.int .i64 x0.id, .int .i64 x0.n, .int .u8 x0.role, .int .i64 x0.binary, .int .i64 x0.tuple.snap.index, .int .i64 x0.tuple.snap.term, .int .i64 x0.tuple.snap.sum, .int .i64 x0.tuple.snap.level, .bool x0.tuple.snap.final, .slice A0_ x0.tuple.log.length c0_, .int .i64 x0.tuple.term, .int .i64 x0.tuple.vote, .int .i64 x0.commit, .int .i64 x0.applied.index, .int .i64 x0.applied.term, .int .i64 x0.applied.sum, .int .i64 x0.applied.level, .bool x0.applied.final, .slice A1_ x0.votes.length c1_, .slice A2_ x0.next.length c2_, .slice A3_ x0.mtch.length c3_, .slice A4_ x0.caps.length c4_] 30 :: []) (fun k x => (x.1.length ≤ x.2.2.1 ∧ x.2.2.1 ≤ maxLen) ∧ (x.2.2.2.map Mq.m = x.1) ∧ (∀ y ∈ x.2.2.2, okQ y) ∧ Jq x0 x1 (xs24.drop k) x.1 = some r) (fun _ _ => []) (fun _ _ => False) (fun _ => False) ([], none, 0, ([] : List Mq)) ⟨hS.sub (List.Sublist.cons_cons _ (List.Sublist.cons_cons _ (List.Sublist.cons _ (List.Sublist.cons_cons _ (List.Sublist.cons_cons _ (List.Sublist.cons_cons _ List.Sublist.slnil)))))), fun e he k hk => .inl (hM10.rng e he k hk).1⟩ ⟨⟨Nat.le_refl _, Nat.zero_le _⟩, rfl, Vh, H⟩ ?_ ?_ (fun _ _ _ h _ => h.elim) (fun _ _ h _ => h.elim)
 ·rintro lo k e14 ⟨v15, A16, c17, q19⟩ A hke ⟨k18, hq20, okq21, H⟩ hzB hRB hS
  dsimp only at hRB k18 hq20 okq21 H ⊢
  rw [drop_of_get hke, Jq] at H
  dsimp only [List.zip, List.zipWith, List.foldl]
  refine Zbn (by repeat (first | exact NL.round | exact NL.false | exact NL.body (by intro _ h; simp at h) | apply NL.then | apply NL.inBlock | apply NL.jump)) (by kernel_rfl) (Zb 1 rfl (Zh (QH_asg hS ?_)))
  rintro A2 hS hBase hE
  dsimp only [List.cons_append, List.nil_append] at hS
  refine Z6 (Zf (fun K hK26 => Zbn (by repeat (first | exact NL.round | exact NL.false | exact NL.body (by intro _ h; simp at h) | apply NL.then | apply NL.inBlock | apply NL.jump)) (by kernel_rfl) (Za rfl rfl rfl (Zk Vz rfl (Zgf _) hS hs3 trivial X7) (Yr rfl rfl Zbu hS (fun b27 w hS hB => Zr rfl rfl rfl CellsOf.agg hS ps0 st0_15 (by kernel_rfl) rfl (fun w hS hB => Zh (Zd hK26 ?_)))))))
  refine Zf (fun K hK29 => wpC_drawR (by repeat (first | exact NL.round | exact NL.false | exact NL.body (by intro _ h; simp at h) | apply NL.then | apply NL.inBlock | apply NL.jump)) (by kernel_rfl) 21 [12, 14, 16, 18, 20] (fun i b => (i = 12 → b ≠ b27) ∧ (i = 14 → b ≠ b27) ∧ (i = 16 → b ≠ b27) ∧ (i = 18 → b ≠ b27) ∧ (i = 20 → b ≠ b27)) ⟨by kernel_rfl, by kernel_rfl⟩ hS (fun w hS hB => Zo [Tt,Tt,Ff,Ff,Ff,Ff,Ff,Ff,Tt,Tt,Ff,Tt] (by decide +kernel) PFC.h (LtK.put rfl rfl rfl (Zc Xb rfl) (LtK.put rfl rfl rfl (Zi Zy rfl (Zgg _) hS hs5 trivial Yw) (LtK.put rfl rfl rfl (Zc Zb2 rfl) (LtK.put rfl rfl rfl (Zi Y6 rfl (Zgg _) hS hs4 trivial Xt) (LtK.put rfl rfl rfl (Zc Ji rfl) ?_)))))))
  refine LtK.nil (Zae [Ff,Ff,Tt,Tt,Tt,Tt,Tt,Tt] [12, 14, 16] (fun b => b ≠ b27) (by decide +kernel) (by intro j hj b hb; simp only [List.mem_cons, List.not_mem_nil, or_false] at hj; (try rcases hj with rfl | rfl | rfl | rfl | rfl) <;> first | (simp [hb]; done) | simp_all) PFC.h (LtK.put rfl rfl rfl (Zu rfl) (LtK.put rfl rfl rfl (Zc Zz rfl) (LtK.put rfl rfl rfl (Zc Xc rfl) (LtK.put rfl rfl rfl (Zi Zy rfl (Zgh _ _) hS hs5 (hS.ne 5 0 rfl rfl rfl) Xv) (LtK.put rfl rfl rfl (Zc Zfm rfl) (LtK.put rfl rfl rfl (Zi Zy rfl (Zgh _ _) hS hs5 (hS.ne 5 0 rfl rfl rfl) Zbe) ?_)))))))
  refine LtK.nil (Yd [Ff,Ff,Ff,Ff,Ff,Ff,Ff,Ff,Ff,Ff,Tt] 10 ⟨by decide, by kernel_rfl, by kernel_rfl⟩ rfl rfl ?_)
  try dsimp only [Z2]
  obtain ⟨r30, hm31, H⟩ := bind_some H
  refine Zt rfl rfl rfl rfl (by kernel_rfl) rfl (Zac x1.entries A5_ c5_ _ (SlW.of_rd s5_.k (hS.rdR hBase s5_.rd)) hm31) ?_
  rintro e w ⟨A32, c33, rfl, k34, hN⟩; refine ⟨_, rfl, ?_⟩; obtain ⟨hB, hS⟩ := hS.jn hN
  refine Zh (Ye hB (Xa [Ff,Ff,Ff,Ff,Ff,Ff,Ff,Ff,Ff,Ff,Ff,Ff,Tt] 12 ⟨by decide, by kernel_rfl, by kernel_rfl⟩ rfl rfl ?_))
  try dsimp only [Z2]
  refine Zr rfl rfl rfl CellsOf.int hS ps1 st1_1 (by kernel_rfl) rfl (fun w hS hB => Zh (Yu (hB.sub (fun _ _ h => by simpa using h)) (Zo [Ff,Ff,Ff,Ff,Ff,Ff,Ff,Ff,Ff,Ff,Ff,Ff,Ff,Tt] (by decide +kernel) PFC.h (LtK.put rfl rfl rfl (Zc Zc5 rfl) (LtK.nil (Xa [Ff,Ff,Ff,Ff,Ff,Ff,Ff,Ff,Ff,Ff,Ff,Ff,Ff,Ff,Tt] 14 ⟨by decide, by kernel_rfl, by kernel_rfl⟩ rfl rfl ?_))))))
  try dsimp only [Z2]
  refine Zr rfl rfl rfl CellsOf.int hS ps1 st2_1 (by kernel_rfl) rfl (fun w hS hB => Zh (Yu (hB.sub (fun _ _ h => by simpa using h)) (Zo [Ff,Ff,Ff,Ff,Ff,Ff,Ff,Ff,Ff,Ff,Ff,Ff,Ff,Ff,Ff,Tt] (by decide +kernel) PFC.h (LtK.put rfl rfl rfl (Zc Je rfl) (LtK.nil (Xa [Ff,Ff,Ff,Ff,Ff,Ff,Ff,Ff,Ff,Ff,Ff,Ff,Ff,Ff,Ff,Ff,Tt] 16 ⟨by decide, by kernel_rfl, by kernel_rfl⟩ rfl rfl ?_))))))
  try dsimp only [Z2]
  refine Zr rfl rfl rfl CellsOf.int hS ps1 st3_1 (by kernel_rfl) rfl (fun w hS hB => Zh (Yu (hB.sub (fun _ _ h => by simpa using h)) (Zo [Ff,Ff,Ff,Ff,Ff,Ff,Ff,Ff,Ff,Ff,Ff,Ff,Ff,Ff,Ff,Ff,Ff,Tt] (by decide +kernel) PFC.h (LtK.put rfl rfl rfl (Zc fo_36_4 rfl) (LtK.nil (Xa [Ff,Ff,Ff,Ff,Ff,Ff,Ff,Ff,Ff,Ff,Ff,Ff,Ff,Ff,Ff,Ff,Ff,Ff,Tt] 18 ⟨by decide, by kernel_rfl, by kernel_rfl⟩ rfl rfl ?_))))))
  try dsimp only [Z2]
  refine Zr rfl rfl rfl CellsOf.int hS ps1 st4_1 (by kernel_rfl) rfl (fun w hS hB => Zh (Yu (hB.sub (fun _ _ h => by simpa using h)) (Zo [Ff,Ff,Ff,Ff,Ff,Ff,Ff,Ff,Ff,Ff,Ff,Ff,Ff,Ff,Ff,Ff,Ff,Ff,Ff,Tt] (by decide +kernel) PFC.h (LtK.put rfl rfl rfl (Zc Zb2 rfl) (LtK.nil (Xa [Ff,Ff,Ff,Ff,Ff,Ff,Ff,Ff,Ff,Ff,Ff,Ff,Ff,Ff,Ff,Ff,Ff,Ff,Ff,Ff,Tt] 20 ⟨by decide, by kernel_rfl, by kernel_rfl⟩ rfl rfl ?_))))))
  try dsimp only [Z2]
  refine Zr rfl rfl rfl CellsOf.slice hS ps1 st9_1 (by kernel_rfl) rfl (fun w hS hB => Zh (Yu (hB.sub (fun _ _ h => by simpa using h)) (Z5 (by kernel_rfl) (Zd hK29 (Zbn (by repeat (first | exact NL.round | exact NL.false | exact NL.body (by intro _ h; simp at h) | apply NL.then | apply NL.inBlock | apply NL.jump)) (by kernel_rfl) (Za rfl rfl rfl (Zi sc_32 rfl (Zgf _) hS hs4 trivial Yw) (Za rfl rfl rfl (Zk Vz rfl (Zgf _) hS X9 trivial X7) ?_)))))))
  refine Xi (ps := [(0, .tmp 28)]) [.int .u8 x1.kind, .int .i64 x0.id, .int .i64 e14, .int .i64 x0.tuple.term, .int .i64 x0.binary, .int .i64 x1.last, .int .i64 x1.lastTerm, .int .i64 x1.commit, .bool x1.okk, .slice A32 r30.length c33, .int .i64 x1.snap.index, .int .i64 x1.snap.term, .int .i64 x1.snap.sum, .int .i64 x1.snap.level, .bool x1.snap.final] Y9 Zbu rfl rfl rfl rfl rfl (by kernel_rfl) hS (fun b36 w hS hB => ?_)
  obtain ⟨l38, hf39, H⟩ := bind_some H
  refine wpX_appendQ (l := v15) (q := q19) (y := ⟨{x1 with frm := x0.id, dst := e14, term := x0.tuple.term, cap := x0.binary, entries := r30}, A32, c33⟩) em_32 (by decide) rfl rfl rfl rfl hS hq20 (fun _ => ps3) (hS.box_rd hs0) hf39 (fun A40 c41 w k42 hS hq43 hB => ?_)
  have okq44 := okq_snoc okq21 (show okQ ⟨{x1 with frm := x0.id, dst := e14, term := x0.tuple.term, cap := x0.binary, entries := r30}, A32, c33⟩ from k34)
  replace hS := hS.front 4 rfl
  replace hS := hS.front 2 rfl
  replace hS := hS.weak Weak.rowRd
  replace hS := hS.absorbQ ⟨{x1 with frm := x0.id, dst := e14, term := x0.tuple.term, cap := x0.binary, entries := r30}, A32, c33⟩
  replace hS := hS.front 3 rfl
  refine Zr rfl rfl rfl CellsOf.slice hS ps4 Zfn (by kernel_rfl) rfl (fun w hS hB => Zh (Zw ?_))
  exact QH_round hBase hE hS (l38, A40, c41, (q19 ++ [⟨{x1 with frm := x0.id, dst := e14, term := x0.tuple.term, cap := x0.binary, entries := r30}, A32, c33⟩])) (List.Sublist.cons_cons _ (List.Sublist.cons_cons _ (List.Sublist.cons _ (List.Sublist.cons _ (List.Sublist.cons_cons _ (List.Sublist.cons_cons _ (List.Sublist.cons_cons _ List.Sublist.slnil))))))) ⟨k42, hq43, okq44, H⟩
 ·rintro ⟨v15, A16, c17, q19⟩ A ⟨k18, hq20, okq21, H⟩ hS
  dsimp only at hS k18 hq20 okq21 H ⊢
  rw [List.drop_length, Jq] at H
  refine Zw (Zd hK8 (Zf (fun K hK46 => Zg (Za rfl rfl rfl (Zi sc_32 rfl (Zgf _) hS hs3 trivial Yw) (Zr rfl rfl rfl CellsOf.slice hS ps3 Zfn (by kernel_rfl) rfl (fun w hS hB => Zh (Zd hK46 ?_)))))))
  refine Zl (QH_shut (.inl rfl) hS ps0 (fun w hS => ?_))
  replace hS := hS.sub (List.Sublist.cons _ (List.Sublist.cons_cons _ (List.Sublist.cons_cons _ (List.Sublist.cons_cons _ (List.Sublist.cons_cons _ (List.Sublist.cons_cons _ List.Sublist.slnil))))))
  refine Zm rfl (RV.cell rfl (load_box1 sc_32 hS Vt Yw) RV.nil) rfl ?_
  obtain rfl := QJ H
  have hS := hS.front 1 rfl
  replace hS := hS.front 1 rfl
  replace hS := hS.weak Weak.rowRd
  replace hS := hS.cut 2
  exact ⟨A16, c17, q19, rfl, k18, hq20, okq21, hS⟩
theorem Zep (x0 : Co) (A0_ : OA) (c0_ : Nat) (A1_ : OA) (c1_ : Nat) (A2_ : OA) (c2_ : Nat) (A3_ : OA) (c3_ : Nat) (A4_ : OA) (c4_ : Nat) (w0 : World) (s0_ : SlI w0 enE A0_ c0_ x0.tuple.log) (s1_ : SlI w0 enO A1_ c1_ x0.votes) (s2_ : SlI w0 Vr A2_ c2_ x0.next) (s3_ : SlI w0 Vr A3_ c3_ x0.mtch) (s4_ : SlI w0 Vr A4_ c4_ x0.caps) {r : Co × List Ms} (H : V1 x0 = some r) : Calls Try.prog 17 #[.agg #[.int .i64 x0.id, .int .i64 x0.n, .int .u8 x0.role, .int .i64 x0.binary, .int .i64 x0.tuple.snap.index, .int .i64 x0.tuple.snap.term, .int .i64 x0.tuple.snap.sum, .int .i64 x0.tuple.snap.level, .bool x0.tuple.snap.final, .slice A0_ x0.tuple.log.length c0_, .int .i64 x0.tuple.term, .int .i64 x0.tuple.vote, .int .i64 x0.commit, .int .i64 x0.applied.index, .int .i64 x0.applied.term, .int .i64 x0.applied.sum, .int .i64 x0.applied.level, .bool x0.applied.final, .slice A1_ x0.votes.length c1_, .slice A2_ x0.next.length c2_, .slice A3_ x0.mtch.length c3_, .slice A4_ x0.caps.length c4_]] w0 fun e w' => ∃ (A0 : OA) (c0 : Nat) (A1 : OA) (c1 : Nat) (A2 : OA) (c2 : Nat) (A3 : OA) (c3 : Nat) (A4 : OA) (c4 : Nat) (A5 : OA) (c5 : Nat) (q5 : List Mq), e = .returned (.tuple #[.agg #[.int .i64 r.1.id, .int .i64 r.1.n, .int .u8 r.1.role, .int .i64 r.1.binary, .int .i64 r.1.tuple.snap.index, .int .i64 r.1.tuple.snap.term, .int .i64 r.1.tuple.snap.sum, .int .i64 r.1.tuple.snap.level, .bool r.1.tuple.snap.final, .slice A0 r.1.tuple.log.length c0, .int .i64 r.1.tuple.term, .int .i64 r.1.tuple.vote, .int .i64 r.1.commit, .int .i64 r.1.applied.index, .int .i64 r.1.applied.term, .int .i64 r.1.applied.sum, .int .i64 r.1.applied.level, .bool r.1.applied.final, .slice A1 r.1.votes.length c1, .slice A2 r.1.next.length c2, .slice A3 r.1.mtch.length c3, .slice A4 r.1.caps.length c4], .slice A5 r.2.length c5]) ∧ (r.1.tuple.log.length ≤ c0 ∧ c0 ≤ maxLen) ∧ (r.1.votes.length ≤ c1 ∧ c1 ≤ maxLen) ∧ (r.1.next.length ≤ c2 ∧ c2 ≤ maxLen) ∧ (r.1.mtch.length ≤ c3 ∧ c3 ≤ maxLen) ∧ (r.1.caps.length ≤ c4 ∧ c4 ≤ maxLen) ∧ (r.2.length ≤ c5 ∧ c5 ≤ maxLen) ∧ q5.map Mq.m = r.2 ∧ (∀ y ∈ q5, okQ y) ∧ St0 All w0 w' [.rd A0 (Z8 enE r.1.tuple.log), .row (.slice A1 r.1.votes.length c1) 4 1 r.1.votes.length (Z8 enO r.1.votes), .row (.slice A2 r.1.next.length c2) 3 1 r.1.next.length (Z8 Vr r.1.next), .row (.slice A3 r.1.mtch.length c3) 3 1 r.1.mtch.length (Z8 Vr r.1.mtch), .row (.slice A4 r.1.caps.length c4) 3 1 r.1.caps.length (Z8 Vr r.1.caps), .rd A5 (Z8 enQ q5), .rds (q5.map Zfk)] := by
 unfold V1 at H
 refine Yp Try.func17 rfl Try.ntmps17 rfl ?_
 have hS := St0.start All w0
 refine Zf (fun K hK1 => Zg (Yq rfl rfl rfl CellsOf.agg hS (fun b2 w hS hB => Yr rfl rfl Zcn hS (fun b4 w hS hB => Zb 1 rfl (Zh (Zd hK1 (Zf (fun K hK6 => ?_))))))))
 refine Zg (Za rfl rfl rfl (Zk Ya rfl (Zgf _) hS X9 trivial Z1) ?_)
 obtain ⟨r7, hm8, H⟩ := bind_some H
 refine Zt rfl rfl rfl rfl (by kernel_rfl) rfl (Zdg x0 A0_ c0_ A1_ c1_ A2_ c2_ A3_ c3_ A4_ c4_ _ (Zgi s0_.k (hS.rd0 s0_.rd) (hS.blk0 s0_.blk)) (Zgi s1_.k (hS.rd0 s1_.rd) (hS.blk0 s1_.blk)) (Zgi s2_.k (hS.rd0 s2_.rd) (hS.blk0 s2_.blk)) (Zgi s3_.k (hS.rd0 s3_.rd) (hS.blk0 s3_.blk)) (Zgi s4_.k (hS.rd0 s4_.rd) (hS.blk0 s4_.blk)) hm8) ?_
 rintro e w ⟨A9, c10, A13, c14, A17, c18, A21, c22, A25, c26, rfl, k11, k15, k19, k23, k27, hN⟩; refine ⟨_, rfl, ?_⟩; obtain ⟨hB, hS⟩ := hS.jn hN
 refine Zr rfl rfl rfl CellsOf.agg hS ps6 Yo (by kernel_rfl) rfl (fun w hS hB => Zh (Zd hK6 (Zf (fun K hK29 => Zf (fun K hK30 => Zg (Za rfl rfl rfl (Zk Ya rfl (Zgf _) hS Vv trivial Z1) ?_))))))
 obtain ⟨r31, hm32, H⟩ := bind_some H
 refine Zt rfl rfl rfl rfl (by kernel_rfl) rfl (Zdb r7 A9 c10 A13 c14 A17 c18 A21 c22 A25 c26 _ (Zgi k11 (hS.row_rd hs0) (hS.row_blk hs0)) (Zgi k15 (hS.row_rd X9) (hS.row_blk X9)) (Zgi k19 (hS.row_rd Vt) (hS.row_blk Vt)) (Zgi k23 (hS.row_rd hs3) (hS.row_blk hs3)) (Zgi k27 (hS.row_rd hs4) (hS.row_blk hs4)) hm32) ?_
 rintro e w ⟨rfl, hN⟩; refine ⟨_, rfl, ?_⟩; obtain ⟨hB, hS⟩ := hS.jn hN
 refine Za rfl rfl rfl (Yt rfl) (Zb 1 rfl (Zs 11 rfl (fun hb => ?_) (fun hb => ?_)))
 ·replace H := Zp H hb
  refine Zb 10 rfl (Zh (Zd hK30 (Zn rfl rfl (Zf (fun K hK34 => Zg (Za rfl rfl rfl (Zk Ya rfl (Zgf _) hS Vv trivial Z1) (Zr rfl rfl rfl CellsOf.agg hS ps5 Yo (by kernel_rfl) rfl (fun w hS hB => ?_))))))))
  refine Zb 1 rfl (Zh (Zd hK34 (Zl (Ze (Zm rfl (RV.cell rfl (Z3 Ya hS hs5 Z1) (RV.tmp rfl RV.nil)) rfl ?_)))))
  obtain rfl := QJ H
  have hS := hS.nilRds
  replace hS := hS.nilRd
  have hS := hS.front 6 rfl
  have hS := hS.front 6 rfl
  have hS := hS.front 6 rfl
  have hS := hS.front 6 rfl
  have hS := hS.front 6 rfl
  replace hS := hS.weak Weak.rowRd
  replace hS := hS.cut 7
  exact ⟨A9, c10, A13, c14, A17, c18, A21, c22, A25, c26, none, 0, ([] : List Mq), rfl, k11, k15, k19, k23, k27, ⟨Nat.le_refl _, Nat.zero_le _⟩, rfl, Vh, hS⟩
 replace H := Zq H hb
 refine Za rfl rfl rfl (Zc Zbg rfl) (Za rfl rfl rfl (Zi Zbi rfl (Zgf _) hS Vv trivial Zbj) (Za rfl rfl rfl (Xh rfl rfl) (Zb 2 rfl (Zs 16 rfl (fun hb => ?_) (fun hb => ?_)))))
 ·replace H := Zp H hb
  refine Zb 5 rfl (Zh (Zd hK30 (Zn rfl rfl (Zf (fun K hK37 => Zg (Za rfl rfl rfl (Zk Ya rfl (Zgf _) hS Vv trivial Z1) (Zr rfl rfl rfl CellsOf.agg hS ps5 Yo (by kernel_rfl) rfl (fun w hS hB => ?_))))))))
  refine Zb 1 rfl (Zh (Zd hK37 (Zl (Ze (Zm rfl (RV.cell rfl (Z3 Ya hS hs5 Z1) (RV.tmp rfl RV.nil)) rfl ?_)))))
  obtain rfl := QJ H
  have hS := hS.nilRds
  replace hS := hS.nilRd
  have hS := hS.front 6 rfl
  have hS := hS.front 6 rfl
  have hS := hS.front 6 rfl
  have hS := hS.front 6 rfl
  have hS := hS.front 6 rfl
  replace hS := hS.weak Weak.rowRd
  replace hS := hS.cut 7
  exact ⟨A9, c10, A13, c14, A17, c18, A21, c22, A25, c26, none, 0, ([] : List Mq), rfl, k11, k15, k19, k23, k27, ⟨Nat.le_refl _, Nat.zero_le _⟩, rfl, Vh, hS⟩
 replace H := Zq H hb
 refine Za rfl rfl rfl (Zc Zz rfl) (Za rfl rfl rfl (Zc Xc rfl) (Za rfl rfl rfl (Zi Zy rfl (Zgf _) hS Vv trivial Xv) (Za rfl rfl rfl (Xh rfl rfl) (Zb 1 rfl (Zh (Zd hK30 (Zx rfl (fun hb => ?_) (fun hb => ?_))))))))
 ·replace H := Zp H hb
  refine Zf (fun K hK40 => Zg (Za rfl rfl rfl (Zk Ya rfl (Zgf _) hS Vv trivial Z1) (Zr rfl rfl rfl CellsOf.agg hS ps5 Yo (by kernel_rfl) rfl (fun w hS hB => Zb 1 rfl (Zh (Zd hK40 (Zl ?_)))))))
  refine Ze (Zm rfl (RV.cell rfl (Z3 Ya hS hs5 Z1) (RV.tmp rfl RV.nil)) rfl ?_)
  obtain rfl := QJ H
  have hS := hS.nilRds
  replace hS := hS.nilRd
  have hS := hS.front 6 rfl
  have hS := hS.front 6 rfl
  have hS := hS.front 6 rfl
  have hS := hS.front 6 rfl
  have hS := hS.front 6 rfl
  replace hS := hS.weak Weak.rowRd
  replace hS := hS.cut 7
  exact ⟨A9, c10, A13, c14, A17, c18, A21, c22, A25, c26, none, 0, ([] : List Mq), rfl, k11, k15, k19, k23, k27, ⟨Nat.le_refl _, Nat.zero_le _⟩, rfl, Vh, hS⟩
 replace H := Zq H hb
 refine Zv (Zd hK29 (Zf (fun K hK42 => Zg (Za rfl rfl rfl (Zk Ya rfl (Zgf _) hS Vv trivial Z1) (Za rfl rfl rfl (Zc Zz rfl) (Za rfl rfl rfl (Zc Xc rfl) (Za rfl rfl rfl (Zi Zy rfl (Zgf _) hS Vv trivial Xv) ?_)))))))
 refine Za rfl rfl rfl (Xu rfl rfl) (Za rfl rfl rfl (Zc Xb rfl) (Za rfl rfl rfl (Zi Zy rfl (Zgf _) hS Vv trivial Yw) (Za rfl rfl rfl (Zc Xb rfl) (Za rfl rfl rfl (Zi Zy rfl (Zgf _) hS Vv trivial Yw) (Xi (ps := [(0, .tmp 31)]) [.int .i64 r7.id] Jy zc_3 rfl rfl rfl rfl rfl (by kernel_rfl) hS (fun b43 w hS hB => Zd3 rfl rfl rfl rfl (by kernel_rfl) rfl ?_))))))
 show Calls _ _ #[_, _, _, _, _] _ _
 refine gw_enter5 Try.func45 rfl Try.ntmps45 rfl (Zf (fun K hK45 => Zg (Yq rfl rfl rfl CellsOf.agg hS (fun b46 w hS hB => Yr rfl rfl Zcn hS (fun b48 w hS hB => Zh (Zd hK45 (Zf (fun K hK50 => ?_))))))))
 refine Zg (Za rfl rfl rfl (Zc Zz rfl) (Za rfl rfl rfl (Zk V2 rfl (Zgf _) hS X9 trivial Ze8) (Zb 2 rfl ?_)))
 obtain ⟨r51, hm52, H⟩ := bind_some H
 refine Zt rfl rfl rfl rfl (by kernel_rfl) rfl (Ze0 r7.tuple (IntKind.wrap .i64 (r7.tuple.term + 1)) r7.id A9 c10 _ (Zgi k11 (hS.row_rd hs3) (hS.row_blk hs3)) hm52) ?_
 rintro e w ⟨A53, c54, rfl, k55, hN⟩; refine ⟨_, rfl, ?_⟩; obtain ⟨hB, hS⟩ := hS.jn hN
 refine Zb 1 rfl (Za rfl rfl rfl (Yj rfl rfl) (Za rfl rfl rfl (Yj rfl rfl) (Za rfl rfl rfl (Zc Zz rfl) (Zr rfl rfl rfl CellsOf.agg hS ps2 st4_8 (by kernel_rfl) rfl (fun w hS hB => Zh (Zd hK50 (Zf (fun K hK57 => ?_))))))))
 refine Yh 8 [5, 7] (fun i b => (i = 5 → b ≠ b46) ∧ (i = 7 → b ≠ b46)) ⟨by kernel_rfl, by kernel_rfl⟩ hS (fun w hS hB => Zo [Tt,Tt,Tt,Ff,Tt] (by decide +kernel) PFC.h (LtK.put rfl rfl rfl (Zu rfl) (LtK.put rfl rfl rfl (Zc Yx rfl) (LtK.put rfl rfl rfl (Zi Zy rfl (Zgg _) hS Vt trivial Xd) (LtK.put rfl rfl rfl (Zc Zbg rfl) (LtK.nil (Zcb [3, 5] ⟨by decide, by kernel_rfl⟩ rfl (.call [Ff,Ff,Ff,Tt] 3 rfl rfl rfl ?_ (.put [Ff,Ff,Ff,Ff,Ff,Tt] 5 rfl rfl rfl ?_ .nil)))))))))
 ·try dsimp only [Z2]
  obtain ⟨l58, hm59, H⟩ := bind_some H
  refine wpX_make Zco em_27 rfl (by decide) rfl rfl rfl rfl hS hm59 (fun A60 c61 w k62 hS hB => ?_)
  refine Zh (Ye hB (Xa [Ff,Ff,Ff,Ff,Ff,Tt] 5 ⟨by decide, by kernel_rfl, by kernel_rfl⟩ rfl rfl ?_))
  try dsimp only [Z2]
  refine Zr rfl rfl rfl CellsOf.int hS ps3 st2_1 (by kernel_rfl) rfl (fun w hS hB => Zh (Yu (hB.sub (fun _ _ h => by simpa using h)) (Zo [Ff,Ff,Ff,Ff,Ff,Ff,Tt] (by decide +kernel) PFC.h (LtK.put rfl rfl rfl (Zc Zaq rfl) (LtK.nil (Xa [Ff,Ff,Ff,Ff,Ff,Ff,Ff,Tt] 7 ⟨by decide, by kernel_rfl, by kernel_rfl⟩ rfl rfl ?_))))))
  try dsimp only [Z2]
  refine Zr rfl rfl rfl CellsOf.slice hS ps3 st18_1 (by kernel_rfl) rfl (fun w hS hB => Zh (Yu (hB.sub (fun _ _ h => by simpa using h)) (Z5 (by kernel_rfl) (Zd hK57 (Zf (fun K hK64 => Zf (fun K hK65 => Zg ?_)))))))
  refine Zb 1 rfl (Za rfl rfl rfl (Yb Jy rfl) (Zb 1 rfl (Zh (Zd hK65 (Z6 (Ze9 60 (Zf (fun K hK66 => ?_))))))))
  refine Zg (Za rfl rfl rfl (Y4 rfl rfl) (Zh (Zd hK66 (Zf (fun K hK67 => Zn rfl rfl (Zv (Zd hK67 ?_)))))))
  refine Zf (fun K hK68 => Z6 (Zf (fun K hK69 => Zg ?_)))
  obtain ⟨e70, hi72, H⟩ := bind_some H
  obtain ⟨j71, hi72a, hi72b, hi72c⟩ := Xn hi72
  refine Za rfl rfl rfl (Y2 Jy rfl rfl hi72a hi72c (Rd.el (hS.box_rd hs4) Ve hi72b)) (Za rfl rfl rfl (Zav Zy rfl (Zgf _) (Rd.el (hS.box_rd hs4) Ve hi72b) rfl) (Zb 1 rfl (Zh (Zd hK69 (Zg (Za rfl rfl rfl (Zc Zaq rfl) (Za rfl rfl rfl (Zi Zf9 rfl (Zgf _) hS hs3 trivial Zeq) ?_)))))))
  refine Zb 1 rfl (Za rfl rfl rfl (Zeo rfl rfl) ?_)
  obtain ⟨e73, hi75, H⟩ := bind_some H
  obtain ⟨j74, hi75a, hi75b, hi75c⟩ := Xn hi75
  refine Za rfl rfl rfl (Y2 Zff rfl rfl hi75a hi75c (Rd.el (hS.row_rd hs0) Zco hi75b)) (Ze6 (a' := true) (zs := (Zbf l58 (IntKind.wrap .i64 (e70 - 1)) true)) Zco rfl rfl rfl CellsOf.bool hS ps0 (Rd.el (hS.row_rd hs0) Zco hi75b) hi75a hi75b rfl Zfn (by kernel_rfl) rfl (fun w hS => ?_))
  have hi76b := Zfr (a := true) hi75a hi75b
  have hi76a := hi75a
  refine Zh (Zw (Zd hK68 (Zg (Za rfl rfl rfl (Xu rfl rfl) (Zb 1 rfl (Zh (Zew ?_)))))))
  refine Zf (fun K hK77 => Zg (Za rfl rfl rfl (Y4 rfl rfl) (Zh (Zd hK77 (Zf (fun K hK78 => Ym rfl rfl (Xy ?_)))))))
  refine Z4 (Z4 (Yz (Zd hK64 (Zf (fun K hK79 => Zg (Za rfl rfl rfl (Zk Ya rfl (Zgf _) hS hs3 trivial Z1) (Zr rfl rfl rfl CellsOf.agg hS ps2 Yo (by kernel_rfl) rfl (fun w hS hB => ?_))))))))
  refine Zh (Zd hK79 (Zl (Zm rfl (RV.cell rfl (Z3 Ya hS Vt Z1) RV.nil) rfl (⟨_, rfl, ?_⟩))))
  refine Zr rfl rfl rfl CellsOf.agg hS ps11 Yo (by kernel_rfl) rfl (fun w hS hB => Zh (Zd hK42 (Zf (fun K hK80 => Zf (fun K hK81 => Zg (Za rfl rfl rfl (Zc Zaq rfl) (Za rfl rfl rfl (Zi Zf9 rfl (Zgf _) hS hs11 trivial Zeq) ?_)))))))
  obtain ⟨r82, hm83, H⟩ := bind_some H
  refine Zt rfl rfl rfl rfl (by kernel_rfl) (by (repeat rw [(Vu rfl)]); rfl) (Zdl (Zbf l58 (IntKind.wrap .i64 (e70 - 1)) true) A60 c61 _ (Zgi (Zdv k62) (hS.row_rd hs0) (hS.row_blk hs0)) hm83) ?_
  rintro e w ⟨rfl, hN⟩; refine ⟨_, rfl, ?_⟩; obtain ⟨hB, hS⟩ := hS.jn hN
  refine Zh (Zd hK81 (Zx rfl (fun hb => ?_) (fun hb => ?_)))
  ·replace H := Zp H hb
   have hw84 := hb
   refine Zf (fun K hK85 => Zg (Za rfl rfl rfl (Zk Ya rfl (Zgf _) hS hs11 trivial Z1) ?_))
   obtain ⟨r86, hm87, H⟩ := bind_some H
   refine Zt rfl rfl rfl rfl (by kernel_rfl) (by (repeat rw [(Vu rfl)]); rfl) (c_elect_Lead {r7 with role := 1, tuple := r51.1, votes := (Zbf l58 (IntKind.wrap .i64 (e70 - 1)) true)} A53 c54 A60 c61 A17 c18 A21 c22 A25 c26 _ (Zgi k55 (hS.rd X9) (hS.rd_blk X9)) (Zgi (Zdv k62) (hS.row_rd hs0) (hS.row_blk hs0)) (Zgi k19 (hS.row_rd hs7) (hS.row_blk hs7)) (Zgi k23 (hS.row_rd hs8) (hS.row_blk hs8)) (Zgi k27 (hS.row_rd hs9) (hS.row_blk hs9)) hm87) ?_
   rintro e w ⟨A88, c89, A92, c93, A96, c97, A100, c101, A104, c105, rfl, k90, k94, k98, k102, k106, hN⟩; refine ⟨_, rfl, ?_⟩; obtain ⟨hB, hS⟩ := hS.jn hN
   refine Zr rfl rfl rfl CellsOf.agg hS ps15 Yo (by kernel_rfl) rfl (fun w hS hB => Zb 1 rfl (Zh (Zd hK85 (Zl (Ze (Zm rfl (RV.cell rfl (Z3 Ya hS hs15 Z1) (RV.tmp rfl RV.nil)) rfl ?_))))))
   obtain rfl := QJ H
   have hS := hS.nilRds
   replace hS := hS.nilRd
   have hS := hS.front 6 rfl
   have hS := hS.front 6 rfl
   have hS := hS.front 6 rfl
   have hS := hS.front 6 rfl
   have hS := hS.front 6 rfl
   replace hS := hS.cut 7
   exact ⟨A88, c89, A92, c93, A96, c97, A100, c101, A104, c105, none, 0, ([] : List Mq), rfl, k90, k94, k98, k102, k106, ⟨Nat.le_refl _, Nat.zero_le _⟩, rfl, Vh, hS⟩
  replace H := Zq H hb
  have hw108 := hb
  refine Zv (Zd hK80 (Zf (fun K hK109 => Zg (Za rfl rfl rfl (Zk Ya rfl (Zgf _) hS hs11 trivial Z1) ?_))))
  obtain ⟨r110, hm111, H⟩ := bind_some H
  refine Zt rfl rfl rfl rfl (by kernel_rfl) (by (repeat rw [(Vu rfl)]); rfl) (c_elect_end {r7 with role := 1, tuple := r51.1, votes := (Zbf l58 (IntKind.wrap .i64 (e70 - 1)) true)} A53 c54 A60 c61 A17 c18 A21 c22 A25 c26 _ (Zgi k55 (hS.rd X9) (hS.rd_blk X9)) (Zgi (Zdv k62) (hS.row_rd hs0) (hS.row_blk hs0)) (Zgi k19 (hS.row_rd hs7) (hS.row_blk hs7)) (Zgi k23 (hS.row_rd hs8) (hS.row_blk hs8)) (Zgi k27 (hS.row_rd hs9) (hS.row_blk hs9)) hm111) ?_
  rintro e w ⟨rfl, hN⟩; refine ⟨_, rfl, ?_⟩; obtain ⟨hB, hS⟩ := hS.jn hN
  refine Zb 1 rfl (Za rfl rfl rfl (Yj rfl rfl) (Za rfl rfl rfl (Yj rfl rfl) (Zb 2 rfl (Zh (Zd hK109 (Zf (fun K hK112 => Yh 8 [6] (fun i b => (i = 6 → b ≠ b4)) ⟨by kernel_rfl, by kernel_rfl⟩ hS (fun w hS hB => ?_))))))))
  refine Zo [Tt,Tt,Tt,Tt,Tt] (by decide +kernel) PFC.h (LtK.put rfl rfl rfl (Zk Ya rfl (Zgg _) hS hs11 trivial Z1) (LtK.put rfl rfl rfl (Zk Ya rfl (Zgg _) hS hs11 trivial Z1) (LtK.put rfl rfl rfl (Zu rfl) (LtK.put rfl rfl rfl (Zu rfl) (LtK.put rfl rfl rfl (Vk (cells := [.int .u8 1, .int .i64 0, .int .i64 0, .int .i64 0, .int .i64 0, .int .i64 r110.1, .int .i64 r110.2, .int .i64 0, .bool false, .slice none 0 0, .int .i64 0, .int .i64 0, .int .i64 0, .int .i64 0, .bool false]) rfl (by kernel_rfl)) (LtK.nil (Yd [Ff,Ff,Ff,Ff,Ff,Tt] 5 ⟨by decide, by kernel_rfl, by kernel_rfl⟩ rfl rfl ?_)))))))
  try dsimp only [Z2]
  obtain ⟨r113, hm114, H⟩ := bind_some H
  refine Zt rfl rfl rfl rfl (by kernel_rfl) (by (repeat rw [(Vu rfl)]); rfl) (c_msg_Others {r7 with role := 1, tuple := r51.1, votes := (Zbf l58 (IntKind.wrap .i64 (e70 - 1)) true)} (⟨1, 0, 0, 0, 0, r110.1, r110.2, 0, false, [], (⟨0, 0, 0, 0, false⟩ : St)⟩ : Ms) A53 c54 A60 c61 A17 c18 A21 c22 A25 c26 none 0 _ (Zgi k55 (hS.rd X9) (hS.rd_blk X9)) (Zgi (Zdv k62) (hS.row_rd hs0) (hS.row_blk hs0)) (Zgi k19 (hS.row_rd hs7) (hS.row_blk hs7)) (Zgi k23 (hS.row_rd hs8) (hS.row_blk hs8)) (Zgi k27 (hS.row_rd hs9) (hS.row_blk hs9)) (SlW.nil _ _) hm114) ?_
  rintro e w ⟨A115, c116, q119, rfl, k117, hq120, okq121, hN⟩; refine ⟨_, rfl, ?_⟩; obtain ⟨hB, hS⟩ := hS.jn hN
  refine Zh (Ye hB (Xa [Ff,Ff,Ff,Ff,Ff,Ff,Tt] 6 ⟨by decide, by kernel_rfl, by kernel_rfl⟩ rfl rfl ?_))
  try dsimp only [Z2]
  refine Zr rfl rfl rfl CellsOf.agg hS ps12 Yo (by kernel_rfl) rfl (fun w hS hB => Zh (Yu (hB.sub (fun _ _ h => by simpa using h)) (Zo [Ff,Ff,Ff,Ff,Ff,Ff,Ff,Tt] (by decide +kernel) PFC.h (LtK.put rfl rfl rfl (Z7 rfl) (LtK.nil (Z5 (by kernel_rfl) (Zd hK112 ?_)))))))
  refine Zl (Zm rfl (RV.cell rfl (Z3 Ya hS hs12 Z1) (RV.tmp rfl RV.nil)) rfl ?_)
  obtain rfl := QJ H
  have hS := hS.front 1 rfl
  replace hS := hS.front 1 rfl
  have hS := hS.front 11 rfl
  have hS := hS.front 11 rfl
  have hS := hS.front 11 rfl
  have hS := hS.front 5 rfl
  have hS := hS.front 6 rfl
  replace hS := hS.cut 7
  exact ⟨A53, c54, A60, c61, A17, c18, A21, c22, A25, c26, A115, c116, q119, by (repeat rw [(Vu rfl)]); rfl, k55, (Zdv k62), k19, k23, k27, k117, hq120, okq121, hS.eqv (by (repeat rw [(Vu rfl)]); rfl)⟩
 ·try dsimp only [Z2]
  refine Zr rfl rfl rfl CellsOf.int hS ps2 st2_1 (by kernel_rfl) rfl (fun w hS hB => Zh (Yu (hB.sub (fun _ _ h => by simpa using h)) (Yd [Ff,Ff,Ff,Tt] 3 ⟨by decide, by kernel_rfl, by kernel_rfl⟩ rfl rfl ?_)))
  try dsimp only [Z2]
  obtain ⟨l58, hm59, H⟩ := bind_some H
  refine wpX_make Zco em_27 rfl (by decide) rfl rfl rfl rfl hS hm59 (fun A60 c61 w k62 hS hB => ?_)
  refine Zh (Ye hB (Zo [Ff,Ff,Ff,Ff,Ff,Ff,Tt] (by decide +kernel) PFC.h (LtK.put rfl rfl rfl (Zc Zaq rfl) (LtK.nil (Xa [Ff,Ff,Ff,Ff,Ff,Ff,Ff,Tt] 7 ⟨by decide, by kernel_rfl, by kernel_rfl⟩ rfl rfl ?_)))))
  try dsimp only [Z2]
  refine Zr rfl rfl rfl CellsOf.slice hS ps3 st18_1 (by kernel_rfl) rfl (fun w hS hB => Zh (Yu (hB.sub (fun _ _ h => by simpa using h)) (Z5 (by kernel_rfl) (Zd hK57 (Zf (fun K hK64 => Zf (fun K hK65 => Zg ?_)))))))
  refine Zb 1 rfl (Za rfl rfl rfl (Yb Jy rfl) (Zb 1 rfl (Zh (Zd hK65 (Z6 (Ze9 60 (Zf (fun K hK66 => ?_))))))))
  refine Zg (Za rfl rfl rfl (Y4 rfl rfl) (Zh (Zd hK66 (Zf (fun K hK67 => Zn rfl rfl (Zv (Zd hK67 ?_)))))))
  refine Zf (fun K hK68 => Z6 (Zf (fun K hK69 => Zg ?_)))
  obtain ⟨e70, hi72, H⟩ := bind_some H
  obtain ⟨j71, hi72a, hi72b, hi72c⟩ := Xn hi72
  refine Za rfl rfl rfl (Y2 Jy rfl rfl hi72a hi72c (Rd.el (hS.box_rd hs4) Ve hi72b)) (Za rfl rfl rfl (Zav Zy rfl (Zgf _) (Rd.el (hS.box_rd hs4) Ve hi72b) rfl) (Zb 1 rfl (Zh (Zd hK69 (Zg (Za rfl rfl rfl (Zc Zaq rfl) (Za rfl rfl rfl (Zi Zf9 rfl (Zgf _) hS hs3 trivial Zeq) ?_)))))))
  refine Zb 1 rfl (Za rfl rfl rfl (Zeo rfl rfl) ?_)
  obtain ⟨e73, hi75, H⟩ := bind_some H
  obtain ⟨j74, hi75a, hi75b, hi75c⟩ := Xn hi75
  refine Za rfl rfl rfl (Y2 Zff rfl rfl hi75a hi75c (Rd.el (hS.row_rd hs0) Zco hi75b)) (Ze6 (a' := true) (zs := (Zbf l58 (IntKind.wrap .i64 (e70 - 1)) true)) Zco rfl rfl rfl CellsOf.bool hS ps0 (Rd.el (hS.row_rd hs0) Zco hi75b) hi75a hi75b rfl Zfn (by kernel_rfl) rfl (fun w hS => ?_))
  have hi76b := Zfr (a := true) hi75a hi75b
  have hi76a := hi75a
  refine Zh (Zw (Zd hK68 (Zg (Za rfl rfl rfl (Xu rfl rfl) (Zb 1 rfl (Zh (Zew ?_)))))))
  refine Zf (fun K hK77 => Zg (Za rfl rfl rfl (Y4 rfl rfl) (Zh (Zd hK77 (Zf (fun K hK78 => Ym rfl rfl (Xy ?_)))))))
  refine Z4 (Z4 (Yz (Zd hK64 (Zf (fun K hK79 => Zg (Za rfl rfl rfl (Zk Ya rfl (Zgf _) hS hs3 trivial Z1) (Zr rfl rfl rfl CellsOf.agg hS ps2 Yo (by kernel_rfl) rfl (fun w hS hB => ?_))))))))
  refine Zh (Zd hK79 (Zl (Zm rfl (RV.cell rfl (Z3 Ya hS Vt Z1) RV.nil) rfl (⟨_, rfl, ?_⟩))))
  refine Zr rfl rfl rfl CellsOf.agg hS ps11 Yo (by kernel_rfl) rfl (fun w hS hB => Zh (Zd hK42 (Zf (fun K hK80 => Zf (fun K hK81 => Zg (Za rfl rfl rfl (Zc Zaq rfl) (Za rfl rfl rfl (Zi Zf9 rfl (Zgf _) hS hs11 trivial Zeq) ?_)))))))
  obtain ⟨r82, hm83, H⟩ := bind_some H
  refine Zt rfl rfl rfl rfl (by kernel_rfl) (by (repeat rw [(Vu rfl)]); rfl) (Zdl (Zbf l58 (IntKind.wrap .i64 (e70 - 1)) true) A60 c61 _ (Zgi (Zdv k62) (hS.row_rd hs0) (hS.row_blk hs0)) hm83) ?_
  rintro e w ⟨rfl, hN⟩; refine ⟨_, rfl, ?_⟩; obtain ⟨hB, hS⟩ := hS.jn hN
  refine Zh (Zd hK81 (Zx rfl (fun hb => ?_) (fun hb => ?_)))
  ·replace H := Zp H hb
   have hw84 := hb
   refine Zf (fun K hK85 => Zg (Za rfl rfl rfl (Zk Ya rfl (Zgf _) hS hs11 trivial Z1) ?_))
   obtain ⟨r86, hm87, H⟩ := bind_some H
   refine Zt rfl rfl rfl rfl (by kernel_rfl) (by (repeat rw [(Vu rfl)]); rfl) (c_elect_Lead {r7 with role := 1, tuple := r51.1, votes := (Zbf l58 (IntKind.wrap .i64 (e70 - 1)) true)} A53 c54 A60 c61 A17 c18 A21 c22 A25 c26 _ (Zgi k55 (hS.rd X9) (hS.rd_blk X9)) (Zgi (Zdv k62) (hS.row_rd hs0) (hS.row_blk hs0)) (Zgi k19 (hS.row_rd hs7) (hS.row_blk hs7)) (Zgi k23 (hS.row_rd hs8) (hS.row_blk hs8)) (Zgi k27 (hS.row_rd hs9) (hS.row_blk hs9)) hm87) ?_
   rintro e w ⟨A88, c89, A92, c93, A96, c97, A100, c101, A104, c105, rfl, k90, k94, k98, k102, k106, hN⟩; refine ⟨_, rfl, ?_⟩; obtain ⟨hB, hS⟩ := hS.jn hN
   refine Zr rfl rfl rfl CellsOf.agg hS ps15 Yo (by kernel_rfl) rfl (fun w hS hB => Zb 1 rfl (Zh (Zd hK85 (Zl (Ze (Zm rfl (RV.cell rfl (Z3 Ya hS hs15 Z1) (RV.tmp rfl RV.nil)) rfl ?_))))))
   obtain rfl := QJ H
   have hS := hS.nilRds
   replace hS := hS.nilRd
   have hS := hS.front 6 rfl
   have hS := hS.front 6 rfl
   have hS := hS.front 6 rfl
   have hS := hS.front 6 rfl
   have hS := hS.front 6 rfl
   replace hS := hS.cut 7
   exact ⟨A88, c89, A92, c93, A96, c97, A100, c101, A104, c105, none, 0, ([] : List Mq), rfl, k90, k94, k98, k102, k106, ⟨Nat.le_refl _, Nat.zero_le _⟩, rfl, Vh, hS⟩
  replace H := Zq H hb
  have hw108 := hb
  refine Zv (Zd hK80 (Zf (fun K hK109 => Zg (Za rfl rfl rfl (Zk Ya rfl (Zgf _) hS hs11 trivial Z1) ?_))))
  obtain ⟨r110, hm111, H⟩ := bind_some H
  refine Zt rfl rfl rfl rfl (by kernel_rfl) (by (repeat rw [(Vu rfl)]); rfl) (c_elect_end {r7 with role := 1, tuple := r51.1, votes := (Zbf l58 (IntKind.wrap .i64 (e70 - 1)) true)} A53 c54 A60 c61 A17 c18 A21 c22 A25 c26 _ (Zgi k55 (hS.rd X9) (hS.rd_blk X9)) (Zgi (Zdv k62) (hS.row_rd hs0) (hS.row_blk hs0)) (Zgi k19 (hS.row_rd hs7) (hS.row_blk hs7)) (Zgi k23 (hS.row_rd hs8) (hS.row_blk hs8)) (Zgi k27 (hS.row_rd hs9) (hS.row_blk hs9)) hm111) ?_
  rintro e w ⟨rfl, hN⟩; refine ⟨_, rfl, ?_⟩; obtain ⟨hB, hS⟩ := hS.jn hN
  refine Zb 1 rfl (Za rfl rfl rfl (Yj rfl rfl) (Za rfl rfl rfl (Yj rfl rfl) (Zb 2 rfl (Zh (Zd hK109 (Zf (fun K hK112 => Yh 8 [6] (fun i b => (i = 6 → b ≠ b4)) ⟨by kernel_rfl, by kernel_rfl⟩ hS (fun w hS hB => ?_))))))))
  refine Zo [Tt,Tt,Tt,Tt,Tt] (by decide +kernel) PFC.h (LtK.put rfl rfl rfl (Zk Ya rfl (Zgg _) hS hs11 trivial Z1) (LtK.put rfl rfl rfl (Zk Ya rfl (Zgg _) hS hs11 trivial Z1) (LtK.put rfl rfl rfl (Zu rfl) (LtK.put rfl rfl rfl (Zu rfl) (LtK.put rfl rfl rfl (Vk (cells := [.int .u8 1, .int .i64 0, .int .i64 0, .int .i64 0, .int .i64 0, .int .i64 r110.1, .int .i64 r110.2, .int .i64 0, .bool false, .slice none 0 0, .int .i64 0, .int .i64 0, .int .i64 0, .int .i64 0, .bool false]) rfl (by kernel_rfl)) (LtK.nil (Yd [Ff,Ff,Ff,Ff,Ff,Tt] 5 ⟨by decide, by kernel_rfl, by kernel_rfl⟩ rfl rfl ?_)))))))
  try dsimp only [Z2]
  obtain ⟨r113, hm114, H⟩ := bind_some H
  refine Zt rfl rfl rfl rfl (by kernel_rfl) (by (repeat rw [(Vu rfl)]); rfl) (c_msg_Others {r7 with role := 1, tuple := r51.1, votes := (Zbf l58 (IntKind.wrap .i64 (e70 - 1)) true)} (⟨1, 0, 0, 0, 0, r110.1, r110.2, 0, false, [], (⟨0, 0, 0, 0, false⟩ : St)⟩ : Ms) A53 c54 A60 c61 A17 c18 A21 c22 A25 c26 none 0 _ (Zgi k55 (hS.rd X9) (hS.rd_blk X9)) (Zgi (Zdv k62) (hS.row_rd hs0) (hS.row_blk hs0)) (Zgi k19 (hS.row_rd hs7) (hS.row_blk hs7)) (Zgi k23 (hS.row_rd hs8) (hS.row_blk hs8)) (Zgi k27 (hS.row_rd hs9) (hS.row_blk hs9)) (SlW.nil _ _) hm114) ?_
  rintro e w ⟨A115, c116, q119, rfl, k117, hq120, okq121, hN⟩; refine ⟨_, rfl, ?_⟩; obtain ⟨hB, hS⟩ := hS.jn hN
  refine Zh (Ye hB (Xa [Ff,Ff,Ff,Ff,Ff,Ff,Tt] 6 ⟨by decide, by kernel_rfl, by kernel_rfl⟩ rfl rfl ?_))
  try dsimp only [Z2]
  refine Zr rfl rfl rfl CellsOf.agg hS ps12 Yo (by kernel_rfl) rfl (fun w hS hB => Zh (Yu (hB.sub (fun _ _ h => by simpa using h)) (Zo [Ff,Ff,Ff,Ff,Ff,Ff,Ff,Tt] (by decide +kernel) PFC.h (LtK.put rfl rfl rfl (Z7 rfl) (LtK.nil (Z5 (by kernel_rfl) (Zd hK112 ?_)))))))
  refine Zl (Zm rfl (RV.cell rfl (Z3 Ya hS hs12 Z1) (RV.tmp rfl RV.nil)) rfl ?_)
  obtain rfl := QJ H
  have hS := hS.front 1 rfl
  replace hS := hS.front 1 rfl
  have hS := hS.front 11 rfl
  have hS := hS.front 11 rfl
  have hS := hS.front 11 rfl
  have hS := hS.front 5 rfl
  have hS := hS.front 6 rfl
  replace hS := hS.cut 7
  exact ⟨A53, c54, A60, c61, A17, c18, A21, c22, A25, c26, A115, c116, q119, by (repeat rw [(Vu rfl)]); rfl, k55, (Zdv k62), k19, k23, k27, k117, hq120, okq121, hS.eqv (by (repeat rw [(Vu rfl)]); rfl)⟩
theorem c_msg_entries (x0 : Ms) (A0_ : OA) (c0_ : Nat) (w0 : World) (s0_ : SlW w0 enE A0_ c0_ x0.entries) {r : Bool} (H : Zcs x0 = some r) : Calls Try.prog 111 #[.agg #[.int .u8 x0.kind, .int .i64 x0.frm, .int .i64 x0.dst, .int .i64 x0.term, .int .i64 x0.cap, .int .i64 x0.last, .int .i64 x0.lastTerm, .int .i64 x0.commit, .bool x0.okk, .slice A0_ x0.entries.length c0_, .int .i64 x0.snap.index, .int .i64 x0.snap.term, .int .i64 x0.snap.sum, .int .i64 x0.snap.level, .bool x0.snap.final]] w0 fun e w' => e = .returned (.bool r) ∧ St0 All w0 w' [] := by
 unfold Zcs at H
 refine Yp Try.func111 rfl Try.ntmps111 rfl ?_
 have hS := St0.start All w0
 refine Zf (fun K hK1 => Zg (Yq rfl rfl rfl CellsOf.agg hS (fun b2 w hS hB => Zb 1 rfl (Zh (Zd hK1 (Zf (fun K hK4 => Zg ?_)))))))
 refine Za rfl rfl rfl (Zc fo_36_6 rfl) (Za rfl rfl rfl (Zi Zy rfl (Zgf _) hS hs0 trivial sg6_1) (Zb 1 rfl (Zh (Zd hK4 (Zf (fun K hK5 => Zf (fun K hK6 => Zg ?_)))))))
 refine Za rfl rfl rfl (Zc Zb2 rfl) (Za rfl rfl rfl (Zi Y6 rfl (Zgf _) hS hs0 trivial Xt) (Za rfl rfl rfl (Yb Y1 rfl) (Zb 1 rfl (Zh (Zd hK6 (Z6 (Vp (X := Nat × Bool × Int × Int) (fun x => (1, .pointer (some ⟨b2, 0, none⟩)) :: (2, .bool x.2.1) :: (3, .int .i64 x.2.2.1) :: (9, .slice A0_ x0.entries.length c0_) :: (10, .int .i64 (x0.entries.length : Int)) :: (11, .int .i64 x.2.2.2) :: []) (fun x w => St0 All w0 w (.box b2 [.int .u8 x0.kind, .int .i64 x0.frm, .int .i64 x0.dst, .int .i64 x0.term, .int .i64 x0.cap, .int .i64 x0.last, .int .i64 x0.lastTerm, .int .i64 x0.commit, .bool x0.okk, .slice A0_ x0.entries.length c0_, .int .i64 x0.snap.index, .int .i64 x0.snap.term, .int .i64 x0.snap.sum, .int .i64 x0.snap.level, .bool x0.snap.final] 36 :: []) ∧ J2 x0 x.1 x.2.1 x.2.2.1 x.2.2.2 = some r) (fun x => x.1) (Yy, false, x0.lastTerm, 0) (by repeat (first | exact Sub.nil | refine Sub.cons rfl ?_)) ⟨hS, H⟩ ?_)))))))
 rintro ⟨n, v7, v8, v9⟩ w ⟨hS, H⟩
 dsimp only at hS H ⊢
 obtain _ | n := n
 ·have H0 : none = some r := H
  cases H0
 rw [J2] at H
 refine Zf (fun K hK10 => Zg (Za rfl rfl rfl (Y4 rfl rfl) (Zh (Zd hK10 (Zf (fun K hK11 => Zx rfl (fun hb => ?_) (fun hb => ?_)))))))
 rotate_left
 ·replace H := Zq H hb
  refine Xy (Z4 (Z4 (Yz (Zd hK5 (Zf (fun K hK33 => Zg (Za rfl rfl rfl (Zc Zb2 rfl) ?_)))))))
  refine Za rfl rfl rfl (Zi Y6 rfl (Zgf _) hS hs0 trivial Xt) (Za rfl rfl rfl (Yb Y1 rfl) (Za rfl rfl rfl (Zen rfl rfl) (Zb 1 rfl (Zh (Zd hK33 (Zl (Zm rfl (RV.tmp rfl RV.nil) rfl ?_)))))))
  obtain rfl := QJ H
  replace hS := hS.cut 0
  exact ⟨rfl, hS⟩
 replace H := Zp H hb
 refine Zv (Zd hK11 (Zf (fun K hK13 => Z6 (Zf (fun K hK14 => Zg ?_)))))
 obtain ⟨e15, hi17, H⟩ := bind_some H
 obtain ⟨j16, hi17a, hi17b, hi17c⟩ := Xn hi17
 refine Za rfl rfl rfl (Y2 Y1 rfl rfl hi17a hi17c (Rd.el (hS.rd0 s0_.rd) Vf hi17b)) (Za rfl rfl rfl (V8 Zb5 rfl (Zgf _) (Rd.el (hS.rd0 s0_.rd) Vf hi17b) Zfx) (Yr rfl rfl zc_56 hS (fun b18 w hS hB => Zr rfl rfl rfl CellsOf.agg hS ps0 st0_3 (by kernel_rfl) rfl (fun w hS hB => Zh (Zd hK14 (Zf (fun K hK20 => Zf (fun K hK21 => ?_))))))))
 refine Zg (Za rfl rfl rfl (Zk Zb5 rfl (Zgf _) hS hs0 trivial Zfx) ?_)
 obtain ⟨r22, hm23, H⟩ := bind_some H
 refine Zt rfl rfl rfl rfl (by kernel_rfl) rfl (c_entry_Right e15 _ hm23) ?_
 rintro e w ⟨rfl, hN⟩; refine ⟨_, rfl, ?_⟩; obtain ⟨hB, hS⟩ := hS.jn hN
 refine Za rfl rfl rfl (Yt rfl) (Zb 1 rfl (Zs 18 rfl (fun hb => ?_) (fun hb => ?_)))
 ·replace H := Zp H hb
  refine Zb 8 rfl (Zh (Zd hK21 (Zn rfl rfl (Zf (fun K hK25 => Zg (Zb 1 rfl (Zh ?_)))))))
  refine Zd hK25 (Zl (Ze (Zj (Ze (Ze (Zj (Ze ?_)))))))
  refine Zm rfl (RV.tmp rfl RV.nil) rfl ?_
  obtain rfl := QJ H
  replace hS := hS.cut 0
  exact ⟨rfl, hS⟩
 replace H := Zq H hb
 refine Za rfl rfl rfl (Zc Zcj rfl) (Za rfl rfl rfl (Zi Zy rfl (Zgf _) hS hs0 trivial Yw) (Zb 1 rfl (Za rfl rfl rfl (Zc Je rfl) (Za rfl rfl rfl (Zi Zy rfl (Zgf _) hS X9 trivial Zbe) ?_))))
 obtain ⟨r27, hm28, H⟩ := bind_some H
 refine Zt rfl rfl rfl rfl (by kernel_rfl) rfl (Zah e15.term v8 x0.term _ hm28) ?_
 rintro e w ⟨rfl, hN⟩; refine ⟨_, rfl, ?_⟩; obtain ⟨hB, hS⟩ := hS.jn hN
 refine Za rfl rfl rfl (Yt rfl) (Zb 1 rfl (Zh (Zd hK21 (Zx rfl (fun hb => ?_) (fun hb => ?_)))))
 rotate_left
 ·replace H := Zq H hb
  refine Zv (Zd hK20 (Zg (Za rfl rfl rfl (Zc Zcj rfl) (Za rfl rfl rfl (Zi Zy rfl (Zgf _) hS hs0 trivial Yw) (Zb 1 rfl (Zh (Zw ?_)))))))
  refine Zd hK13 (Zg (Za rfl rfl rfl (Xu rfl rfl) (Zb 1 rfl (Zh ?_))))
  exact Xo (n, v7, e15.term, (IntKind.wrap .i64 (v9 + 1))) (by repeat (first | exact Sub.nil | refine Sub.cons rfl ?_)) ⟨(hS.sub (List.Sublist.cons _ (List.Sublist.cons_cons _ List.Sublist.slnil))), H⟩ (Nat.lt_succ_self _)
 replace H := Zp H hb
 refine Zf (fun K hK30 => Zg (Zb 1 rfl (Zh (Zd hK30 (Zl (Ze (Zj ?_)))))))
 refine Ze (Ze (Zj (Ze (Zm rfl (RV.tmp rfl RV.nil) rfl ?_))))
 obtain rfl := QJ H
 replace hS := hS.cut 0
 exact ⟨rfl, hS⟩
theorem c_msg_Fine (x0 : Ms) (x1 : Int) (A0_ : OA) (c0_ : Nat) (w0 : World) (s0_ : SlW w0 enE A0_ c0_ x0.entries) {r : Bool} (H : Zd4 x0 x1 = some r) : Calls Try.prog 84 #[.agg #[.int .u8 x0.kind, .int .i64 x0.frm, .int .i64 x0.dst, .int .i64 x0.term, .int .i64 x0.cap, .int .i64 x0.last, .int .i64 x0.lastTerm, .int .i64 x0.commit, .bool x0.okk, .slice A0_ x0.entries.length c0_, .int .i64 x0.snap.index, .int .i64 x0.snap.term, .int .i64 x0.snap.sum, .int .i64 x0.snap.level, .bool x0.snap.final], .int .i64 x1] w0 fun e w' => e = .returned (.bool r) ∧ St0 All w0 w' [] := by
 unfold Zd4 at H
 refine Xw Try.func84 rfl Try.ntmps84 rfl ?_
 have hS := St0.start All w0
 refine Zf (fun K hK1 => Zg (Yq rfl rfl rfl CellsOf.agg hS (fun b2 w hS hB => Zb 1 rfl (Zh (Zd hK1 (wpC_scope1 0 rfl (Zf (fun K hK4 => ?_))))))))
 refine Zf (fun K hK5 => Zg (Zb 1 rfl ?_))
 obtain ⟨r6, hm7, H⟩ := bind_some H
 refine Zt rfl rfl rfl rfl (by kernel_rfl) rfl (Zah x1 1 5 _ hm7) ?_
 rintro e w ⟨rfl, hN⟩; refine ⟨_, rfl, ?_⟩; obtain ⟨hB, hS⟩ := hS.jn hN
 refine Za rfl rfl rfl (Yt rfl) (Zb 1 rfl (Zs 8 rfl (fun hb => ?_) (fun hb => ?_)))
 ·replace H := Zp H hb
  refine Zb 16 rfl (Zh (Zd hK5 (Zn rfl rfl (Jh (Xx (Jz (Zf (fun K hK9 => ?_))))))))
  refine Zv (Zd hK9 (Zf (fun K hK10 => Zg (Zb 1 rfl (Zh (Zd hK10 (Zl ?_)))))))
  refine Yn (Zm rfl (RV.tmp rfl RV.nil) rfl ?_)
  obtain rfl := QJ H
  replace hS := hS.cut 0
  exact ⟨rfl, hS⟩
 replace H := Zq H hb
 refine Za rfl rfl rfl (Zc Ji rfl) (Za rfl rfl rfl (Zi Zy rfl (Zgf _) hS hs0 trivial Xd) (Za rfl rfl rfl (Zc Zc5 rfl) (Za rfl rfl rfl (Zi Zy rfl (Zgf _) hS hs0 trivial Zbj) (Xi (ps := [(0, .tmp 10), (1, .tmp 12)]) [.int .i64 x0.frm, .int .i64 x0.dst] Jy zc_3 rfl rfl rfl rfl rfl (by kernel_rfl) hS (fun b12 w hS hB => Zb 1 rfl ?_)))))
 obtain ⟨r14, hm15, H⟩ := bind_some H
 refine Zt rfl rfl rfl rfl (by kernel_rfl) rfl (Ze7 ([x0.frm, x0.dst] : List Int) 2 1 x1 (some ⟨b12, 0, none⟩) 2 _ (Zgi ⟨Nat.le_refl 2, by decide⟩ (hS.box_rd hs0) (hS.box_blk hs0)) hm15) ?_
 rintro e w ⟨rfl, hN⟩; refine ⟨_, rfl, ?_⟩; obtain ⟨hB, hS⟩ := hS.jn hN
 refine Za rfl rfl rfl (Yt rfl) (Zb 2 rfl (Zs 18 rfl (fun hb => ?_) (fun hb => ?_)))
 ·replace H := Zp H hb
  refine Zb 6 rfl (Zh (Zd hK5 (Zn rfl rfl (Jh (Xx (Jz (Zf (fun K hK17 => ?_))))))))
  refine Zv (Zd hK17 (Zf (fun K hK18 => Zg (Zb 1 rfl (Zh (Zd hK18 (Zl ?_)))))))
  refine Yn (Zm rfl (RV.tmp rfl RV.nil) rfl ?_)
  obtain rfl := QJ H
  replace hS := hS.cut 0
  exact ⟨rfl, hS⟩
 replace H := Zq H hb
 refine Za rfl rfl rfl (Zc Ji rfl) (Za rfl rfl rfl (Zi Zy rfl (Zgf _) hS X9 trivial Xd) (Za rfl rfl rfl (Zc Zc5 rfl) (Za rfl rfl rfl (Zi Zy rfl (Zgf _) hS X9 trivial Zbj) (Za rfl rfl rfl (Xh rfl rfl) (Zb 1 rfl (Zh (Zd hK5 ?_)))))))
 refine Zx rfl (fun hb => ?_) (fun hb => ?_)
 ·replace H := Zp H hb
  refine Jh (Xx (Jz (Zf (fun K hK21 => Zv (Zd hK21 (Zf (fun K hK22 => Zg ?_)))))))
  refine Zb 1 rfl (Zh (Zd hK22 (Zl (Yn (Zm rfl (RV.tmp rfl RV.nil) rfl ?_)))))
  obtain rfl := QJ H
  replace hS := hS.cut 0
  exact ⟨rfl, hS⟩
 replace H := Zq H hb
 refine Zv (Zd hK4 (Zf (fun K hK24 => Zf (fun K hK25 => Zg (Za rfl rfl rfl (Zc V3 rfl) (Za rfl rfl rfl (Zi Zbi rfl (Zgf _) hS X9 trivial Yw) (Za rfl rfl rfl (yx_conv (k' := .i64) (by kernel_rfl) (by kernel_rfl) rfl) ?_)))))))
 obtain ⟨r26, hm27, H⟩ := bind_some H
 refine Zt rfl rfl rfl rfl (by kernel_rfl) rfl (Zah (IntKind.wrap .i64 x0.kind) 1 5 _ hm27) ?_
 rintro e w ⟨rfl, hN⟩; refine ⟨_, rfl, ?_⟩; obtain ⟨hB, hS⟩ := hS.jn hN
 refine Za rfl rfl rfl (Yt rfl) (Zb 1 rfl (Zs 30 rfl (fun hb => ?_) (fun hb => ?_)))
 ·replace H := Zp H hb
  refine Zb 11 rfl (Zh (Zd hK25 (Zn rfl rfl (Jh (Xx (Jz (Zf (fun K hK29 => ?_))))))))
  refine Zv (Zd hK29 (Zf (fun K hK30 => Zg (Zb 1 rfl (Zh (Zd hK30 (Zl ?_)))))))
  refine Yn (Zm rfl (RV.tmp rfl RV.nil) rfl ?_)
  obtain rfl := QJ H
  replace hS := hS.cut 0
  exact ⟨rfl, hS⟩
 replace H := Zq H hb
 refine Za rfl rfl rfl (Zc Je rfl) (Za rfl rfl rfl (Zi Zy rfl (Zgf _) hS X9 trivial Zbe) ?_)
 obtain ⟨r32, hm33, H⟩ := bind_some H
 refine Zt rfl rfl rfl rfl (by kernel_rfl) rfl (Zah x0.term 1 1073741824 _ hm33) ?_
 rintro e w ⟨rfl, hN⟩; refine ⟨_, rfl, ?_⟩; obtain ⟨hB, hS⟩ := hS.jn hN
 refine Za rfl rfl rfl (Yt rfl) (Zb 2 rfl (Zs 36 rfl (fun hb => ?_) (fun hb => ?_)))
 ·replace H := Zp H hb
  refine Zb 5 rfl (Zh (Zd hK25 (Zn rfl rfl (Jh (Xx (Jz (Zf (fun K hK35 => ?_))))))))
  refine Zv (Zd hK35 (Zf (fun K hK36 => Zg (Zb 1 rfl (Zh (Zd hK36 (Zl ?_)))))))
  refine Yn (Zm rfl (RV.tmp rfl RV.nil) rfl ?_)
  obtain rfl := QJ H
  replace hS := hS.cut 0
  exact ⟨rfl, hS⟩
 replace H := Zq H hb
 refine Za rfl rfl rfl (Zc fo_36_4 rfl) (Za rfl rfl rfl (Zi Zy rfl (Zgf _) hS X9 trivial sg4_1) ?_)
 obtain ⟨r38, hm39, H⟩ := bind_some H
 refine Zt rfl rfl rfl rfl (by kernel_rfl) rfl (Zah x0.cap 1 2 _ hm39) ?_
 rintro e w ⟨rfl, hN⟩; refine ⟨_, rfl, ?_⟩; obtain ⟨hB, hS⟩ := hS.jn hN
 refine Za rfl rfl rfl (Yt rfl) (Zb 1 rfl (Zh (Zd hK25 (Zx rfl (fun hb => ?_) (fun hb => ?_)))))
 ·replace H := Zp H hb
  refine Jh (Xx (Jz (Zf (fun K hK41 => Zv (Zd hK41 (Zf (fun K hK42 => Zg ?_)))))))
  refine Zb 1 rfl (Zh (Zd hK42 (Zl (Yn (Zm rfl (RV.tmp rfl RV.nil) rfl ?_)))))
  obtain rfl := QJ H
  replace hS := hS.cut 0
  exact ⟨rfl, hS⟩
 replace H := Zq H hb
 refine Zv (Zd hK24 (Zf (fun K hK44 => Zf (fun K hK45 => Zg (Za rfl rfl rfl (Zc fo_36_5 rfl) (Za rfl rfl rfl (Zi Zy rfl (Zgf _) hS X9 trivial Zes) (Za rfl rfl rfl (Zc fo_36_6 rfl) ?_)))))))
 refine Za rfl rfl rfl (Zi Zy rfl (Zgf _) hS X9 trivial sg6_1) (Za rfl rfl rfl (Zc fo_36_7 rfl) (Za rfl rfl rfl (Zi Zy rfl (Zgf _) hS X9 trivial sg7_1) (Xi (ps := [(0, .tmp 43), (1, .tmp 45), (2, .tmp 47)]) [.int .i64 x0.last, .int .i64 x0.lastTerm, .int .i64 x0.commit] Jy zc_3 rfl rfl rfl rfl rfl (by kernel_rfl) hS (fun b46 w hS hB => ?_))))
 obtain ⟨r48, hm49, H⟩ := bind_some H
 refine Zt rfl rfl rfl rfl (by kernel_rfl) rfl (Ze7 ([x0.last, x0.lastTerm, x0.commit] : List Int) 3 0 1073741824 (some ⟨b46, 0, none⟩) 3 _ (Zgi ⟨Nat.le_refl 3, by decide⟩ (hS.box_rd hs0) (hS.box_blk hs0)) hm49) ?_
 rintro e w ⟨rfl, hN⟩; refine ⟨_, rfl, ?_⟩; obtain ⟨hB, hS⟩ := hS.jn hN
 refine Za rfl rfl rfl (Yt rfl) (Zb 1 rfl (Zs 51 rfl (fun hb => ?_) (fun hb => ?_)))
 ·replace H := Zp H hb
  refine Zb 4 rfl (Zh (Zd hK45 (Zn rfl rfl (Jh (Xx (Jz (Zf (fun K hK51 => ?_))))))))
  refine Zv (Zd hK51 (Zf (fun K hK52 => Zg (Zb 1 rfl (Zh (Zd hK52 (Zl ?_)))))))
  refine Yn (Zm rfl (RV.tmp rfl RV.nil) rfl ?_)
  obtain rfl := QJ H
  replace hS := hS.cut 0
  exact ⟨rfl, hS⟩
 replace H := Zq H hb
 refine Za rfl rfl rfl (Zk Vz rfl (Zgf _) hS Vt trivial X7) ?_
 obtain ⟨r54, hm55, H⟩ := bind_some H
 refine Zt rfl rfl rfl rfl (by kernel_rfl) rfl (c_msg_entries x0 A0_ c0_ _ (SlW.of_rd s0_.k (hS.rd0 s0_.rd)) hm55) ?_
 rintro e w ⟨rfl, hN⟩; refine ⟨_, rfl, ?_⟩; obtain ⟨hB, hS⟩ := hS.jn hN
 refine Za rfl rfl rfl (Yt rfl) (Zb 1 rfl (Zh (Zd hK45 (Zx rfl (fun hb => ?_) (fun hb => ?_)))))
 ·replace H := Zp H hb
  refine Jh (Xx (Jz (Zf (fun K hK57 => Zv (Zd hK57 (Zf (fun K hK58 => Zg ?_)))))))
  refine Zb 1 rfl (Zh (Zd hK58 (Zl (Yn (Zm rfl (RV.tmp rfl RV.nil) rfl ?_)))))
  obtain rfl := QJ H
  replace hS := hS.cut 0
  exact ⟨rfl, hS⟩
 replace H := Zq H hb
 refine Zv (Zd hK44 (Zf (fun K hK60 => Zf (fun K hK61 => Zg (Za rfl rfl rfl (Zc V3 rfl) (Za rfl rfl rfl (Zi Zbi rfl (Zgf _) hS Vt trivial Yw) (Za rfl rfl rfl (Yl rfl rfl) ?_)))))))
 refine Zb 1 rfl (Zs 59 rfl (fun hb => ?_) (fun hb => ?_))
 rotate_left
 ·replace H := Zq H hb
  refine Zb 10 rfl (Zh (Zd hK61 (Ym rfl rfl (Zv (Zd hK60 (Zf (fun K hK115 => Zf (fun K hK116 => ?_))))))))
  refine Zg (Za rfl rfl rfl (Zc fo_36_8 rfl) (Za rfl rfl rfl (Zi sc_4 rfl (Zgf _) hS Vt trivial sg8_1) (Zb 1 rfl (Zs 72 rfl (fun hb => ?_) (fun hb => ?_)))))
  rotate_left
  ·replace H := Zq H hb
   refine Zb 9 rfl (Zh (Zd hK116 (Ym rfl rfl (Zv (Zd hK115 (Zf (fun K hK147 => Zf (fun K hK148 => ?_))))))))
   refine Zg (Za rfl rfl rfl (Zc V3 rfl) (Za rfl rfl rfl (Zi Zbi rfl (Zgf _) hS Vt trivial Yw) (Za rfl rfl rfl (Xh rfl rfl) (Zh (Zd hK148 (Zx rfl (fun hb => ?_) (fun hb => ?_)))))))
   rotate_left
   ·replace H := Zq H hb
    refine Zv (Zd hK147 (Zf (fun K hK156 => Zf (fun K hK157 => Zg (Za rfl rfl rfl (Zc Xm rfl) (Za rfl rfl rfl (Zk Y3 rfl (Zgf _) hS Vt trivial Zag) (Za rfl rfl rfl (Vk (cells := [.int .i64 0, .int .i64 0, .int .i64 0, .int .i64 0, .bool false]) rfl (by kernel_rfl)) ?_)))))))
    refine Za rfl rfl rfl (Zap (by kernel_rfl) rfl rfl (Jg _ _ _ _ _ _ _ _ _ _)) (Zb 1 rfl (Zh (Zd hK157 (Zl (Ze (Yn (Zm rfl (RV.tmp rfl RV.nil) rfl ?_)))))))
    obtain rfl := QJ H
    replace hS := hS.cut 0
    exact ⟨rfl, hS⟩
   replace H := Zp H hb
   refine Zf (fun K hK150 => Zg (Za rfl rfl rfl (Zc Xm rfl) (Za rfl rfl rfl (Zc Ys rfl) (Za rfl rfl rfl (Zi Zy rfl (Zgf _) hS Vt trivial Xv) (Za rfl rfl rfl (Y8 rfl rfl) (Zb 1 rfl (Zs 89 rfl (fun hb => ?_) (fun hb => ?_))))))))
   rotate_left
   ·replace H := Zq H hb
    refine Zb 5 rfl (Zh (Zd hK150 (Zl (Ze (Yn (Zm rfl (RV.tmp rfl RV.nil) rfl ?_))))))
    obtain rfl := QJ H
    replace hS := hS.cut 0
    exact ⟨rfl, hS⟩
   replace H := Zp H hb
   refine Za rfl rfl rfl (Zc Xm rfl) (Za rfl rfl rfl (Zk Y3 rfl (Zgf _) hS Vt trivial Zag) ?_)
   obtain ⟨r152, hm153, H⟩ := bind_some H
   refine Zt rfl rfl rfl rfl (by kernel_rfl) rfl (Zch x0.snap _ hm153) ?_
   rintro e w ⟨rfl, hN⟩; refine ⟨_, rfl, ?_⟩; obtain ⟨hB, hS⟩ := hS.jn hN
   refine Zb 2 rfl (Zh (Zd hK150 (Zl (Ze (Yn (Zm rfl (RV.tmp rfl RV.nil) rfl ?_))))))
   obtain rfl := QJ H
   replace hS := hS.cut 0
   exact ⟨rfl, hS⟩
  replace H := Zp H hb
  refine Za rfl rfl rfl (Zc V3 rfl) (Za rfl rfl rfl (Zi Zbi rfl (Zgf _) hS Vt trivial Yw) (Za rfl rfl rfl (Yl rfl rfl) (Zb 2 rfl (Zs 77 rfl (fun hb => ?_) (fun hb => ?_)))))
  rotate_left
  ·replace H := Zq H hb
   refine Zb 4 rfl (Zh (Zd hK116 (Ym rfl rfl (Zv (Zd hK115 (Zf (fun K hK135 => Zf (fun K hK136 => ?_))))))))
   refine Zg (Za rfl rfl rfl (Zc V3 rfl) (Za rfl rfl rfl (Zi Zbi rfl (Zgf _) hS Vt trivial Yw) (Za rfl rfl rfl (Xh rfl rfl) (Zh (Zd hK136 (Zx rfl (fun hb => ?_) (fun hb => ?_)))))))
   rotate_left
   ·replace H := Zq H hb
    refine Zv (Zd hK135 (Zf (fun K hK144 => Zf (fun K hK145 => Zg (Za rfl rfl rfl (Zc Xm rfl) (Za rfl rfl rfl (Zk Y3 rfl (Zgf _) hS Vt trivial Zag) (Za rfl rfl rfl (Vk (cells := [.int .i64 0, .int .i64 0, .int .i64 0, .int .i64 0, .bool false]) rfl (by kernel_rfl)) ?_)))))))
    refine Za rfl rfl rfl (Zap (by kernel_rfl) rfl rfl (Jg _ _ _ _ _ _ _ _ _ _)) (Zb 1 rfl (Zh (Zd hK145 (Zl (Ze (Yn (Zm rfl (RV.tmp rfl RV.nil) rfl ?_)))))))
    obtain rfl := QJ H
    replace hS := hS.cut 0
    exact ⟨rfl, hS⟩
   replace H := Zp H hb
   refine Zf (fun K hK138 => Zg (Za rfl rfl rfl (Zc Xm rfl) (Za rfl rfl rfl (Zc Ys rfl) (Za rfl rfl rfl (Zi Zy rfl (Zgf _) hS Vt trivial Xv) (Za rfl rfl rfl (Y8 rfl rfl) (Zb 1 rfl (Zs 89 rfl (fun hb => ?_) (fun hb => ?_))))))))
   rotate_left
   ·replace H := Zq H hb
    refine Zb 5 rfl (Zh (Zd hK138 (Zl (Ze (Yn (Zm rfl (RV.tmp rfl RV.nil) rfl ?_))))))
    obtain rfl := QJ H
    replace hS := hS.cut 0
    exact ⟨rfl, hS⟩
   replace H := Zp H hb
   refine Za rfl rfl rfl (Zc Xm rfl) (Za rfl rfl rfl (Zk Y3 rfl (Zgf _) hS Vt trivial Zag) ?_)
   obtain ⟨r140, hm141, H⟩ := bind_some H
   refine Zt rfl rfl rfl rfl (by kernel_rfl) rfl (Zch x0.snap _ hm141) ?_
   rintro e w ⟨rfl, hN⟩; refine ⟨_, rfl, ?_⟩; obtain ⟨hB, hS⟩ := hS.jn hN
   refine Zb 2 rfl (Zh (Zd hK138 (Zl (Ze (Yn (Zm rfl (RV.tmp rfl RV.nil) rfl ?_))))))
   obtain rfl := QJ H
   replace hS := hS.cut 0
   exact ⟨rfl, hS⟩
  replace H := Zp H hb
  refine Za rfl rfl rfl (Zc V3 rfl) (Za rfl rfl rfl (Zi Zbi rfl (Zgf _) hS Vt trivial Yw) (Za rfl rfl rfl (Yl rfl rfl) (Zb 1 rfl (Zh (Zd hK116 (Zx rfl (fun hb => ?_) (fun hb => ?_)))))))
  ·replace H := Zp H hb
   refine Jh (Xx (Jz (Zf (fun K hK120 => Zv (Zd hK120 (Zf (fun K hK121 => Zg ?_)))))))
   refine Zb 1 rfl (Zh (Zd hK121 (Zl (Yn (Zm rfl (RV.tmp rfl RV.nil) rfl ?_)))))
   obtain rfl := QJ H
   replace hS := hS.cut 0
   exact ⟨rfl, hS⟩
  replace H := Zq H hb
  refine Zv (Zd hK115 (Zf (fun K hK123 => Zf (fun K hK124 => Zg (Za rfl rfl rfl (Zc V3 rfl) (Za rfl rfl rfl (Zi Zbi rfl (Zgf _) hS Vt trivial Yw) (Za rfl rfl rfl (Xh rfl rfl) ?_)))))))
  refine Zh (Zd hK124 (Zx rfl (fun hb => ?_) (fun hb => ?_)))
  rotate_left
  ·replace H := Zq H hb
   refine Zv (Zd hK123 (Zf (fun K hK132 => Zf (fun K hK133 => Zg (Za rfl rfl rfl (Zc Xm rfl) (Za rfl rfl rfl (Zk Y3 rfl (Zgf _) hS Vt trivial Zag) (Za rfl rfl rfl (Vk (cells := [.int .i64 0, .int .i64 0, .int .i64 0, .int .i64 0, .bool false]) rfl (by kernel_rfl)) ?_)))))))
   refine Za rfl rfl rfl (Zap (by kernel_rfl) rfl rfl (Jg _ _ _ _ _ _ _ _ _ _)) (Zb 1 rfl (Zh (Zd hK133 (Zl (Ze (Yn (Zm rfl (RV.tmp rfl RV.nil) rfl ?_)))))))
   obtain rfl := QJ H
   replace hS := hS.cut 0
   exact ⟨rfl, hS⟩
  replace H := Zp H hb
  refine Zf (fun K hK126 => Zg (Za rfl rfl rfl (Zc Xm rfl) (Za rfl rfl rfl (Zc Ys rfl) (Za rfl rfl rfl (Zi Zy rfl (Zgf _) hS Vt trivial Xv) (Za rfl rfl rfl (Y8 rfl rfl) (Zb 1 rfl (Zs 89 rfl (fun hb => ?_) (fun hb => ?_))))))))
  rotate_left
  ·replace H := Zq H hb
   refine Zb 5 rfl (Zh (Zd hK126 (Zl (Ze (Yn (Zm rfl (RV.tmp rfl RV.nil) rfl ?_))))))
   obtain rfl := QJ H
   replace hS := hS.cut 0
   exact ⟨rfl, hS⟩
  replace H := Zp H hb
  refine Za rfl rfl rfl (Zc Xm rfl) (Za rfl rfl rfl (Zk Y3 rfl (Zgf _) hS Vt trivial Zag) ?_)
  obtain ⟨r128, hm129, H⟩ := bind_some H
  refine Zt rfl rfl rfl rfl (by kernel_rfl) rfl (Zch x0.snap _ hm129) ?_
  rintro e w ⟨rfl, hN⟩; refine ⟨_, rfl, ?_⟩; obtain ⟨hB, hS⟩ := hS.jn hN
  refine Zb 2 rfl (Zh (Zd hK126 (Zl (Ze (Yn (Zm rfl (RV.tmp rfl RV.nil) rfl ?_))))))
  obtain rfl := QJ H
  replace hS := hS.cut 0
  exact ⟨rfl, hS⟩
 replace H := Zp H hb
 refine Za rfl rfl rfl (Zc Zb2 rfl) (Za rfl rfl rfl (Zi Y6 rfl (Zgf _) hS Vt trivial Xt) (Za rfl rfl rfl (Yb Y1 rfl) (Za rfl rfl rfl (Y8 rfl rfl) (Zb 1 rfl (Zs 64 rfl (fun hb => ?_) (fun hb => ?_))))))
 ·replace H := Zp H hb
  refine Zb 5 rfl (Zh (Zd hK61 (Zn rfl rfl (Jh (Xx (Jz (Zf (fun K hK64 => ?_))))))))
  refine Zv (Zd hK64 (Zf (fun K hK65 => Zg (Zb 1 rfl (Zh (Zd hK65 (Zl ?_)))))))
  refine Yn (Zm rfl (RV.tmp rfl RV.nil) rfl ?_)
  obtain rfl := QJ H
  replace hS := hS.cut 0
  exact ⟨rfl, hS⟩
 replace H := Zq H hb
 refine Za rfl rfl rfl (Zc fo_36_7 rfl) (Za rfl rfl rfl (Zi Zy rfl (Zgf _) hS Vt trivial sg7_1) (Za rfl rfl rfl (Y8 rfl rfl) (Zb 2 rfl (Zh (Zd hK61 (Zx rfl (fun hb => ?_) (fun hb => ?_)))))))
 ·replace H := Zp H hb
  refine Jh (Xx (Jz (Zf (fun K hK68 => Zv (Zd hK68 (Zf (fun K hK69 => Zg ?_)))))))
  refine Zb 1 rfl (Zh (Zd hK69 (Zl (Yn (Zm rfl (RV.tmp rfl RV.nil) rfl ?_)))))
  obtain rfl := QJ H
  replace hS := hS.cut 0
  exact ⟨rfl, hS⟩
 replace H := Zq H hb
 refine Zv (Zd hK60 (Zf (fun K hK71 => Zf (fun K hK72 => Zg (Za rfl rfl rfl (Zc fo_36_8 rfl) (Za rfl rfl rfl (Zi sc_4 rfl (Zgf _) hS Vt trivial sg8_1) (Zb 1 rfl ?_)))))))
 refine Zs 72 rfl (fun hb => ?_) (fun hb => ?_)
 rotate_left
 ·replace H := Zq H hb
  refine Zb 9 rfl (Zh (Zd hK72 (Ym rfl rfl (Zv (Zd hK71 (Zf (fun K hK103 => Zf (fun K hK104 => ?_))))))))
  refine Zg (Za rfl rfl rfl (Zc V3 rfl) (Za rfl rfl rfl (Zi Zbi rfl (Zgf _) hS Vt trivial Yw) (Za rfl rfl rfl (Xh rfl rfl) (Zh (Zd hK104 (Zx rfl (fun hb => ?_) (fun hb => ?_)))))))
  rotate_left
  ·replace H := Zq H hb
   refine Zv (Zd hK103 (Zf (fun K hK112 => Zf (fun K hK113 => Zg (Za rfl rfl rfl (Zc Xm rfl) (Za rfl rfl rfl (Zk Y3 rfl (Zgf _) hS Vt trivial Zag) (Za rfl rfl rfl (Vk (cells := [.int .i64 0, .int .i64 0, .int .i64 0, .int .i64 0, .bool false]) rfl (by kernel_rfl)) ?_)))))))
   refine Za rfl rfl rfl (Zap (by kernel_rfl) rfl rfl (Jg _ _ _ _ _ _ _ _ _ _)) (Zb 1 rfl (Zh (Zd hK113 (Zl (Ze (Yn (Zm rfl (RV.tmp rfl RV.nil) rfl ?_)))))))
   obtain rfl := QJ H
   replace hS := hS.cut 0
   exact ⟨rfl, hS⟩
  replace H := Zp H hb
  refine Zf (fun K hK106 => Zg (Za rfl rfl rfl (Zc Xm rfl) (Za rfl rfl rfl (Zc Ys rfl) (Za rfl rfl rfl (Zi Zy rfl (Zgf _) hS Vt trivial Xv) (Za rfl rfl rfl (Y8 rfl rfl) (Zb 1 rfl (Zs 89 rfl (fun hb => ?_) (fun hb => ?_))))))))
  rotate_left
  ·replace H := Zq H hb
   refine Zb 5 rfl (Zh (Zd hK106 (Zl (Ze (Yn (Zm rfl (RV.tmp rfl RV.nil) rfl ?_))))))
   obtain rfl := QJ H
   replace hS := hS.cut 0
   exact ⟨rfl, hS⟩
  replace H := Zp H hb
  refine Za rfl rfl rfl (Zc Xm rfl) (Za rfl rfl rfl (Zk Y3 rfl (Zgf _) hS Vt trivial Zag) ?_)
  obtain ⟨r108, hm109, H⟩ := bind_some H
  refine Zt rfl rfl rfl rfl (by kernel_rfl) rfl (Zch x0.snap _ hm109) ?_
  rintro e w ⟨rfl, hN⟩; refine ⟨_, rfl, ?_⟩; obtain ⟨hB, hS⟩ := hS.jn hN
  refine Zb 2 rfl (Zh (Zd hK106 (Zl (Ze (Yn (Zm rfl (RV.tmp rfl RV.nil) rfl ?_))))))
  obtain rfl := QJ H
  replace hS := hS.cut 0
  exact ⟨rfl, hS⟩
 replace H := Zp H hb
 refine Za rfl rfl rfl (Zc V3 rfl) (Za rfl rfl rfl (Zi Zbi rfl (Zgf _) hS Vt trivial Yw) (Za rfl rfl rfl (Yl rfl rfl) (Zb 2 rfl (Zs 77 rfl (fun hb => ?_) (fun hb => ?_)))))
 rotate_left
 ·replace H := Zq H hb
  refine Zb 4 rfl (Zh (Zd hK72 (Ym rfl rfl (Zv (Zd hK71 (Zf (fun K hK91 => Zf (fun K hK92 => ?_))))))))
  refine Zg (Za rfl rfl rfl (Zc V3 rfl) (Za rfl rfl rfl (Zi Zbi rfl (Zgf _) hS Vt trivial Yw) (Za rfl rfl rfl (Xh rfl rfl) (Zh (Zd hK92 (Zx rfl (fun hb => ?_) (fun hb => ?_)))))))
  rotate_left
  ·replace H := Zq H hb
   refine Zv (Zd hK91 (Zf (fun K hK100 => Zf (fun K hK101 => Zg (Za rfl rfl rfl (Zc Xm rfl) (Za rfl rfl rfl (Zk Y3 rfl (Zgf _) hS Vt trivial Zag) (Za rfl rfl rfl (Vk (cells := [.int .i64 0, .int .i64 0, .int .i64 0, .int .i64 0, .bool false]) rfl (by kernel_rfl)) ?_)))))))
   refine Za rfl rfl rfl (Zap (by kernel_rfl) rfl rfl (Jg _ _ _ _ _ _ _ _ _ _)) (Zb 1 rfl (Zh (Zd hK101 (Zl (Ze (Yn (Zm rfl (RV.tmp rfl RV.nil) rfl ?_)))))))
   obtain rfl := QJ H
   replace hS := hS.cut 0
   exact ⟨rfl, hS⟩
  replace H := Zp H hb
  refine Zf (fun K hK94 => Zg (Za rfl rfl rfl (Zc Xm rfl) (Za rfl rfl rfl (Zc Ys rfl) (Za rfl rfl rfl (Zi Zy rfl (Zgf _) hS Vt trivial Xv) (Za rfl rfl rfl (Y8 rfl rfl) (Zb 1 rfl (Zs 89 rfl (fun hb => ?_) (fun hb => ?_))))))))
  rotate_left
  ·replace H := Zq H hb
   refine Zb 5 rfl (Zh (Zd hK94 (Zl (Ze (Yn (Zm rfl (RV.tmp rfl RV.nil) rfl ?_))))))
   obtain rfl := QJ H
   replace hS := hS.cut 0
   exact ⟨rfl, hS⟩
  replace H := Zp H hb
  refine Za rfl rfl rfl (Zc Xm rfl) (Za rfl rfl rfl (Zk Y3 rfl (Zgf _) hS Vt trivial Zag) ?_)
  obtain ⟨r96, hm97, H⟩ := bind_some H
  refine Zt rfl rfl rfl rfl (by kernel_rfl) rfl (Zch x0.snap _ hm97) ?_
  rintro e w ⟨rfl, hN⟩; refine ⟨_, rfl, ?_⟩; obtain ⟨hB, hS⟩ := hS.jn hN
  refine Zb 2 rfl (Zh (Zd hK94 (Zl (Ze (Yn (Zm rfl (RV.tmp rfl RV.nil) rfl ?_))))))
  obtain rfl := QJ H
  replace hS := hS.cut 0
  exact ⟨rfl, hS⟩
 replace H := Zp H hb
 refine Za rfl rfl rfl (Zc V3 rfl) (Za rfl rfl rfl (Zi Zbi rfl (Zgf _) hS Vt trivial Yw) (Za rfl rfl rfl (Yl rfl rfl) (Zb 1 rfl (Zh (Zd hK72 (Zx rfl (fun hb => ?_) (fun hb => ?_)))))))
 ·replace H := Zp H hb
  refine Jh (Xx (Jz (Zf (fun K hK76 => Zv (Zd hK76 (Zf (fun K hK77 => Zg ?_)))))))
  refine Zb 1 rfl (Zh (Zd hK77 (Zl (Yn (Zm rfl (RV.tmp rfl RV.nil) rfl ?_)))))
  obtain rfl := QJ H
  replace hS := hS.cut 0
  exact ⟨rfl, hS⟩
 replace H := Zq H hb
 refine Zv (Zd hK71 (Zf (fun K hK79 => Zf (fun K hK80 => Zg (Za rfl rfl rfl (Zc V3 rfl) (Za rfl rfl rfl (Zi Zbi rfl (Zgf _) hS Vt trivial Yw) (Za rfl rfl rfl (Xh rfl rfl) ?_)))))))
 refine Zh (Zd hK80 (Zx rfl (fun hb => ?_) (fun hb => ?_)))
 rotate_left
 ·replace H := Zq H hb
  refine Zv (Zd hK79 (Zf (fun K hK88 => Zf (fun K hK89 => Zg (Za rfl rfl rfl (Zc Xm rfl) (Za rfl rfl rfl (Zk Y3 rfl (Zgf _) hS Vt trivial Zag) (Za rfl rfl rfl (Vk (cells := [.int .i64 0, .int .i64 0, .int .i64 0, .int .i64 0, .bool false]) rfl (by kernel_rfl)) ?_)))))))
  refine Za rfl rfl rfl (Zap (by kernel_rfl) rfl rfl (Jg _ _ _ _ _ _ _ _ _ _)) (Zb 1 rfl (Zh (Zd hK89 (Zl (Ze (Yn (Zm rfl (RV.tmp rfl RV.nil) rfl ?_)))))))
  obtain rfl := QJ H
  replace hS := hS.cut 0
  exact ⟨rfl, hS⟩
 replace H := Zp H hb
 refine Zf (fun K hK82 => Zg (Za rfl rfl rfl (Zc Xm rfl) (Za rfl rfl rfl (Zc Ys rfl) (Za rfl rfl rfl (Zi Zy rfl (Zgf _) hS Vt trivial Xv) (Za rfl rfl rfl (Y8 rfl rfl) (Zb 1 rfl (Zs 89 rfl (fun hb => ?_) (fun hb => ?_))))))))
 rotate_left
 ·replace H := Zq H hb
  refine Zb 5 rfl (Zh (Zd hK82 (Zl (Ze (Yn (Zm rfl (RV.tmp rfl RV.nil) rfl ?_))))))
  obtain rfl := QJ H
  replace hS := hS.cut 0
  exact ⟨rfl, hS⟩
 replace H := Zp H hb
 refine Za rfl rfl rfl (Zc Xm rfl) (Za rfl rfl rfl (Zk Y3 rfl (Zgf _) hS Vt trivial Zag) ?_)
 obtain ⟨r84, hm85, H⟩ := bind_some H
 refine Zt rfl rfl rfl rfl (by kernel_rfl) rfl (Zch x0.snap _ hm85) ?_
 rintro e w ⟨rfl, hN⟩; refine ⟨_, rfl, ?_⟩; obtain ⟨hB, hS⟩ := hS.jn hN
 refine Zb 2 rfl (Zh (Zd hK82 (Zl (Ze (Yn (Zm rfl (RV.tmp rfl RV.nil) rfl ?_))))))
 obtain rfl := QJ H
 replace hS := hS.cut 0
 exact ⟨rfl, hS⟩
theorem c_elect_fits (x0 : Co) (x1 : Ms) (A0_ : OA) (c0_ : Nat) (A1_ : OA) (c1_ : Nat) (A2_ : OA) (c2_ : Nat) (A3_ : OA) (c3_ : Nat) (A4_ : OA) (c4_ : Nat) (A5_ : OA) (c5_ : Nat) (w0 : World) (s0_ : SlI w0 enE A0_ c0_ x0.tuple.log) (s1_ : SlI w0 enO A1_ c1_ x0.votes) (s2_ : SlI w0 Vr A2_ c2_ x0.next) (s3_ : SlI w0 Vr A3_ c3_ x0.mtch) (s4_ : SlI w0 Vr A4_ c4_ x0.caps) (s5_ : SlW w0 enE A5_ c5_ x1.entries) {r : Bool} (H : Zbo x0 x1 = some r) : Calls Try.prog 48 #[.agg #[.int .i64 x0.id, .int .i64 x0.n, .int .u8 x0.role, .int .i64 x0.binary, .int .i64 x0.tuple.snap.index, .int .i64 x0.tuple.snap.term, .int .i64 x0.tuple.snap.sum, .int .i64 x0.tuple.snap.level, .bool x0.tuple.snap.final, .slice A0_ x0.tuple.log.length c0_, .int .i64 x0.tuple.term, .int .i64 x0.tuple.vote, .int .i64 x0.commit, .int .i64 x0.applied.index, .int .i64 x0.applied.term, .int .i64 x0.applied.sum, .int .i64 x0.applied.level, .bool x0.applied.final, .slice A1_ x0.votes.length c1_, .slice A2_ x0.next.length c2_, .slice A3_ x0.mtch.length c3_, .slice A4_ x0.caps.length c4_], .agg #[.int .u8 x1.kind, .int .i64 x1.frm, .int .i64 x1.dst, .int .i64 x1.term, .int .i64 x1.cap, .int .i64 x1.last, .int .i64 x1.lastTerm, .int .i64 x1.commit, .bool x1.okk, .slice A5_ x1.entries.length c5_, .int .i64 x1.snap.index, .int .i64 x1.snap.term, .int .i64 x1.snap.sum, .int .i64 x1.snap.level, .bool x1.snap.final]] w0 fun e w' => e = .returned (.bool r) ∧ St0 All w0 w' [] := by
 unfold Zbo at H
 refine Xw Try.func48 rfl Try.ntmps48 rfl ?_
 have hS := St0.start All w0
 refine Zf (fun K hK1 => Zg (Yq rfl rfl rfl CellsOf.agg hS (fun b2 w hS hB => Yq rfl rfl rfl CellsOf.agg hS (fun b4 w hS hB => Zb 1 rfl (Zh (Zd hK1 (Zf (fun K hK6 => ?_))))))))
 refine Zg (Za rfl rfl rfl (Zc Zc5 rfl) (Za rfl rfl rfl (Zi Zy rfl (Zgf _) hS hs0 trivial Zbj) (Za rfl rfl rfl (Zc Xb rfl) (Za rfl rfl rfl (Zi Zy rfl (Zgf _) hS X9 trivial Yw) (Za rfl rfl rfl (Xh rfl rfl) (Zb 1 rfl (Zs 10 rfl (fun hb => ?_) (fun hb => ?_))))))))
 rotate_left
 ·replace H := Zq H hb
  refine Zb 10 rfl (Zh (Zd hK6 (Zl (Zm rfl (RV.tmp rfl RV.nil) rfl ?_))))
  obtain rfl := QJ H
  replace hS := hS.cut 0
  exact ⟨rfl, hS⟩
 replace H := Zp H hb
 refine Za rfl rfl rfl (Zk Vz rfl (Zgf _) hS hs0 trivial X7) (Za rfl rfl rfl (Zc Yx rfl) (Za rfl rfl rfl (Zi Zy rfl (Zgf _) hS X9 trivial Xd) ?_))
 obtain ⟨r8, hm9, H⟩ := bind_some H
 refine Zt rfl rfl rfl rfl (by kernel_rfl) rfl (c_msg_Fine x1 x0.n A5_ c5_ _ (SlW.of_rd s5_.k (hS.rd0 s5_.rd)) hm9) ?_
 rintro e w ⟨rfl, hN⟩; refine ⟨_, rfl, ?_⟩; obtain ⟨hB, hS⟩ := hS.jn hN
 refine Zb 2 rfl (Zs 16 rfl (fun hb => ?_) (fun hb => ?_))
 rotate_left
 ·replace H := Zq H hb
  refine Zb 4 rfl (Zh (Zd hK6 (Zl (Zm rfl (RV.tmp rfl RV.nil) rfl ?_))))
  obtain rfl := QJ H
  replace hS := hS.cut 0
  exact ⟨rfl, hS⟩
 replace H := Zp H hb
 refine Za rfl rfl rfl (Zk Ya rfl (Zgf _) hS X9 trivial Z1) ?_
 obtain ⟨r11, hm12, H⟩ := bind_some H
 refine Zt rfl rfl rfl rfl (by kernel_rfl) rfl (Zdb x0 A0_ c0_ A1_ c1_ A2_ c2_ A3_ c3_ A4_ c4_ _ (Zgi s0_.k (hS.rd0 s0_.rd) (hS.blk0 s0_.blk)) (Zgi s1_.k (hS.rd0 s1_.rd) (hS.blk0 s1_.blk)) (Zgi s2_.k (hS.rd0 s2_.rd) (hS.blk0 s2_.blk)) (Zgi s3_.k (hS.rd0 s3_.rd) (hS.blk0 s3_.blk)) (Zgi s4_.k (hS.rd0 s4_.rd) (hS.blk0 s4_.blk)) hm12) ?_
 rintro e w ⟨rfl, hN⟩; refine ⟨_, rfl, ?_⟩; obtain ⟨hB, hS⟩ := hS.jn hN
 refine Zb 2 rfl (Zh (Zd hK6 (Zl (Zm rfl (RV.tmp rfl RV.nil) rfl ?_))))
 obtain rfl := QJ H
 replace hS := hS.cut 0
 exact ⟨rfl, hS⟩
theorem c_advert_To (x0 : Co) (x1 : Ms) (A0_ : OA) (c0_ : Nat) (A1_ : OA) (c1_ : Nat) (A2_ : OA) (c2_ : Nat) (A3_ : OA) (c3_ : Nat) (A4_ : OA) (c4_ : Nat) (A5_ : OA) (c5_ : Nat) (w0 : World) (s0_ : SlI w0 enE A0_ c0_ x0.tuple.log) (s1_ : SlI w0 enO A1_ c1_ x0.votes) (s2_ : SlI w0 Vr A2_ c2_ x0.next) (s3_ : SlI w0 Vr A3_ c3_ x0.mtch) (s4_ : SlI w0 Vr A4_ c4_ x0.caps) (s5_ : SlW w0 enE A5_ c5_ x1.entries) {r : Bool} (H : Zed x0 x1 = some r) : Calls Try.prog 60 #[.agg #[.int .i64 x0.id, .int .i64 x0.n, .int .u8 x0.role, .int .i64 x0.binary, .int .i64 x0.tuple.snap.index, .int .i64 x0.tuple.snap.term, .int .i64 x0.tuple.snap.sum, .int .i64 x0.tuple.snap.level, .bool x0.tuple.snap.final, .slice A0_ x0.tuple.log.length c0_, .int .i64 x0.tuple.term, .int .i64 x0.tuple.vote, .int .i64 x0.commit, .int .i64 x0.applied.index, .int .i64 x0.applied.term, .int .i64 x0.applied.sum, .int .i64 x0.applied.level, .bool x0.applied.final, .slice A1_ x0.votes.length c1_, .slice A2_ x0.next.length c2_, .slice A3_ x0.mtch.length c3_, .slice A4_ x0.caps.length c4_], .agg #[.int .u8 x1.kind, .int .i64 x1.frm, .int .i64 x1.dst, .int .i64 x1.term, .int .i64 x1.cap, .int .i64 x1.last, .int .i64 x1.lastTerm, .int .i64 x1.commit, .bool x1.okk, .slice A5_ x1.entries.length c5_, .int .i64 x1.snap.index, .int .i64 x1.snap.term, .int .i64 x1.snap.sum, .int .i64 x1.snap.level, .bool x1.snap.final]] w0 fun e w' => e = .returned (.bool r) ∧ St0 All w0 w' [] := by
 unfold Zed at H
 refine Xw Try.func60 rfl Try.ntmps60 rfl ?_
 have hS := St0.start All w0
 refine Zf (fun K hK1 => Zg (Yq rfl rfl rfl CellsOf.agg hS (fun b2 w hS hB => Yq rfl rfl rfl CellsOf.agg hS (fun b4 w hS hB => Zb 1 rfl (Zh (Zd hK1 (wpC_scope1 0 rfl ?_)))))))
 refine Zf (fun K hK6 => Zf (fun K hK7 => Zg (Za rfl rfl rfl (Zc Zc5 rfl) (Za rfl rfl rfl (Zi Zy rfl (Zgf _) hS hs0 trivial Zbj) (Za rfl rfl rfl (Zc Xb rfl) (Za rfl rfl rfl (Zi Zy rfl (Zgf _) hS X9 trivial Yw) (Za rfl rfl rfl (Yl rfl rfl) ?_)))))))
 refine Zb 1 rfl (Zs 10 rfl (fun hb => ?_) (fun hb => ?_))
 ·replace H := Zp H hb
  refine Zb 4 rfl (Zh (Zd hK7 (Zn rfl rfl (Jh (Xx (Jz (Zf (fun K hK9 => ?_))))))))
  refine Zv (Zd hK9 (Zf (fun K hK10 => Zg (Zb 2 rfl (Zh (Zd hK10 (Zl ?_)))))))
  refine Yn (Zm rfl (RV.tmp rfl RV.nil) rfl ?_)
  obtain rfl := QJ H
  replace hS := hS.cut 0
  exact ⟨rfl, hS⟩
 replace H := Zq H hb
 refine Za rfl rfl rfl (Zk Ya rfl (Zgf _) hS X9 trivial Z1) ?_
 obtain ⟨r12, hm13, H⟩ := bind_some H
 refine Zt rfl rfl rfl rfl (by kernel_rfl) rfl (Zdb x0 A0_ c0_ A1_ c1_ A2_ c2_ A3_ c3_ A4_ c4_ _ (Zgi s0_.k (hS.rd0 s0_.rd) (hS.blk0 s0_.blk)) (Zgi s1_.k (hS.rd0 s1_.rd) (hS.blk0 s1_.blk)) (Zgi s2_.k (hS.rd0 s2_.rd) (hS.blk0 s2_.blk)) (Zgi s3_.k (hS.rd0 s3_.rd) (hS.blk0 s3_.blk)) (Zgi s4_.k (hS.rd0 s4_.rd) (hS.blk0 s4_.blk)) hm13) ?_
 rintro e w ⟨rfl, hN⟩; refine ⟨_, rfl, ?_⟩; obtain ⟨hB, hS⟩ := hS.jn hN
 refine Za rfl rfl rfl (Yt rfl) (Zb 1 rfl (Zh (Zd hK7 (Zx rfl (fun hb => ?_) (fun hb => ?_)))))
 ·replace H := Zp H hb
  refine Jh (Xx (Jz (Zf (fun K hK15 => Zv (Zd hK15 (Zf (fun K hK16 => Zg ?_)))))))
  refine Zb 2 rfl (Zh (Zd hK16 (Zl (Yn (Zm rfl (RV.tmp rfl RV.nil) rfl ?_)))))
  obtain rfl := QJ H
  replace hS := hS.cut 0
  exact ⟨rfl, hS⟩
 replace H := Zq H hb
 refine Zv (Zd hK6 (Zf (fun K hK18 => Zg (Za rfl rfl rfl (Zk Vz rfl (Zgf _) hS hs0 trivial X7) (Za rfl rfl rfl (Zc Yx rfl) (Za rfl rfl rfl (Zi Zy rfl (Zgf _) hS X9 trivial Xd) ?_))))))
 obtain ⟨r19, hm20, H⟩ := bind_some H
 refine Zt rfl rfl rfl rfl (by kernel_rfl) rfl (c_msg_Fine x1 x0.n A5_ c5_ _ (SlW.of_rd s5_.k (hS.rd0 s5_.rd)) hm20) ?_
 rintro e w ⟨rfl, hN⟩; refine ⟨_, rfl, ?_⟩; obtain ⟨hB, hS⟩ := hS.jn hN
 refine Zb 1 rfl (Zh (Zd hK18 (Zf (fun K hK21 => Zd0 (Zd hK21 (Zf (fun K hK22 => Zg ?_)))))))
 refine Zb 2 rfl (Zh (Zd hK22 (Zl (Yn (Zm rfl (RV.tmp rfl RV.nil) rfl ?_)))))
 obtain rfl := QJ H
 replace hS := hS.cut 0
 exact ⟨rfl, hS⟩
theorem c_advert_Hear (x0 : Co) (x1 : Ms) (A0_ : OA) (c0_ : Nat) (A1_ : OA) (c1_ : Nat) (A2_ : OA) (c2_ : Nat) (A3_ : OA) (c3_ : Nat) (A4_ : OA) (c4_ : Nat) (A5_ : OA) (c5_ : Nat) (w0 : World) (s0_ : SlI w0 enE A0_ c0_ x0.tuple.log) (s1_ : SlI w0 enO A1_ c1_ x0.votes) (s2_ : SlI w0 Vr A2_ c2_ x0.next) (s3_ : SlI w0 Vr A3_ c3_ x0.mtch) (s4_ : SlI w0 Vr A4_ c4_ x0.caps) (s5_ : SlW w0 enE A5_ c5_ x1.entries) {r : Co} (H : Zc0 x0 x1 = some r) : Calls Try.prog 68 #[.agg #[.int .i64 x0.id, .int .i64 x0.n, .int .u8 x0.role, .int .i64 x0.binary, .int .i64 x0.tuple.snap.index, .int .i64 x0.tuple.snap.term, .int .i64 x0.tuple.snap.sum, .int .i64 x0.tuple.snap.level, .bool x0.tuple.snap.final, .slice A0_ x0.tuple.log.length c0_, .int .i64 x0.tuple.term, .int .i64 x0.tuple.vote, .int .i64 x0.commit, .int .i64 x0.applied.index, .int .i64 x0.applied.term, .int .i64 x0.applied.sum, .int .i64 x0.applied.level, .bool x0.applied.final, .slice A1_ x0.votes.length c1_, .slice A2_ x0.next.length c2_, .slice A3_ x0.mtch.length c3_, .slice A4_ x0.caps.length c4_], .agg #[.int .u8 x1.kind, .int .i64 x1.frm, .int .i64 x1.dst, .int .i64 x1.term, .int .i64 x1.cap, .int .i64 x1.last, .int .i64 x1.lastTerm, .int .i64 x1.commit, .bool x1.okk, .slice A5_ x1.entries.length c5_, .int .i64 x1.snap.index, .int .i64 x1.snap.term, .int .i64 x1.snap.sum, .int .i64 x1.snap.level, .bool x1.snap.final]] w0 fun e w' => ∃ (A0 : OA) (c0 : Nat) (A1 : OA) (c1 : Nat) (A2 : OA) (c2 : Nat) (A3 : OA) (c3 : Nat) (A4 : OA) (c4 : Nat), e = .returned (.agg #[.int .i64 r.id, .int .i64 r.n, .int .u8 r.role, .int .i64 r.binary, .int .i64 r.tuple.snap.index, .int .i64 r.tuple.snap.term, .int .i64 r.tuple.snap.sum, .int .i64 r.tuple.snap.level, .bool r.tuple.snap.final, .slice A0 r.tuple.log.length c0, .int .i64 r.tuple.term, .int .i64 r.tuple.vote, .int .i64 r.commit, .int .i64 r.applied.index, .int .i64 r.applied.term, .int .i64 r.applied.sum, .int .i64 r.applied.level, .bool r.applied.final, .slice A1 r.votes.length c1, .slice A2 r.next.length c2, .slice A3 r.mtch.length c3, .slice A4 r.caps.length c4]) ∧ (r.tuple.log.length ≤ c0 ∧ c0 ≤ maxLen) ∧ (r.votes.length ≤ c1 ∧ c1 ≤ maxLen) ∧ (r.next.length ≤ c2 ∧ c2 ≤ maxLen) ∧ (r.mtch.length ≤ c3 ∧ c3 ≤ maxLen) ∧ (r.caps.length ≤ c4 ∧ c4 ≤ maxLen) ∧ St0 All w0 w' [.row (.slice A0 r.tuple.log.length c0) 56 3 r.tuple.log.length (Z8 enE r.tuple.log), .row (.slice A1 r.votes.length c1) 4 1 r.votes.length (Z8 enO r.votes), .row (.slice A2 r.next.length c2) 3 1 r.next.length (Z8 Vr r.next), .row (.slice A3 r.mtch.length c3) 3 1 r.mtch.length (Z8 Vr r.mtch), .row (.slice A4 r.caps.length c4) 3 1 r.caps.length (Z8 Vr r.caps)] := by
 unfold Zc0 at H
 refine Xw Try.func68 rfl Try.ntmps68 rfl ?_
 have hS := St0.start All w0
 refine Zf (fun K hK1 => Zg (Yq rfl rfl rfl CellsOf.agg hS (fun b2 w hS hB => Yq rfl rfl rfl CellsOf.agg hS (fun b4 w hS hB => Yr rfl rfl Zcn hS (fun b6 w hS hB => Zh (Zd hK1 (Zf (fun K hK8 => ?_))))))))
 refine Yh 7 [6] (fun i b => (i = 6 → b ≠ b6)) ⟨by kernel_rfl, by kernel_rfl⟩ hS (fun w hS hB => Zo [Tt,Tt,Tt,Ff,Tt] (by decide +kernel) PFC.h (LtK.put rfl rfl rfl (Zk Ya rfl (Zgg _) hS Vt trivial Z1) (LtK.put rfl rfl rfl (Zk Ya rfl (Zgg _) hS Vt trivial Z1) (LtK.put rfl rfl rfl (Zk Vz rfl (Zgg _) hS X9 trivial X7) (LtK.put rfl rfl rfl (V0 rfl rfl) (LtK.nil (Yd [Ff,Ff,Ff,Tt] 3 ⟨by decide, by kernel_rfl, by kernel_rfl⟩ rfl rfl ?_)))))))
 try dsimp only [Z2]
 obtain ⟨r9, hm10, H⟩ := bind_some H
 refine Zt rfl rfl rfl rfl (by kernel_rfl) rfl (c_advert_To x0 x1 A0_ c0_ A1_ c1_ A2_ c2_ A3_ c3_ A4_ c4_ A5_ c5_ _ (Zgi s0_.k (hS.rd0 s0_.rd) (hS.blk0 s0_.blk)) (Zgi s1_.k (hS.rd0 s1_.rd) (hS.blk0 s1_.blk)) (Zgi s2_.k (hS.rd0 s2_.rd) (hS.blk0 s2_.blk)) (Zgi s3_.k (hS.rd0 s3_.rd) (hS.blk0 s3_.blk)) (Zgi s4_.k (hS.rd0 s4_.rd) (hS.blk0 s4_.blk)) (SlW.of_rd s5_.k (hS.rd0 s5_.rd)) hm10) ?_
 rintro e w ⟨rfl, hN⟩; refine ⟨_, rfl, ?_⟩; obtain ⟨hB, hS⟩ := hS.jn hN
 refine Zh (Ye hB (Yd [Ff,Ff,Ff,Ff,Ff,Tt] 5 ⟨by decide, by kernel_rfl, by kernel_rfl⟩ rfl rfl ?_))
 try dsimp only [Z2]
 have hO11 := hS
 rename World => wS12
 have hS := St0.start All wS12
 refine Zd3 rfl rfl rfl rfl (by kernel_rfl) rfl ?_
 show Calls _ _ #[_, _, _] _ _
 refine Zcg Try.func103 rfl Try.ntmps103 rfl (Zf (fun K hK13 => Zg (Yq rfl rfl rfl CellsOf.agg hS (fun b14 w hS hB => Yr rfl rfl Zcn hS (fun b16 w hS hB => Zh (Zd hK13 (Zf (fun K hK18 => ?_))))))))
 refine Zg (Za rfl rfl rfl (Zk Ya rfl (Zgf _) (hO11.join hS) X9 trivial Z1) ?_)
 obtain ⟨r19, hm20, H⟩ := bind_some H
 refine Zt rfl rfl rfl rfl (by kernel_rfl) rfl (Zdg x0 A0_ c0_ A1_ c1_ A2_ c2_ A3_ c3_ A4_ c4_ _ (Zgi s0_.k ((hO11.join hS).rd0 s0_.rd) ((hO11.join hS).blk0 s0_.blk)) (Zgi s1_.k ((hO11.join hS).rd0 s1_.rd) ((hO11.join hS).blk0 s1_.blk)) (Zgi s2_.k ((hO11.join hS).rd0 s2_.rd) ((hO11.join hS).blk0 s2_.blk)) (Zgi s3_.k ((hO11.join hS).rd0 s3_.rd) ((hO11.join hS).blk0 s3_.blk)) (Zgi s4_.k ((hO11.join hS).rd0 s4_.rd) ((hO11.join hS).blk0 s4_.blk)) hm20) ?_
 rintro e w ⟨A21, c22, A25, c26, A29, c30, A33, c34, A37, c38, rfl, k23, k27, k31, k35, k39, hN⟩; refine ⟨_, rfl, ?_⟩; obtain ⟨hB, hS⟩ := hS.jn hN
 refine Zr rfl rfl rfl CellsOf.agg hS ps6 Yo (by kernel_rfl) rfl (fun w hS hB => Zh (Zd hK18 (Zf (fun K hK41 => Zf (fun K hK42 => Zg (Zb 2 rfl (Zs 10 rfl (fun hb => ?_) (fun hb => ?_))))))))
 rotate_left
 ·replace H := Zq H hb
  refine Zb 3 rfl (Zh (Zd hK42 (Ym rfl rfl (Zv (Zd hK41 (Zf (fun K hK55 => Zg ?_)))))))
  refine Za rfl rfl rfl (Zk Ya rfl (Zgf _) (hO11.join hS) Vv trivial Z1) (Zr rfl rfl rfl CellsOf.agg hS ps5 Yo (by kernel_rfl) rfl (fun w hS hB => Zh (Zd hK55 (Zl (Zm rfl (RV.cell rfl (Z3 Ya (hO11.join hS) hs5 Z1) RV.nil) rfl (⟨_, rfl, ?_⟩))))))
  have hB := hS.pure
  have hS := hO11.join hS
  dsimp only [List.cons_append, List.nil_append] at hS
  refine Zh (Ye hB (Xa [Ff,Ff,Ff,Ff,Ff,Ff,Tt] 6 ⟨by decide, by kernel_rfl, by kernel_rfl⟩ rfl rfl ?_))
  try dsimp only [Z2]
  refine Zr rfl rfl rfl CellsOf.agg hS ps7 Yo (by kernel_rfl) rfl (fun w hS hB => Zh (Yu (hB.sub (fun _ _ h => by simpa using h)) (Z5 (by kernel_rfl) (Zd hK8 (Zl (Zm rfl (RV.cell rfl (Z3 Ya hS hs7 Z1) RV.nil) rfl ?_))))))
  obtain rfl := QJ H
  have hS := hS.front 4 rfl
  have hS := hS.front 4 rfl
  have hS := hS.front 4 rfl
  have hS := hS.front 4 rfl
  have hS := hS.front 4 rfl
  replace hS := hS.cut 5
  exact ⟨A21, c22, A25, c26, A29, c30, A33, c34, A37, c38, rfl, k23, k27, k31, k35, k39, hS⟩
 replace H := Zp H hb
 refine Za rfl rfl rfl (Zk Ya rfl (Zgf _) (hO11.join hS) Vv trivial Z1) ?_
 obtain ⟨r44, hm45, H⟩ := bind_some H
 refine Zt rfl rfl rfl rfl (by kernel_rfl) rfl (Zdb r19 A21 c22 A25 c26 A29 c30 A33 c34 A37 c38 _ (Zgi k23 ((hO11.join hS).row_rd hs0) ((hO11.join hS).row_blk hs0)) (Zgi k27 ((hO11.join hS).row_rd X9) ((hO11.join hS).row_blk X9)) (Zgi k31 ((hO11.join hS).row_rd Vt) ((hO11.join hS).row_blk Vt)) (Zgi k35 ((hO11.join hS).row_rd hs3) ((hO11.join hS).row_blk hs3)) (Zgi k39 ((hO11.join hS).row_rd hs4) ((hO11.join hS).row_blk hs4)) hm45) ?_
 rintro e w ⟨rfl, hN⟩; refine ⟨_, rfl, ?_⟩; obtain ⟨hB, hS⟩ := hS.jn hN
 refine Zb 1 rfl (Zh (Zd hK42 (Zx rfl (fun hb => ?_) (fun hb => ?_))))
 rotate_left
 ·replace H := Zq H hb
  refine Zv (Zd hK41 (Zf (fun K hK53 => Zg (Za rfl rfl rfl (Zk Ya rfl (Zgf _) (hO11.join hS) Vv trivial Z1) (Zr rfl rfl rfl CellsOf.agg hS ps5 Yo (by kernel_rfl) rfl (fun w hS hB => Zh (Zd hK53 ?_)))))))
  refine Zl (Zm rfl (RV.cell rfl (Z3 Ya (hO11.join hS) hs5 Z1) RV.nil) rfl (⟨_, rfl, ?_⟩))
  have hB := hS.pure
  have hS := hO11.join hS
  dsimp only [List.cons_append, List.nil_append] at hS
  refine Zh (Ye hB (Xa [Ff,Ff,Ff,Ff,Ff,Ff,Tt] 6 ⟨by decide, by kernel_rfl, by kernel_rfl⟩ rfl rfl ?_))
  try dsimp only [Z2]
  refine Zr rfl rfl rfl CellsOf.agg hS ps7 Yo (by kernel_rfl) rfl (fun w hS hB => Zh (Yu (hB.sub (fun _ _ h => by simpa using h)) (Z5 (by kernel_rfl) (Zd hK8 (Zl (Zm rfl (RV.cell rfl (Z3 Ya hS hs7 Z1) RV.nil) rfl ?_))))))
  obtain rfl := QJ H
  have hS := hS.front 4 rfl
  have hS := hS.front 4 rfl
  have hS := hS.front 4 rfl
  have hS := hS.front 4 rfl
  have hS := hS.front 4 rfl
  replace hS := hS.cut 5
  exact ⟨A21, c22, A25, c26, A29, c30, A33, c34, A37, c38, rfl, k23, k27, k31, k35, k39, hS⟩
 replace H := Zp H hb
 refine Zg (Zb 1 rfl (Zd3 rfl rfl rfl rfl (by kernel_rfl) rfl ?_))
 show Calls _ _ #[_, _] _ _
 refine Xw Try.func104 rfl Try.ntmps104 rfl (Yh 11 [10] (fun i b => (i = 10 → b = b16 ∨ b = b14)) ⟨by kernel_rfl, by kernel_rfl⟩ hS (fun w hS hB => Zo [Tt,Tt,Tt,Tt,Tt,Tt,Tt,Tt,Tt,Tt] (by decide +kernel) PFC.h (LtK.put rfl rfl rfl (Zu rfl) (LtK.put rfl rfl rfl (V5 rfl) (LtK.put rfl rfl rfl (Zc Zam rfl) (LtK.put rfl rfl rfl (Zi Zat rfl (Zgg _) (hO11.join hS) Vv trivial Zdy) (LtK.put rfl rfl rfl (Zc Ji rfl) ?_)))))))
 refine LtK.put rfl rfl rfl (Zi Zy rfl (Zgg _) (hO11.join hS) hs8 trivial Xd) (LtK.put rfl rfl rfl (Zeo rfl rfl) (LtK.put rfl rfl rfl (Zc fo_36_4 rfl) (LtK.put rfl rfl rfl (Zi Zy rfl (Zgg _) (hO11.join hS) hs8 trivial sg4_1) ?_)))
 obtain ⟨e47, hi49, H⟩ := bind_some H
 obtain ⟨j48, hi49a, hi49b, hi49c⟩ := Xn hi49
 refine LtK.put rfl rfl rfl (Y2 Jy rfl rfl hi49a hi49c (Rd.el ((hO11.join hS).row_rd hs4) Ve hi49b)) (LtK.nil (Xa [Ff,Ff,Ff,Ff,Ff,Ff,Ff,Ff,Ff,Ff,Tt] 10 ⟨by decide, by kernel_rfl, by kernel_rfl⟩ rfl rfl ?_))
 try dsimp only [Z2]
 refine wpX_storeR3 (a' := x1.cap) (zs := (Zbf r19.caps (IntKind.wrap .i64 (x1.frm - 1)) x1.cap)) Ve rfl rfl rfl CellsOf.int hS ps4 (Rd.el ((hO11.join hS).row_rd hs4) Ve hi49b) hi49a hi49b rfl Zfn (by kernel_rfl) rfl (fun w hS hB => ?_)
 have hi50b := Zfr (a := x1.cap) hi49a hi49b
 have hi50a := hi49a
 refine Zh (Yu (hB.sub (fun b _ h => by have h0 : b = b16 ∨ b = b14 := (by simpa using h); rcases h0 with h0 | h0; (rw [h0]; exact hS.neRow 5 4 rfl rfl); (rw [h0]; exact hS.neRow 6 4 rfl rfl))) ?_)
 refine Z5 (by kernel_rfl) (Zel rfl RV.nil rfl (⟨_, rfl, ?_⟩))
 refine Zh (Zd hK41 (Zf (fun K hK51 => Zg (Za rfl rfl rfl (Zk Ya rfl (Zgf _) (hO11.join hS) Vv trivial Z1) (Zr rfl rfl rfl CellsOf.agg hS ps5 Yo (by kernel_rfl) rfl (fun w hS hB => Zh (Zd hK51 ?_)))))))
 refine Zl (Zm rfl (RV.cell rfl (Z3 Ya (hO11.join hS) hs5 Z1) RV.nil) rfl (⟨_, rfl, ?_⟩))
 have hB := hS.pure
 have hS := hO11.join hS
 dsimp only [List.cons_append, List.nil_append] at hS
 refine Zh (Ye hB (Xa [Ff,Ff,Ff,Ff,Ff,Ff,Tt] 6 ⟨by decide, by kernel_rfl, by kernel_rfl⟩ rfl rfl ?_))
 try dsimp only [Z2]
 refine Zr rfl rfl rfl CellsOf.agg hS ps7 Yo (by kernel_rfl) rfl (fun w hS hB => Zh (Yu (hB.sub (fun _ _ h => by simpa using h)) (Z5 (by kernel_rfl) (Zd hK8 (Zl (Zm rfl (RV.cell rfl (Z3 Ya hS hs7 Z1) RV.nil) rfl ?_))))))
 obtain rfl := QJ H
 have hS := hS.front 4 rfl
 have hS := hS.front 4 rfl
 have hS := hS.front 4 rfl
 have hS := hS.front 4 rfl
 have hS := hS.front 4 rfl
 replace hS := hS.cut 5
 exact ⟨A21, c22, A25, c26, A29, c30, A33, c34, A37, c38, by (repeat rw [(Vu rfl)]); rfl, k23, k27, k31, k35, (Zdv k39), hS.eqv (by (repeat rw [(Vu rfl)]); rfl)⟩
theorem c_elect_Meet (x0 : Co) (x1 : Ms) (A0_ : OA) (c0_ : Nat) (A1_ : OA) (c1_ : Nat) (A2_ : OA) (c2_ : Nat) (A3_ : OA) (c3_ : Nat) (A4_ : OA) (c4_ : Nat) (A5_ : OA) (c5_ : Nat) (w0 : World) (s0_ : SlI w0 enE A0_ c0_ x0.tuple.log) (s1_ : SlI w0 enO A1_ c1_ x0.votes) (s2_ : SlI w0 Vr A2_ c2_ x0.next) (s3_ : SlI w0 Vr A3_ c3_ x0.mtch) (s4_ : SlI w0 Vr A4_ c4_ x0.caps) (s5_ : SlW w0 enE A5_ c5_ x1.entries) {r : Co} (H : Zbs x0 x1 = some r) : Calls Try.prog 37 #[.agg #[.int .i64 x0.id, .int .i64 x0.n, .int .u8 x0.role, .int .i64 x0.binary, .int .i64 x0.tuple.snap.index, .int .i64 x0.tuple.snap.term, .int .i64 x0.tuple.snap.sum, .int .i64 x0.tuple.snap.level, .bool x0.tuple.snap.final, .slice A0_ x0.tuple.log.length c0_, .int .i64 x0.tuple.term, .int .i64 x0.tuple.vote, .int .i64 x0.commit, .int .i64 x0.applied.index, .int .i64 x0.applied.term, .int .i64 x0.applied.sum, .int .i64 x0.applied.level, .bool x0.applied.final, .slice A1_ x0.votes.length c1_, .slice A2_ x0.next.length c2_, .slice A3_ x0.mtch.length c3_, .slice A4_ x0.caps.length c4_], .agg #[.int .u8 x1.kind, .int .i64 x1.frm, .int .i64 x1.dst, .int .i64 x1.term, .int .i64 x1.cap, .int .i64 x1.last, .int .i64 x1.lastTerm, .int .i64 x1.commit, .bool x1.okk, .slice A5_ x1.entries.length c5_, .int .i64 x1.snap.index, .int .i64 x1.snap.term, .int .i64 x1.snap.sum, .int .i64 x1.snap.level, .bool x1.snap.final]] w0 fun e w' => ∃ (A0 : OA) (c0 : Nat) (A1 : OA) (c1 : Nat) (A2 : OA) (c2 : Nat) (A3 : OA) (c3 : Nat) (A4 : OA) (c4 : Nat), e = .returned (.agg #[.int .i64 r.id, .int .i64 r.n, .int .u8 r.role, .int .i64 r.binary, .int .i64 r.tuple.snap.index, .int .i64 r.tuple.snap.term, .int .i64 r.tuple.snap.sum, .int .i64 r.tuple.snap.level, .bool r.tuple.snap.final, .slice A0 r.tuple.log.length c0, .int .i64 r.tuple.term, .int .i64 r.tuple.vote, .int .i64 r.commit, .int .i64 r.applied.index, .int .i64 r.applied.term, .int .i64 r.applied.sum, .int .i64 r.applied.level, .bool r.applied.final, .slice A1 r.votes.length c1, .slice A2 r.next.length c2, .slice A3 r.mtch.length c3, .slice A4 r.caps.length c4]) ∧ (r.tuple.log.length ≤ c0 ∧ c0 ≤ maxLen) ∧ (r.votes.length ≤ c1 ∧ c1 ≤ maxLen) ∧ (r.next.length ≤ c2 ∧ c2 ≤ maxLen) ∧ (r.mtch.length ≤ c3 ∧ c3 ≤ maxLen) ∧ (r.caps.length ≤ c4 ∧ c4 ≤ maxLen) ∧ St0 All w0 w' [.rd A0 (Z8 enE r.tuple.log), .row (.slice A1 r.votes.length c1) 4 1 r.votes.length (Z8 enO r.votes), .row (.slice A2 r.next.length c2) 3 1 r.next.length (Z8 Vr r.next), .row (.slice A3 r.mtch.length c3) 3 1 r.mtch.length (Z8 Vr r.mtch), .row (.slice A4 r.caps.length c4) 3 1 r.caps.length (Z8 Vr r.caps)] := by
 unfold Zbs at H
 refine Xw Try.func37 rfl Try.ntmps37 rfl ?_
 have hS := St0.start All w0
 refine Zf (fun K hK1 => Zg (Yq rfl rfl rfl CellsOf.agg hS (fun b2 w hS hB => Yq rfl rfl rfl CellsOf.agg hS (fun b4 w hS hB => Yr rfl rfl Zcn hS (fun b6 w hS hB => Zh (Zd hK1 (wpC_scope1 0 rfl ?_)))))))
 refine Zf (fun K hK8 => Zg (Za rfl rfl rfl (Zk Ya rfl (Zgf _) hS Vt trivial Z1) ?_))
 obtain ⟨r9, hm10, H⟩ := bind_some H
 refine Zt rfl rfl rfl rfl (by kernel_rfl) rfl (Zdg x0 A0_ c0_ A1_ c1_ A2_ c2_ A3_ c3_ A4_ c4_ _ (Zgi s0_.k (hS.rd0 s0_.rd) (hS.blk0 s0_.blk)) (Zgi s1_.k (hS.rd0 s1_.rd) (hS.blk0 s1_.blk)) (Zgi s2_.k (hS.rd0 s2_.rd) (hS.blk0 s2_.blk)) (Zgi s3_.k (hS.rd0 s3_.rd) (hS.blk0 s3_.blk)) (Zgi s4_.k (hS.rd0 s4_.rd) (hS.blk0 s4_.blk)) hm10) ?_
 rintro e w ⟨A11, c12, A15, c16, A19, c20, A23, c24, A27, c28, rfl, k13, k17, k21, k25, k29, hN⟩; refine ⟨_, rfl, ?_⟩; obtain ⟨hB, hS⟩ := hS.jn hN
 refine Zr rfl rfl rfl CellsOf.agg hS ps7 Yo (by kernel_rfl) rfl (fun w hS hB => Zh (Zd hK8 (Zf (fun K hK31 => Zf (fun K hK32 => Zg (Za rfl rfl rfl (Zk Ya rfl (Zgf _) hS hs7 trivial Z1) (Za rfl rfl rfl (Zk Vz rfl (Zgf _) hS Vv trivial X7) ?_)))))))
 obtain ⟨r33, hm34, H⟩ := bind_some H
 refine Zt rfl rfl rfl rfl (by kernel_rfl) rfl (c_elect_fits r9 x1 A11 c12 A15 c16 A19 c20 A23 c24 A27 c28 A5_ c5_ _ (Zgi k13 (hS.row_rd hs0) (hS.row_blk hs0)) (Zgi k17 (hS.row_rd X9) (hS.row_blk X9)) (Zgi k21 (hS.row_rd Vt) (hS.row_blk Vt)) (Zgi k25 (hS.row_rd hs3) (hS.row_blk hs3)) (Zgi k29 (hS.row_rd hs4) (hS.row_blk hs4)) (SlW.of_rd s5_.k (hS.rd0 s5_.rd)) hm34) ?_
 rintro e w ⟨rfl, hN⟩; refine ⟨_, rfl, ?_⟩; obtain ⟨hB, hS⟩ := hS.jn hN
 refine Za rfl rfl rfl (Yt rfl) (Zh (Zd hK32 (Zx rfl (fun hb => ?_) (fun hb => ?_))))
 ·replace H := Zp H hb
  refine Jh (Xx (Jz (Zf (fun K hK36 => Zv (Zd hK36 (Zf (fun K hK37 => Zg ?_)))))))
  refine Za rfl rfl rfl (Zk Ya rfl (Zgf _) hS hs7 trivial Z1) (Zr rfl rfl rfl CellsOf.agg hS ps5 Yo (by kernel_rfl) rfl (fun w hS hB => Zh (Zd hK37 (Zl (Yn (Zm rfl (RV.cell rfl (Z3 Ya hS hs5 Z1) RV.nil) rfl ?_))))))
  obtain rfl := QJ H
  have hS := hS.front 4 rfl
  have hS := hS.front 4 rfl
  have hS := hS.front 4 rfl
  have hS := hS.front 4 rfl
  have hS := hS.front 4 rfl
  replace hS := hS.weak Weak.rowRd
  replace hS := hS.cut 5
  exact ⟨A11, c12, A15, c16, A19, c20, A23, c24, A27, c28, rfl, k13, k17, k21, k25, k29, hS⟩
 replace H := Zq H hb
 refine Zv (Zd hK31 (Zf (fun K hK39 => Zf (fun K hK40 => Zg (Za rfl rfl rfl (Zk Ya rfl (Zgf _) hS hs7 trivial Z1) (Za rfl rfl rfl (Zk Vz rfl (Zgf _) hS Vv trivial X7) ?_))))))
 obtain ⟨r41, hm42, H⟩ := bind_some H
 refine Zt rfl rfl rfl rfl (by kernel_rfl) rfl (c_advert_Hear r9 x1 A11 c12 A15 c16 A19 c20 A23 c24 A27 c28 A5_ c5_ _ (Zgi k13 (hS.row_rd hs0) (hS.row_blk hs0)) (Zgi k17 (hS.row_rd X9) (hS.row_blk X9)) (Zgi k21 (hS.row_rd Vt) (hS.row_blk Vt)) (Zgi k25 (hS.row_rd hs3) (hS.row_blk hs3)) (Zgi k29 (hS.row_rd hs4) (hS.row_blk hs4)) (SlW.of_rd s5_.k (hS.rd0 s5_.rd)) hm42) ?_
 rintro e w ⟨A43, c44, A47, c48, A51, c52, A55, c56, A59, c60, rfl, k45, k49, k53, k57, k61, hN⟩; refine ⟨_, rfl, ?_⟩; obtain ⟨hB, hS⟩ := hS.jn hN
 refine Zr rfl rfl rfl CellsOf.agg hS ps12 Yo (by kernel_rfl) rfl (fun w hS hB => Zh (Zd hK40 (Zf (fun K hK63 => Zg (Za rfl rfl rfl (Zc Je rfl) (Za rfl rfl rfl (Zi Zy rfl (Zgf _) hS hs11 trivial Zbe) (Za rfl rfl rfl (Zc Zz rfl) ?_)))))))
 refine Za rfl rfl rfl (Zc Xc rfl) (Za rfl rfl rfl (Zi Zy rfl (Zgf _) hS hs12 trivial Xv) (Za rfl rfl rfl (Y8 rfl rfl) (Zh (Zd hK63 (Zx rfl (fun hb => ?_) (fun hb => ?_))))))
 rotate_left
 ·replace H := Zq H hb
  refine Zv (Zd hK39 (Zf (fun K hK92 => Zd0 (Zd hK92 (Zf (fun K hK93 => Zg (Za rfl rfl rfl (Zk Ya rfl (Zgf _) hS hs12 trivial Z1) ?_)))))))
  refine Zr rfl rfl rfl CellsOf.agg hS ps10 Yo (by kernel_rfl) rfl (fun w hS hB => Zh (Zd hK93 (Zl (Yn (Zm rfl (RV.cell rfl (Z3 Ya hS hs10 Z1) RV.nil) rfl ?_)))))
  obtain rfl := QJ H
  have hS := hS.front 4 rfl
  have hS := hS.front 4 rfl
  have hS := hS.front 4 rfl
  have hS := hS.front 4 rfl
  have hS := hS.front 4 rfl
  replace hS := hS.weak Weak.rowRd
  replace hS := hS.cut 5
  exact ⟨A43, c44, A47, c48, A51, c52, A55, c56, A59, c60, rfl, k45, k49, k53, k57, k61, hS⟩
 replace H := Zp H hb
 refine Zg (Za rfl rfl rfl (Zk Ya rfl (Zgf _) hS hs12 trivial Z1) (Za rfl rfl rfl (Zc Je rfl) (Za rfl rfl rfl (Zi Zy rfl (Zgf _) hS hs11 trivial Zbe) (Zd3 rfl rfl rfl rfl (by kernel_rfl) rfl ?_))))
 show Calls _ _ #[_, _, _, _, _] _ _
 refine gw_enter5 Try.func45 rfl Try.ntmps45 rfl (Zf (fun K hK65 => Zg (Yq rfl rfl rfl CellsOf.agg hS (fun b66 w hS hB => Yr rfl rfl Zcn hS (fun b68 w hS hB => Zh (Zd hK65 (Zf (fun K hK70 => ?_))))))))
 refine Zg (Za rfl rfl rfl (Zc Zz rfl) (Za rfl rfl rfl (Zk V2 rfl (Zgf _) hS X9 trivial Ze8) (Zb 2 rfl ?_)))
 obtain ⟨r71, hm72, H⟩ := bind_some H
 refine Zt rfl rfl rfl rfl (by kernel_rfl) rfl (Ze0 r41.tuple x1.term 0 A43 c44 _ (Zgi k45 (hS.row_rd Vt) (hS.row_blk Vt)) hm72) ?_
 rintro e w ⟨A73, c74, rfl, k75, hN⟩; refine ⟨_, rfl, ?_⟩; obtain ⟨hB, hS⟩ := hS.jn hN
 refine Zb 1 rfl (Za rfl rfl rfl (Yj rfl rfl) (Za rfl rfl rfl (Yj rfl rfl) (Za rfl rfl rfl (Zc Zz rfl) (Zr rfl rfl rfl CellsOf.agg hS ps2 st4_8 (by kernel_rfl) rfl (fun w hS hB => Zh (Zd hK70 (Zf (fun K hK77 => ?_))))))))
 refine Yh 8 [5, 7] (fun i b => (i = 5 → b ≠ b66) ∧ (i = 7 → b ≠ b66)) ⟨by kernel_rfl, by kernel_rfl⟩ hS (fun w hS hB => Zo [Tt,Tt,Tt,Ff,Tt] (by decide +kernel) PFC.h (LtK.put rfl rfl rfl (Zu rfl) (LtK.put rfl rfl rfl (Zc Yx rfl) (LtK.put rfl rfl rfl (Zi Zy rfl (Zgg _) hS Vt trivial Xd) (LtK.put rfl rfl rfl (Zc Zbg rfl) (LtK.nil (Zcb [3, 5] ⟨by decide, by kernel_rfl⟩ rfl (.call [Ff,Ff,Ff,Tt] 3 rfl rfl rfl ?_ (.put [Ff,Ff,Ff,Ff,Ff,Tt] 5 rfl rfl rfl ?_ .nil)))))))))
 ·try dsimp only [Z2]
  obtain ⟨l78, hm79, H⟩ := bind_some H
  refine wpX_make Zco em_27 rfl (by decide) rfl rfl rfl rfl hS hm79 (fun A80 c81 w k82 hS hB => ?_)
  refine Zh (Ye hB (Xa [Ff,Ff,Ff,Ff,Ff,Tt] 5 ⟨by decide, by kernel_rfl, by kernel_rfl⟩ rfl rfl ?_))
  try dsimp only [Z2]
  refine Zr rfl rfl rfl CellsOf.int hS ps3 st2_1 (by kernel_rfl) rfl (fun w hS hB => Zh (Yu (hB.sub (fun _ _ h => by simpa using h)) (Zo [Ff,Ff,Ff,Ff,Ff,Ff,Tt] (by decide +kernel) PFC.h (LtK.put rfl rfl rfl (Zc Zaq rfl) (LtK.nil (Xa [Ff,Ff,Ff,Ff,Ff,Ff,Ff,Tt] 7 ⟨by decide, by kernel_rfl, by kernel_rfl⟩ rfl rfl ?_))))))
  try dsimp only [Z2]
  refine Zr rfl rfl rfl CellsOf.slice hS ps3 st18_1 (by kernel_rfl) rfl (fun w hS hB => Zh (Yu (hB.sub (fun _ _ h => by simpa using h)) (Z5 (by kernel_rfl) (Zd hK77 (Zf (fun K hK84 => Zf (fun K hK85 => Zg ?_)))))))
  refine Zb 1 rfl (Za rfl rfl rfl (Yb Jy rfl) (Zb 1 rfl (Zh (Zd hK85 (Z6 (Ze9 60 (Zf (fun K hK86 => ?_))))))))
  refine Zg (Za rfl rfl rfl (Y4 rfl rfl) (Zh (Zd hK86 (Zf (fun K hK87 => Ym rfl rfl (Xy (Z4 ?_)))))))
  refine Z4 (Yz (Zd hK84 (Zf (fun K hK88 => Zg (Za rfl rfl rfl (Zk Ya rfl (Zgf _) hS hs3 trivial Z1) (Zr rfl rfl rfl CellsOf.agg hS ps2 Yo (by kernel_rfl) rfl (fun w hS hB => Zh ?_)))))))
  refine Zd hK88 (Zl (Zm rfl (RV.cell rfl (Z3 Ya hS Vt Z1) RV.nil) rfl (⟨_, rfl, ?_⟩)))
  refine Zr rfl rfl rfl CellsOf.agg hS ps16 Yo (by kernel_rfl) rfl (fun w hS hB => Zh (Zd hK39 (Zf (fun K hK89 => Zd0 (Zd hK89 (Zf (fun K hK90 => Zg ?_)))))))
  refine Za rfl rfl rfl (Zk Ya rfl (Zgf _) hS hs16 trivial Z1) (Zr rfl rfl rfl CellsOf.agg hS ps14 Yo (by kernel_rfl) rfl (fun w hS hB => Zh (Zd hK90 (Zl (Yn (Zm rfl (RV.cell rfl (Z3 Ya hS Jv Z1) RV.nil) rfl ?_))))))
  obtain rfl := QJ H
  have hS := hS.front 8 rfl
  have hS := hS.front 8 rfl
  have hS := hS.front 8 rfl
  have hS := hS.front 3 rfl
  have hS := hS.front 4 rfl
  replace hS := hS.cut 5
  exact ⟨A73, c74, A80, c81, A51, c52, A55, c56, A59, c60, rfl, k75, k82, k53, k57, k61, hS⟩
 ·try dsimp only [Z2]
  refine Zr rfl rfl rfl CellsOf.int hS ps2 st2_1 (by kernel_rfl) rfl (fun w hS hB => Zh (Yu (hB.sub (fun _ _ h => by simpa using h)) (Yd [Ff,Ff,Ff,Tt] 3 ⟨by decide, by kernel_rfl, by kernel_rfl⟩ rfl rfl ?_)))
  try dsimp only [Z2]
  obtain ⟨l78, hm79, H⟩ := bind_some H
  refine wpX_make Zco em_27 rfl (by decide) rfl rfl rfl rfl hS hm79 (fun A80 c81 w k82 hS hB => ?_)
  refine Zh (Ye hB (Zo [Ff,Ff,Ff,Ff,Ff,Ff,Tt] (by decide +kernel) PFC.h (LtK.put rfl rfl rfl (Zc Zaq rfl) (LtK.nil (Xa [Ff,Ff,Ff,Ff,Ff,Ff,Ff,Tt] 7 ⟨by decide, by kernel_rfl, by kernel_rfl⟩ rfl rfl ?_)))))
  try dsimp only [Z2]
  refine Zr rfl rfl rfl CellsOf.slice hS ps3 st18_1 (by kernel_rfl) rfl (fun w hS hB => Zh (Yu (hB.sub (fun _ _ h => by simpa using h)) (Z5 (by kernel_rfl) (Zd hK77 (Zf (fun K hK84 => Zf (fun K hK85 => Zg ?_)))))))
  refine Zb 1 rfl (Za rfl rfl rfl (Yb Jy rfl) (Zb 1 rfl (Zh (Zd hK85 (Z6 (Ze9 60 (Zf (fun K hK86 => ?_))))))))
  refine Zg (Za rfl rfl rfl (Y4 rfl rfl) (Zh (Zd hK86 (Zf (fun K hK87 => Ym rfl rfl (Xy (Z4 ?_)))))))
  refine Z4 (Yz (Zd hK84 (Zf (fun K hK88 => Zg (Za rfl rfl rfl (Zk Ya rfl (Zgf _) hS hs3 trivial Z1) (Zr rfl rfl rfl CellsOf.agg hS ps2 Yo (by kernel_rfl) rfl (fun w hS hB => Zh ?_)))))))
  refine Zd hK88 (Zl (Zm rfl (RV.cell rfl (Z3 Ya hS Vt Z1) RV.nil) rfl (⟨_, rfl, ?_⟩)))
  refine Zr rfl rfl rfl CellsOf.agg hS ps16 Yo (by kernel_rfl) rfl (fun w hS hB => Zh (Zd hK39 (Zf (fun K hK89 => Zd0 (Zd hK89 (Zf (fun K hK90 => Zg ?_)))))))
  refine Za rfl rfl rfl (Zk Ya rfl (Zgf _) hS hs16 trivial Z1) (Zr rfl rfl rfl CellsOf.agg hS ps14 Yo (by kernel_rfl) rfl (fun w hS hB => Zh (Zd hK90 (Zl (Yn (Zm rfl (RV.cell rfl (Z3 Ya hS Jv Z1) RV.nil) rfl ?_))))))
  obtain rfl := QJ H
  have hS := hS.front 8 rfl
  have hS := hS.front 8 rfl
  have hS := hS.front 8 rfl
  have hS := hS.front 3 rfl
  have hS := hS.front 4 rfl
  replace hS := hS.cut 5
  exact ⟨A73, c74, A80, c81, A51, c52, A55, c56, A59, c60, rfl, k75, k82, k53, k57, k61, hS⟩
theorem Zd9 (x0 : Co) (x1 : Int) (x2 : Int) (A0_ : OA) (c0_ : Nat) (A1_ : OA) (c1_ : Nat) (A2_ : OA) (c2_ : Nat) (A3_ : OA) (c3_ : Nat) (A4_ : OA) (c4_ : Nat) (w0 : World) (s0_ : SlI w0 enE A0_ c0_ x0.tuple.log) (s1_ : SlI w0 enO A1_ c1_ x0.votes) (s2_ : SlI w0 Vr A2_ c2_ x0.next) (s3_ : SlI w0 Vr A3_ c3_ x0.mtch) (s4_ : SlI w0 Vr A4_ c4_ x0.caps) {r : Bool} (H : Zak x0 x1 x2 = some r) : Calls Try.prog 36 #[.agg #[.int .i64 x0.id, .int .i64 x0.n, .int .u8 x0.role, .int .i64 x0.binary, .int .i64 x0.tuple.snap.index, .int .i64 x0.tuple.snap.term, .int .i64 x0.tuple.snap.sum, .int .i64 x0.tuple.snap.level, .bool x0.tuple.snap.final, .slice A0_ x0.tuple.log.length c0_, .int .i64 x0.tuple.term, .int .i64 x0.tuple.vote, .int .i64 x0.commit, .int .i64 x0.applied.index, .int .i64 x0.applied.term, .int .i64 x0.applied.sum, .int .i64 x0.applied.level, .bool x0.applied.final, .slice A1_ x0.votes.length c1_, .slice A2_ x0.next.length c2_, .slice A3_ x0.mtch.length c3_, .slice A4_ x0.caps.length c4_], .int .i64 x1, .int .i64 x2] w0 fun e w' => e = .returned (.bool r) ∧ St0 All w0 w' [] := by
 unfold Zak at H
 refine Zcg Try.func36 rfl Try.ntmps36 rfl ?_
 have hS := St0.start All w0
 refine Zf (fun K hK1 => Zg (Yq rfl rfl rfl CellsOf.agg hS (fun b2 w hS hB => Zb 1 rfl (Zh (Zd hK1 (Zf (fun K hK4 => Zf (fun K hK5 => ?_))))))))
 refine Zg (Za rfl rfl rfl (Zk Ya rfl (Zgf _) hS hs0 trivial Z1) ?_)
 obtain ⟨r6, hm7, H⟩ := bind_some H
 refine Zt rfl rfl rfl rfl (by kernel_rfl) rfl (Zdb x0 A0_ c0_ A1_ c1_ A2_ c2_ A3_ c3_ A4_ c4_ _ (Zgi s0_.k (hS.rd0 s0_.rd) (hS.blk0 s0_.blk)) (Zgi s1_.k (hS.rd0 s1_.rd) (hS.blk0 s1_.blk)) (Zgi s2_.k (hS.rd0 s2_.rd) (hS.blk0 s2_.blk)) (Zgi s3_.k (hS.rd0 s3_.rd) (hS.blk0 s3_.blk)) (Zgi s4_.k (hS.rd0 s4_.rd) (hS.blk0 s4_.blk)) hm7) ?_
 rintro e w ⟨rfl, hN⟩; refine ⟨_, rfl, ?_⟩; obtain ⟨hB, hS⟩ := hS.jn hN
 refine Za rfl rfl rfl (Yt rfl) (Zh (Zd hK5 (Zx rfl (fun hb => ?_) (fun hb => ?_))))
 ·replace H := Zp H hb
  refine Zf (fun K hK9 => Zg (Zb 1 rfl (Zh (Zd hK9 (Zl (Ze (Zm rfl (RV.tmp rfl RV.nil) rfl ?_)))))))
  obtain rfl := QJ H
  replace hS := hS.cut 0
  exact ⟨rfl, hS⟩
 replace H := Zq H hb
 refine Zv (Zd hK4 (Zf (fun K hK11 => Zg (Za rfl rfl rfl (Zk Ya rfl (Zgf _) hS hs0 trivial Z1) ?_))))
 obtain ⟨r12, hm13, H⟩ := bind_some H
 refine Zt rfl rfl rfl rfl (by kernel_rfl) rfl (c_elect_end x0 A0_ c0_ A1_ c1_ A2_ c2_ A3_ c3_ A4_ c4_ _ (Zgi s0_.k (hS.rd0 s0_.rd) (hS.blk0 s0_.blk)) (Zgi s1_.k (hS.rd0 s1_.rd) (hS.blk0 s1_.blk)) (Zgi s2_.k (hS.rd0 s2_.rd) (hS.blk0 s2_.blk)) (Zgi s3_.k (hS.rd0 s3_.rd) (hS.blk0 s3_.blk)) (Zgi s4_.k (hS.rd0 s4_.rd) (hS.blk0 s4_.blk)) hm13) ?_
 rintro e w ⟨rfl, hN⟩; refine ⟨_, rfl, ?_⟩; obtain ⟨hB, hS⟩ := hS.jn hN
 refine Zb 1 rfl (Za rfl rfl rfl (Yj rfl rfl) (Za rfl rfl rfl (Yj rfl rfl) (Zb 2 rfl (Zh (Zd hK11 (Zf (fun K hK14 => Zf (fun K hK15 => ?_))))))))
 refine Zg (Zb 2 rfl (Za rfl rfl rfl (Yl rfl rfl) (Zh (Zd hK15 (Zx rfl (fun hb => ?_) (fun hb => ?_))))))
 ·replace H := Zp H hb
  refine Zf (fun K hK17 => Zg (Zb 2 rfl (Za rfl rfl rfl (Y8 rfl rfl) (Zb 1 rfl (Zh (Zd hK17 (Zl ?_)))))))
  refine Ze (Zm rfl (RV.tmp rfl RV.nil) rfl ?_)
  obtain rfl := QJ H
  replace hS := hS.cut 0
  exact ⟨rfl, hS⟩
 replace H := Zq H hb
 refine Zv (Zd hK14 (Zf (fun K hK19 => Zg (Zb 2 rfl (Za rfl rfl rfl (Zda rfl rfl) (Zb 1 rfl (Zh ?_)))))))
 refine Zd hK19 (Zl (Zm rfl (RV.tmp rfl RV.nil) rfl ?_))
 obtain rfl := QJ H
 replace hS := hS.cut 0
 exact ⟨rfl, hS⟩
theorem Zbp (x0 : Co) (x1 : Ms) (x2 : Int) (x3 : Bool) (x4 : Int) (A0_ : OA) (c0_ : Nat) (A1_ : OA) (c1_ : Nat) (A2_ : OA) (c2_ : Nat) (A3_ : OA) (c3_ : Nat) (A4_ : OA) (c4_ : Nat) (A5_ : OA) (c5_ : Nat) (w0 : World) (s0_ : SlI w0 enE A0_ c0_ x0.tuple.log) (s1_ : SlI w0 enO A1_ c1_ x0.votes) (s2_ : SlI w0 Vr A2_ c2_ x0.next) (s3_ : SlI w0 Vr A3_ c3_ x0.mtch) (s4_ : SlI w0 Vr A4_ c4_ x0.caps) (s5_ : SlW w0 enE A5_ c5_ x1.entries) {r : Ms} (H : J4 x0 x1 x2 x3 x4 = some r) : Calls Try.prog 50 #[.agg #[.int .i64 x0.id, .int .i64 x0.n, .int .u8 x0.role, .int .i64 x0.binary, .int .i64 x0.tuple.snap.index, .int .i64 x0.tuple.snap.term, .int .i64 x0.tuple.snap.sum, .int .i64 x0.tuple.snap.level, .bool x0.tuple.snap.final, .slice A0_ x0.tuple.log.length c0_, .int .i64 x0.tuple.term, .int .i64 x0.tuple.vote, .int .i64 x0.commit, .int .i64 x0.applied.index, .int .i64 x0.applied.term, .int .i64 x0.applied.sum, .int .i64 x0.applied.level, .bool x0.applied.final, .slice A1_ x0.votes.length c1_, .slice A2_ x0.next.length c2_, .slice A3_ x0.mtch.length c3_, .slice A4_ x0.caps.length c4_], .agg #[.int .u8 x1.kind, .int .i64 x1.frm, .int .i64 x1.dst, .int .i64 x1.term, .int .i64 x1.cap, .int .i64 x1.last, .int .i64 x1.lastTerm, .int .i64 x1.commit, .bool x1.okk, .slice A5_ x1.entries.length c5_, .int .i64 x1.snap.index, .int .i64 x1.snap.term, .int .i64 x1.snap.sum, .int .i64 x1.snap.level, .bool x1.snap.final], .int .u8 x2, .bool x3, .int .i64 x4] w0 fun e w' => ∃ (A0 : OA) (c0 : Nat), e = .returned (.agg #[.int .u8 r.kind, .int .i64 r.frm, .int .i64 r.dst, .int .i64 r.term, .int .i64 r.cap, .int .i64 r.last, .int .i64 r.lastTerm, .int .i64 r.commit, .bool r.okk, .slice A0 r.entries.length c0, .int .i64 r.snap.index, .int .i64 r.snap.term, .int .i64 r.snap.sum, .int .i64 r.snap.level, .bool r.snap.final]) ∧ (r.entries.length ≤ c0 ∧ c0 ≤ maxLen) ∧ St0 All w0 w' [.rd A0 (Z8 enE r.entries)] := by
 unfold J4 at H
 refine gw_enter5 Try.func50 rfl Try.ntmps50 rfl ?_
 have hS := St0.start All w0
 refine Zf (fun K hK1 => Zg (Yq rfl rfl rfl CellsOf.agg hS (fun b2 w hS hB => Yq rfl rfl rfl CellsOf.agg hS (fun b4 w hS hB => Yr rfl rfl Zbu hS (fun b6 w hS hB => Zh (Zd hK1 (Zf (fun K hK8 => ?_))))))))
 refine Zg (Zb 1 rfl (Za rfl rfl rfl (Zc Xb rfl) (Za rfl rfl rfl (Zi Zy rfl (Zgf _) hS Vt trivial Yw) (Za rfl rfl rfl (Zc Ji rfl) (Za rfl rfl rfl (Zi Zy rfl (Zgf _) hS X9 trivial Xd) (Za rfl rfl rfl (Zc Zz rfl) (Za rfl rfl rfl (Zc Xc rfl) ?_)))))))
 refine Za rfl rfl rfl (Zi Zy rfl (Zgf _) hS Vt trivial Xv) (Za rfl rfl rfl (Zc Zfm rfl) (Za rfl rfl rfl (Zi Zy rfl (Zgf _) hS Vt trivial Zbe) (Zb 2 rfl (Za rfl rfl rfl (Vk (cells := [.int .u8 x2, .int .i64 x0.id, .int .i64 x1.frm, .int .i64 x0.tuple.term, .int .i64 x0.binary, .int .i64 x4, .int .i64 0, .int .i64 0, .bool x3, .slice none 0 0, .int .i64 0, .int .i64 0, .int .i64 0, .int .i64 0, .bool false]) rfl (by kernel_rfl)) (Zr rfl rfl rfl CellsOf.agg hS ps0 st0_15 (by kernel_rfl) rfl (fun w hS hB => Zh (Zd hK8 ?_)))))))
 refine Zl (Zm rfl (RV.cell rfl (Z3 Vz hS hs0 X7) RV.nil) rfl ?_)
 obtain rfl := QJ H
 have hS := hS.nilRd
 replace hS := hS.cut 1
 exact ⟨none, 0, rfl, ⟨Nat.le_refl _, Nat.zero_le _⟩, hS⟩
end Go.Proofs.Ytamjlcaoieliaaa
