/- Texts of one claim put together. -/
import Derived.Test.YtamjlcaoieliaaaMr1
import Derived.Test.YtamjlcaoieliaaaMr2
import Derived.Test.YtamjlcaoieliaaaMr5
namespace Go.Proofs.Ytamjlcaoieliaaa
open Go Go.RowKit
set_option maxRecDepth 100000
set_option maxHeartbeats 4000000
theorem c_law22_ElectRight (x0 : Co) (x1 : List UInt8) (x2 : List Ms) (A0_ : OA) (c0_ : Nat) (A1_ : OA) (c1_ : Nat) (A2_ : OA) (c2_ : Nat) (A3_ : OA) (c3_ : Nat) (A4_ : OA) (c4_ : Nat) (A5_ : OA) (c5_ : Nat) (A6_ : OA) (c6_ : Nat) (q6_ : List Mq) (w0 : World) (s0_ : SlI w0 enE A0_ c0_ x0.tuple.log) (s1_ : SlI w0 enO A1_ c1_ x0.votes) (s2_ : SlI w0 Vr A2_ c2_ x0.next) (s3_ : SlI w0 Vr A3_ c3_ x0.mtch) (s4_ : SlI w0 Vr A4_ c4_ x0.caps) (s5_ : SlI w0 enY A5_ c5_ x1) (s6_ : SlI w0 enQ A6_ c6_ q6_) (s6_q : q6_.map Mq.m = x2) (s6_n : ∀ y ∈ q6_, SlW w0 enE y.A y.c y.m.entries) {r : Bool} (H : Zbq x0 x1 x2 = some r) : Calls Try.prog 3 #[.agg #[.int .i64 x0.id, .int .i64 x0.n, .int .u8 x0.role, .int .i64 x0.binary, .int .i64 x0.tuple.snap.index, .int .i64 x0.tuple.snap.term, .int .i64 x0.tuple.snap.sum, .int .i64 x0.tuple.snap.level, .bool x0.tuple.snap.final, .slice A0_ x0.tuple.log.length c0_, .int .i64 x0.tuple.term, .int .i64 x0.tuple.vote, .int .i64 x0.commit, .int .i64 x0.applied.index, .int .i64 x0.applied.term, .int .i64 x0.applied.sum, .int .i64 x0.applied.level, .bool x0.applied.final, .slice A1_ x0.votes.length c1_, .slice A2_ x0.next.length c2_, .slice A3_ x0.mtch.length c3_, .slice A4_ x0.caps.length c4_], .slice A5_ x1.length c5_, .slice A6_ x2.length c6_] w0 fun e w' => e = .returned (.bool r) ∧ St0 All w0 w' [] := by
 unfold Zbq at H
 refine Zcg Try.func3 rfl Try.ntmps3 rfl ?_
 have hS := St0.start All w0
 refine Zf (fun K hK1 => Zg (Yq rfl rfl rfl CellsOf.agg hS (fun b2 w hS hB => Zb 1 rfl (Zh (Zd hK1 (Zf (fun K hK4 => Zf (fun K hK5 => ?_))))))))
 refine Zg (Za rfl rfl rfl (Zk Ya rfl (Zgf _) hS hs0 trivial Z1) ?_)
 obtain ⟨r6, hm7, H⟩ := bind_some H
 refine Zt rfl rfl rfl rfl (by kernel_rfl) rfl (c_ref20_Great x0 A0_ c0_ A1_ c1_ A2_ c2_ A3_ c3_ A4_ c4_ _ (Zgi s0_.k (hS.rd0 s0_.rd) (hS.blk0 s0_.blk)) (Zgi s1_.k (hS.rd0 s1_.rd) (hS.blk0 s1_.blk)) (Zgi s2_.k (hS.rd0 s2_.rd) (hS.blk0 s2_.blk)) (Zgi s3_.k (hS.rd0 s3_.rd) (hS.blk0 s3_.blk)) (Zgi s4_.k (hS.rd0 s4_.rd) (hS.blk0 s4_.blk)) hm7) ?_
 rintro e w ⟨rfl, hN⟩; refine ⟨_, rfl, ?_⟩; obtain ⟨hB, hS⟩ := hS.jn hN
 refine Zb 1 rfl (Zs 15 rfl (fun hb => ?_) (fun hb => ?_))
 ·replace H := Zp H hb
  refine Zb 9 rfl (Zh (Zd hK5 (Zn rfl rfl (Zf (fun K hK9 => Zg ?_)))))
  obtain ⟨r10, hm11, H⟩ := bind_some H
  refine Zt rfl rfl rfl rfl (by kernel_rfl) rfl (Zbb _ hm11) ?_
  rintro e w ⟨rfl, hN⟩; refine ⟨_, rfl, ?_⟩; obtain ⟨hB, hS⟩ := hS.jn hN
  refine Zb 1 rfl (Zh (Zd hK9 (Zl (Ze (Zm rfl (RV.tmp rfl RV.nil) rfl ?_)))))
  obtain rfl := QJ H
  replace hS := hS.cut 0
  exact ⟨rfl, hS⟩
 replace H := Zq H hb
 refine Za rfl rfl rfl (Zk Ya rfl (Zgf _) hS hs0 trivial Z1) ?_
 obtain ⟨r13, hm14, H⟩ := bind_some H
 refine Zt rfl rfl rfl rfl (by kernel_rfl) rfl (Zcv x0 A0_ c0_ A1_ c1_ A2_ c2_ A3_ c3_ A4_ c4_ _ (Zgi s0_.k (hS.rd0 s0_.rd) (hS.blk0 s0_.blk)) (Zgi s1_.k (hS.rd0 s1_.rd) (hS.blk0 s1_.blk)) (Zgi s2_.k (hS.rd0 s2_.rd) (hS.blk0 s2_.blk)) (Zgi s3_.k (hS.rd0 s3_.rd) (hS.blk0 s3_.blk)) (Zgi s4_.k (hS.rd0 s4_.rd) (hS.blk0 s4_.blk)) hm14) ?_
 rintro e w ⟨rfl, hN⟩; refine ⟨_, rfl, ?_⟩; obtain ⟨hB, hS⟩ := hS.jn hN
 refine Za rfl rfl rfl (Yt rfl) (Zb 2 rfl (Zs 20 rfl (fun hb => ?_) (fun hb => ?_)))
 ·replace H := Zp H hb
  refine Zb 4 rfl (Zh (Zd hK5 (Zn rfl rfl (Zf (fun K hK16 => Zg ?_)))))
  obtain ⟨r17, hm18, H⟩ := bind_some H
  refine Zt rfl rfl rfl rfl (by kernel_rfl) rfl (Zbb _ hm18) ?_
  rintro e w ⟨rfl, hN⟩; refine ⟨_, rfl, ?_⟩; obtain ⟨hB, hS⟩ := hS.jn hN
  refine Zb 1 rfl (Zh (Zd hK16 (Zl (Ze (Zm rfl (RV.tmp rfl RV.nil) rfl ?_)))))
  obtain rfl := QJ H
  replace hS := hS.cut 0
  exact ⟨rfl, hS⟩
 replace H := Zq H hb
 refine Zb 1 rfl (Za rfl rfl rfl (Yb Y9 rfl) (Za rfl rfl rfl (Y8 rfl rfl) (Zb 1 rfl (Zh (Zd hK5 (Zx rfl (fun hb => ?_) (fun hb => ?_)))))))
 ·replace H := Zp H hb
  refine Zf (fun K hK21 => Zg ?_)
  obtain ⟨r22, hm23, H⟩ := bind_some H
  refine Zt rfl rfl rfl rfl (by kernel_rfl) rfl (Zbb _ hm23) ?_
  rintro e w ⟨rfl, hN⟩; refine ⟨_, rfl, ?_⟩; obtain ⟨hB, hS⟩ := hS.jn hN
  refine Zb 1 rfl (Zh (Zd hK21 (Zl (Ze (Zm rfl (RV.tmp rfl RV.nil) rfl ?_)))))
  obtain rfl := QJ H
  replace hS := hS.cut 0
  exact ⟨rfl, hS⟩
 replace H := Zq H hb
 refine Zv (Zd hK4 (Zf (fun K hK25 => Zf (fun K hK26 => Zg (Zb 1 rfl (Zh (Zd hK26 ?_)))))))
 refine Z6 (wpC_peel (X := Nat × Int × Int × Int × Int × Int × Int × Int × Int × Int × Bool × List En × OA × Nat × Int × Int × Int × Int × Int × Int × Int × Bool × List Bool × OA × Nat × List Int × OA × Nat × List Int × OA × Nat × List Int × OA × Nat) (fun x => (1, .slice A5_ x1.length c5_) :: (2, .slice A6_ x2.length c6_) :: (3, .pointer (some ⟨b2, 0, none⟩)) :: (7, .int .i64 x.2.1) :: []) (fun x w => St0 All w0 w (.rd x.2.2.2.2.2.2.2.2.2.2.2.2.1 (Z8 enE x.2.2.2.2.2.2.2.2.2.2.2.1) :: .row (.slice x.2.2.2.2.2.2.2.2.2.2.2.2.2.2.2.2.2.2.2.2.2.2.2.1 x.2.2.2.2.2.2.2.2.2.2.2.2.2.2.2.2.2.2.2.2.2.2.1.length x.2.2.2.2.2.2.2.2.2.2.2.2.2.2.2.2.2.2.2.2.2.2.2.2.1) 4 1 x.2.2.2.2.2.2.2.2.2.2.2.2.2.2.2.2.2.2.2.2.2.2.1.length (Z8 enO x.2.2.2.2.2.2.2.2.2.2.2.2.2.2.2.2.2.2.2.2.2.2.1) :: .row (.slice x.2.2.2.2.2.2.2.2.2.2.2.2.2.2.2.2.2.2.2.2.2.2.2.2.2.2.1 x.2.2.2.2.2.2.2.2.2.2.2.2.2.2.2.2.2.2.2.2.2.2.2.2.2.1.length x.2.2.2.2.2.2.2.2.2.2.2.2.2.2.2.2.2.2.2.2.2.2.2.2.2.2.2.1) 3 1 x.2.2.2.2.2.2.2.2.2.2.2.2.2.2.2.2.2.2.2.2.2.2.2.2.2.1.length (Z8 Vr x.2.2.2.2.2.2.2.2.2.2.2.2.2.2.2.2.2.2.2.2.2.2.2.2.2.1) :: .row (.slice x.2.2.2.2.2.2.2.2.2.2.2.2.2.2.2.2.2.2.2.2.2.2.2.2.2.2.2.2.2.1 x.2.2.2.2.2.2.2.2.2.2.2.2.2.2.2.2.2.2.2.2.2.2.2.2.2.2.2.2.1.length x.2.2.2.2.2.2.2.2.2.2.2.2.2.2.2.2.2.2.2.2.2.2.2.2.2.2.2.2.2.2.1) 3 1 x.2.2.2.2.2.2.2.2.2.2.2.2.2.2.2.2.2.2.2.2.2.2.2.2.2.2.2.2.1.length (Z8 Vr x.2.2.2.2.2.2.2.2.2.2.2.2.2.2.2.2.2.2.2.2.2.2.2.2.2.2.2.2.1) :: .row (.slice x.2.2.2.2.2.2.2.2.2.2.2.2.2.2.2.2.2.2.2.2.2.2.2.2.2.2.2.2.2.2.2.2.1 x.2.2.2.2.2.2.2.2.2.2.2.2.2.2.2.2.2.2.2.2.2.2.2.2.2.2.2.2.2.2.2.1.length x.2.2.2.2.2.2.2.2.2.2.2.2.2.2.2.2.2.2.2.2.2.2.2.2.2.2.2.2.2.2.2.2.2) 3 1 x.2.2.2.2.2.2.2.2.2.2.2.2.2.2.2.2.2.2.2.2.2.2.2.2.2.2.2.2.2.2.2.1.length (Z8 Vr x.2.2.2.2.2.2.2.2.2.2.2.2.2.2.2.2.2.2.2.2.2.2.2.2.2.2.2.2.2.2.2.1) :: .box b2 [.int .i64 x.2.2.1, .int .i64 x.2.2.2.1, .int .u8 x.2.2.2.2.1, .int .i64 x.2.2.2.2.2.1, .int .i64 x.2.2.2.2.2.2.1, .int .i64 x.2.2.2.2.2.2.2.1, .int .i64 x.2.2.2.2.2.2.2.2.1, .int .i64 x.2.2.2.2.2.2.2.2.2.1, .bool x.2.2.2.2.2.2.2.2.2.2.1, .slice x.2.2.2.2.2.2.2.2.2.2.2.2.1 x.2.2.2.2.2.2.2.2.2.2.2.1.length x.2.2.2.2.2.2.2.2.2.2.2.2.2.1, .int .i64 x.2.2.2.2.2.2.2.2.2.2.2.2.2.2.1, .int .i64 x.2.2.2.2.2.2.2.2.2.2.2.2.2.2.2.1, .int .i64 x.2.2.2.2.2.2.2.2.2.2.2.2.2.2.2.2.1, .int .i64 x.2.2.2.2.2.2.2.2.2.2.2.2.2.2.2.2.2.1, .int .i64 x.2.2.2.2.2.2.2.2.2.2.2.2.2.2.2.2.2.2.1, .int .i64 x.2.2.2.2.2.2.2.2.2.2.2.2.2.2.2.2.2.2.2.1, .int .i64 x.2.2.2.2.2.2.2.2.2.2.2.2.2.2.2.2.2.2.2.2.1, .bool x.2.2.2.2.2.2.2.2.2.2.2.2.2.2.2.2.2.2.2.2.2.1, .slice x.2.2.2.2.2.2.2.2.2.2.2.2.2.2.2.2.2.2.2.2.2.2.2.1 x.2.2.2.2.2.2.2.2.2.2.2.2.2.2.2.2.2.2.2.2.2.2.1.length x.2.2.2.2.2.2.2.2.2.2.2.2.2.2.2.2.2.2.2.2.2.2.2.2.1, .slice x.2.2.2.2.2.2.2.2.2.2.2.2.2.2.2.2.2.2.2.2.2.2.2.2.2.2.1 x.2.2.2.2.2.2.2.2.2.2.2.2.2.2.2.2.2.2.2.2.2.2.2.2.2.1.length x.2.2.2.2.2.2.2.2.2.2.2.2.2.2.2.2.2.2.2.2.2.2.2.2.2.2.2.1, .slice x.2.2.2.2.2.2.2.2.2.2.2.2.2.2.2.2.2.2.2.2.2.2.2.2.2.2.2.2.2.1 x.2.2.2.2.2.2.2.2.2.2.2.2.2.2.2.2.2.2.2.2.2.2.2.2.2.2.2.2.1.length x.2.2.2.2.2.2.2.2.2.2.2.2.2.2.2.2.2.2.2.2.2.2.2.2.2.2.2.2.2.2.1, .slice x.2.2.2.2.2.2.2.2.2.2.2.2.2.2.2.2.2.2.2.2.2.2.2.2.2.2.2.2.2.2.2.2.1 x.2.2.2.2.2.2.2.2.2.2.2.2.2.2.2.2.2.2.2.2.2.2.2.2.2.2.2.2.2.2.2.1.length x.2.2.2.2.2.2.2.2.2.2.2.2.2.2.2.2.2.2.2.2.2.2.2.2.2.2.2.2.2.2.2.2.2] 30 :: []) ∧ (x.2.2.2.2.2.2.2.2.2.2.2.1.length ≤ x.2.2.2.2.2.2.2.2.2.2.2.2.2.1 ∧ x.2.2.2.2.2.2.2.2.2.2.2.2.2.1 ≤ maxLen) ∧ (x.2.2.2.2.2.2.2.2.2.2.2.2.2.2.2.2.2.2.2.2.2.2.1.length ≤ x.2.2.2.2.2.2.2.2.2.2.2.2.2.2.2.2.2.2.2.2.2.2.2.2.1 ∧ x.2.2.2.2.2.2.2.2.2.2.2.2.2.2.2.2.2.2.2.2.2.2.2.2.1 ≤ maxLen) ∧ (x.2.2.2.2.2.2.2.2.2.2.2.2.2.2.2.2.2.2.2.2.2.2.2.2.2.1.length ≤ x.2.2.2.2.2.2.2.2.2.2.2.2.2.2.2.2.2.2.2.2.2.2.2.2.2.2.2.1 ∧ x.2.2.2.2.2.2.2.2.2.2.2.2.2.2.2.2.2.2.2.2.2.2.2.2.2.2.2.1 ≤ maxLen) ∧ (x.2.2.2.2.2.2.2.2.2.2.2.2.2.2.2.2.2.2.2.2.2.2.2.2.2.2.2.2.1.length ≤ x.2.2.2.2.2.2.2.2.2.2.2.2.2.2.2.2.2.2.2.2.2.2.2.2.2.2.2.2.2.2.1 ∧ x.2.2.2.2.2.2.2.2.2.2.2.2.2.2.2.2.2.2.2.2.2.2.2.2.2.2.2.2.2.2.1 ≤ maxLen) ∧ (x.2.2.2.2.2.2.2.2.2.2.2.2.2.2.2.2.2.2.2.2.2.2.2.2.2.2.2.2.2.2.2.1.length ≤ x.2.2.2.2.2.2.2.2.2.2.2.2.2.2.2.2.2.2.2.2.2.2.2.2.2.2.2.2.2.2.2.2.2 ∧ x.2.2.2.2.2.2.2.2.2.2.2.2.2.2.2.2.2.2.2.2.2.2.2.2.2.2.2.2.2.2.2.2.2 ≤ maxLen) ∧ Z0 x1 x2 x.1 x.2.1 x.2.2.1 x.2.2.2.1 x.2.2.2.2.1 x.2.2.2.2.2.1 x.2.2.2.2.2.2.1 x.2.2.2.2.2.2.2.1 x.2.2.2.2.2.2.2.2.1 x.2.2.2.2.2.2.2.2.2.1 x.2.2.2.2.2.2.2.2.2.2.1 x.2.2.2.2.2.2.2.2.2.2.2.1 x.2.2.2.2.2.2.2.2.2.2.2.2.2.2.1 x.2.2.2.2.2.2.2.2.2.2.2.2.2.2.2.1 x.2.2.2.2.2.2.2.2.2.2.2.2.2.2.2.2.1 x.2.2.2.2.2.2.2.2.2.2.2.2.2.2.2.2.2.1 x.2.2.2.2.2.2.2.2.2.2.2.2.2.2.2.2.2.2.1 x.2.2.2.2.2.2.2.2.2.2.2.2.2.2.2.2.2.2.2.1 x.2.2.2.2.2.2.2.2.2.2.2.2.2.2.2.2.2.2.2.2.1 x.2.2.2.2.2.2.2.2.2.2.2.2.2.2.2.2.2.2.2.2.2.1 x.2.2.2.2.2.2.2.2.2.2.2.2.2.2.2.2.2.2.2.2.2.2.1 x.2.2.2.2.2.2.2.2.2.2.2.2.2.2.2.2.2.2.2.2.2.2.2.2.2.1 x.2.2.2.2.2.2.2.2.2.2.2.2.2.2.2.2.2.2.2.2.2.2.2.2.2.2.2.2.1 x.2.2.2.2.2.2.2.2.2.2.2.2.2.2.2.2.2.2.2.2.2.2.2.2.2.2.2.2.2.2.2.1 = some r) (fun x => x.1) (Yy + 1) ((1, .slice A5_ x1.length c5_) :: (2, .slice A6_ x2.length c6_) :: (3, .pointer (some ⟨b2, 0, none⟩)) :: (6, .bool false) :: (7, .int .i64 0) :: []) (by repeat (first | exact Sub.nil | refine Sub.cons rfl ?_)) ?_ ?_)
 ·rintro ⟨n, v27, v28, v29, v30, v31, v32, v33, v34, v35, v36, v37, A38, c39, v41, v42, v43, v44, v45, v46, v47, v48, v49, A50, c51, v53, A54, c55, v57, A58, c59, v61, A62, c63⟩ w ⟨hS, k40, k52, k56, k60, k64, H⟩
  dsimp only at hS k40 k52 k56 k60 k64 H ⊢
  obtain _ | n := n
  ·have H0 : none = some r := H
   cases H0
  rw [Z0] at H
  refine Zf (fun K hK65 => Zf (fun K hK66 => Zg (Zb 2 rfl (Za rfl rfl rfl (Yb Y9 rfl) (Za rfl rfl rfl (Y4 rfl rfl) (Zh (Zd hK66 ?_)))))))
  refine Zx rfl (fun hb => ?_) (fun hb => ?_)
  rotate_left
  ·replace H := Zq H hb
   refine Xy (Z4 (Z4 (Yz (Zd hK25 (Zf (fun K hK580 => Zg ?_))))))
   obtain ⟨r581, hm582, H⟩ := bind_some H
   refine Zt rfl rfl rfl rfl (by kernel_rfl) rfl (Zbb _ hm582) ?_
   rintro e w ⟨rfl, hN⟩; refine ⟨_, rfl, ?_⟩; obtain ⟨hB, hS⟩ := hS.jn hN
   refine Zb 1 rfl (Zh (Zd hK580 (Zl (Zm rfl (RV.tmp rfl RV.nil) rfl ?_))))
   obtain rfl := QJ H
   replace hS := hS.cut 0
   exact ⟨rfl, hS⟩
  replace H := Zp H hb
  refine Zv (Zd hK65 (Zf (fun K hK68 => Z6 (Zf (fun K hK69 => Zf (fun K hK70 => Zg (Zb 2 rfl ?_)))))))
  obtain ⟨e71, hi73, H⟩ := bind_some H
  obtain ⟨j72, A74, c75, hi73a, hi73b, hi73c⟩ := Zar (q := q6_) s6_q hi73
  refine Za rfl rfl rfl (Y2 Y9 rfl rfl hi73a hi73c (Rd.el (hS.rd0 s6_.rd) Yc hi73b)) (Za rfl rfl rfl (Y0 Zb2 rfl (Rd.el (hS.rd0 s6_.rd) Yc hi73b)) (Za rfl rfl rfl (Za6 Y6 rfl (Zgf _) (Rd.el (hS.rd0 s6_.rd) Yc hi73b) rfl) (Za rfl rfl rfl (Yb Y1 rfl) (Za rfl rfl rfl (Y8 rfl rfl) (Zh (Zd hK70 (Zx rfl (fun hb => ?_) (fun hb => ?_))))))))
  ·replace H := Zp H hb
   refine Zf (fun K hK77 => Zg ?_)
   obtain ⟨r78, hm79, H⟩ := bind_some H
   refine Zt rfl rfl rfl rfl (by kernel_rfl) rfl (Zbb _ hm79) ?_
   rintro e w ⟨rfl, hN⟩; refine ⟨_, rfl, ?_⟩; obtain ⟨hB, hS⟩ := hS.jn hN
   refine Zb 1 rfl (Zh (Zd hK77 (Zl (Ze (Zj (Ze (Ze ?_)))))))
   refine Zj (Ze (Zm rfl (RV.tmp rfl RV.nil) rfl ?_))
   obtain rfl := QJ H
   replace hS := hS.cut 0
   exact ⟨rfl, hS⟩
  replace H := Zq H hb
  refine Zv (Zd hK69 (Zf (fun K hK81 => Zg (Zb 1 rfl (Zh (Zd hK81 (Zf (fun K hK82 => ?_))))))))
  refine Zf (fun K hK83 => Zg (Zb 2 rfl (Za rfl rfl rfl (Yb el_31 rfl) (Za rfl rfl rfl (Y4 rfl rfl) (Zh (Zd hK83 (Zx rfl (fun hb => ?_) (fun hb => ?_))))))))
  rotate_left
  ·replace H := Zq H hb
   refine Zv (Zd hK82 (Zf (fun K hK334 => Zg (Zb 2 rfl ?_))))
   obtain ⟨e335, hi337, H⟩ := bind_some H
   obtain ⟨j336, A338, c339, hi337a, hi337b, hi337c⟩ := Zar (q := q6_) s6_q hi337
   refine Za rfl rfl rfl (Y2 Y9 rfl rfl hi337a hi337c (Rd.el (hS.rd0 s6_.rd) Yc hi337b)) (Za rfl rfl rfl (V8 Vz rfl (Zgf _) (Rd.el (hS.rd0 s6_.rd) Yc hi337b) X7) (Yr rfl rfl Zbu hS (fun b340 w hS hB => Zr rfl rfl rfl CellsOf.agg hS ps0 st0_15 (by kernel_rfl) rfl (fun w hS hB => Zh (Zd hK334 (Zf (fun K hK342 => Zg ?_)))))))
   refine Za rfl rfl rfl (Zc Xb rfl) (Za rfl rfl rfl (Zi Zy rfl (Zgf _) hS Vv trivial Yw) (Za rfl rfl rfl (Zc Zc5 rfl) (Zr rfl rfl rfl CellsOf.int hS ps0 st2_1 (by kernel_rfl) rfl (fun w hS hB => Zh (Zd hK342 (Zf (fun K hK343 => Zg ?_)))))))
   refine Za rfl rfl rfl (Zk Ya rfl (Zgf _) hS Vv trivial Z1) (Zb 1 rfl (Za rfl rfl rfl (Zk Vz rfl (Zgf _) hS hs0 trivial X7) ?_))
   obtain ⟨r344, hm345, H⟩ := bind_some H
   refine Zt rfl rfl rfl rfl (by kernel_rfl) rfl (Zex (⟨v28, v29, v30, v31, (⟨(⟨v32, v33, v34, v35, v36⟩ : St), v37, v41, v42⟩ : Tu), v43, (⟨v44, v45, v46, v47, v48⟩ : St), v49, v53, v57, v61⟩ : Co) 0 {e335 with dst := v28} A38 c39 A50 c51 A54 c55 A58 c59 A62 c63 A338 c339 _ (Zgi k40 (hS.rd X9) (hS.rd_blk X9)) (Zgi k52 (hS.row_rd Vt) (hS.row_blk Vt)) (Zgi k56 (hS.row_rd hs3) (hS.row_blk hs3)) (Zgi k60 (hS.row_rd hs4) (hS.row_blk hs4)) (Zgi k64 (hS.row_rd hs5) (hS.row_blk hs5)) (SlW.of_rd ((s6_n _ (List.mem_of_getElem? hi337b)).k) (hS.rd0 (s6_n _ (List.mem_of_getElem? hi337b)).rd)) hm345) ?_
   rintro e w ⟨A346, c347, A350, c351, A354, c355, A358, c359, A362, c363, A366, c367, q370, rfl, k348, k352, k356, k360, k364, k368, hq371, okq372, hN⟩; refine ⟨_, rfl, ?_⟩; obtain ⟨hB, hS⟩ := hS.jn hN
   refine Zb 1 rfl (Za rfl rfl rfl (Yj rfl rfl) (Za rfl rfl rfl (Yj rfl rfl) (Yr rfl rfl Zcn hS (fun b374 w hS hB => Zr rfl rfl rfl CellsOf.agg hS ps0 Yo (by kernel_rfl) rfl (fun w hS hB => Zb 1 rfl (Zh (Zd hK343 ?_)))))))
   refine Zf (fun K hK376 => Zf (fun K hK377 => Zg (Za rfl rfl rfl (Zk Ya rfl (Zgf _) hS hs0 trivial Z1) ?_)))
   obtain ⟨r378, hm379, H⟩ := bind_some H
   refine Zt rfl rfl rfl rfl (by kernel_rfl) rfl (Zcv r344.1 A346 c347 A350 c351 A354 c355 A358 c359 A362 c363 _ (Zgi k348 (hS.rd X9) (hS.rd_blk X9)) (Zgi k352 (hS.row_rd Vt) (hS.row_blk Vt)) (Zgi k356 (hS.row_rd hs3) (hS.row_blk hs3)) (Zgi k360 (hS.row_rd hs4) (hS.row_blk hs4)) (Zgi k364 (hS.row_rd hs5) (hS.row_blk hs5)) hm379) ?_
   rintro e w ⟨rfl, hN⟩; refine ⟨_, rfl, ?_⟩; obtain ⟨hB, hS⟩ := hS.jn hN
   refine Za rfl rfl rfl (Yt rfl) (Zb 1 rfl (Zs 65 rfl (fun hb => ?_) (fun hb => ?_)))
   ·replace H := Zp H hb
    refine Zb 73 rfl (Zh (Zd hK377 (Zn rfl rfl (Zf (fun K hK381 => Zg (Zb 1 rfl (Zh ?_)))))))
    refine Zd hK381 (Zl (Ze (Zj (Ze (Ze (Zj (Ze ?_)))))))
    refine Zm rfl (RV.tmp rfl RV.nil) rfl ?_
    obtain rfl := QJ H
    replace hS := hS.cut 0
    exact ⟨rfl, hS⟩
   replace H := Zq H hb
   refine Za rfl rfl rfl (Zc Zz rfl) (Za rfl rfl rfl (Zc Xc rfl) (Za rfl rfl rfl (Zi Zy rfl (Zgf _) hS hs0 trivial Xv) (Za rfl rfl rfl (Zc Zz rfl) (Za rfl rfl rfl (Zc Xc rfl) (Za rfl rfl rfl (Zi Zy rfl (Zgf _) hS Jv trivial Xv) (Za rfl rfl rfl (Y4 rfl rfl) (Zb 2 rfl ?_)))))))
   refine Zs 74 rfl (fun hb => ?_) (fun hb => ?_)
   ·replace H := Zp H hb
    refine Zb 64 rfl (Zh (Zd hK377 (Zn rfl rfl (Zf (fun K hK384 => Zg (Zb 1 rfl (Zh ?_)))))))
    refine Zd hK384 (Zl (Ze (Zj (Ze (Ze (Zj (Ze ?_)))))))
    refine Zm rfl (RV.tmp rfl RV.nil) rfl ?_
    obtain rfl := QJ H
    replace hS := hS.cut 0
    exact ⟨rfl, hS⟩
   replace H := Zq H hb
   refine Za rfl rfl rfl (Zc Zz rfl) (Za rfl rfl rfl (Zc Xc rfl) (Za rfl rfl rfl (Zi Zy rfl (Zgf _) hS hs0 trivial Xv) (Za rfl rfl rfl (Zc Zz rfl) (Za rfl rfl rfl (Zc Xc rfl) (Za rfl rfl rfl (Zi Zy rfl (Zgf _) hS Jv trivial Xv) (Za rfl rfl rfl (Xh rfl rfl) (Zb 1 rfl ?_)))))))
   refine Zs 82 rfl (fun hb => ?_) (fun hb => ?_)
   rotate_left
   ·replace H := Zq H hb
    refine Zb 16 rfl (Za rfl rfl rfl (Zc Zz rfl) (Za rfl rfl rfl (Zc Yg rfl) (Za rfl rfl rfl (Zi Y6 rfl (Zgf _) hS hs0 trivial Xt) (Za rfl rfl rfl (Yb Y1 rfl) (Za rfl rfl rfl (Zc Zz rfl) (Za rfl rfl rfl (Zc Yg rfl) (Za rfl rfl rfl (Zi Y6 rfl (Zgf _) hS Jv trivial Xt) ?_)))))))
    refine Za rfl rfl rfl (Yb Y1 rfl) (Za rfl rfl rfl (Y4 rfl rfl) (Zb 2 rfl (Zs 109 rfl (fun hb => ?_) (fun hb => ?_))))
    ·replace H := Zp H hb
     refine Zb 29 rfl (Zh (Zd hK377 (Zn rfl rfl (Zf (fun K hK518 => Zg (Zb 1 rfl (Zh ?_)))))))
     refine Zd hK518 (Zl (Ze (Zj (Ze (Ze (Zj (Ze ?_)))))))
     refine Zm rfl (RV.tmp rfl RV.nil) rfl ?_
     obtain rfl := QJ H
     replace hS := hS.cut 0
     exact ⟨rfl, hS⟩
    replace H := Zq H hb
    refine Za rfl rfl rfl (Zc V6 rfl) (Za rfl rfl rfl (Zi Zy rfl (Zgf _) hS hs0 trivial J9) (Za rfl rfl rfl (Zc V6 rfl) (Za rfl rfl rfl (Zi Zy rfl (Zgf _) hS Jv trivial J9) (Za rfl rfl rfl (Yl rfl rfl) (Zb 2 rfl (Zs 116 rfl (fun hb => ?_) (fun hb => ?_)))))))
    ·replace H := Zp H hb
     refine Zb 22 rfl (Zh (Zd hK377 (Zn rfl rfl (Zf (fun K hK521 => Zg (Zb 1 rfl (Zh ?_)))))))
     refine Zd hK521 (Zl (Ze (Zj (Ze (Ze (Zj (Ze ?_)))))))
     refine Zm rfl (RV.tmp rfl RV.nil) rfl ?_
     obtain rfl := QJ H
     replace hS := hS.cut 0
     exact ⟨rfl, hS⟩
    replace H := Zq H hb
    refine Za rfl rfl rfl (Zc Zz rfl) (Za rfl rfl rfl (Zc Xe rfl) (Za rfl rfl rfl (Zk Y3 rfl (Zgf _) hS hs0 trivial Zb1) (Za rfl rfl rfl (Zc Zz rfl) (Za rfl rfl rfl (Zc Xe rfl) (Za rfl rfl rfl (Zk Y3 rfl (Zgf _) hS Jv trivial Zb1) (Za rfl rfl rfl (Zb0 (by kernel_rfl) rfl rfl (Jg _ _ _ _ _ _ _ _ _ _)) (Zb 2 rfl ?_)))))))
    refine Zs 125 rfl (fun hb => ?_) (fun hb => ?_)
    ·replace H := Zp H hb
     refine Zb 13 rfl (Zh (Zd hK377 (Zn rfl rfl (Zf (fun K hK524 => Zg (Zb 1 rfl (Zh ?_)))))))
     refine Zd hK524 (Zl (Ze (Zj (Ze (Ze (Zj (Ze ?_)))))))
     refine Zm rfl (RV.tmp rfl RV.nil) rfl ?_
     obtain rfl := QJ H
     replace hS := hS.cut 0
     exact ⟨rfl, hS⟩
    replace H := Zq H hb
    refine Za rfl rfl rfl (Zc Xb rfl) (Za rfl rfl rfl (Zi Zy rfl (Zgf _) hS hs0 trivial Yw) (Za rfl rfl rfl (Zc Xb rfl) (Za rfl rfl rfl (Zi Zy rfl (Zgf _) hS Jv trivial Yw) (Za rfl rfl rfl (Yl rfl rfl) (Zb 2 rfl (Zs 132 rfl (fun hb => ?_) (fun hb => ?_)))))))
    ·replace H := Zp H hb
     refine Zb 6 rfl (Zh (Zd hK377 (Zn rfl rfl (Zf (fun K hK527 => Zg (Zb 1 rfl (Zh ?_)))))))
     refine Zd hK527 (Zl (Ze (Zj (Ze (Ze (Zj (Ze ?_)))))))
     refine Zm rfl (RV.tmp rfl RV.nil) rfl ?_
     obtain rfl := QJ H
     replace hS := hS.cut 0
     exact ⟨rfl, hS⟩
    replace H := Zq H hb
    refine Za rfl rfl rfl (Zc Yx rfl) (Za rfl rfl rfl (Zi Zy rfl (Zgf _) hS hs0 trivial Xd) (Za rfl rfl rfl (Zc Yx rfl) (Za rfl rfl rfl (Zi Zy rfl (Zgf _) hS Jv trivial Xd) (Za rfl rfl rfl (Yl rfl rfl) (Zb 1 rfl (Zh (Zd hK377 ?_)))))))
    refine Zx rfl (fun hb => ?_) (fun hb => ?_)
    ·replace H := Zp H hb
     refine Zf (fun K hK530 => Zg (Zb 1 rfl (Zh (Zd hK530 (Zl (Ze (Zj ?_)))))))
     refine Ze (Ze (Zj (Ze (Zm rfl (RV.tmp rfl RV.nil) rfl ?_))))
     obtain rfl := QJ H
     replace hS := hS.cut 0
     exact ⟨rfl, hS⟩
    replace H := Zq H hb
    refine Zv (Zd hK376 (Zf (fun K hK532 => Zf (fun K hK533 => Yh 20 [] (fun _ _ => True) ⟨by kernel_rfl, by kernel_rfl⟩ hS (fun w hS hB => Zo [Tt,Tt,Tt,Tt,Tt,Tt,Tt,Tt,Tt,Tt,Tt] (by decide +kernel) PFC.h (LtK.put rfl rfl rfl (Zc Zz rfl) (LtK.put rfl rfl rfl (Zc Yg rfl) ?_)))))))
    refine LtK.put rfl rfl rfl (Zi Y6 rfl (Zgg _) hS hs0 trivial Xt) (LtK.put rfl rfl rfl (Zc Zz rfl) (LtK.put rfl rfl rfl (Zc Yg rfl) (LtK.put rfl rfl rfl (Zi Y6 rfl (Zgg _) hS Jv trivial Xt) (LtK.put rfl rfl rfl (Yb Y1 rfl) ?_))))
    obtain ⟨l534, ht535, H⟩ := bind_some H
    refine LtK.put rfl rfl rfl (J1 Y1 rfl rfl k348.1 ht535) (LtK.put rfl rfl rfl (Zc Zz rfl) (LtK.put rfl rfl rfl (Zc Yg rfl) (LtK.put rfl rfl rfl (Zi Y6 rfl (Zgg _) hS Jv trivial Xt) (LtK.nil (Yd [Ff,Ff,Ff,Ff,Ff,Ff,Ff,Ff,Ff,Ff,Ff,Tt] 11 ⟨by decide, by kernel_rfl, by kernel_rfl⟩ rfl rfl ?_)))))
    try dsimp only [Z2]
    obtain ⟨r536, hm537, H⟩ := bind_some H
    refine Zt rfl rfl rfl rfl (by kernel_rfl) rfl (Ja l534 v37 A346 c347 A38 c39 _ (Zgi (Zdo k348 ht535) (Rd.takeI Vf (hS.rd X9) ht535) (hS.rd_blk X9)) (Zgi k40 (hS.rd hs9) (hS.rd_blk hs9)) hm537) ?_
    rintro e w ⟨rfl, hN⟩; refine ⟨_, rfl, ?_⟩; obtain ⟨hB, hS⟩ := hS.jn hN
    refine Zh (Ye hB (Zo [Ff,Ff,Ff,Ff,Ff,Ff,Ff,Ff,Ff,Ff,Ff,Ff,Tt,Tt] (by decide +kernel) PFC.h (LtK.put rfl rfl rfl (Yt rfl) (LtK.put rfl rfl rfl (Zu rfl) (LtK.nil (Xf 152 rfl (fun hb => ?_) (fun hb => ?_)))))))
    ·replace H := Zp H hb
     refine Zo [Ff,Ff,Ff,Ff,Ff,Ff,Ff,Ff,Ff,Ff,Ff,Ff,Ff,Ff,Tt,Tt,Tt,Tt,Tt,Tt] (by decide +kernel) PFC.h (LtK.skip rfl rfl rfl (LtK.skip rfl rfl rfl (LtK.skip rfl rfl rfl (LtK.skip rfl rfl rfl (LtK.skip rfl rfl rfl (LtK.put rfl rfl rfl (Z9 rfl rfl rfl) (LtK.nil ?_)))))))
     refine Z5 (by kernel_rfl) (Zd hK533 (Zn rfl rfl (Zf (fun K hK539 => Zg (Zb 1 rfl (Zh (Zd hK539 ?_)))))))
     refine Zl (Ze (Zj (Ze (Ze (Zj (Ze (Zm rfl (RV.tmp rfl RV.nil) rfl ?_)))))))
     obtain rfl := QJ H
     replace hS := hS.cut 0
     exact ⟨rfl, hS⟩
    replace H := Zq H hb
    refine Zo [Ff,Ff,Ff,Ff,Ff,Ff,Ff,Ff,Ff,Ff,Ff,Ff,Ff,Ff,Tt,Tt,Tt,Tt,Tt,Tt] (by decide +kernel) PFC.h (LtK.put rfl rfl rfl (Zu rfl) (LtK.put rfl rfl rfl (Yb Y9 rfl) (LtK.put rfl rfl rfl (Zc Yx rfl) (LtK.put rfl rfl rfl (Zi Zy rfl (Zgg _) hS hs0 trivial Xd) (LtK.put rfl rfl rfl (Y8 rfl rfl) (LtK.put rfl rfl rfl (Yk rfl rfl rfl) (LtK.nil ?_)))))))
    refine Z5 (by kernel_rfl) (Zd hK533 (Zx rfl (fun hb => ?_) (fun hb => ?_)))
    ·replace H := Zp H hb
     refine Zf (fun K hK542 => Zg (Zb 1 rfl (Zh (Zd hK542 (Zl (Ze (Zj ?_)))))))
     refine Ze (Ze (Zj (Ze (Zm rfl (RV.tmp rfl RV.nil) rfl ?_))))
     obtain rfl := QJ H
     replace hS := hS.cut 0
     exact ⟨rfl, hS⟩
    replace H := Zq H hb
    refine Zv (Zd hK532 (Zf (fun K hK544 => Zf (fun K hK545 => Zg (Zb 1 rfl (Zh (Zd hK545 ?_)))))))
    refine Z6 (Vp (X := Nat × Int) (fun x => (1, .slice A5_ x1.length c5_) :: (2, .slice A6_ x2.length c6_) :: (3, .pointer (some ⟨b2, 0, none⟩)) :: (7, .int .i64 v27) :: (10, .pointer (some ⟨b374, 0, none⟩)) :: (11, .slice A366 r344.2.length c367) :: (12, .int .i64 x.2) :: []) (fun x w => St0 All w0 w (.box b374 [.int .i64 r344.1.id, .int .i64 r344.1.n, .int .u8 r344.1.role, .int .i64 r344.1.binary, .int .i64 r344.1.tuple.snap.index, .int .i64 r344.1.tuple.snap.term, .int .i64 r344.1.tuple.snap.sum, .int .i64 r344.1.tuple.snap.level, .bool r344.1.tuple.snap.final, .slice A346 r344.1.tuple.log.length c347, .int .i64 r344.1.tuple.term, .int .i64 r344.1.tuple.vote, .int .i64 r344.1.commit, .int .i64 r344.1.applied.index, .int .i64 r344.1.applied.term, .int .i64 r344.1.applied.sum, .int .i64 r344.1.applied.level, .bool r344.1.applied.final, .slice A350 r344.1.votes.length c351, .slice A354 r344.1.next.length c355, .slice A358 r344.1.mtch.length c359, .slice A362 r344.1.caps.length c363] 30 :: .rd A346 (Z8 enE r344.1.tuple.log) :: .row (.slice A350 r344.1.votes.length c351) 4 1 r344.1.votes.length (Z8 enO r344.1.votes) :: .row (.slice A354 r344.1.next.length c355) 3 1 r344.1.next.length (Z8 Vr r344.1.next) :: .row (.slice A358 r344.1.mtch.length c359) 3 1 r344.1.mtch.length (Z8 Vr r344.1.mtch) :: .row (.slice A362 r344.1.caps.length c363) 3 1 r344.1.caps.length (Z8 Vr r344.1.caps) :: .rd A366 (Z8 enQ q370) :: .rds (q370.map Zfk) :: .box b340 [.int .u8 e335.kind, .int .i64 e335.frm, .int .i64 v28, .int .i64 e335.term, .int .i64 e335.cap, .int .i64 e335.last, .int .i64 e335.lastTerm, .int .i64 e335.commit, .bool e335.okk, .slice A338 e335.entries.length c339, .int .i64 e335.snap.index, .int .i64 e335.snap.term, .int .i64 e335.snap.sum, .int .i64 e335.snap.level, .bool e335.snap.final] 36 :: .rd A38 (Z8 enE v37) :: .row (.slice A50 v49.length c51) 4 1 v49.length (Z8 enO v49) :: .row (.slice A54 v53.length c55) 3 1 v53.length (Z8 Vr v53) :: .row (.slice A58 v57.length c59) 3 1 v57.length (Z8 Vr v57) :: .row (.slice A62 v61.length c63) 3 1 v61.length (Z8 Vr v61) :: .box b2 [.int .i64 v28, .int .i64 v29, .int .u8 v30, .int .i64 v31, .int .i64 v32, .int .i64 v33, .int .i64 v34, .int .i64 v35, .bool v36, .slice A38 v37.length c39, .int .i64 v41, .int .i64 v42, .int .i64 v43, .int .i64 v44, .int .i64 v45, .int .i64 v46, .int .i64 v47, .bool v48, .slice A50 v49.length c51, .slice A54 v53.length c55, .slice A58 v57.length c59, .slice A62 v61.length c63] 30 :: []) ∧ X2 (Z0 x1 x2 n) v27 r344 x.1 x.2 = some r) (fun x => x.1) (Yy, 0) (by repeat (first | exact Sub.nil | refine Sub.cons rfl ?_)) ⟨hS, H⟩ ?_)
    rintro ⟨n7, v546⟩ w ⟨hS, H⟩
    dsimp only at hS H ⊢
    obtain _ | n7 := n7
    ·have H0 : none = some r := H
     cases H0
    rw [X2] at H
    refine Zf (fun K hK547 => Zf (fun K hK548 => Zg (Zb 2 rfl (Za rfl rfl rfl (Yb Y9 rfl) (Za rfl rfl rfl (Y4 rfl rfl) (Zh (Zd hK548 ?_)))))))
    refine Zx rfl (fun hb => ?_) (fun hb => ?_)
    rotate_left
    ·replace H := Zq H hb
     refine Xy (Z4 (Z4 (Yz (Zd hK544 (Zg (Za rfl rfl rfl (Zk Ya rfl (Zgf _) hS hs0 trivial Z1) (Zr rfl rfl rfl CellsOf.agg hS ps14 Yo (by kernel_rfl) rfl (fun w hS hB => ?_))))))))
     refine Zh (Zw (Zd hK68 (Zg (Zb 1 rfl (Za rfl rfl rfl (Xu rfl rfl) (Zb 1 rfl (Zh ?_)))))))
     replace hS := hS.front 14 rfl
     replace hS := hS.front 6 rfl
     replace hS := hS.front 6 rfl
     replace hS := hS.front 6 rfl
     replace hS := hS.front 6 rfl
     replace hS := hS.front 6 rfl
     replace hS := hS.cut 6
     exact Xo (n, (IntKind.wrap .i64 (v27 + 1)), r344.1.id, r344.1.n, r344.1.role, r344.1.binary, r344.1.tuple.snap.index, r344.1.tuple.snap.term, r344.1.tuple.snap.sum, r344.1.tuple.snap.level, r344.1.tuple.snap.final, r344.1.tuple.log, A346, c347, r344.1.tuple.term, r344.1.tuple.vote, r344.1.commit, r344.1.applied.index, r344.1.applied.term, r344.1.applied.sum, r344.1.applied.level, r344.1.applied.final, r344.1.votes, A350, c351, r344.1.next, A354, c355, r344.1.mtch, A358, c359, r344.1.caps, A362, c363) (by repeat (first | exact Sub.nil | refine Sub.cons rfl ?_)) ⟨hS, k348, k352, k356, k360, k364, H⟩ (Nat.lt_succ_self _)
    replace H := Zp H hb
    refine Zv (Zd hK547 (Zf (fun K hK550 => Z6 (Zf (fun K hK551 => Yh 29 [] (fun _ _ => True) ⟨by kernel_rfl, by kernel_rfl⟩ hS (fun w hS hB => Zo [Tt,Tt,Tt,Tt,Tt,Tt] (by decide +kernel) PFC.h (LtK.put rfl rfl rfl (Zu rfl) ?_)))))))
    refine LtK.put rfl rfl rfl (Zu rfl) ?_
    obtain ⟨e552, hi554, H⟩ := bind_some H
    obtain ⟨j553, A555, c556, hi554a, hi554b, hi554c⟩ := Zar (q := q370) hq371 hi554
    refine LtK.put rfl rfl rfl (Y2 Y9 rfl rfl hi554a hi554c (Rd.el (hS.rd Vv) Yc hi554b)) (LtK.put rfl rfl rfl (V8 Vz rfl (Zgg _) (Rd.el (hS.rd Vv) Yc hi554b) X7) (LtK.put rfl rfl rfl (Zc Yx rfl) (LtK.put rfl rfl rfl (Zi Zy rfl (Zgg _) hS hs0 trivial Xd) (LtK.nil (Yd [Ff,Ff,Ff,Ff,Ff,Ff,Tt] 6 ⟨by decide, by kernel_rfl, by kernel_rfl⟩ rfl rfl ?_)))))
    try dsimp only [Z2]
    obtain ⟨r557, hm558, H⟩ := bind_some H
    refine Zt rfl rfl rfl rfl (by kernel_rfl) rfl (Jc e552 r344.1.n A555 c556 _ (SlW.of_rd (okq372 _ (List.mem_of_getElem? hi554b)) (hS.rds_rd hs7 hi554b)) hm558) ?_
    rintro e w ⟨rfl, hN⟩; refine ⟨_, rfl, ?_⟩; obtain ⟨hB, hS⟩ := hS.jn hN
    refine Zh (Ye hB (Zo [Ff,Ff,Ff,Ff,Ff,Ff,Ff,Tt,Tt] (by decide +kernel) PFC.h (LtK.put rfl rfl rfl (Yt rfl) (LtK.put rfl rfl rfl (Zu rfl) (LtK.nil (Xf 173 rfl (fun hb => ?_) (fun hb => ?_)))))))
    ·replace H := Zp H hb
     refine Zo [Ff,Ff,Ff,Ff,Ff,Ff,Ff,Ff,Ff,Tt,Tt,Tt,Tt,Tt,Tt,Tt,Tt,Tt,Tt,Tt,Tt,Tt,Tt,Tt,Tt,Tt,Tt,Tt,Tt] (by decide +kernel) PFC.h (LtK.skip rfl rfl rfl (LtK.skip rfl rfl rfl (LtK.skip rfl rfl rfl (LtK.skip rfl rfl rfl (LtK.skip rfl rfl rfl (LtK.skip rfl rfl rfl (LtK.skip rfl rfl rfl ?_)))))))
     refine LtK.skip rfl rfl rfl (LtK.put rfl rfl rfl (Z9 rfl rfl rfl) (LtK.put rfl rfl rfl (Zu rfl) (LtK.skip rfl rfl rfl (LtK.skip rfl rfl rfl (LtK.skip rfl rfl rfl (LtK.skip rfl rfl rfl (LtK.skip rfl rfl rfl ?_)))))))
     refine LtK.skip rfl rfl rfl (LtK.skip rfl rfl rfl (LtK.skip rfl rfl rfl (LtK.skip rfl rfl rfl (LtK.put rfl rfl rfl (Z9 rfl rfl rfl) (LtK.nil (Z5 (by kernel_rfl) (Zd hK551 ?_)))))))
     refine Zn rfl rfl (Zf (fun K hK560 => Zg (Zb 1 rfl (Zh (Zd hK560 (Zl (Zj ?_)))))))
     refine Ze (Ze (Zj (Ze (Zj (Ze (Ze (Zj ?_)))))))
     refine Ze (Zm rfl (RV.tmp rfl RV.nil) rfl ?_)
     obtain rfl := QJ H
     replace hS := hS.cut 0
     exact ⟨rfl, hS⟩
    replace H := Zq H hb
    refine Zo [Ff,Ff,Ff,Ff,Ff,Ff,Ff,Ff,Ff,Tt,Tt,Tt,Tt,Tt,Tt,Tt,Tt,Tt,Tt] (by decide +kernel) PFC.h (LtK.put rfl rfl rfl (Zu rfl) (LtK.put rfl rfl rfl (Zu rfl) ?_))
    obtain ⟨e562, hi564, H⟩ := bind_some H
    obtain ⟨j563, A565, c566, hi564a, hi564b, hi564c⟩ := Zar (q := q370) hq371 hi564
    refine LtK.put rfl rfl rfl (Y2 Y9 rfl rfl hi564a hi564c (Rd.el (hS.rd Vv) Yc hi564b)) (LtK.put rfl rfl rfl (Y0 Ji rfl (Rd.el (hS.rd Vv) Yc hi564b)) (LtK.put rfl rfl rfl (Za6 Zy rfl (Zgg _) (Rd.el (hS.rd Vv) Yc hi564b) rfl) (LtK.put rfl rfl rfl (Zc Xb rfl) (LtK.put rfl rfl rfl (Zi Zy rfl (Zgg _) hS hs0 trivial Yw) (LtK.put rfl rfl rfl (Yl rfl rfl) (LtK.put rfl rfl rfl (Yk rfl rfl rfl) (LtK.put rfl rfl rfl (Zu rfl) ?_)))))))
    refine LtK.nil (Xf 183 rfl (fun hb => ?_) (fun hb => ?_))
    ·replace H := Zp H hb
     refine Zo [Ff,Ff,Ff,Ff,Ff,Ff,Ff,Ff,Ff,Ff,Ff,Ff,Ff,Ff,Ff,Ff,Ff,Ff,Ff,Tt,Tt,Tt,Tt,Tt,Tt,Tt,Tt,Tt,Tt] (by decide +kernel) PFC.h (LtK.skip rfl rfl rfl (LtK.skip rfl rfl rfl (LtK.skip rfl rfl rfl (LtK.skip rfl rfl rfl (LtK.skip rfl rfl rfl (LtK.skip rfl rfl rfl (LtK.skip rfl rfl rfl ?_)))))))
     refine LtK.skip rfl rfl rfl (LtK.skip rfl rfl rfl (LtK.put rfl rfl rfl (Z9 rfl rfl rfl) (LtK.nil (Z5 (by kernel_rfl) (Zd hK551 (Zn rfl rfl (Zf (fun K hK568 => ?_))))))))
     refine Zg (Zb 1 rfl (Zh (Zd hK568 (Zl (Zj (Ze (Ze ?_)))))))
     refine Zj (Ze (Zj (Ze (Ze (Zj (Ze (Zm rfl (RV.tmp rfl RV.nil) rfl ?_)))))))
     obtain rfl := QJ H
     replace hS := hS.cut 0
     exact ⟨rfl, hS⟩
    replace H := Zq H hb
    refine Zo [Ff,Ff,Ff,Ff,Ff,Ff,Ff,Ff,Ff,Ff,Ff,Ff,Ff,Ff,Ff,Ff,Ff,Ff,Ff,Tt,Tt,Tt,Tt,Tt,Tt,Tt,Tt,Tt,Tt] (by decide +kernel) PFC.h (LtK.put rfl rfl rfl (Zu rfl) (LtK.put rfl rfl rfl (Zu rfl) ?_))
    obtain ⟨e570, hi572, H⟩ := bind_some H
    obtain ⟨j571, A573, c574, hi572a, hi572b, hi572c⟩ := Zar (q := q370) hq371 hi572
    refine LtK.put rfl rfl rfl (Y2 Y9 rfl rfl hi572a hi572c (Rd.el (hS.rd Vv) Yc hi572b)) (LtK.put rfl rfl rfl (Y0 Je rfl (Rd.el (hS.rd Vv) Yc hi572b)) (LtK.put rfl rfl rfl (Za6 Zy rfl (Zgg _) (Rd.el (hS.rd Vv) Yc hi572b) rfl) (LtK.put rfl rfl rfl (Zc Zz rfl) (LtK.put rfl rfl rfl (Zc Xc rfl) (LtK.put rfl rfl rfl (Zi Zy rfl (Zgg _) hS hs0 trivial Xv) (LtK.put rfl rfl rfl (Yl rfl rfl) (LtK.put rfl rfl rfl (Yk rfl rfl rfl) ?_)))))))
    refine LtK.nil (Z5 (by kernel_rfl) (Zd hK551 (Zx rfl (fun hb => ?_) (fun hb => ?_))))
    rotate_left
    ·replace H := Zq H hb
     refine Zv (Zw (Zd hK550 (Zg (Zb 1 rfl (Za rfl rfl rfl (Xu rfl rfl) (Zb 1 rfl (Zh ?_)))))))
     exact Xo (n7, (IntKind.wrap .i64 (v546 + 1))) (by repeat (first | exact Sub.nil | refine Sub.cons rfl ?_)) ⟨hS, H⟩ (Nat.lt_succ_self _)
    replace H := Zp H hb
    refine Zf (fun K hK576 => Zg (Zb 1 rfl (Zh (Zd hK576 (Zl (Zj (Ze ?_)))))))
    refine Ze (Zj (Ze (Zj (Ze (Ze (Zj (Ze ?_)))))))
    refine Zm rfl (RV.tmp rfl RV.nil) rfl ?_
    obtain rfl := QJ H
    replace hS := hS.cut 0
    exact ⟨rfl, hS⟩
   replace H := Zp H hb
   refine Za rfl rfl rfl (Zc Zz rfl) (Za rfl rfl rfl (Zc Vq rfl) (Za rfl rfl rfl (Zi Zy rfl (Zgf _) hS Jv trivial Zbz) (Za rfl rfl rfl (Y8 rfl rfl) (Zb 2 rfl (Zs 88 rfl (fun hb => ?_) (fun hb => ?_))))))
   rotate_left
   ·replace H := Zq H hb
    refine Zb 10 rfl (Za rfl rfl rfl (Zc Zz rfl) (Za rfl rfl rfl (Zc Yg rfl) (Za rfl rfl rfl (Zi Y6 rfl (Zgf _) hS hs0 trivial Xt) (Za rfl rfl rfl (Yb Y1 rfl) (Za rfl rfl rfl (Zc Zz rfl) (Za rfl rfl rfl (Zc Yg rfl) (Za rfl rfl rfl (Zi Y6 rfl (Zgf _) hS Jv trivial Xt) ?_)))))))
    refine Za rfl rfl rfl (Yb Y1 rfl) (Za rfl rfl rfl (Y4 rfl rfl) (Zb 2 rfl (Zs 109 rfl (fun hb => ?_) (fun hb => ?_))))
    ·replace H := Zp H hb
     refine Zb 29 rfl (Zh (Zd hK377 (Zn rfl rfl (Zf (fun K hK455 => Zg (Zb 1 rfl (Zh ?_)))))))
     refine Zd hK455 (Zl (Ze (Zj (Ze (Ze (Zj (Ze ?_)))))))
     refine Zm rfl (RV.tmp rfl RV.nil) rfl ?_
     obtain rfl := QJ H
     replace hS := hS.cut 0
     exact ⟨rfl, hS⟩
    replace H := Zq H hb
    refine Za rfl rfl rfl (Zc V6 rfl) (Za rfl rfl rfl (Zi Zy rfl (Zgf _) hS hs0 trivial J9) (Za rfl rfl rfl (Zc V6 rfl) (Za rfl rfl rfl (Zi Zy rfl (Zgf _) hS Jv trivial J9) (Za rfl rfl rfl (Yl rfl rfl) (Zb 2 rfl (Zs 116 rfl (fun hb => ?_) (fun hb => ?_)))))))
    ·replace H := Zp H hb
     refine Zb 22 rfl (Zh (Zd hK377 (Zn rfl rfl (Zf (fun K hK458 => Zg (Zb 1 rfl (Zh ?_)))))))
     refine Zd hK458 (Zl (Ze (Zj (Ze (Ze (Zj (Ze ?_)))))))
     refine Zm rfl (RV.tmp rfl RV.nil) rfl ?_
     obtain rfl := QJ H
     replace hS := hS.cut 0
     exact ⟨rfl, hS⟩
    replace H := Zq H hb
    refine Za rfl rfl rfl (Zc Zz rfl) (Za rfl rfl rfl (Zc Xe rfl) (Za rfl rfl rfl (Zk Y3 rfl (Zgf _) hS hs0 trivial Zb1) (Za rfl rfl rfl (Zc Zz rfl) (Za rfl rfl rfl (Zc Xe rfl) (Za rfl rfl rfl (Zk Y3 rfl (Zgf _) hS Jv trivial Zb1) (Za rfl rfl rfl (Zb0 (by kernel_rfl) rfl rfl (Jg _ _ _ _ _ _ _ _ _ _)) (Zb 2 rfl ?_)))))))
    refine Zs 125 rfl (fun hb => ?_) (fun hb => ?_)
    ·replace H := Zp H hb
     refine Zb 13 rfl (Zh (Zd hK377 (Zn rfl rfl (Zf (fun K hK461 => Zg (Zb 1 rfl (Zh ?_)))))))
     refine Zd hK461 (Zl (Ze (Zj (Ze (Ze (Zj (Ze ?_)))))))
     refine Zm rfl (RV.tmp rfl RV.nil) rfl ?_
     obtain rfl := QJ H
     replace hS := hS.cut 0
     exact ⟨rfl, hS⟩
    replace H := Zq H hb
    refine Za rfl rfl rfl (Zc Xb rfl) (Za rfl rfl rfl (Zi Zy rfl (Zgf _) hS hs0 trivial Yw) (Za rfl rfl rfl (Zc Xb rfl) (Za rfl rfl rfl (Zi Zy rfl (Zgf _) hS Jv trivial Yw) (Za rfl rfl rfl (Yl rfl rfl) (Zb 2 rfl (Zs 132 rfl (fun hb => ?_) (fun hb => ?_)))))))
    ·replace H := Zp H hb
     refine Zb 6 rfl (Zh (Zd hK377 (Zn rfl rfl (Zf (fun K hK464 => Zg (Zb 1 rfl (Zh ?_)))))))
     refine Zd hK464 (Zl (Ze (Zj (Ze (Ze (Zj (Ze ?_)))))))
     refine Zm rfl (RV.tmp rfl RV.nil) rfl ?_
     obtain rfl := QJ H
     replace hS := hS.cut 0
     exact ⟨rfl, hS⟩
    replace H := Zq H hb
    refine Za rfl rfl rfl (Zc Yx rfl) (Za rfl rfl rfl (Zi Zy rfl (Zgf _) hS hs0 trivial Xd) (Za rfl rfl rfl (Zc Yx rfl) (Za rfl rfl rfl (Zi Zy rfl (Zgf _) hS Jv trivial Xd) (Za rfl rfl rfl (Yl rfl rfl) (Zb 1 rfl (Zh (Zd hK377 ?_)))))))
    refine Zx rfl (fun hb => ?_) (fun hb => ?_)
    ·replace H := Zp H hb
     refine Zf (fun K hK467 => Zg (Zb 1 rfl (Zh (Zd hK467 (Zl (Ze (Zj ?_)))))))
     refine Ze (Ze (Zj (Ze (Zm rfl (RV.tmp rfl RV.nil) rfl ?_))))
     obtain rfl := QJ H
     replace hS := hS.cut 0
     exact ⟨rfl, hS⟩
    replace H := Zq H hb
    refine Zv (Zd hK376 (Zf (fun K hK469 => Zf (fun K hK470 => Yh 20 [] (fun _ _ => True) ⟨by kernel_rfl, by kernel_rfl⟩ hS (fun w hS hB => Zo [Tt,Tt,Tt,Tt,Tt,Tt,Tt,Tt,Tt,Tt,Tt] (by decide +kernel) PFC.h (LtK.put rfl rfl rfl (Zc Zz rfl) (LtK.put rfl rfl rfl (Zc Yg rfl) ?_)))))))
    refine LtK.put rfl rfl rfl (Zi Y6 rfl (Zgg _) hS hs0 trivial Xt) (LtK.put rfl rfl rfl (Zc Zz rfl) (LtK.put rfl rfl rfl (Zc Yg rfl) (LtK.put rfl rfl rfl (Zi Y6 rfl (Zgg _) hS Jv trivial Xt) (LtK.put rfl rfl rfl (Yb Y1 rfl) ?_))))
    obtain ⟨l471, ht472, H⟩ := bind_some H
    refine LtK.put rfl rfl rfl (J1 Y1 rfl rfl k348.1 ht472) (LtK.put rfl rfl rfl (Zc Zz rfl) (LtK.put rfl rfl rfl (Zc Yg rfl) (LtK.put rfl rfl rfl (Zi Y6 rfl (Zgg _) hS Jv trivial Xt) (LtK.nil (Yd [Ff,Ff,Ff,Ff,Ff,Ff,Ff,Ff,Ff,Ff,Ff,Tt] 11 ⟨by decide, by kernel_rfl, by kernel_rfl⟩ rfl rfl ?_)))))
    try dsimp only [Z2]
    obtain ⟨r473, hm474, H⟩ := bind_some H
    refine Zt rfl rfl rfl rfl (by kernel_rfl) rfl (Ja l471 v37 A346 c347 A38 c39 _ (Zgi (Zdo k348 ht472) (Rd.takeI Vf (hS.rd X9) ht472) (hS.rd_blk X9)) (Zgi k40 (hS.rd hs9) (hS.rd_blk hs9)) hm474) ?_
    rintro e w ⟨rfl, hN⟩; refine ⟨_, rfl, ?_⟩; obtain ⟨hB, hS⟩ := hS.jn hN
    refine Zh (Ye hB (Zo [Ff,Ff,Ff,Ff,Ff,Ff,Ff,Ff,Ff,Ff,Ff,Ff,Tt,Tt] (by decide +kernel) PFC.h (LtK.put rfl rfl rfl (Yt rfl) (LtK.put rfl rfl rfl (Zu rfl) (LtK.nil (Xf 152 rfl (fun hb => ?_) (fun hb => ?_)))))))
    ·replace H := Zp H hb
     refine Zo [Ff,Ff,Ff,Ff,Ff,Ff,Ff,Ff,Ff,Ff,Ff,Ff,Ff,Ff,Tt,Tt,Tt,Tt,Tt,Tt] (by decide +kernel) PFC.h (LtK.skip rfl rfl rfl (LtK.skip rfl rfl rfl (LtK.skip rfl rfl rfl (LtK.skip rfl rfl rfl (LtK.skip rfl rfl rfl (LtK.put rfl rfl rfl (Z9 rfl rfl rfl) (LtK.nil ?_)))))))
     refine Z5 (by kernel_rfl) (Zd hK470 (Zn rfl rfl (Zf (fun K hK476 => Zg (Zb 1 rfl (Zh (Zd hK476 ?_)))))))
     refine Zl (Ze (Zj (Ze (Ze (Zj (Ze (Zm rfl (RV.tmp rfl RV.nil) rfl ?_)))))))
     obtain rfl := QJ H
     replace hS := hS.cut 0
     exact ⟨rfl, hS⟩
    replace H := Zq H hb
    refine Zo [Ff,Ff,Ff,Ff,Ff,Ff,Ff,Ff,Ff,Ff,Ff,Ff,Ff,Ff,Tt,Tt,Tt,Tt,Tt,Tt] (by decide +kernel) PFC.h (LtK.put rfl rfl rfl (Zu rfl) (LtK.put rfl rfl rfl (Yb Y9 rfl) (LtK.put rfl rfl rfl (Zc Yx rfl) (LtK.put rfl rfl rfl (Zi Zy rfl (Zgg _) hS hs0 trivial Xd) (LtK.put rfl rfl rfl (Y8 rfl rfl) (LtK.put rfl rfl rfl (Yk rfl rfl rfl) (LtK.nil ?_)))))))
    refine Z5 (by kernel_rfl) (Zd hK470 (Zx rfl (fun hb => ?_) (fun hb => ?_)))
    ·replace H := Zp H hb
     refine Zf (fun K hK479 => Zg (Zb 1 rfl (Zh (Zd hK479 (Zl (Ze (Zj ?_)))))))
     refine Ze (Ze (Zj (Ze (Zm rfl (RV.tmp rfl RV.nil) rfl ?_))))
     obtain rfl := QJ H
     replace hS := hS.cut 0
     exact ⟨rfl, hS⟩
    replace H := Zq H hb
    refine Zv (Zd hK469 (Zf (fun K hK481 => Zf (fun K hK482 => Zg (Zb 1 rfl (Zh (Zd hK482 ?_)))))))
    refine Z6 (Vp (X := Nat × Int) (fun x => (1, .slice A5_ x1.length c5_) :: (2, .slice A6_ x2.length c6_) :: (3, .pointer (some ⟨b2, 0, none⟩)) :: (7, .int .i64 v27) :: (10, .pointer (some ⟨b374, 0, none⟩)) :: (11, .slice A366 r344.2.length c367) :: (12, .int .i64 x.2) :: []) (fun x w => St0 All w0 w (.box b374 [.int .i64 r344.1.id, .int .i64 r344.1.n, .int .u8 r344.1.role, .int .i64 r344.1.binary, .int .i64 r344.1.tuple.snap.index, .int .i64 r344.1.tuple.snap.term, .int .i64 r344.1.tuple.snap.sum, .int .i64 r344.1.tuple.snap.level, .bool r344.1.tuple.snap.final, .slice A346 r344.1.tuple.log.length c347, .int .i64 r344.1.tuple.term, .int .i64 r344.1.tuple.vote, .int .i64 r344.1.commit, .int .i64 r344.1.applied.index, .int .i64 r344.1.applied.term, .int .i64 r344.1.applied.sum, .int .i64 r344.1.applied.level, .bool r344.1.applied.final, .slice A350 r344.1.votes.length c351, .slice A354 r344.1.next.length c355, .slice A358 r344.1.mtch.length c359, .slice A362 r344.1.caps.length c363] 30 :: .rd A346 (Z8 enE r344.1.tuple.log) :: .row (.slice A350 r344.1.votes.length c351) 4 1 r344.1.votes.length (Z8 enO r344.1.votes) :: .row (.slice A354 r344.1.next.length c355) 3 1 r344.1.next.length (Z8 Vr r344.1.next) :: .row (.slice A358 r344.1.mtch.length c359) 3 1 r344.1.mtch.length (Z8 Vr r344.1.mtch) :: .row (.slice A362 r344.1.caps.length c363) 3 1 r344.1.caps.length (Z8 Vr r344.1.caps) :: .rd A366 (Z8 enQ q370) :: .rds (q370.map Zfk) :: .box b340 [.int .u8 e335.kind, .int .i64 e335.frm, .int .i64 v28, .int .i64 e335.term, .int .i64 e335.cap, .int .i64 e335.last, .int .i64 e335.lastTerm, .int .i64 e335.commit, .bool e335.okk, .slice A338 e335.entries.length c339, .int .i64 e335.snap.index, .int .i64 e335.snap.term, .int .i64 e335.snap.sum, .int .i64 e335.snap.level, .bool e335.snap.final] 36 :: .rd A38 (Z8 enE v37) :: .row (.slice A50 v49.length c51) 4 1 v49.length (Z8 enO v49) :: .row (.slice A54 v53.length c55) 3 1 v53.length (Z8 Vr v53) :: .row (.slice A58 v57.length c59) 3 1 v57.length (Z8 Vr v57) :: .row (.slice A62 v61.length c63) 3 1 v61.length (Z8 Vr v61) :: .box b2 [.int .i64 v28, .int .i64 v29, .int .u8 v30, .int .i64 v31, .int .i64 v32, .int .i64 v33, .int .i64 v34, .int .i64 v35, .bool v36, .slice A38 v37.length c39, .int .i64 v41, .int .i64 v42, .int .i64 v43, .int .i64 v44, .int .i64 v45, .int .i64 v46, .int .i64 v47, .bool v48, .slice A50 v49.length c51, .slice A54 v53.length c55, .slice A58 v57.length c59, .slice A62 v61.length c63] 30 :: []) ∧ X4 (Z0 x1 x2 n) v27 r344 x.1 x.2 = some r) (fun x => x.1) (Yy, 0) (by repeat (first | exact Sub.nil | refine Sub.cons rfl ?_)) ⟨hS, H⟩ ?_)
    rintro ⟨n6, v483⟩ w ⟨hS, H⟩
    dsimp only at hS H ⊢
    obtain _ | n6 := n6
    ·have H0 : none = some r := H
     cases H0
    rw [X4] at H
    refine Zf (fun K hK484 => Zf (fun K hK485 => Zg (Zb 2 rfl (Za rfl rfl rfl (Yb Y9 rfl) (Za rfl rfl rfl (Y4 rfl rfl) (Zh (Zd hK485 ?_)))))))
    refine Zx rfl (fun hb => ?_) (fun hb => ?_)
    rotate_left
    ·replace H := Zq H hb
     refine Xy (Z4 (Z4 (Yz (Zd hK481 (Zg (Za rfl rfl rfl (Zk Ya rfl (Zgf _) hS hs0 trivial Z1) (Zr rfl rfl rfl CellsOf.agg hS ps14 Yo (by kernel_rfl) rfl (fun w hS hB => ?_))))))))
     refine Zh (Zw (Zd hK68 (Zg (Zb 1 rfl (Za rfl rfl rfl (Xu rfl rfl) (Zb 1 rfl (Zh ?_)))))))
     replace hS := hS.front 14 rfl
     replace hS := hS.front 6 rfl
     replace hS := hS.front 6 rfl
     replace hS := hS.front 6 rfl
     replace hS := hS.front 6 rfl
     replace hS := hS.front 6 rfl
     replace hS := hS.cut 6
     exact Xo (n, (IntKind.wrap .i64 (v27 + 1)), r344.1.id, r344.1.n, r344.1.role, r344.1.binary, r344.1.tuple.snap.index, r344.1.tuple.snap.term, r344.1.tuple.snap.sum, r344.1.tuple.snap.level, r344.1.tuple.snap.final, r344.1.tuple.log, A346, c347, r344.1.tuple.term, r344.1.tuple.vote, r344.1.commit, r344.1.applied.index, r344.1.applied.term, r344.1.applied.sum, r344.1.applied.level, r344.1.applied.final, r344.1.votes, A350, c351, r344.1.next, A354, c355, r344.1.mtch, A358, c359, r344.1.caps, A362, c363) (by repeat (first | exact Sub.nil | refine Sub.cons rfl ?_)) ⟨hS, k348, k352, k356, k360, k364, H⟩ (Nat.lt_succ_self _)
    replace H := Zp H hb
    refine Zv (Zd hK484 (Zf (fun K hK487 => Z6 (Zf (fun K hK488 => Yh 29 [] (fun _ _ => True) ⟨by kernel_rfl, by kernel_rfl⟩ hS (fun w hS hB => Zo [Tt,Tt,Tt,Tt,Tt,Tt] (by decide +kernel) PFC.h (LtK.put rfl rfl rfl (Zu rfl) ?_)))))))
    refine LtK.put rfl rfl rfl (Zu rfl) ?_
    obtain ⟨e489, hi491, H⟩ := bind_some H
    obtain ⟨j490, A492, c493, hi491a, hi491b, hi491c⟩ := Zar (q := q370) hq371 hi491
    refine LtK.put rfl rfl rfl (Y2 Y9 rfl rfl hi491a hi491c (Rd.el (hS.rd Vv) Yc hi491b)) (LtK.put rfl rfl rfl (V8 Vz rfl (Zgg _) (Rd.el (hS.rd Vv) Yc hi491b) X7) (LtK.put rfl rfl rfl (Zc Yx rfl) (LtK.put rfl rfl rfl (Zi Zy rfl (Zgg _) hS hs0 trivial Xd) (LtK.nil (Yd [Ff,Ff,Ff,Ff,Ff,Ff,Tt] 6 ⟨by decide, by kernel_rfl, by kernel_rfl⟩ rfl rfl ?_)))))
    try dsimp only [Z2]
    obtain ⟨r494, hm495, H⟩ := bind_some H
    refine Zt rfl rfl rfl rfl (by kernel_rfl) rfl (Jc e489 r344.1.n A492 c493 _ (SlW.of_rd (okq372 _ (List.mem_of_getElem? hi491b)) (hS.rds_rd hs7 hi491b)) hm495) ?_
    rintro e w ⟨rfl, hN⟩; refine ⟨_, rfl, ?_⟩; obtain ⟨hB, hS⟩ := hS.jn hN
    refine Zh (Ye hB (Zo [Ff,Ff,Ff,Ff,Ff,Ff,Ff,Tt,Tt] (by decide +kernel) PFC.h (LtK.put rfl rfl rfl (Yt rfl) (LtK.put rfl rfl rfl (Zu rfl) (LtK.nil (Xf 173 rfl (fun hb => ?_) (fun hb => ?_)))))))
    ·replace H := Zp H hb
     refine Zo [Ff,Ff,Ff,Ff,Ff,Ff,Ff,Ff,Ff,Tt,Tt,Tt,Tt,Tt,Tt,Tt,Tt,Tt,Tt,Tt,Tt,Tt,Tt,Tt,Tt,Tt,Tt,Tt,Tt] (by decide +kernel) PFC.h (LtK.skip rfl rfl rfl (LtK.skip rfl rfl rfl (LtK.skip rfl rfl rfl (LtK.skip rfl rfl rfl (LtK.skip rfl rfl rfl (LtK.skip rfl rfl rfl (LtK.skip rfl rfl rfl ?_)))))))
     refine LtK.skip rfl rfl rfl (LtK.put rfl rfl rfl (Z9 rfl rfl rfl) (LtK.put rfl rfl rfl (Zu rfl) (LtK.skip rfl rfl rfl (LtK.skip rfl rfl rfl (LtK.skip rfl rfl rfl (LtK.skip rfl rfl rfl (LtK.skip rfl rfl rfl ?_)))))))
     refine LtK.skip rfl rfl rfl (LtK.skip rfl rfl rfl (LtK.skip rfl rfl rfl (LtK.skip rfl rfl rfl (LtK.put rfl rfl rfl (Z9 rfl rfl rfl) (LtK.nil (Z5 (by kernel_rfl) (Zd hK488 ?_)))))))
     refine Zn rfl rfl (Zf (fun K hK497 => Zg (Zb 1 rfl (Zh (Zd hK497 (Zl (Zj ?_)))))))
     refine Ze (Ze (Zj (Ze (Zj (Ze (Ze (Zj ?_)))))))
     refine Ze (Zm rfl (RV.tmp rfl RV.nil) rfl ?_)
     obtain rfl := QJ H
     replace hS := hS.cut 0
     exact ⟨rfl, hS⟩
    replace H := Zq H hb
    refine Zo [Ff,Ff,Ff,Ff,Ff,Ff,Ff,Ff,Ff,Tt,Tt,Tt,Tt,Tt,Tt,Tt,Tt,Tt,Tt] (by decide +kernel) PFC.h (LtK.put rfl rfl rfl (Zu rfl) (LtK.put rfl rfl rfl (Zu rfl) ?_))
    obtain ⟨e499, hi501, H⟩ := bind_some H
    obtain ⟨j500, A502, c503, hi501a, hi501b, hi501c⟩ := Zar (q := q370) hq371 hi501
    refine LtK.put rfl rfl rfl (Y2 Y9 rfl rfl hi501a hi501c (Rd.el (hS.rd Vv) Yc hi501b)) (LtK.put rfl rfl rfl (Y0 Ji rfl (Rd.el (hS.rd Vv) Yc hi501b)) (LtK.put rfl rfl rfl (Za6 Zy rfl (Zgg _) (Rd.el (hS.rd Vv) Yc hi501b) rfl) (LtK.put rfl rfl rfl (Zc Xb rfl) (LtK.put rfl rfl rfl (Zi Zy rfl (Zgg _) hS hs0 trivial Yw) (LtK.put rfl rfl rfl (Yl rfl rfl) (LtK.put rfl rfl rfl (Yk rfl rfl rfl) (LtK.put rfl rfl rfl (Zu rfl) ?_)))))))
    refine LtK.nil (Xf 183 rfl (fun hb => ?_) (fun hb => ?_))
    ·replace H := Zp H hb
     refine Zo [Ff,Ff,Ff,Ff,Ff,Ff,Ff,Ff,Ff,Ff,Ff,Ff,Ff,Ff,Ff,Ff,Ff,Ff,Ff,Tt,Tt,Tt,Tt,Tt,Tt,Tt,Tt,Tt,Tt] (by decide +kernel) PFC.h (LtK.skip rfl rfl rfl (LtK.skip rfl rfl rfl (LtK.skip rfl rfl rfl (LtK.skip rfl rfl rfl (LtK.skip rfl rfl rfl (LtK.skip rfl rfl rfl (LtK.skip rfl rfl rfl ?_)))))))
     refine LtK.skip rfl rfl rfl (LtK.skip rfl rfl rfl (LtK.put rfl rfl rfl (Z9 rfl rfl rfl) (LtK.nil (Z5 (by kernel_rfl) (Zd hK488 (Zn rfl rfl (Zf (fun K hK505 => ?_))))))))
     refine Zg (Zb 1 rfl (Zh (Zd hK505 (Zl (Zj (Ze (Ze ?_)))))))
     refine Zj (Ze (Zj (Ze (Ze (Zj (Ze (Zm rfl (RV.tmp rfl RV.nil) rfl ?_)))))))
     obtain rfl := QJ H
     replace hS := hS.cut 0
     exact ⟨rfl, hS⟩
    replace H := Zq H hb
    refine Zo [Ff,Ff,Ff,Ff,Ff,Ff,Ff,Ff,Ff,Ff,Ff,Ff,Ff,Ff,Ff,Ff,Ff,Ff,Ff,Tt,Tt,Tt,Tt,Tt,Tt,Tt,Tt,Tt,Tt] (by decide +kernel) PFC.h (LtK.put rfl rfl rfl (Zu rfl) (LtK.put rfl rfl rfl (Zu rfl) ?_))
    obtain ⟨e507, hi509, H⟩ := bind_some H
    obtain ⟨j508, A510, c511, hi509a, hi509b, hi509c⟩ := Zar (q := q370) hq371 hi509
    refine LtK.put rfl rfl rfl (Y2 Y9 rfl rfl hi509a hi509c (Rd.el (hS.rd Vv) Yc hi509b)) (LtK.put rfl rfl rfl (Y0 Je rfl (Rd.el (hS.rd Vv) Yc hi509b)) (LtK.put rfl rfl rfl (Za6 Zy rfl (Zgg _) (Rd.el (hS.rd Vv) Yc hi509b) rfl) (LtK.put rfl rfl rfl (Zc Zz rfl) (LtK.put rfl rfl rfl (Zc Xc rfl) (LtK.put rfl rfl rfl (Zi Zy rfl (Zgg _) hS hs0 trivial Xv) (LtK.put rfl rfl rfl (Yl rfl rfl) (LtK.put rfl rfl rfl (Yk rfl rfl rfl) ?_)))))))
    refine LtK.nil (Z5 (by kernel_rfl) (Zd hK488 (Zx rfl (fun hb => ?_) (fun hb => ?_))))
    rotate_left
    ·replace H := Zq H hb
     refine Zv (Zw (Zd hK487 (Zg (Zb 1 rfl (Za rfl rfl rfl (Xu rfl rfl) (Zb 1 rfl (Zh ?_)))))))
     exact Xo (n6, (IntKind.wrap .i64 (v483 + 1))) (by repeat (first | exact Sub.nil | refine Sub.cons rfl ?_)) ⟨hS, H⟩ (Nat.lt_succ_self _)
    replace H := Zp H hb
    refine Zf (fun K hK513 => Zg (Zb 1 rfl (Zh (Zd hK513 (Zl (Zj (Ze ?_)))))))
    refine Ze (Zj (Ze (Zj (Ze (Ze (Zj (Ze ?_)))))))
    refine Zm rfl (RV.tmp rfl RV.nil) rfl ?_
    obtain rfl := QJ H
    replace hS := hS.cut 0
    exact ⟨rfl, hS⟩
   replace H := Zp H hb
   refine Za rfl rfl rfl (Zc Zz rfl) (Za rfl rfl rfl (Zc Vq rfl) (Za rfl rfl rfl (Zi Zy rfl (Zgf _) hS hs0 trivial Zbz) (Za rfl rfl rfl (Zc Zz rfl) (Za rfl rfl rfl (Zc Vq rfl) (Za rfl rfl rfl (Zi Zy rfl (Zgf _) hS Jv trivial Zbz) (Za rfl rfl rfl (Yl rfl rfl) (Zb 3 rfl ?_)))))))
   refine Zs 98 rfl (fun hb => ?_) (fun hb => ?_)
   ·replace H := Zp H hb
    refine Zb 40 rfl (Zh (Zd hK377 (Zn rfl rfl (Zf (fun K hK389 => Zg (Zb 1 rfl (Zh ?_)))))))
    refine Zd hK389 (Zl (Ze (Zj (Ze (Ze (Zj (Ze ?_)))))))
    refine Zm rfl (RV.tmp rfl RV.nil) rfl ?_
    obtain rfl := QJ H
    replace hS := hS.cut 0
    exact ⟨rfl, hS⟩
   replace H := Zq H hb
   refine Za rfl rfl rfl (Zc Zz rfl) (Za rfl rfl rfl (Zc Yg rfl) (Za rfl rfl rfl (Zi Y6 rfl (Zgf _) hS hs0 trivial Xt) (Za rfl rfl rfl (Yb Y1 rfl) (Za rfl rfl rfl (Zc Zz rfl) (Za rfl rfl rfl (Zc Yg rfl) (Za rfl rfl rfl (Zi Y6 rfl (Zgf _) hS Jv trivial Xt) (Za rfl rfl rfl (Yb Y1 rfl) ?_)))))))
   refine Za rfl rfl rfl (Y4 rfl rfl) (Zb 2 rfl (Zs 109 rfl (fun hb => ?_) (fun hb => ?_)))
   ·replace H := Zp H hb
    refine Zb 29 rfl (Zh (Zd hK377 (Zn rfl rfl (Zf (fun K hK392 => Zg (Zb 1 rfl (Zh ?_)))))))
    refine Zd hK392 (Zl (Ze (Zj (Ze (Ze (Zj (Ze ?_)))))))
    refine Zm rfl (RV.tmp rfl RV.nil) rfl ?_
    obtain rfl := QJ H
    replace hS := hS.cut 0
    exact ⟨rfl, hS⟩
   replace H := Zq H hb
   refine Za rfl rfl rfl (Zc V6 rfl) (Za rfl rfl rfl (Zi Zy rfl (Zgf _) hS hs0 trivial J9) (Za rfl rfl rfl (Zc V6 rfl) (Za rfl rfl rfl (Zi Zy rfl (Zgf _) hS Jv trivial J9) (Za rfl rfl rfl (Yl rfl rfl) (Zb 2 rfl (Zs 116 rfl (fun hb => ?_) (fun hb => ?_)))))))
   ·replace H := Zp H hb
    refine Zb 22 rfl (Zh (Zd hK377 (Zn rfl rfl (Zf (fun K hK395 => Zg (Zb 1 rfl (Zh ?_)))))))
    refine Zd hK395 (Zl (Ze (Zj (Ze (Ze (Zj (Ze ?_)))))))
    refine Zm rfl (RV.tmp rfl RV.nil) rfl ?_
    obtain rfl := QJ H
    replace hS := hS.cut 0
    exact ⟨rfl, hS⟩
   replace H := Zq H hb
   refine Za rfl rfl rfl (Zc Zz rfl) (Za rfl rfl rfl (Zc Xe rfl) (Za rfl rfl rfl (Zk Y3 rfl (Zgf _) hS hs0 trivial Zb1) (Za rfl rfl rfl (Zc Zz rfl) (Za rfl rfl rfl (Zc Xe rfl) (Za rfl rfl rfl (Zk Y3 rfl (Zgf _) hS Jv trivial Zb1) (Za rfl rfl rfl (Zb0 (by kernel_rfl) rfl rfl (Jg _ _ _ _ _ _ _ _ _ _)) (Zb 2 rfl ?_)))))))
   refine Zs 125 rfl (fun hb => ?_) (fun hb => ?_)
   ·replace H := Zp H hb
    refine Zb 13 rfl (Zh (Zd hK377 (Zn rfl rfl (Zf (fun K hK398 => Zg (Zb 1 rfl (Zh ?_)))))))
    refine Zd hK398 (Zl (Ze (Zj (Ze (Ze (Zj (Ze ?_)))))))
    refine Zm rfl (RV.tmp rfl RV.nil) rfl ?_
    obtain rfl := QJ H
    replace hS := hS.cut 0
    exact ⟨rfl, hS⟩
   replace H := Zq H hb
   refine Za rfl rfl rfl (Zc Xb rfl) (Za rfl rfl rfl (Zi Zy rfl (Zgf _) hS hs0 trivial Yw) (Za rfl rfl rfl (Zc Xb rfl) (Za rfl rfl rfl (Zi Zy rfl (Zgf _) hS Jv trivial Yw) (Za rfl rfl rfl (Yl rfl rfl) (Zb 2 rfl (Zs 132 rfl (fun hb => ?_) (fun hb => ?_)))))))
   ·replace H := Zp H hb
    refine Zb 6 rfl (Zh (Zd hK377 (Zn rfl rfl (Zf (fun K hK401 => Zg (Zb 1 rfl (Zh ?_)))))))
    refine Zd hK401 (Zl (Ze (Zj (Ze (Ze (Zj (Ze ?_)))))))
    refine Zm rfl (RV.tmp rfl RV.nil) rfl ?_
    obtain rfl := QJ H
    replace hS := hS.cut 0
    exact ⟨rfl, hS⟩
   replace H := Zq H hb
   refine Za rfl rfl rfl (Zc Yx rfl) (Za rfl rfl rfl (Zi Zy rfl (Zgf _) hS hs0 trivial Xd) (Za rfl rfl rfl (Zc Yx rfl) (Za rfl rfl rfl (Zi Zy rfl (Zgf _) hS Jv trivial Xd) (Za rfl rfl rfl (Yl rfl rfl) (Zb 1 rfl (Zh (Zd hK377 ?_)))))))
   refine Zx rfl (fun hb => ?_) (fun hb => ?_)
   ·replace H := Zp H hb
    refine Zf (fun K hK404 => Zg (Zb 1 rfl (Zh (Zd hK404 (Zl (Ze (Zj ?_)))))))
    refine Ze (Ze (Zj (Ze (Zm rfl (RV.tmp rfl RV.nil) rfl ?_))))
    obtain rfl := QJ H
    replace hS := hS.cut 0
    exact ⟨rfl, hS⟩
   replace H := Zq H hb
   refine Zv (Zd hK376 (Zf (fun K hK406 => Zf (fun K hK407 => Yh 20 [] (fun _ _ => True) ⟨by kernel_rfl, by kernel_rfl⟩ hS (fun w hS hB => Zo [Tt,Tt,Tt,Tt,Tt,Tt,Tt,Tt,Tt,Tt,Tt] (by decide +kernel) PFC.h (LtK.put rfl rfl rfl (Zc Zz rfl) (LtK.put rfl rfl rfl (Zc Yg rfl) ?_)))))))
   refine LtK.put rfl rfl rfl (Zi Y6 rfl (Zgg _) hS hs0 trivial Xt) (LtK.put rfl rfl rfl (Zc Zz rfl) (LtK.put rfl rfl rfl (Zc Yg rfl) (LtK.put rfl rfl rfl (Zi Y6 rfl (Zgg _) hS Jv trivial Xt) (LtK.put rfl rfl rfl (Yb Y1 rfl) ?_))))
   obtain ⟨l408, ht409, H⟩ := bind_some H
   refine LtK.put rfl rfl rfl (J1 Y1 rfl rfl k348.1 ht409) (LtK.put rfl rfl rfl (Zc Zz rfl) (LtK.put rfl rfl rfl (Zc Yg rfl) (LtK.put rfl rfl rfl (Zi Y6 rfl (Zgg _) hS Jv trivial Xt) (LtK.nil (Yd [Ff,Ff,Ff,Ff,Ff,Ff,Ff,Ff,Ff,Ff,Ff,Tt] 11 ⟨by decide, by kernel_rfl, by kernel_rfl⟩ rfl rfl ?_)))))
   try dsimp only [Z2]
   obtain ⟨r410, hm411, H⟩ := bind_some H
   refine Zt rfl rfl rfl rfl (by kernel_rfl) rfl (Ja l408 v37 A346 c347 A38 c39 _ (Zgi (Zdo k348 ht409) (Rd.takeI Vf (hS.rd X9) ht409) (hS.rd_blk X9)) (Zgi k40 (hS.rd hs9) (hS.rd_blk hs9)) hm411) ?_
   rintro e w ⟨rfl, hN⟩; refine ⟨_, rfl, ?_⟩; obtain ⟨hB, hS⟩ := hS.jn hN
   refine Zh (Ye hB (Zo [Ff,Ff,Ff,Ff,Ff,Ff,Ff,Ff,Ff,Ff,Ff,Ff,Tt,Tt] (by decide +kernel) PFC.h (LtK.put rfl rfl rfl (Yt rfl) (LtK.put rfl rfl rfl (Zu rfl) (LtK.nil (Xf 152 rfl (fun hb => ?_) (fun hb => ?_)))))))
   ·replace H := Zp H hb
    refine Zo [Ff,Ff,Ff,Ff,Ff,Ff,Ff,Ff,Ff,Ff,Ff,Ff,Ff,Ff,Tt,Tt,Tt,Tt,Tt,Tt] (by decide +kernel) PFC.h (LtK.skip rfl rfl rfl (LtK.skip rfl rfl rfl (LtK.skip rfl rfl rfl (LtK.skip rfl rfl rfl (LtK.skip rfl rfl rfl (LtK.put rfl rfl rfl (Z9 rfl rfl rfl) (LtK.nil ?_)))))))
    refine Z5 (by kernel_rfl) (Zd hK407 (Zn rfl rfl (Zf (fun K hK413 => Zg (Zb 1 rfl (Zh (Zd hK413 ?_)))))))
    refine Zl (Ze (Zj (Ze (Ze (Zj (Ze (Zm rfl (RV.tmp rfl RV.nil) rfl ?_)))))))
    obtain rfl := QJ H
    replace hS := hS.cut 0
    exact ⟨rfl, hS⟩
   replace H := Zq H hb
   refine Zo [Ff,Ff,Ff,Ff,Ff,Ff,Ff,Ff,Ff,Ff,Ff,Ff,Ff,Ff,Tt,Tt,Tt,Tt,Tt,Tt] (by decide +kernel) PFC.h (LtK.put rfl rfl rfl (Zu rfl) (LtK.put rfl rfl rfl (Yb Y9 rfl) (LtK.put rfl rfl rfl (Zc Yx rfl) (LtK.put rfl rfl rfl (Zi Zy rfl (Zgg _) hS hs0 trivial Xd) (LtK.put rfl rfl rfl (Y8 rfl rfl) (LtK.put rfl rfl rfl (Yk rfl rfl rfl) (LtK.nil ?_)))))))
   refine Z5 (by kernel_rfl) (Zd hK407 (Zx rfl (fun hb => ?_) (fun hb => ?_)))
   ·replace H := Zp H hb
    refine Zf (fun K hK416 => Zg (Zb 1 rfl (Zh (Zd hK416 (Zl (Ze (Zj ?_)))))))
    refine Ze (Ze (Zj (Ze (Zm rfl (RV.tmp rfl RV.nil) rfl ?_))))
    obtain rfl := QJ H
    replace hS := hS.cut 0
    exact ⟨rfl, hS⟩
   replace H := Zq H hb
   refine Zv (Zd hK406 (Zf (fun K hK418 => Zf (fun K hK419 => Zg (Zb 1 rfl (Zh (Zd hK419 ?_)))))))
   refine Z6 (Vp (X := Nat × Int) (fun x => (1, .slice A5_ x1.length c5_) :: (2, .slice A6_ x2.length c6_) :: (3, .pointer (some ⟨b2, 0, none⟩)) :: (7, .int .i64 v27) :: (10, .pointer (some ⟨b374, 0, none⟩)) :: (11, .slice A366 r344.2.length c367) :: (12, .int .i64 x.2) :: []) (fun x w => St0 All w0 w (.box b374 [.int .i64 r344.1.id, .int .i64 r344.1.n, .int .u8 r344.1.role, .int .i64 r344.1.binary, .int .i64 r344.1.tuple.snap.index, .int .i64 r344.1.tuple.snap.term, .int .i64 r344.1.tuple.snap.sum, .int .i64 r344.1.tuple.snap.level, .bool r344.1.tuple.snap.final, .slice A346 r344.1.tuple.log.length c347, .int .i64 r344.1.tuple.term, .int .i64 r344.1.tuple.vote, .int .i64 r344.1.commit, .int .i64 r344.1.applied.index, .int .i64 r344.1.applied.term, .int .i64 r344.1.applied.sum, .int .i64 r344.1.applied.level, .bool r344.1.applied.final, .slice A350 r344.1.votes.length c351, .slice A354 r344.1.next.length c355, .slice A358 r344.1.mtch.length c359, .slice A362 r344.1.caps.length c363] 30 :: .rd A346 (Z8 enE r344.1.tuple.log) :: .row (.slice A350 r344.1.votes.length c351) 4 1 r344.1.votes.length (Z8 enO r344.1.votes) :: .row (.slice A354 r344.1.next.length c355) 3 1 r344.1.next.length (Z8 Vr r344.1.next) :: .row (.slice A358 r344.1.mtch.length c359) 3 1 r344.1.mtch.length (Z8 Vr r344.1.mtch) :: .row (.slice A362 r344.1.caps.length c363) 3 1 r344.1.caps.length (Z8 Vr r344.1.caps) :: .rd A366 (Z8 enQ q370) :: .rds (q370.map Zfk) :: .box b340 [.int .u8 e335.kind, .int .i64 e335.frm, .int .i64 v28, .int .i64 e335.term, .int .i64 e335.cap, .int .i64 e335.last, .int .i64 e335.lastTerm, .int .i64 e335.commit, .bool e335.okk, .slice A338 e335.entries.length c339, .int .i64 e335.snap.index, .int .i64 e335.snap.term, .int .i64 e335.snap.sum, .int .i64 e335.snap.level, .bool e335.snap.final] 36 :: .rd A38 (Z8 enE v37) :: .row (.slice A50 v49.length c51) 4 1 v49.length (Z8 enO v49) :: .row (.slice A54 v53.length c55) 3 1 v53.length (Z8 Vr v53) :: .row (.slice A58 v57.length c59) 3 1 v57.length (Z8 Vr v57) :: .row (.slice A62 v61.length c63) 3 1 v61.length (Z8 Vr v61) :: .box b2 [.int .i64 v28, .int .i64 v29, .int .u8 v30, .int .i64 v31, .int .i64 v32, .int .i64 v33, .int .i64 v34, .int .i64 v35, .bool v36, .slice A38 v37.length c39, .int .i64 v41, .int .i64 v42, .int .i64 v43, .int .i64 v44, .int .i64 v45, .int .i64 v46, .int .i64 v47, .bool v48, .slice A50 v49.length c51, .slice A54 v53.length c55, .slice A58 v57.length c59, .slice A62 v61.length c63] 30 :: []) ∧ X6 (Z0 x1 x2 n) v27 r344 x.1 x.2 = some r) (fun x => x.1) (Yy, 0) (by repeat (first | exact Sub.nil | refine Sub.cons rfl ?_)) ⟨hS, H⟩ ?_)
   rintro ⟨n5, v420⟩ w ⟨hS, H⟩
   dsimp only at hS H ⊢
   obtain _ | n5 := n5
   ·have H0 : none = some r := H
    cases H0
   rw [X6] at H
   refine Zf (fun K hK421 => Zf (fun K hK422 => Zg (Zb 2 rfl (Za rfl rfl rfl (Yb Y9 rfl) (Za rfl rfl rfl (Y4 rfl rfl) (Zh (Zd hK422 ?_)))))))
   refine Zx rfl (fun hb => ?_) (fun hb => ?_)
   rotate_left
   ·replace H := Zq H hb
    refine Xy (Z4 (Z4 (Yz (Zd hK418 (Zg (Za rfl rfl rfl (Zk Ya rfl (Zgf _) hS hs0 trivial Z1) (Zr rfl rfl rfl CellsOf.agg hS ps14 Yo (by kernel_rfl) rfl (fun w hS hB => ?_))))))))
    refine Zh (Zw (Zd hK68 (Zg (Zb 1 rfl (Za rfl rfl rfl (Xu rfl rfl) (Zb 1 rfl (Zh ?_)))))))
    replace hS := hS.front 14 rfl
    replace hS := hS.front 6 rfl
    replace hS := hS.front 6 rfl
    replace hS := hS.front 6 rfl
    replace hS := hS.front 6 rfl
    replace hS := hS.front 6 rfl
    replace hS := hS.cut 6
    exact Xo (n, (IntKind.wrap .i64 (v27 + 1)), r344.1.id, r344.1.n, r344.1.role, r344.1.binary, r344.1.tuple.snap.index, r344.1.tuple.snap.term, r344.1.tuple.snap.sum, r344.1.tuple.snap.level, r344.1.tuple.snap.final, r344.1.tuple.log, A346, c347, r344.1.tuple.term, r344.1.tuple.vote, r344.1.commit, r344.1.applied.index, r344.1.applied.term, r344.1.applied.sum, r344.1.applied.level, r344.1.applied.final, r344.1.votes, A350, c351, r344.1.next, A354, c355, r344.1.mtch, A358, c359, r344.1.caps, A362, c363) (by repeat (first | exact Sub.nil | refine Sub.cons rfl ?_)) ⟨hS, k348, k352, k356, k360, k364, H⟩ (Nat.lt_succ_self _)
   replace H := Zp H hb
   refine Zv (Zd hK421 (Zf (fun K hK424 => Z6 (Zf (fun K hK425 => Yh 29 [] (fun _ _ => True) ⟨by kernel_rfl, by kernel_rfl⟩ hS (fun w hS hB => Zo [Tt,Tt,Tt,Tt,Tt,Tt] (by decide +kernel) PFC.h (LtK.put rfl rfl rfl (Zu rfl) ?_)))))))
   refine LtK.put rfl rfl rfl (Zu rfl) ?_
   obtain ⟨e426, hi428, H⟩ := bind_some H
   obtain ⟨j427, A429, c430, hi428a, hi428b, hi428c⟩ := Zar (q := q370) hq371 hi428
   refine LtK.put rfl rfl rfl (Y2 Y9 rfl rfl hi428a hi428c (Rd.el (hS.rd Vv) Yc hi428b)) (LtK.put rfl rfl rfl (V8 Vz rfl (Zgg _) (Rd.el (hS.rd Vv) Yc hi428b) X7) (LtK.put rfl rfl rfl (Zc Yx rfl) (LtK.put rfl rfl rfl (Zi Zy rfl (Zgg _) hS hs0 trivial Xd) (LtK.nil (Yd [Ff,Ff,Ff,Ff,Ff,Ff,Tt] 6 ⟨by decide, by kernel_rfl, by kernel_rfl⟩ rfl rfl ?_)))))
   try dsimp only [Z2]
   obtain ⟨r431, hm432, H⟩ := bind_some H
   refine Zt rfl rfl rfl rfl (by kernel_rfl) rfl (Jc e426 r344.1.n A429 c430 _ (SlW.of_rd (okq372 _ (List.mem_of_getElem? hi428b)) (hS.rds_rd hs7 hi428b)) hm432) ?_
   rintro e w ⟨rfl, hN⟩; refine ⟨_, rfl, ?_⟩; obtain ⟨hB, hS⟩ := hS.jn hN
   refine Zh (Ye hB (Zo [Ff,Ff,Ff,Ff,Ff,Ff,Ff,Tt,Tt] (by decide +kernel) PFC.h (LtK.put rfl rfl rfl (Yt rfl) (LtK.put rfl rfl rfl (Zu rfl) (LtK.nil (Xf 173 rfl (fun hb => ?_) (fun hb => ?_)))))))
   ·replace H := Zp H hb
    refine Zo [Ff,Ff,Ff,Ff,Ff,Ff,Ff,Ff,Ff,Tt,Tt,Tt,Tt,Tt,Tt,Tt,Tt,Tt,Tt,Tt,Tt,Tt,Tt,Tt,Tt,Tt,Tt,Tt,Tt] (by decide +kernel) PFC.h (LtK.skip rfl rfl rfl (LtK.skip rfl rfl rfl (LtK.skip rfl rfl rfl (LtK.skip rfl rfl rfl (LtK.skip rfl rfl rfl (LtK.skip rfl rfl rfl (LtK.skip rfl rfl rfl ?_)))))))
    refine LtK.skip rfl rfl rfl (LtK.put rfl rfl rfl (Z9 rfl rfl rfl) (LtK.put rfl rfl rfl (Zu rfl) (LtK.skip rfl rfl rfl (LtK.skip rfl rfl rfl (LtK.skip rfl rfl rfl (LtK.skip rfl rfl rfl (LtK.skip rfl rfl rfl ?_)))))))
    refine LtK.skip rfl rfl rfl (LtK.skip rfl rfl rfl (LtK.skip rfl rfl rfl (LtK.skip rfl rfl rfl (LtK.put rfl rfl rfl (Z9 rfl rfl rfl) (LtK.nil (Z5 (by kernel_rfl) (Zd hK425 ?_)))))))
    refine Zn rfl rfl (Zf (fun K hK434 => Zg (Zb 1 rfl (Zh (Zd hK434 (Zl (Zj ?_)))))))
    refine Ze (Ze (Zj (Ze (Zj (Ze (Ze (Zj ?_)))))))
    refine Ze (Zm rfl (RV.tmp rfl RV.nil) rfl ?_)
    obtain rfl := QJ H
    replace hS := hS.cut 0
    exact ⟨rfl, hS⟩
   replace H := Zq H hb
   refine Zo [Ff,Ff,Ff,Ff,Ff,Ff,Ff,Ff,Ff,Tt,Tt,Tt,Tt,Tt,Tt,Tt,Tt,Tt,Tt] (by decide +kernel) PFC.h (LtK.put rfl rfl rfl (Zu rfl) (LtK.put rfl rfl rfl (Zu rfl) ?_))
   obtain ⟨e436, hi438, H⟩ := bind_some H
   obtain ⟨j437, A439, c440, hi438a, hi438b, hi438c⟩ := Zar (q := q370) hq371 hi438
   refine LtK.put rfl rfl rfl (Y2 Y9 rfl rfl hi438a hi438c (Rd.el (hS.rd Vv) Yc hi438b)) (LtK.put rfl rfl rfl (Y0 Ji rfl (Rd.el (hS.rd Vv) Yc hi438b)) (LtK.put rfl rfl rfl (Za6 Zy rfl (Zgg _) (Rd.el (hS.rd Vv) Yc hi438b) rfl) (LtK.put rfl rfl rfl (Zc Xb rfl) (LtK.put rfl rfl rfl (Zi Zy rfl (Zgg _) hS hs0 trivial Yw) (LtK.put rfl rfl rfl (Yl rfl rfl) (LtK.put rfl rfl rfl (Yk rfl rfl rfl) (LtK.put rfl rfl rfl (Zu rfl) ?_)))))))
   refine LtK.nil (Xf 183 rfl (fun hb => ?_) (fun hb => ?_))
   ·replace H := Zp H hb
    refine Zo [Ff,Ff,Ff,Ff,Ff,Ff,Ff,Ff,Ff,Ff,Ff,Ff,Ff,Ff,Ff,Ff,Ff,Ff,Ff,Tt,Tt,Tt,Tt,Tt,Tt,Tt,Tt,Tt,Tt] (by decide +kernel) PFC.h (LtK.skip rfl rfl rfl (LtK.skip rfl rfl rfl (LtK.skip rfl rfl rfl (LtK.skip rfl rfl rfl (LtK.skip rfl rfl rfl (LtK.skip rfl rfl rfl (LtK.skip rfl rfl rfl ?_)))))))
    refine LtK.skip rfl rfl rfl (LtK.skip rfl rfl rfl (LtK.put rfl rfl rfl (Z9 rfl rfl rfl) (LtK.nil (Z5 (by kernel_rfl) (Zd hK425 (Zn rfl rfl (Zf (fun K hK442 => ?_))))))))
    refine Zg (Zb 1 rfl (Zh (Zd hK442 (Zl (Zj (Ze (Ze ?_)))))))
    refine Zj (Ze (Zj (Ze (Ze (Zj (Ze (Zm rfl (RV.tmp rfl RV.nil) rfl ?_)))))))
    obtain rfl := QJ H
    replace hS := hS.cut 0
    exact ⟨rfl, hS⟩
   replace H := Zq H hb
   refine Zo [Ff,Ff,Ff,Ff,Ff,Ff,Ff,Ff,Ff,Ff,Ff,Ff,Ff,Ff,Ff,Ff,Ff,Ff,Ff,Tt,Tt,Tt,Tt,Tt,Tt,Tt,Tt,Tt,Tt] (by decide +kernel) PFC.h (LtK.put rfl rfl rfl (Zu rfl) (LtK.put rfl rfl rfl (Zu rfl) ?_))
   obtain ⟨e444, hi446, H⟩ := bind_some H
   obtain ⟨j445, A447, c448, hi446a, hi446b, hi446c⟩ := Zar (q := q370) hq371 hi446
   refine LtK.put rfl rfl rfl (Y2 Y9 rfl rfl hi446a hi446c (Rd.el (hS.rd Vv) Yc hi446b)) (LtK.put rfl rfl rfl (Y0 Je rfl (Rd.el (hS.rd Vv) Yc hi446b)) (LtK.put rfl rfl rfl (Za6 Zy rfl (Zgg _) (Rd.el (hS.rd Vv) Yc hi446b) rfl) (LtK.put rfl rfl rfl (Zc Zz rfl) (LtK.put rfl rfl rfl (Zc Xc rfl) (LtK.put rfl rfl rfl (Zi Zy rfl (Zgg _) hS hs0 trivial Xv) (LtK.put rfl rfl rfl (Yl rfl rfl) (LtK.put rfl rfl rfl (Yk rfl rfl rfl) ?_)))))))
   refine LtK.nil (Z5 (by kernel_rfl) (Zd hK425 (Zx rfl (fun hb => ?_) (fun hb => ?_))))
   rotate_left
   ·replace H := Zq H hb
    refine Zv (Zw (Zd hK424 (Zg (Zb 1 rfl (Za rfl rfl rfl (Xu rfl rfl) (Zb 1 rfl (Zh ?_)))))))
    exact Xo (n5, (IntKind.wrap .i64 (v420 + 1))) (by repeat (first | exact Sub.nil | refine Sub.cons rfl ?_)) ⟨hS, H⟩ (Nat.lt_succ_self _)
   replace H := Zp H hb
   refine Zf (fun K hK450 => Zg (Zb 1 rfl (Zh (Zd hK450 (Zl (Zj (Ze ?_)))))))
   refine Ze (Zj (Ze (Zj (Ze (Ze (Zj (Ze ?_)))))))
   refine Zm rfl (RV.tmp rfl RV.nil) rfl ?_
   obtain rfl := QJ H
   replace hS := hS.cut 0
   exact ⟨rfl, hS⟩
  replace H := Zp H hb
  refine Zg (Zb 2 rfl ?_)
  obtain ⟨e85, hi87, H⟩ := bind_some H
  obtain ⟨j86, hi87a, hi87b, hi87c⟩ := Xn hi87
  refine Za rfl rfl rfl (Y2 el_31 rfl rfl hi87a hi87c (Rd.el (hS.rd0 s5_.rd) he_enY hi87b)) (Za rfl rfl rfl (Zav Zbi rfl (Zgf _) (Rd.el (hS.rd0 s5_.rd) he_enY hi87b) rfl) (Zb 1 rfl (Zh (Zd hK82 (Zf (fun K hK88 => Zg (Zb 2 rfl ?_)))))))
  obtain ⟨e89, hi91, H⟩ := bind_some H
  obtain ⟨j90, A92, c93, hi91a, hi91b, hi91c⟩ := Zar (q := q6_) s6_q hi91
  refine Za rfl rfl rfl (Y2 Y9 rfl rfl hi91a hi91c (Rd.el (hS.rd0 s6_.rd) Yc hi91b)) (Za rfl rfl rfl (V8 Vz rfl (Zgf _) (Rd.el (hS.rd0 s6_.rd) Yc hi91b) X7) (Yr rfl rfl Zbu hS (fun b94 w hS hB => Zr rfl rfl rfl CellsOf.agg hS ps0 st0_15 (by kernel_rfl) rfl (fun w hS hB => Zh (Zd hK88 (Zf (fun K hK96 => Zg ?_)))))))
  refine Za rfl rfl rfl (Zc Xb rfl) (Za rfl rfl rfl (Zi Zy rfl (Zgf _) hS Vv trivial Yw) (Za rfl rfl rfl (Zc Zc5 rfl) (Zr rfl rfl rfl CellsOf.int hS ps0 st2_1 (by kernel_rfl) rfl (fun w hS hB => Zh (Zd hK96 (Zf (fun K hK97 => Zg ?_)))))))
  refine Za rfl rfl rfl (Zk Ya rfl (Zgf _) hS Vv trivial Z1) (Zb 1 rfl (Za rfl rfl rfl (Zk Vz rfl (Zgf _) hS hs0 trivial X7) ?_))
  obtain ⟨r98, hm99, H⟩ := bind_some H
  refine Zt rfl rfl rfl rfl (by kernel_rfl) rfl (Zex (⟨v28, v29, v30, v31, (⟨(⟨v32, v33, v34, v35, v36⟩ : St), v37, v41, v42⟩ : Tu), v43, (⟨v44, v45, v46, v47, v48⟩ : St), v49, v53, v57, v61⟩ : Co) (e85.toNat : Int) {e89 with dst := v28} A38 c39 A50 c51 A54 c55 A58 c59 A62 c63 A92 c93 _ (Zgi k40 (hS.rd X9) (hS.rd_blk X9)) (Zgi k52 (hS.row_rd Vt) (hS.row_blk Vt)) (Zgi k56 (hS.row_rd hs3) (hS.row_blk hs3)) (Zgi k60 (hS.row_rd hs4) (hS.row_blk hs4)) (Zgi k64 (hS.row_rd hs5) (hS.row_blk hs5)) (SlW.of_rd ((s6_n _ (List.mem_of_getElem? hi91b)).k) (hS.rd0 (s6_n _ (List.mem_of_getElem? hi91b)).rd)) hm99) ?_
  rintro e w ⟨A100, c101, A104, c105, A108, c109, A112, c113, A116, c117, A120, c121, q124, rfl, k102, k106, k110, k114, k118, k122, hq125, okq126, hN⟩; refine ⟨_, rfl, ?_⟩; obtain ⟨hB, hS⟩ := hS.jn hN
  refine Zb 1 rfl (Za rfl rfl rfl (Yj rfl rfl) (Za rfl rfl rfl (Yj rfl rfl) (Yr rfl rfl Zcn hS (fun b128 w hS hB => Zr rfl rfl rfl CellsOf.agg hS ps0 Yo (by kernel_rfl) rfl (fun w hS hB => Zb 1 rfl (Zh (Zd hK97 ?_)))))))
  refine Zf (fun K hK130 => Zf (fun K hK131 => Zg (Za rfl rfl rfl (Zk Ya rfl (Zgf _) hS hs0 trivial Z1) ?_)))
  obtain ⟨r132, hm133, H⟩ := bind_some H
  refine Zt rfl rfl rfl rfl (by kernel_rfl) rfl (Zcv r98.1 A100 c101 A104 c105 A108 c109 A112 c113 A116 c117 _ (Zgi k102 (hS.rd X9) (hS.rd_blk X9)) (Zgi k106 (hS.row_rd Vt) (hS.row_blk Vt)) (Zgi k110 (hS.row_rd hs3) (hS.row_blk hs3)) (Zgi k114 (hS.row_rd hs4) (hS.row_blk hs4)) (Zgi k118 (hS.row_rd hs5) (hS.row_blk hs5)) hm133) ?_
  rintro e w ⟨rfl, hN⟩; refine ⟨_, rfl, ?_⟩; obtain ⟨hB, hS⟩ := hS.jn hN
  refine Za rfl rfl rfl (Yt rfl) (Zb 1 rfl (Zs 65 rfl (fun hb => ?_) (fun hb => ?_)))
  ·replace H := Zp H hb
   refine Zb 73 rfl (Zh (Zd hK131 (Zn rfl rfl (Zf (fun K hK135 => Zg (Zb 1 rfl (Zh ?_)))))))
   refine Zd hK135 (Zl (Ze (Zj (Ze (Ze (Zj (Ze ?_)))))))
   refine Zm rfl (RV.tmp rfl RV.nil) rfl ?_
   obtain rfl := QJ H
   replace hS := hS.cut 0
   exact ⟨rfl, hS⟩
  replace H := Zq H hb
  refine Za rfl rfl rfl (Zc Zz rfl) (Za rfl rfl rfl (Zc Xc rfl) (Za rfl rfl rfl (Zi Zy rfl (Zgf _) hS hs0 trivial Xv) (Za rfl rfl rfl (Zc Zz rfl) (Za rfl rfl rfl (Zc Xc rfl) (Za rfl rfl rfl (Zi Zy rfl (Zgf _) hS Jv trivial Xv) (Za rfl rfl rfl (Y4 rfl rfl) (Zb 2 rfl ?_)))))))
  refine Zs 74 rfl (fun hb => ?_) (fun hb => ?_)
  ·replace H := Zp H hb
   refine Zb 64 rfl (Zh (Zd hK131 (Zn rfl rfl (Zf (fun K hK138 => Zg (Zb 1 rfl (Zh ?_)))))))
   refine Zd hK138 (Zl (Ze (Zj (Ze (Ze (Zj (Ze ?_)))))))
   refine Zm rfl (RV.tmp rfl RV.nil) rfl ?_
   obtain rfl := QJ H
   replace hS := hS.cut 0
   exact ⟨rfl, hS⟩
  replace H := Zq H hb
  refine Za rfl rfl rfl (Zc Zz rfl) (Za rfl rfl rfl (Zc Xc rfl) (Za rfl rfl rfl (Zi Zy rfl (Zgf _) hS hs0 trivial Xv) (Za rfl rfl rfl (Zc Zz rfl) (Za rfl rfl rfl (Zc Xc rfl) (Za rfl rfl rfl (Zi Zy rfl (Zgf _) hS Jv trivial Xv) (Za rfl rfl rfl (Xh rfl rfl) (Zb 1 rfl ?_)))))))
  refine Zs 82 rfl (fun hb => ?_) (fun hb => ?_)
  rotate_left
  ·replace H := Zq H hb
   refine Zb 16 rfl (Za rfl rfl rfl (Zc Zz rfl) (Za rfl rfl rfl (Zc Yg rfl) (Za rfl rfl rfl (Zi Y6 rfl (Zgf _) hS hs0 trivial Xt) (Za rfl rfl rfl (Yb Y1 rfl) (Za rfl rfl rfl (Zc Zz rfl) (Za rfl rfl rfl (Zc Yg rfl) (Za rfl rfl rfl (Zi Y6 rfl (Zgf _) hS Jv trivial Xt) ?_)))))))
   refine Za rfl rfl rfl (Yb Y1 rfl) (Za rfl rfl rfl (Y4 rfl rfl) (Zb 2 rfl (Zs 109 rfl (fun hb => ?_) (fun hb => ?_))))
   ·replace H := Zp H hb
    refine Zb 29 rfl (Zh (Zd hK131 (Zn rfl rfl (Zf (fun K hK272 => Zg (Zb 1 rfl (Zh ?_)))))))
    refine Zd hK272 (Zl (Ze (Zj (Ze (Ze (Zj (Ze ?_)))))))
    refine Zm rfl (RV.tmp rfl RV.nil) rfl ?_
    obtain rfl := QJ H
    replace hS := hS.cut 0
    exact ⟨rfl, hS⟩
   replace H := Zq H hb
   refine Za rfl rfl rfl (Zc V6 rfl) (Za rfl rfl rfl (Zi Zy rfl (Zgf _) hS hs0 trivial J9) (Za rfl rfl rfl (Zc V6 rfl) (Za rfl rfl rfl (Zi Zy rfl (Zgf _) hS Jv trivial J9) (Za rfl rfl rfl (Yl rfl rfl) (Zb 2 rfl (Zs 116 rfl (fun hb => ?_) (fun hb => ?_)))))))
   ·replace H := Zp H hb
    refine Zb 22 rfl (Zh (Zd hK131 (Zn rfl rfl (Zf (fun K hK275 => Zg (Zb 1 rfl (Zh ?_)))))))
    refine Zd hK275 (Zl (Ze (Zj (Ze (Ze (Zj (Ze ?_)))))))
    refine Zm rfl (RV.tmp rfl RV.nil) rfl ?_
    obtain rfl := QJ H
    replace hS := hS.cut 0
    exact ⟨rfl, hS⟩
   replace H := Zq H hb
   refine Za rfl rfl rfl (Zc Zz rfl) (Za rfl rfl rfl (Zc Xe rfl) (Za rfl rfl rfl (Zk Y3 rfl (Zgf _) hS hs0 trivial Zb1) (Za rfl rfl rfl (Zc Zz rfl) (Za rfl rfl rfl (Zc Xe rfl) (Za rfl rfl rfl (Zk Y3 rfl (Zgf _) hS Jv trivial Zb1) (Za rfl rfl rfl (Zb0 (by kernel_rfl) rfl rfl (Jg _ _ _ _ _ _ _ _ _ _)) (Zb 2 rfl ?_)))))))
   refine Zs 125 rfl (fun hb => ?_) (fun hb => ?_)
   ·replace H := Zp H hb
    refine Zb 13 rfl (Zh (Zd hK131 (Zn rfl rfl (Zf (fun K hK278 => Zg (Zb 1 rfl (Zh ?_)))))))
    refine Zd hK278 (Zl (Ze (Zj (Ze (Ze (Zj (Ze ?_)))))))
    refine Zm rfl (RV.tmp rfl RV.nil) rfl ?_
    obtain rfl := QJ H
    replace hS := hS.cut 0
    exact ⟨rfl, hS⟩
   replace H := Zq H hb
   refine Za rfl rfl rfl (Zc Xb rfl) (Za rfl rfl rfl (Zi Zy rfl (Zgf _) hS hs0 trivial Yw) (Za rfl rfl rfl (Zc Xb rfl) (Za rfl rfl rfl (Zi Zy rfl (Zgf _) hS Jv trivial Yw) (Za rfl rfl rfl (Yl rfl rfl) (Zb 2 rfl (Zs 132 rfl (fun hb => ?_) (fun hb => ?_)))))))
   ·replace H := Zp H hb
    refine Zb 6 rfl (Zh (Zd hK131 (Zn rfl rfl (Zf (fun K hK281 => Zg (Zb 1 rfl (Zh ?_)))))))
    refine Zd hK281 (Zl (Ze (Zj (Ze (Ze (Zj (Ze ?_)))))))
    refine Zm rfl (RV.tmp rfl RV.nil) rfl ?_
    obtain rfl := QJ H
    replace hS := hS.cut 0
    exact ⟨rfl, hS⟩
   replace H := Zq H hb
   refine Za rfl rfl rfl (Zc Yx rfl) (Za rfl rfl rfl (Zi Zy rfl (Zgf _) hS hs0 trivial Xd) (Za rfl rfl rfl (Zc Yx rfl) (Za rfl rfl rfl (Zi Zy rfl (Zgf _) hS Jv trivial Xd) (Za rfl rfl rfl (Yl rfl rfl) (Zb 1 rfl (Zh (Zd hK131 ?_)))))))
   refine Zx rfl (fun hb => ?_) (fun hb => ?_)
   ·replace H := Zp H hb
    refine Zf (fun K hK284 => Zg (Zb 1 rfl (Zh (Zd hK284 (Zl (Ze (Zj ?_)))))))
    refine Ze (Ze (Zj (Ze (Zm rfl (RV.tmp rfl RV.nil) rfl ?_))))
    obtain rfl := QJ H
    replace hS := hS.cut 0
    exact ⟨rfl, hS⟩
   replace H := Zq H hb
   refine Zv (Zd hK130 (Zf (fun K hK286 => Zf (fun K hK287 => Yh 20 [] (fun _ _ => True) ⟨by kernel_rfl, by kernel_rfl⟩ hS (fun w hS hB => Zo [Tt,Tt,Tt,Tt,Tt,Tt,Tt,Tt,Tt,Tt,Tt] (by decide +kernel) PFC.h (LtK.put rfl rfl rfl (Zc Zz rfl) (LtK.put rfl rfl rfl (Zc Yg rfl) ?_)))))))
   refine LtK.put rfl rfl rfl (Zi Y6 rfl (Zgg _) hS hs0 trivial Xt) (LtK.put rfl rfl rfl (Zc Zz rfl) (LtK.put rfl rfl rfl (Zc Yg rfl) (LtK.put rfl rfl rfl (Zi Y6 rfl (Zgg _) hS Jv trivial Xt) (LtK.put rfl rfl rfl (Yb Y1 rfl) ?_))))
   obtain ⟨l288, ht289, H⟩ := bind_some H
   refine LtK.put rfl rfl rfl (J1 Y1 rfl rfl k102.1 ht289) (LtK.put rfl rfl rfl (Zc Zz rfl) (LtK.put rfl rfl rfl (Zc Yg rfl) (LtK.put rfl rfl rfl (Zi Y6 rfl (Zgg _) hS Jv trivial Xt) (LtK.nil (Yd [Ff,Ff,Ff,Ff,Ff,Ff,Ff,Ff,Ff,Ff,Ff,Tt] 11 ⟨by decide, by kernel_rfl, by kernel_rfl⟩ rfl rfl ?_)))))
   try dsimp only [Z2]
   obtain ⟨r290, hm291, H⟩ := bind_some H
   refine Zt rfl rfl rfl rfl (by kernel_rfl) rfl (Ja l288 v37 A100 c101 A38 c39 _ (Zgi (Zdo k102 ht289) (Rd.takeI Vf (hS.rd X9) ht289) (hS.rd_blk X9)) (Zgi k40 (hS.rd hs9) (hS.rd_blk hs9)) hm291) ?_
   rintro e w ⟨rfl, hN⟩; refine ⟨_, rfl, ?_⟩; obtain ⟨hB, hS⟩ := hS.jn hN
   refine Zh (Ye hB (Zo [Ff,Ff,Ff,Ff,Ff,Ff,Ff,Ff,Ff,Ff,Ff,Ff,Tt,Tt] (by decide +kernel) PFC.h (LtK.put rfl rfl rfl (Yt rfl) (LtK.put rfl rfl rfl (Zu rfl) (LtK.nil (Xf 152 rfl (fun hb => ?_) (fun hb => ?_)))))))
   ·replace H := Zp H hb
    refine Zo [Ff,Ff,Ff,Ff,Ff,Ff,Ff,Ff,Ff,Ff,Ff,Ff,Ff,Ff,Tt,Tt,Tt,Tt,Tt,Tt] (by decide +kernel) PFC.h (LtK.skip rfl rfl rfl (LtK.skip rfl rfl rfl (LtK.skip rfl rfl rfl (LtK.skip rfl rfl rfl (LtK.skip rfl rfl rfl (LtK.put rfl rfl rfl (Z9 rfl rfl rfl) (LtK.nil ?_)))))))
    refine Z5 (by kernel_rfl) (Zd hK287 (Zn rfl rfl (Zf (fun K hK293 => Zg (Zb 1 rfl (Zh (Zd hK293 ?_)))))))
    refine Zl (Ze (Zj (Ze (Ze (Zj (Ze (Zm rfl (RV.tmp rfl RV.nil) rfl ?_)))))))
    obtain rfl := QJ H
    replace hS := hS.cut 0
    exact ⟨rfl, hS⟩
   replace H := Zq H hb
   refine Zo [Ff,Ff,Ff,Ff,Ff,Ff,Ff,Ff,Ff,Ff,Ff,Ff,Ff,Ff,Tt,Tt,Tt,Tt,Tt,Tt] (by decide +kernel) PFC.h (LtK.put rfl rfl rfl (Zu rfl) (LtK.put rfl rfl rfl (Yb Y9 rfl) (LtK.put rfl rfl rfl (Zc Yx rfl) (LtK.put rfl rfl rfl (Zi Zy rfl (Zgg _) hS hs0 trivial Xd) (LtK.put rfl rfl rfl (Y8 rfl rfl) (LtK.put rfl rfl rfl (Yk rfl rfl rfl) (LtK.nil ?_)))))))
   refine Z5 (by kernel_rfl) (Zd hK287 (Zx rfl (fun hb => ?_) (fun hb => ?_)))
   ·replace H := Zp H hb
    refine Zf (fun K hK296 => Zg (Zb 1 rfl (Zh (Zd hK296 (Zl (Ze (Zj ?_)))))))
    refine Ze (Ze (Zj (Ze (Zm rfl (RV.tmp rfl RV.nil) rfl ?_))))
    obtain rfl := QJ H
    replace hS := hS.cut 0
    exact ⟨rfl, hS⟩
   replace H := Zq H hb
   refine Zv (Zd hK286 (Zf (fun K hK298 => Zf (fun K hK299 => Zg (Zb 1 rfl (Zh (Zd hK299 ?_)))))))
   refine Z6 (Vp (X := Nat × Int) (fun x => (1, .slice A5_ x1.length c5_) :: (2, .slice A6_ x2.length c6_) :: (3, .pointer (some ⟨b2, 0, none⟩)) :: (7, .int .i64 v27) :: (10, .pointer (some ⟨b128, 0, none⟩)) :: (11, .slice A120 r98.2.length c121) :: (12, .int .i64 x.2) :: []) (fun x w => St0 All w0 w (.box b128 [.int .i64 r98.1.id, .int .i64 r98.1.n, .int .u8 r98.1.role, .int .i64 r98.1.binary, .int .i64 r98.1.tuple.snap.index, .int .i64 r98.1.tuple.snap.term, .int .i64 r98.1.tuple.snap.sum, .int .i64 r98.1.tuple.snap.level, .bool r98.1.tuple.snap.final, .slice A100 r98.1.tuple.log.length c101, .int .i64 r98.1.tuple.term, .int .i64 r98.1.tuple.vote, .int .i64 r98.1.commit, .int .i64 r98.1.applied.index, .int .i64 r98.1.applied.term, .int .i64 r98.1.applied.sum, .int .i64 r98.1.applied.level, .bool r98.1.applied.final, .slice A104 r98.1.votes.length c105, .slice A108 r98.1.next.length c109, .slice A112 r98.1.mtch.length c113, .slice A116 r98.1.caps.length c117] 30 :: .rd A100 (Z8 enE r98.1.tuple.log) :: .row (.slice A104 r98.1.votes.length c105) 4 1 r98.1.votes.length (Z8 enO r98.1.votes) :: .row (.slice A108 r98.1.next.length c109) 3 1 r98.1.next.length (Z8 Vr r98.1.next) :: .row (.slice A112 r98.1.mtch.length c113) 3 1 r98.1.mtch.length (Z8 Vr r98.1.mtch) :: .row (.slice A116 r98.1.caps.length c117) 3 1 r98.1.caps.length (Z8 Vr r98.1.caps) :: .rd A120 (Z8 enQ q124) :: .rds (q124.map Zfk) :: .box b94 [.int .u8 e89.kind, .int .i64 e89.frm, .int .i64 v28, .int .i64 e89.term, .int .i64 e89.cap, .int .i64 e89.last, .int .i64 e89.lastTerm, .int .i64 e89.commit, .bool e89.okk, .slice A92 e89.entries.length c93, .int .i64 e89.snap.index, .int .i64 e89.snap.term, .int .i64 e89.snap.sum, .int .i64 e89.snap.level, .bool e89.snap.final] 36 :: .rd A38 (Z8 enE v37) :: .row (.slice A50 v49.length c51) 4 1 v49.length (Z8 enO v49) :: .row (.slice A54 v53.length c55) 3 1 v53.length (Z8 Vr v53) :: .row (.slice A58 v57.length c59) 3 1 v57.length (Z8 Vr v57) :: .row (.slice A62 v61.length c63) 3 1 v61.length (Z8 Vr v61) :: .box b2 [.int .i64 v28, .int .i64 v29, .int .u8 v30, .int .i64 v31, .int .i64 v32, .int .i64 v33, .int .i64 v34, .int .i64 v35, .bool v36, .slice A38 v37.length c39, .int .i64 v41, .int .i64 v42, .int .i64 v43, .int .i64 v44, .int .i64 v45, .int .i64 v46, .int .i64 v47, .bool v48, .slice A50 v49.length c51, .slice A54 v53.length c55, .slice A58 v57.length c59, .slice A62 v61.length c63] 30 :: []) ∧ Xz (Z0 x1 x2 n) v27 r98 x.1 x.2 = some r) (fun x => x.1) (Yy, 0) (by repeat (first | exact Sub.nil | refine Sub.cons rfl ?_)) ⟨hS, H⟩ ?_)
   rintro ⟨n4, v300⟩ w ⟨hS, H⟩
   dsimp only at hS H ⊢
   obtain _ | n4 := n4
   ·have H0 : none = some r := H
    cases H0
   rw [Xz] at H
   refine Zf (fun K hK301 => Zf (fun K hK302 => Zg (Zb 2 rfl (Za rfl rfl rfl (Yb Y9 rfl) (Za rfl rfl rfl (Y4 rfl rfl) (Zh (Zd hK302 ?_)))))))
   refine Zx rfl (fun hb => ?_) (fun hb => ?_)
   rotate_left
   ·replace H := Zq H hb
    refine Xy (Z4 (Z4 (Yz (Zd hK298 (Zg (Za rfl rfl rfl (Zk Ya rfl (Zgf _) hS hs0 trivial Z1) (Zr rfl rfl rfl CellsOf.agg hS ps14 Yo (by kernel_rfl) rfl (fun w hS hB => ?_))))))))
    refine Zh (Zw (Zd hK68 (Zg (Zb 1 rfl (Za rfl rfl rfl (Xu rfl rfl) (Zb 1 rfl (Zh ?_)))))))
    replace hS := hS.front 14 rfl
    replace hS := hS.front 6 rfl
    replace hS := hS.front 6 rfl
    replace hS := hS.front 6 rfl
    replace hS := hS.front 6 rfl
    replace hS := hS.front 6 rfl
    replace hS := hS.cut 6
    exact Xo (n, (IntKind.wrap .i64 (v27 + 1)), r98.1.id, r98.1.n, r98.1.role, r98.1.binary, r98.1.tuple.snap.index, r98.1.tuple.snap.term, r98.1.tuple.snap.sum, r98.1.tuple.snap.level, r98.1.tuple.snap.final, r98.1.tuple.log, A100, c101, r98.1.tuple.term, r98.1.tuple.vote, r98.1.commit, r98.1.applied.index, r98.1.applied.term, r98.1.applied.sum, r98.1.applied.level, r98.1.applied.final, r98.1.votes, A104, c105, r98.1.next, A108, c109, r98.1.mtch, A112, c113, r98.1.caps, A116, c117) (by repeat (first | exact Sub.nil | refine Sub.cons rfl ?_)) ⟨hS, k102, k106, k110, k114, k118, H⟩ (Nat.lt_succ_self _)
   replace H := Zp H hb
   refine Zv (Zd hK301 (Zf (fun K hK304 => Z6 (Zf (fun K hK305 => Yh 29 [] (fun _ _ => True) ⟨by kernel_rfl, by kernel_rfl⟩ hS (fun w hS hB => Zo [Tt,Tt,Tt,Tt,Tt,Tt] (by decide +kernel) PFC.h (LtK.put rfl rfl rfl (Zu rfl) ?_)))))))
   refine LtK.put rfl rfl rfl (Zu rfl) ?_
   obtain ⟨e306, hi308, H⟩ := bind_some H
   obtain ⟨j307, A309, c310, hi308a, hi308b, hi308c⟩ := Zar (q := q124) hq125 hi308
   refine LtK.put rfl rfl rfl (Y2 Y9 rfl rfl hi308a hi308c (Rd.el (hS.rd Vv) Yc hi308b)) (LtK.put rfl rfl rfl (V8 Vz rfl (Zgg _) (Rd.el (hS.rd Vv) Yc hi308b) X7) (LtK.put rfl rfl rfl (Zc Yx rfl) (LtK.put rfl rfl rfl (Zi Zy rfl (Zgg _) hS hs0 trivial Xd) (LtK.nil (Yd [Ff,Ff,Ff,Ff,Ff,Ff,Tt] 6 ⟨by decide, by kernel_rfl, by kernel_rfl⟩ rfl rfl ?_)))))
   try dsimp only [Z2]
   obtain ⟨r311, hm312, H⟩ := bind_some H
   refine Zt rfl rfl rfl rfl (by kernel_rfl) rfl (Jc e306 r98.1.n A309 c310 _ (SlW.of_rd (okq126 _ (List.mem_of_getElem? hi308b)) (hS.rds_rd hs7 hi308b)) hm312) ?_
   rintro e w ⟨rfl, hN⟩; refine ⟨_, rfl, ?_⟩; obtain ⟨hB, hS⟩ := hS.jn hN
   refine Zh (Ye hB (Zo [Ff,Ff,Ff,Ff,Ff,Ff,Ff,Tt,Tt] (by decide +kernel) PFC.h (LtK.put rfl rfl rfl (Yt rfl) (LtK.put rfl rfl rfl (Zu rfl) (LtK.nil (Xf 173 rfl (fun hb => ?_) (fun hb => ?_)))))))
   ·replace H := Zp H hb
    refine Zo [Ff,Ff,Ff,Ff,Ff,Ff,Ff,Ff,Ff,Tt,Tt,Tt,Tt,Tt,Tt,Tt,Tt,Tt,Tt,Tt,Tt,Tt,Tt,Tt,Tt,Tt,Tt,Tt,Tt] (by decide +kernel) PFC.h (LtK.skip rfl rfl rfl (LtK.skip rfl rfl rfl (LtK.skip rfl rfl rfl (LtK.skip rfl rfl rfl (LtK.skip rfl rfl rfl (LtK.skip rfl rfl rfl (LtK.skip rfl rfl rfl ?_)))))))
    refine LtK.skip rfl rfl rfl (LtK.put rfl rfl rfl (Z9 rfl rfl rfl) (LtK.put rfl rfl rfl (Zu rfl) (LtK.skip rfl rfl rfl (LtK.skip rfl rfl rfl (LtK.skip rfl rfl rfl (LtK.skip rfl rfl rfl (LtK.skip rfl rfl rfl ?_)))))))
    refine LtK.skip rfl rfl rfl (LtK.skip rfl rfl rfl (LtK.skip rfl rfl rfl (LtK.skip rfl rfl rfl (LtK.put rfl rfl rfl (Z9 rfl rfl rfl) (LtK.nil (Z5 (by kernel_rfl) (Zd hK305 ?_)))))))
    refine Zn rfl rfl (Zf (fun K hK314 => Zg (Zb 1 rfl (Zh (Zd hK314 (Zl (Zj ?_)))))))
    refine Ze (Ze (Zj (Ze (Zj (Ze (Ze (Zj ?_)))))))
    refine Ze (Zm rfl (RV.tmp rfl RV.nil) rfl ?_)
    obtain rfl := QJ H
    replace hS := hS.cut 0
    exact ⟨rfl, hS⟩
   replace H := Zq H hb
   refine Zo [Ff,Ff,Ff,Ff,Ff,Ff,Ff,Ff,Ff,Tt,Tt,Tt,Tt,Tt,Tt,Tt,Tt,Tt,Tt] (by decide +kernel) PFC.h (LtK.put rfl rfl rfl (Zu rfl) (LtK.put rfl rfl rfl (Zu rfl) ?_))
   obtain ⟨e316, hi318, H⟩ := bind_some H
   obtain ⟨j317, A319, c320, hi318a, hi318b, hi318c⟩ := Zar (q := q124) hq125 hi318
   refine LtK.put rfl rfl rfl (Y2 Y9 rfl rfl hi318a hi318c (Rd.el (hS.rd Vv) Yc hi318b)) (LtK.put rfl rfl rfl (Y0 Ji rfl (Rd.el (hS.rd Vv) Yc hi318b)) (LtK.put rfl rfl rfl (Za6 Zy rfl (Zgg _) (Rd.el (hS.rd Vv) Yc hi318b) rfl) (LtK.put rfl rfl rfl (Zc Xb rfl) (LtK.put rfl rfl rfl (Zi Zy rfl (Zgg _) hS hs0 trivial Yw) (LtK.put rfl rfl rfl (Yl rfl rfl) (LtK.put rfl rfl rfl (Yk rfl rfl rfl) (LtK.put rfl rfl rfl (Zu rfl) ?_)))))))
   refine LtK.nil (Xf 183 rfl (fun hb => ?_) (fun hb => ?_))
   ·replace H := Zp H hb
    refine Zo [Ff,Ff,Ff,Ff,Ff,Ff,Ff,Ff,Ff,Ff,Ff,Ff,Ff,Ff,Ff,Ff,Ff,Ff,Ff,Tt,Tt,Tt,Tt,Tt,Tt,Tt,Tt,Tt,Tt] (by decide +kernel) PFC.h (LtK.skip rfl rfl rfl (LtK.skip rfl rfl rfl (LtK.skip rfl rfl rfl (LtK.skip rfl rfl rfl (LtK.skip rfl rfl rfl (LtK.skip rfl rfl rfl (LtK.skip rfl rfl rfl ?_)))))))
    refine LtK.skip rfl rfl rfl (LtK.skip rfl rfl rfl (LtK.put rfl rfl rfl (Z9 rfl rfl rfl) (LtK.nil (Z5 (by kernel_rfl) (Zd hK305 (Zn rfl rfl (Zf (fun K hK322 => ?_))))))))
    refine Zg (Zb 1 rfl (Zh (Zd hK322 (Zl (Zj (Ze (Ze ?_)))))))
    refine Zj (Ze (Zj (Ze (Ze (Zj (Ze (Zm rfl (RV.tmp rfl RV.nil) rfl ?_)))))))
    obtain rfl := QJ H
    replace hS := hS.cut 0
    exact ⟨rfl, hS⟩
   replace H := Zq H hb
   refine Zo [Ff,Ff,Ff,Ff,Ff,Ff,Ff,Ff,Ff,Ff,Ff,Ff,Ff,Ff,Ff,Ff,Ff,Ff,Ff,Tt,Tt,Tt,Tt,Tt,Tt,Tt,Tt,Tt,Tt] (by decide +kernel) PFC.h (LtK.put rfl rfl rfl (Zu rfl) (LtK.put rfl rfl rfl (Zu rfl) ?_))
   obtain ⟨e324, hi326, H⟩ := bind_some H
   obtain ⟨j325, A327, c328, hi326a, hi326b, hi326c⟩ := Zar (q := q124) hq125 hi326
   refine LtK.put rfl rfl rfl (Y2 Y9 rfl rfl hi326a hi326c (Rd.el (hS.rd Vv) Yc hi326b)) (LtK.put rfl rfl rfl (Y0 Je rfl (Rd.el (hS.rd Vv) Yc hi326b)) (LtK.put rfl rfl rfl (Za6 Zy rfl (Zgg _) (Rd.el (hS.rd Vv) Yc hi326b) rfl) (LtK.put rfl rfl rfl (Zc Zz rfl) (LtK.put rfl rfl rfl (Zc Xc rfl) (LtK.put rfl rfl rfl (Zi Zy rfl (Zgg _) hS hs0 trivial Xv) (LtK.put rfl rfl rfl (Yl rfl rfl) (LtK.put rfl rfl rfl (Yk rfl rfl rfl) ?_)))))))
   refine LtK.nil (Z5 (by kernel_rfl) (Zd hK305 (Zx rfl (fun hb => ?_) (fun hb => ?_))))
   rotate_left
   ·replace H := Zq H hb
    refine Zv (Zw (Zd hK304 (Zg (Zb 1 rfl (Za rfl rfl rfl (Xu rfl rfl) (Zb 1 rfl (Zh ?_)))))))
    exact Xo (n4, (IntKind.wrap .i64 (v300 + 1))) (by repeat (first | exact Sub.nil | refine Sub.cons rfl ?_)) ⟨hS, H⟩ (Nat.lt_succ_self _)
   replace H := Zp H hb
   refine Zf (fun K hK330 => Zg (Zb 1 rfl (Zh (Zd hK330 (Zl (Zj (Ze ?_)))))))
   refine Ze (Zj (Ze (Zj (Ze (Ze (Zj (Ze ?_)))))))
   refine Zm rfl (RV.tmp rfl RV.nil) rfl ?_
   obtain rfl := QJ H
   replace hS := hS.cut 0
   exact ⟨rfl, hS⟩
  replace H := Zp H hb
  refine Za rfl rfl rfl (Zc Zz rfl) (Za rfl rfl rfl (Zc Vq rfl) (Za rfl rfl rfl (Zi Zy rfl (Zgf _) hS Jv trivial Zbz) (Za rfl rfl rfl (Y8 rfl rfl) (Zb 2 rfl (Zs 88 rfl (fun hb => ?_) (fun hb => ?_))))))
  rotate_left
  ·replace H := Zq H hb
   refine Zb 10 rfl (Za rfl rfl rfl (Zc Zz rfl) (Za rfl rfl rfl (Zc Yg rfl) (Za rfl rfl rfl (Zi Y6 rfl (Zgf _) hS hs0 trivial Xt) (Za rfl rfl rfl (Yb Y1 rfl) (Za rfl rfl rfl (Zc Zz rfl) (Za rfl rfl rfl (Zc Yg rfl) (Za rfl rfl rfl (Zi Y6 rfl (Zgf _) hS Jv trivial Xt) ?_)))))))
   refine Za rfl rfl rfl (Yb Y1 rfl) (Za rfl rfl rfl (Y4 rfl rfl) (Zb 2 rfl (Zs 109 rfl (fun hb => ?_) (fun hb => ?_))))
   ·replace H := Zp H hb
    refine Zb 29 rfl (Zh (Zd hK131 (Zn rfl rfl (Zf (fun K hK209 => Zg (Zb 1 rfl (Zh ?_)))))))
    refine Zd hK209 (Zl (Ze (Zj (Ze (Ze (Zj (Ze ?_)))))))
    refine Zm rfl (RV.tmp rfl RV.nil) rfl ?_
    obtain rfl := QJ H
    replace hS := hS.cut 0
    exact ⟨rfl, hS⟩
   replace H := Zq H hb
   refine Za rfl rfl rfl (Zc V6 rfl) (Za rfl rfl rfl (Zi Zy rfl (Zgf _) hS hs0 trivial J9) (Za rfl rfl rfl (Zc V6 rfl) (Za rfl rfl rfl (Zi Zy rfl (Zgf _) hS Jv trivial J9) (Za rfl rfl rfl (Yl rfl rfl) (Zb 2 rfl (Zs 116 rfl (fun hb => ?_) (fun hb => ?_)))))))
   ·replace H := Zp H hb
    refine Zb 22 rfl (Zh (Zd hK131 (Zn rfl rfl (Zf (fun K hK212 => Zg (Zb 1 rfl (Zh ?_)))))))
    refine Zd hK212 (Zl (Ze (Zj (Ze (Ze (Zj (Ze ?_)))))))
    refine Zm rfl (RV.tmp rfl RV.nil) rfl ?_
    obtain rfl := QJ H
    replace hS := hS.cut 0
    exact ⟨rfl, hS⟩
   replace H := Zq H hb
   refine Za rfl rfl rfl (Zc Zz rfl) (Za rfl rfl rfl (Zc Xe rfl) (Za rfl rfl rfl (Zk Y3 rfl (Zgf _) hS hs0 trivial Zb1) (Za rfl rfl rfl (Zc Zz rfl) (Za rfl rfl rfl (Zc Xe rfl) (Za rfl rfl rfl (Zk Y3 rfl (Zgf _) hS Jv trivial Zb1) (Za rfl rfl rfl (Zb0 (by kernel_rfl) rfl rfl (Jg _ _ _ _ _ _ _ _ _ _)) (Zb 2 rfl ?_)))))))
   refine Zs 125 rfl (fun hb => ?_) (fun hb => ?_)
   ·replace H := Zp H hb
    refine Zb 13 rfl (Zh (Zd hK131 (Zn rfl rfl (Zf (fun K hK215 => Zg (Zb 1 rfl (Zh ?_)))))))
    refine Zd hK215 (Zl (Ze (Zj (Ze (Ze (Zj (Ze ?_)))))))
    refine Zm rfl (RV.tmp rfl RV.nil) rfl ?_
    obtain rfl := QJ H
    replace hS := hS.cut 0
    exact ⟨rfl, hS⟩
   replace H := Zq H hb
   refine Za rfl rfl rfl (Zc Xb rfl) (Za rfl rfl rfl (Zi Zy rfl (Zgf _) hS hs0 trivial Yw) (Za rfl rfl rfl (Zc Xb rfl) (Za rfl rfl rfl (Zi Zy rfl (Zgf _) hS Jv trivial Yw) (Za rfl rfl rfl (Yl rfl rfl) (Zb 2 rfl (Zs 132 rfl (fun hb => ?_) (fun hb => ?_)))))))
   ·replace H := Zp H hb
    refine Zb 6 rfl (Zh (Zd hK131 (Zn rfl rfl (Zf (fun K hK218 => Zg (Zb 1 rfl (Zh ?_)))))))
    refine Zd hK218 (Zl (Ze (Zj (Ze (Ze (Zj (Ze ?_)))))))
    refine Zm rfl (RV.tmp rfl RV.nil) rfl ?_
    obtain rfl := QJ H
    replace hS := hS.cut 0
    exact ⟨rfl, hS⟩
   replace H := Zq H hb
   refine Za rfl rfl rfl (Zc Yx rfl) (Za rfl rfl rfl (Zi Zy rfl (Zgf _) hS hs0 trivial Xd) (Za rfl rfl rfl (Zc Yx rfl) (Za rfl rfl rfl (Zi Zy rfl (Zgf _) hS Jv trivial Xd) (Za rfl rfl rfl (Yl rfl rfl) (Zb 1 rfl (Zh (Zd hK131 ?_)))))))
   refine Zx rfl (fun hb => ?_) (fun hb => ?_)
   ·replace H := Zp H hb
    refine Zf (fun K hK221 => Zg (Zb 1 rfl (Zh (Zd hK221 (Zl (Ze (Zj ?_)))))))
    refine Ze (Ze (Zj (Ze (Zm rfl (RV.tmp rfl RV.nil) rfl ?_))))
    obtain rfl := QJ H
    replace hS := hS.cut 0
    exact ⟨rfl, hS⟩
   replace H := Zq H hb
   refine Zv (Zd hK130 (Zf (fun K hK223 => Zf (fun K hK224 => Yh 20 [] (fun _ _ => True) ⟨by kernel_rfl, by kernel_rfl⟩ hS (fun w hS hB => Zo [Tt,Tt,Tt,Tt,Tt,Tt,Tt,Tt,Tt,Tt,Tt] (by decide +kernel) PFC.h (LtK.put rfl rfl rfl (Zc Zz rfl) (LtK.put rfl rfl rfl (Zc Yg rfl) ?_)))))))
   refine LtK.put rfl rfl rfl (Zi Y6 rfl (Zgg _) hS hs0 trivial Xt) (LtK.put rfl rfl rfl (Zc Zz rfl) (LtK.put rfl rfl rfl (Zc Yg rfl) (LtK.put rfl rfl rfl (Zi Y6 rfl (Zgg _) hS Jv trivial Xt) (LtK.put rfl rfl rfl (Yb Y1 rfl) ?_))))
   obtain ⟨l225, ht226, H⟩ := bind_some H
   refine LtK.put rfl rfl rfl (J1 Y1 rfl rfl k102.1 ht226) (LtK.put rfl rfl rfl (Zc Zz rfl) (LtK.put rfl rfl rfl (Zc Yg rfl) (LtK.put rfl rfl rfl (Zi Y6 rfl (Zgg _) hS Jv trivial Xt) (LtK.nil (Yd [Ff,Ff,Ff,Ff,Ff,Ff,Ff,Ff,Ff,Ff,Ff,Tt] 11 ⟨by decide, by kernel_rfl, by kernel_rfl⟩ rfl rfl ?_)))))
   try dsimp only [Z2]
   obtain ⟨r227, hm228, H⟩ := bind_some H
   refine Zt rfl rfl rfl rfl (by kernel_rfl) rfl (Ja l225 v37 A100 c101 A38 c39 _ (Zgi (Zdo k102 ht226) (Rd.takeI Vf (hS.rd X9) ht226) (hS.rd_blk X9)) (Zgi k40 (hS.rd hs9) (hS.rd_blk hs9)) hm228) ?_
   rintro e w ⟨rfl, hN⟩; refine ⟨_, rfl, ?_⟩; obtain ⟨hB, hS⟩ := hS.jn hN
   refine Zh (Ye hB (Zo [Ff,Ff,Ff,Ff,Ff,Ff,Ff,Ff,Ff,Ff,Ff,Ff,Tt,Tt] (by decide +kernel) PFC.h (LtK.put rfl rfl rfl (Yt rfl) (LtK.put rfl rfl rfl (Zu rfl) (LtK.nil (Xf 152 rfl (fun hb => ?_) (fun hb => ?_)))))))
   ·replace H := Zp H hb
    refine Zo [Ff,Ff,Ff,Ff,Ff,Ff,Ff,Ff,Ff,Ff,Ff,Ff,Ff,Ff,Tt,Tt,Tt,Tt,Tt,Tt] (by decide +kernel) PFC.h (LtK.skip rfl rfl rfl (LtK.skip rfl rfl rfl (LtK.skip rfl rfl rfl (LtK.skip rfl rfl rfl (LtK.skip rfl rfl rfl (LtK.put rfl rfl rfl (Z9 rfl rfl rfl) (LtK.nil ?_)))))))
    refine Z5 (by kernel_rfl) (Zd hK224 (Zn rfl rfl (Zf (fun K hK230 => Zg (Zb 1 rfl (Zh (Zd hK230 ?_)))))))
    refine Zl (Ze (Zj (Ze (Ze (Zj (Ze (Zm rfl (RV.tmp rfl RV.nil) rfl ?_)))))))
    obtain rfl := QJ H
    replace hS := hS.cut 0
    exact ⟨rfl, hS⟩
   replace H := Zq H hb
   refine Zo [Ff,Ff,Ff,Ff,Ff,Ff,Ff,Ff,Ff,Ff,Ff,Ff,Ff,Ff,Tt,Tt,Tt,Tt,Tt,Tt] (by decide +kernel) PFC.h (LtK.put rfl rfl rfl (Zu rfl) (LtK.put rfl rfl rfl (Yb Y9 rfl) (LtK.put rfl rfl rfl (Zc Yx rfl) (LtK.put rfl rfl rfl (Zi Zy rfl (Zgg _) hS hs0 trivial Xd) (LtK.put rfl rfl rfl (Y8 rfl rfl) (LtK.put rfl rfl rfl (Yk rfl rfl rfl) (LtK.nil ?_)))))))
   refine Z5 (by kernel_rfl) (Zd hK224 (Zx rfl (fun hb => ?_) (fun hb => ?_)))
   ·replace H := Zp H hb
    refine Zf (fun K hK233 => Zg (Zb 1 rfl (Zh (Zd hK233 (Zl (Ze (Zj ?_)))))))
    refine Ze (Ze (Zj (Ze (Zm rfl (RV.tmp rfl RV.nil) rfl ?_))))
    obtain rfl := QJ H
    replace hS := hS.cut 0
    exact ⟨rfl, hS⟩
   replace H := Zq H hb
   refine Zv (Zd hK223 (Zf (fun K hK235 => Zf (fun K hK236 => Zg (Zb 1 rfl (Zh (Zd hK236 ?_)))))))
   refine Z6 (Vp (X := Nat × Int) (fun x => (1, .slice A5_ x1.length c5_) :: (2, .slice A6_ x2.length c6_) :: (3, .pointer (some ⟨b2, 0, none⟩)) :: (7, .int .i64 v27) :: (10, .pointer (some ⟨b128, 0, none⟩)) :: (11, .slice A120 r98.2.length c121) :: (12, .int .i64 x.2) :: []) (fun x w => St0 All w0 w (.box b128 [.int .i64 r98.1.id, .int .i64 r98.1.n, .int .u8 r98.1.role, .int .i64 r98.1.binary, .int .i64 r98.1.tuple.snap.index, .int .i64 r98.1.tuple.snap.term, .int .i64 r98.1.tuple.snap.sum, .int .i64 r98.1.tuple.snap.level, .bool r98.1.tuple.snap.final, .slice A100 r98.1.tuple.log.length c101, .int .i64 r98.1.tuple.term, .int .i64 r98.1.tuple.vote, .int .i64 r98.1.commit, .int .i64 r98.1.applied.index, .int .i64 r98.1.applied.term, .int .i64 r98.1.applied.sum, .int .i64 r98.1.applied.level, .bool r98.1.applied.final, .slice A104 r98.1.votes.length c105, .slice A108 r98.1.next.length c109, .slice A112 r98.1.mtch.length c113, .slice A116 r98.1.caps.length c117] 30 :: .rd A100 (Z8 enE r98.1.tuple.log) :: .row (.slice A104 r98.1.votes.length c105) 4 1 r98.1.votes.length (Z8 enO r98.1.votes) :: .row (.slice A108 r98.1.next.length c109) 3 1 r98.1.next.length (Z8 Vr r98.1.next) :: .row (.slice A112 r98.1.mtch.length c113) 3 1 r98.1.mtch.length (Z8 Vr r98.1.mtch) :: .row (.slice A116 r98.1.caps.length c117) 3 1 r98.1.caps.length (Z8 Vr r98.1.caps) :: .rd A120 (Z8 enQ q124) :: .rds (q124.map Zfk) :: .box b94 [.int .u8 e89.kind, .int .i64 e89.frm, .int .i64 v28, .int .i64 e89.term, .int .i64 e89.cap, .int .i64 e89.last, .int .i64 e89.lastTerm, .int .i64 e89.commit, .bool e89.okk, .slice A92 e89.entries.length c93, .int .i64 e89.snap.index, .int .i64 e89.snap.term, .int .i64 e89.snap.sum, .int .i64 e89.snap.level, .bool e89.snap.final] 36 :: .rd A38 (Z8 enE v37) :: .row (.slice A50 v49.length c51) 4 1 v49.length (Z8 enO v49) :: .row (.slice A54 v53.length c55) 3 1 v53.length (Z8 Vr v53) :: .row (.slice A58 v57.length c59) 3 1 v57.length (Z8 Vr v57) :: .row (.slice A62 v61.length c63) 3 1 v61.length (Z8 Vr v61) :: .box b2 [.int .i64 v28, .int .i64 v29, .int .u8 v30, .int .i64 v31, .int .i64 v32, .int .i64 v33, .int .i64 v34, .int .i64 v35, .bool v36, .slice A38 v37.length c39, .int .i64 v41, .int .i64 v42, .int .i64 v43, .int .i64 v44, .int .i64 v45, .int .i64 v46, .int .i64 v47, .bool v48, .slice A50 v49.length c51, .slice A54 v53.length c55, .slice A58 v57.length c59, .slice A62 v61.length c63] 30 :: []) ∧ X0 (Z0 x1 x2 n) v27 r98 x.1 x.2 = some r) (fun x => x.1) (Yy, 0) (by repeat (first | exact Sub.nil | refine Sub.cons rfl ?_)) ⟨hS, H⟩ ?_)
   rintro ⟨n3, v237⟩ w ⟨hS, H⟩
   dsimp only at hS H ⊢
   obtain _ | n3 := n3
   ·have H0 : none = some r := H
    cases H0
   rw [X0] at H
   refine Zf (fun K hK238 => Zf (fun K hK239 => Zg (Zb 2 rfl (Za rfl rfl rfl (Yb Y9 rfl) (Za rfl rfl rfl (Y4 rfl rfl) (Zh (Zd hK239 ?_)))))))
   refine Zx rfl (fun hb => ?_) (fun hb => ?_)
   rotate_left
   ·replace H := Zq H hb
    refine Xy (Z4 (Z4 (Yz (Zd hK235 (Zg (Za rfl rfl rfl (Zk Ya rfl (Zgf _) hS hs0 trivial Z1) (Zr rfl rfl rfl CellsOf.agg hS ps14 Yo (by kernel_rfl) rfl (fun w hS hB => ?_))))))))
    refine Zh (Zw (Zd hK68 (Zg (Zb 1 rfl (Za rfl rfl rfl (Xu rfl rfl) (Zb 1 rfl (Zh ?_)))))))
    replace hS := hS.front 14 rfl
    replace hS := hS.front 6 rfl
    replace hS := hS.front 6 rfl
    replace hS := hS.front 6 rfl
    replace hS := hS.front 6 rfl
    replace hS := hS.front 6 rfl
    replace hS := hS.cut 6
    exact Xo (n, (IntKind.wrap .i64 (v27 + 1)), r98.1.id, r98.1.n, r98.1.role, r98.1.binary, r98.1.tuple.snap.index, r98.1.tuple.snap.term, r98.1.tuple.snap.sum, r98.1.tuple.snap.level, r98.1.tuple.snap.final, r98.1.tuple.log, A100, c101, r98.1.tuple.term, r98.1.tuple.vote, r98.1.commit, r98.1.applied.index, r98.1.applied.term, r98.1.applied.sum, r98.1.applied.level, r98.1.applied.final, r98.1.votes, A104, c105, r98.1.next, A108, c109, r98.1.mtch, A112, c113, r98.1.caps, A116, c117) (by repeat (first | exact Sub.nil | refine Sub.cons rfl ?_)) ⟨hS, k102, k106, k110, k114, k118, H⟩ (Nat.lt_succ_self _)
   replace H := Zp H hb
   refine Zv (Zd hK238 (Zf (fun K hK241 => Z6 (Zf (fun K hK242 => Yh 29 [] (fun _ _ => True) ⟨by kernel_rfl, by kernel_rfl⟩ hS (fun w hS hB => Zo [Tt,Tt,Tt,Tt,Tt,Tt] (by decide +kernel) PFC.h (LtK.put rfl rfl rfl (Zu rfl) ?_)))))))
   refine LtK.put rfl rfl rfl (Zu rfl) ?_
   obtain ⟨e243, hi245, H⟩ := bind_some H
   obtain ⟨j244, A246, c247, hi245a, hi245b, hi245c⟩ := Zar (q := q124) hq125 hi245
   refine LtK.put rfl rfl rfl (Y2 Y9 rfl rfl hi245a hi245c (Rd.el (hS.rd Vv) Yc hi245b)) (LtK.put rfl rfl rfl (V8 Vz rfl (Zgg _) (Rd.el (hS.rd Vv) Yc hi245b) X7) (LtK.put rfl rfl rfl (Zc Yx rfl) (LtK.put rfl rfl rfl (Zi Zy rfl (Zgg _) hS hs0 trivial Xd) (LtK.nil (Yd [Ff,Ff,Ff,Ff,Ff,Ff,Tt] 6 ⟨by decide, by kernel_rfl, by kernel_rfl⟩ rfl rfl ?_)))))
   try dsimp only [Z2]
   obtain ⟨r248, hm249, H⟩ := bind_some H
   refine Zt rfl rfl rfl rfl (by kernel_rfl) rfl (Jc e243 r98.1.n A246 c247 _ (SlW.of_rd (okq126 _ (List.mem_of_getElem? hi245b)) (hS.rds_rd hs7 hi245b)) hm249) ?_
   rintro e w ⟨rfl, hN⟩; refine ⟨_, rfl, ?_⟩; obtain ⟨hB, hS⟩ := hS.jn hN
   refine Zh (Ye hB (Zo [Ff,Ff,Ff,Ff,Ff,Ff,Ff,Tt,Tt] (by decide +kernel) PFC.h (LtK.put rfl rfl rfl (Yt rfl) (LtK.put rfl rfl rfl (Zu rfl) (LtK.nil (Xf 173 rfl (fun hb => ?_) (fun hb => ?_)))))))
   ·replace H := Zp H hb
    refine Zo [Ff,Ff,Ff,Ff,Ff,Ff,Ff,Ff,Ff,Tt,Tt,Tt,Tt,Tt,Tt,Tt,Tt,Tt,Tt,Tt,Tt,Tt,Tt,Tt,Tt,Tt,Tt,Tt,Tt] (by decide +kernel) PFC.h (LtK.skip rfl rfl rfl (LtK.skip rfl rfl rfl (LtK.skip rfl rfl rfl (LtK.skip rfl rfl rfl (LtK.skip rfl rfl rfl (LtK.skip rfl rfl rfl (LtK.skip rfl rfl rfl ?_)))))))
    refine LtK.skip rfl rfl rfl (LtK.put rfl rfl rfl (Z9 rfl rfl rfl) (LtK.put rfl rfl rfl (Zu rfl) (LtK.skip rfl rfl rfl (LtK.skip rfl rfl rfl (LtK.skip rfl rfl rfl (LtK.skip rfl rfl rfl (LtK.skip rfl rfl rfl ?_)))))))
    refine LtK.skip rfl rfl rfl (LtK.skip rfl rfl rfl (LtK.skip rfl rfl rfl (LtK.skip rfl rfl rfl (LtK.put rfl rfl rfl (Z9 rfl rfl rfl) (LtK.nil (Z5 (by kernel_rfl) (Zd hK242 ?_)))))))
    refine Zn rfl rfl (Zf (fun K hK251 => Zg (Zb 1 rfl (Zh (Zd hK251 (Zl (Zj ?_)))))))
    refine Ze (Ze (Zj (Ze (Zj (Ze (Ze (Zj ?_)))))))
    refine Ze (Zm rfl (RV.tmp rfl RV.nil) rfl ?_)
    obtain rfl := QJ H
    replace hS := hS.cut 0
    exact ⟨rfl, hS⟩
   replace H := Zq H hb
   refine Zo [Ff,Ff,Ff,Ff,Ff,Ff,Ff,Ff,Ff,Tt,Tt,Tt,Tt,Tt,Tt,Tt,Tt,Tt,Tt] (by decide +kernel) PFC.h (LtK.put rfl rfl rfl (Zu rfl) (LtK.put rfl rfl rfl (Zu rfl) ?_))
   obtain ⟨e253, hi255, H⟩ := bind_some H
   obtain ⟨j254, A256, c257, hi255a, hi255b, hi255c⟩ := Zar (q := q124) hq125 hi255
   refine LtK.put rfl rfl rfl (Y2 Y9 rfl rfl hi255a hi255c (Rd.el (hS.rd Vv) Yc hi255b)) (LtK.put rfl rfl rfl (Y0 Ji rfl (Rd.el (hS.rd Vv) Yc hi255b)) (LtK.put rfl rfl rfl (Za6 Zy rfl (Zgg _) (Rd.el (hS.rd Vv) Yc hi255b) rfl) (LtK.put rfl rfl rfl (Zc Xb rfl) (LtK.put rfl rfl rfl (Zi Zy rfl (Zgg _) hS hs0 trivial Yw) (LtK.put rfl rfl rfl (Yl rfl rfl) (LtK.put rfl rfl rfl (Yk rfl rfl rfl) (LtK.put rfl rfl rfl (Zu rfl) ?_)))))))
   refine LtK.nil (Xf 183 rfl (fun hb => ?_) (fun hb => ?_))
   ·replace H := Zp H hb
    refine Zo [Ff,Ff,Ff,Ff,Ff,Ff,Ff,Ff,Ff,Ff,Ff,Ff,Ff,Ff,Ff,Ff,Ff,Ff,Ff,Tt,Tt,Tt,Tt,Tt,Tt,Tt,Tt,Tt,Tt] (by decide +kernel) PFC.h (LtK.skip rfl rfl rfl (LtK.skip rfl rfl rfl (LtK.skip rfl rfl rfl (LtK.skip rfl rfl rfl (LtK.skip rfl rfl rfl (LtK.skip rfl rfl rfl (LtK.skip rfl rfl rfl ?_)))))))
    refine LtK.skip rfl rfl rfl (LtK.skip rfl rfl rfl (LtK.put rfl rfl rfl (Z9 rfl rfl rfl) (LtK.nil (Z5 (by kernel_rfl) (Zd hK242 (Zn rfl rfl (Zf (fun K hK259 => ?_))))))))
    refine Zg (Zb 1 rfl (Zh (Zd hK259 (Zl (Zj (Ze (Ze ?_)))))))
    refine Zj (Ze (Zj (Ze (Ze (Zj (Ze (Zm rfl (RV.tmp rfl RV.nil) rfl ?_)))))))
    obtain rfl := QJ H
    replace hS := hS.cut 0
    exact ⟨rfl, hS⟩
   replace H := Zq H hb
   refine Zo [Ff,Ff,Ff,Ff,Ff,Ff,Ff,Ff,Ff,Ff,Ff,Ff,Ff,Ff,Ff,Ff,Ff,Ff,Ff,Tt,Tt,Tt,Tt,Tt,Tt,Tt,Tt,Tt,Tt] (by decide +kernel) PFC.h (LtK.put rfl rfl rfl (Zu rfl) (LtK.put rfl rfl rfl (Zu rfl) ?_))
   obtain ⟨e261, hi263, H⟩ := bind_some H
   obtain ⟨j262, A264, c265, hi263a, hi263b, hi263c⟩ := Zar (q := q124) hq125 hi263
   refine LtK.put rfl rfl rfl (Y2 Y9 rfl rfl hi263a hi263c (Rd.el (hS.rd Vv) Yc hi263b)) (LtK.put rfl rfl rfl (Y0 Je rfl (Rd.el (hS.rd Vv) Yc hi263b)) (LtK.put rfl rfl rfl (Za6 Zy rfl (Zgg _) (Rd.el (hS.rd Vv) Yc hi263b) rfl) (LtK.put rfl rfl rfl (Zc Zz rfl) (LtK.put rfl rfl rfl (Zc Xc rfl) (LtK.put rfl rfl rfl (Zi Zy rfl (Zgg _) hS hs0 trivial Xv) (LtK.put rfl rfl rfl (Yl rfl rfl) (LtK.put rfl rfl rfl (Yk rfl rfl rfl) ?_)))))))
   refine LtK.nil (Z5 (by kernel_rfl) (Zd hK242 (Zx rfl (fun hb => ?_) (fun hb => ?_))))
   rotate_left
   ·replace H := Zq H hb
    refine Zv (Zw (Zd hK241 (Zg (Zb 1 rfl (Za rfl rfl rfl (Xu rfl rfl) (Zb 1 rfl (Zh ?_)))))))
    exact Xo (n3, (IntKind.wrap .i64 (v237 + 1))) (by repeat (first | exact Sub.nil | refine Sub.cons rfl ?_)) ⟨hS, H⟩ (Nat.lt_succ_self _)
   replace H := Zp H hb
   refine Zf (fun K hK267 => Zg (Zb 1 rfl (Zh (Zd hK267 (Zl (Zj (Ze ?_)))))))
   refine Ze (Zj (Ze (Zj (Ze (Ze (Zj (Ze ?_)))))))
   refine Zm rfl (RV.tmp rfl RV.nil) rfl ?_
   obtain rfl := QJ H
   replace hS := hS.cut 0
   exact ⟨rfl, hS⟩
  replace H := Zp H hb
  refine Za rfl rfl rfl (Zc Zz rfl) (Za rfl rfl rfl (Zc Vq rfl) (Za rfl rfl rfl (Zi Zy rfl (Zgf _) hS hs0 trivial Zbz) (Za rfl rfl rfl (Zc Zz rfl) (Za rfl rfl rfl (Zc Vq rfl) (Za rfl rfl rfl (Zi Zy rfl (Zgf _) hS Jv trivial Zbz) (Za rfl rfl rfl (Yl rfl rfl) (Zb 3 rfl ?_)))))))
  refine Zs 98 rfl (fun hb => ?_) (fun hb => ?_)
  ·replace H := Zp H hb
   refine Zb 40 rfl (Zh (Zd hK131 (Zn rfl rfl (Zf (fun K hK143 => Zg (Zb 1 rfl (Zh ?_)))))))
   refine Zd hK143 (Zl (Ze (Zj (Ze (Ze (Zj (Ze ?_)))))))
   refine Zm rfl (RV.tmp rfl RV.nil) rfl ?_
   obtain rfl := QJ H
   replace hS := hS.cut 0
   exact ⟨rfl, hS⟩
  replace H := Zq H hb
  refine Za rfl rfl rfl (Zc Zz rfl) (Za rfl rfl rfl (Zc Yg rfl) (Za rfl rfl rfl (Zi Y6 rfl (Zgf _) hS hs0 trivial Xt) (Za rfl rfl rfl (Yb Y1 rfl) (Za rfl rfl rfl (Zc Zz rfl) (Za rfl rfl rfl (Zc Yg rfl) (Za rfl rfl rfl (Zi Y6 rfl (Zgf _) hS Jv trivial Xt) (Za rfl rfl rfl (Yb Y1 rfl) ?_)))))))
  refine Za rfl rfl rfl (Y4 rfl rfl) (Zb 2 rfl (Zs 109 rfl (fun hb => ?_) (fun hb => ?_)))
  ·replace H := Zp H hb
   refine Zb 29 rfl (Zh (Zd hK131 (Zn rfl rfl (Zf (fun K hK146 => Zg (Zb 1 rfl (Zh ?_)))))))
   refine Zd hK146 (Zl (Ze (Zj (Ze (Ze (Zj (Ze ?_)))))))
   refine Zm rfl (RV.tmp rfl RV.nil) rfl ?_
   obtain rfl := QJ H
   replace hS := hS.cut 0
   exact ⟨rfl, hS⟩
  replace H := Zq H hb
  refine Za rfl rfl rfl (Zc V6 rfl) (Za rfl rfl rfl (Zi Zy rfl (Zgf _) hS hs0 trivial J9) (Za rfl rfl rfl (Zc V6 rfl) (Za rfl rfl rfl (Zi Zy rfl (Zgf _) hS Jv trivial J9) (Za rfl rfl rfl (Yl rfl rfl) (Zb 2 rfl (Zs 116 rfl (fun hb => ?_) (fun hb => ?_)))))))
  ·replace H := Zp H hb
   refine Zb 22 rfl (Zh (Zd hK131 (Zn rfl rfl (Zf (fun K hK149 => Zg (Zb 1 rfl (Zh ?_)))))))
   refine Zd hK149 (Zl (Ze (Zj (Ze (Ze (Zj (Ze ?_)))))))
   refine Zm rfl (RV.tmp rfl RV.nil) rfl ?_
   obtain rfl := QJ H
   replace hS := hS.cut 0
   exact ⟨rfl, hS⟩
  replace H := Zq H hb
  refine Za rfl rfl rfl (Zc Zz rfl) (Za rfl rfl rfl (Zc Xe rfl) (Za rfl rfl rfl (Zk Y3 rfl (Zgf _) hS hs0 trivial Zb1) (Za rfl rfl rfl (Zc Zz rfl) (Za rfl rfl rfl (Zc Xe rfl) (Za rfl rfl rfl (Zk Y3 rfl (Zgf _) hS Jv trivial Zb1) (Za rfl rfl rfl (Zb0 (by kernel_rfl) rfl rfl (Jg _ _ _ _ _ _ _ _ _ _)) (Zb 2 rfl ?_)))))))
  refine Zs 125 rfl (fun hb => ?_) (fun hb => ?_)
  ·replace H := Zp H hb
   refine Zb 13 rfl (Zh (Zd hK131 (Zn rfl rfl (Zf (fun K hK152 => Zg (Zb 1 rfl (Zh ?_)))))))
   refine Zd hK152 (Zl (Ze (Zj (Ze (Ze (Zj (Ze ?_)))))))
   refine Zm rfl (RV.tmp rfl RV.nil) rfl ?_
   obtain rfl := QJ H
   replace hS := hS.cut 0
   exact ⟨rfl, hS⟩
  replace H := Zq H hb
  refine Za rfl rfl rfl (Zc Xb rfl) (Za rfl rfl rfl (Zi Zy rfl (Zgf _) hS hs0 trivial Yw) (Za rfl rfl rfl (Zc Xb rfl) (Za rfl rfl rfl (Zi Zy rfl (Zgf _) hS Jv trivial Yw) (Za rfl rfl rfl (Yl rfl rfl) (Zb 2 rfl (Zs 132 rfl (fun hb => ?_) (fun hb => ?_)))))))
  ·replace H := Zp H hb
   refine Zb 6 rfl (Zh (Zd hK131 (Zn rfl rfl (Zf (fun K hK155 => Zg (Zb 1 rfl (Zh ?_)))))))
   refine Zd hK155 (Zl (Ze (Zj (Ze (Ze (Zj (Ze ?_)))))))
   refine Zm rfl (RV.tmp rfl RV.nil) rfl ?_
   obtain rfl := QJ H
   replace hS := hS.cut 0
   exact ⟨rfl, hS⟩
  replace H := Zq H hb
  refine Za rfl rfl rfl (Zc Yx rfl) (Za rfl rfl rfl (Zi Zy rfl (Zgf _) hS hs0 trivial Xd) (Za rfl rfl rfl (Zc Yx rfl) (Za rfl rfl rfl (Zi Zy rfl (Zgf _) hS Jv trivial Xd) (Za rfl rfl rfl (Yl rfl rfl) (Zb 1 rfl (Zh (Zd hK131 ?_)))))))
  refine Zx rfl (fun hb => ?_) (fun hb => ?_)
  ·replace H := Zp H hb
   refine Zf (fun K hK158 => Zg (Zb 1 rfl (Zh (Zd hK158 (Zl (Ze (Zj ?_)))))))
   refine Ze (Ze (Zj (Ze (Zm rfl (RV.tmp rfl RV.nil) rfl ?_))))
   obtain rfl := QJ H
   replace hS := hS.cut 0
   exact ⟨rfl, hS⟩
  replace H := Zq H hb
  refine Zv (Zd hK130 (Zf (fun K hK160 => Zf (fun K hK161 => Yh 20 [] (fun _ _ => True) ⟨by kernel_rfl, by kernel_rfl⟩ hS (fun w hS hB => Zo [Tt,Tt,Tt,Tt,Tt,Tt,Tt,Tt,Tt,Tt,Tt] (by decide +kernel) PFC.h (LtK.put rfl rfl rfl (Zc Zz rfl) (LtK.put rfl rfl rfl (Zc Yg rfl) ?_)))))))
  refine LtK.put rfl rfl rfl (Zi Y6 rfl (Zgg _) hS hs0 trivial Xt) (LtK.put rfl rfl rfl (Zc Zz rfl) (LtK.put rfl rfl rfl (Zc Yg rfl) (LtK.put rfl rfl rfl (Zi Y6 rfl (Zgg _) hS Jv trivial Xt) (LtK.put rfl rfl rfl (Yb Y1 rfl) ?_))))
  obtain ⟨l162, ht163, H⟩ := bind_some H
  refine LtK.put rfl rfl rfl (J1 Y1 rfl rfl k102.1 ht163) (LtK.put rfl rfl rfl (Zc Zz rfl) (LtK.put rfl rfl rfl (Zc Yg rfl) (LtK.put rfl rfl rfl (Zi Y6 rfl (Zgg _) hS Jv trivial Xt) (LtK.nil (Yd [Ff,Ff,Ff,Ff,Ff,Ff,Ff,Ff,Ff,Ff,Ff,Tt] 11 ⟨by decide, by kernel_rfl, by kernel_rfl⟩ rfl rfl ?_)))))
  try dsimp only [Z2]
  obtain ⟨r164, hm165, H⟩ := bind_some H
  refine Zt rfl rfl rfl rfl (by kernel_rfl) rfl (Ja l162 v37 A100 c101 A38 c39 _ (Zgi (Zdo k102 ht163) (Rd.takeI Vf (hS.rd X9) ht163) (hS.rd_blk X9)) (Zgi k40 (hS.rd hs9) (hS.rd_blk hs9)) hm165) ?_
  rintro e w ⟨rfl, hN⟩; refine ⟨_, rfl, ?_⟩; obtain ⟨hB, hS⟩ := hS.jn hN
  refine Zh (Ye hB (Zo [Ff,Ff,Ff,Ff,Ff,Ff,Ff,Ff,Ff,Ff,Ff,Ff,Tt,Tt] (by decide +kernel) PFC.h (LtK.put rfl rfl rfl (Yt rfl) (LtK.put rfl rfl rfl (Zu rfl) (LtK.nil (Xf 152 rfl (fun hb => ?_) (fun hb => ?_)))))))
  ·replace H := Zp H hb
   refine Zo [Ff,Ff,Ff,Ff,Ff,Ff,Ff,Ff,Ff,Ff,Ff,Ff,Ff,Ff,Tt,Tt,Tt,Tt,Tt,Tt] (by decide +kernel) PFC.h (LtK.skip rfl rfl rfl (LtK.skip rfl rfl rfl (LtK.skip rfl rfl rfl (LtK.skip rfl rfl rfl (LtK.skip rfl rfl rfl (LtK.put rfl rfl rfl (Z9 rfl rfl rfl) (LtK.nil ?_)))))))
   refine Z5 (by kernel_rfl) (Zd hK161 (Zn rfl rfl (Zf (fun K hK167 => Zg (Zb 1 rfl (Zh (Zd hK167 ?_)))))))
   refine Zl (Ze (Zj (Ze (Ze (Zj (Ze (Zm rfl (RV.tmp rfl RV.nil) rfl ?_)))))))
   obtain rfl := QJ H
   replace hS := hS.cut 0
   exact ⟨rfl, hS⟩
  replace H := Zq H hb
  refine Zo [Ff,Ff,Ff,Ff,Ff,Ff,Ff,Ff,Ff,Ff,Ff,Ff,Ff,Ff,Tt,Tt,Tt,Tt,Tt,Tt] (by decide +kernel) PFC.h (LtK.put rfl rfl rfl (Zu rfl) (LtK.put rfl rfl rfl (Yb Y9 rfl) (LtK.put rfl rfl rfl (Zc Yx rfl) (LtK.put rfl rfl rfl (Zi Zy rfl (Zgg _) hS hs0 trivial Xd) (LtK.put rfl rfl rfl (Y8 rfl rfl) (LtK.put rfl rfl rfl (Yk rfl rfl rfl) (LtK.nil ?_)))))))
  refine Z5 (by kernel_rfl) (Zd hK161 (Zx rfl (fun hb => ?_) (fun hb => ?_)))
  ·replace H := Zp H hb
   refine Zf (fun K hK170 => Zg (Zb 1 rfl (Zh (Zd hK170 (Zl (Ze (Zj ?_)))))))
   refine Ze (Ze (Zj (Ze (Zm rfl (RV.tmp rfl RV.nil) rfl ?_))))
   obtain rfl := QJ H
   replace hS := hS.cut 0
   exact ⟨rfl, hS⟩
  replace H := Zq H hb
  refine Zv (Zd hK160 (Zf (fun K hK172 => Zf (fun K hK173 => Zg (Zb 1 rfl (Zh (Zd hK173 ?_)))))))
  refine Z6 (Vp (X := Nat × Int) (fun x => (1, .slice A5_ x1.length c5_) :: (2, .slice A6_ x2.length c6_) :: (3, .pointer (some ⟨b2, 0, none⟩)) :: (7, .int .i64 v27) :: (10, .pointer (some ⟨b128, 0, none⟩)) :: (11, .slice A120 r98.2.length c121) :: (12, .int .i64 x.2) :: []) (fun x w => St0 All w0 w (.box b128 [.int .i64 r98.1.id, .int .i64 r98.1.n, .int .u8 r98.1.role, .int .i64 r98.1.binary, .int .i64 r98.1.tuple.snap.index, .int .i64 r98.1.tuple.snap.term, .int .i64 r98.1.tuple.snap.sum, .int .i64 r98.1.tuple.snap.level, .bool r98.1.tuple.snap.final, .slice A100 r98.1.tuple.log.length c101, .int .i64 r98.1.tuple.term, .int .i64 r98.1.tuple.vote, .int .i64 r98.1.commit, .int .i64 r98.1.applied.index, .int .i64 r98.1.applied.term, .int .i64 r98.1.applied.sum, .int .i64 r98.1.applied.level, .bool r98.1.applied.final, .slice A104 r98.1.votes.length c105, .slice A108 r98.1.next.length c109, .slice A112 r98.1.mtch.length c113, .slice A116 r98.1.caps.length c117] 30 :: .rd A100 (Z8 enE r98.1.tuple.log) :: .row (.slice A104 r98.1.votes.length c105) 4 1 r98.1.votes.length (Z8 enO r98.1.votes) :: .row (.slice A108 r98.1.next.length c109) 3 1 r98.1.next.length (Z8 Vr r98.1.next) :: .row (.slice A112 r98.1.mtch.length c113) 3 1 r98.1.mtch.length (Z8 Vr r98.1.mtch) :: .row (.slice A116 r98.1.caps.length c117) 3 1 r98.1.caps.length (Z8 Vr r98.1.caps) :: .rd A120 (Z8 enQ q124) :: .rds (q124.map Zfk) :: .box b94 [.int .u8 e89.kind, .int .i64 e89.frm, .int .i64 v28, .int .i64 e89.term, .int .i64 e89.cap, .int .i64 e89.last, .int .i64 e89.lastTerm, .int .i64 e89.commit, .bool e89.okk, .slice A92 e89.entries.length c93, .int .i64 e89.snap.index, .int .i64 e89.snap.term, .int .i64 e89.snap.sum, .int .i64 e89.snap.level, .bool e89.snap.final] 36 :: .rd A38 (Z8 enE v37) :: .row (.slice A50 v49.length c51) 4 1 v49.length (Z8 enO v49) :: .row (.slice A54 v53.length c55) 3 1 v53.length (Z8 Vr v53) :: .row (.slice A58 v57.length c59) 3 1 v57.length (Z8 Vr v57) :: .row (.slice A62 v61.length c63) 3 1 v61.length (Z8 Vr v61) :: .box b2 [.int .i64 v28, .int .i64 v29, .int .u8 v30, .int .i64 v31, .int .i64 v32, .int .i64 v33, .int .i64 v34, .int .i64 v35, .bool v36, .slice A38 v37.length c39, .int .i64 v41, .int .i64 v42, .int .i64 v43, .int .i64 v44, .int .i64 v45, .int .i64 v46, .int .i64 v47, .bool v48, .slice A50 v49.length c51, .slice A54 v53.length c55, .slice A58 v57.length c59, .slice A62 v61.length c63] 30 :: []) ∧ X3 (Z0 x1 x2 n) v27 r98 x.1 x.2 = some r) (fun x => x.1) (Yy, 0) (by repeat (first | exact Sub.nil | refine Sub.cons rfl ?_)) ⟨hS, H⟩ ?_)
  rintro ⟨n2, v174⟩ w ⟨hS, H⟩
  dsimp only at hS H ⊢
  obtain _ | n2 := n2
  ·have H0 : none = some r := H
   cases H0
  rw [X3] at H
  refine Zf (fun K hK175 => Zf (fun K hK176 => Zg (Zb 2 rfl (Za rfl rfl rfl (Yb Y9 rfl) (Za rfl rfl rfl (Y4 rfl rfl) (Zh (Zd hK176 ?_)))))))
  refine Zx rfl (fun hb => ?_) (fun hb => ?_)
  rotate_left
  ·replace H := Zq H hb
   refine Xy (Z4 (Z4 (Yz (Zd hK172 (Zg (Za rfl rfl rfl (Zk Ya rfl (Zgf _) hS hs0 trivial Z1) (Zr rfl rfl rfl CellsOf.agg hS ps14 Yo (by kernel_rfl) rfl (fun w hS hB => ?_))))))))
   refine Zh (Zw (Zd hK68 (Zg (Zb 1 rfl (Za rfl rfl rfl (Xu rfl rfl) (Zb 1 rfl (Zh ?_)))))))
   replace hS := hS.front 14 rfl
   replace hS := hS.front 6 rfl
   replace hS := hS.front 6 rfl
   replace hS := hS.front 6 rfl
   replace hS := hS.front 6 rfl
   replace hS := hS.front 6 rfl
   replace hS := hS.cut 6
   exact Xo (n, (IntKind.wrap .i64 (v27 + 1)), r98.1.id, r98.1.n, r98.1.role, r98.1.binary, r98.1.tuple.snap.index, r98.1.tuple.snap.term, r98.1.tuple.snap.sum, r98.1.tuple.snap.level, r98.1.tuple.snap.final, r98.1.tuple.log, A100, c101, r98.1.tuple.term, r98.1.tuple.vote, r98.1.commit, r98.1.applied.index, r98.1.applied.term, r98.1.applied.sum, r98.1.applied.level, r98.1.applied.final, r98.1.votes, A104, c105, r98.1.next, A108, c109, r98.1.mtch, A112, c113, r98.1.caps, A116, c117) (by repeat (first | exact Sub.nil | refine Sub.cons rfl ?_)) ⟨hS, k102, k106, k110, k114, k118, H⟩ (Nat.lt_succ_self _)
  replace H := Zp H hb
  refine Zv (Zd hK175 (Zf (fun K hK178 => Z6 (Zf (fun K hK179 => Yh 29 [] (fun _ _ => True) ⟨by kernel_rfl, by kernel_rfl⟩ hS (fun w hS hB => Zo [Tt,Tt,Tt,Tt,Tt,Tt] (by decide +kernel) PFC.h (LtK.put rfl rfl rfl (Zu rfl) ?_)))))))
  refine LtK.put rfl rfl rfl (Zu rfl) ?_
  obtain ⟨e180, hi182, H⟩ := bind_some H
  obtain ⟨j181, A183, c184, hi182a, hi182b, hi182c⟩ := Zar (q := q124) hq125 hi182
  refine LtK.put rfl rfl rfl (Y2 Y9 rfl rfl hi182a hi182c (Rd.el (hS.rd Vv) Yc hi182b)) (LtK.put rfl rfl rfl (V8 Vz rfl (Zgg _) (Rd.el (hS.rd Vv) Yc hi182b) X7) (LtK.put rfl rfl rfl (Zc Yx rfl) (LtK.put rfl rfl rfl (Zi Zy rfl (Zgg _) hS hs0 trivial Xd) (LtK.nil (Yd [Ff,Ff,Ff,Ff,Ff,Ff,Tt] 6 ⟨by decide, by kernel_rfl, by kernel_rfl⟩ rfl rfl ?_)))))
  try dsimp only [Z2]
  obtain ⟨r185, hm186, H⟩ := bind_some H
  refine Zt rfl rfl rfl rfl (by kernel_rfl) rfl (Jc e180 r98.1.n A183 c184 _ (SlW.of_rd (okq126 _ (List.mem_of_getElem? hi182b)) (hS.rds_rd hs7 hi182b)) hm186) ?_
  rintro e w ⟨rfl, hN⟩; refine ⟨_, rfl, ?_⟩; obtain ⟨hB, hS⟩ := hS.jn hN
  refine Zh (Ye hB (Zo [Ff,Ff,Ff,Ff,Ff,Ff,Ff,Tt,Tt] (by decide +kernel) PFC.h (LtK.put rfl rfl rfl (Yt rfl) (LtK.put rfl rfl rfl (Zu rfl) (LtK.nil (Xf 173 rfl (fun hb => ?_) (fun hb => ?_)))))))
  ·replace H := Zp H hb
   refine Zo [Ff,Ff,Ff,Ff,Ff,Ff,Ff,Ff,Ff,Tt,Tt,Tt,Tt,Tt,Tt,Tt,Tt,Tt,Tt,Tt,Tt,Tt,Tt,Tt,Tt,Tt,Tt,Tt,Tt] (by decide +kernel) PFC.h (LtK.skip rfl rfl rfl (LtK.skip rfl rfl rfl (LtK.skip rfl rfl rfl (LtK.skip rfl rfl rfl (LtK.skip rfl rfl rfl (LtK.skip rfl rfl rfl (LtK.skip rfl rfl rfl ?_)))))))
   refine LtK.skip rfl rfl rfl (LtK.put rfl rfl rfl (Z9 rfl rfl rfl) (LtK.put rfl rfl rfl (Zu rfl) (LtK.skip rfl rfl rfl (LtK.skip rfl rfl rfl (LtK.skip rfl rfl rfl (LtK.skip rfl rfl rfl (LtK.skip rfl rfl rfl ?_)))))))
   refine LtK.skip rfl rfl rfl (LtK.skip rfl rfl rfl (LtK.skip rfl rfl rfl (LtK.skip rfl rfl rfl (LtK.put rfl rfl rfl (Z9 rfl rfl rfl) (LtK.nil (Z5 (by kernel_rfl) (Zd hK179 ?_)))))))
   refine Zn rfl rfl (Zf (fun K hK188 => Zg (Zb 1 rfl (Zh (Zd hK188 (Zl (Zj ?_)))))))
   refine Ze (Ze (Zj (Ze (Zj (Ze (Ze (Zj ?_)))))))
   refine Ze (Zm rfl (RV.tmp rfl RV.nil) rfl ?_)
   obtain rfl := QJ H
   replace hS := hS.cut 0
   exact ⟨rfl, hS⟩
  replace H := Zq H hb
  refine Zo [Ff,Ff,Ff,Ff,Ff,Ff,Ff,Ff,Ff,Tt,Tt,Tt,Tt,Tt,Tt,Tt,Tt,Tt,Tt] (by decide +kernel) PFC.h (LtK.put rfl rfl rfl (Zu rfl) (LtK.put rfl rfl rfl (Zu rfl) ?_))
  obtain ⟨e190, hi192, H⟩ := bind_some H
  obtain ⟨j191, A193, c194, hi192a, hi192b, hi192c⟩ := Zar (q := q124) hq125 hi192
  refine LtK.put rfl rfl rfl (Y2 Y9 rfl rfl hi192a hi192c (Rd.el (hS.rd Vv) Yc hi192b)) (LtK.put rfl rfl rfl (Y0 Ji rfl (Rd.el (hS.rd Vv) Yc hi192b)) (LtK.put rfl rfl rfl (Za6 Zy rfl (Zgg _) (Rd.el (hS.rd Vv) Yc hi192b) rfl) (LtK.put rfl rfl rfl (Zc Xb rfl) (LtK.put rfl rfl rfl (Zi Zy rfl (Zgg _) hS hs0 trivial Yw) (LtK.put rfl rfl rfl (Yl rfl rfl) (LtK.put rfl rfl rfl (Yk rfl rfl rfl) (LtK.put rfl rfl rfl (Zu rfl) ?_)))))))
  refine LtK.nil (Xf 183 rfl (fun hb => ?_) (fun hb => ?_))
  ·replace H := Zp H hb
   refine Zo [Ff,Ff,Ff,Ff,Ff,Ff,Ff,Ff,Ff,Ff,Ff,Ff,Ff,Ff,Ff,Ff,Ff,Ff,Ff,Tt,Tt,Tt,Tt,Tt,Tt,Tt,Tt,Tt,Tt] (by decide +kernel) PFC.h (LtK.skip rfl rfl rfl (LtK.skip rfl rfl rfl (LtK.skip rfl rfl rfl (LtK.skip rfl rfl rfl (LtK.skip rfl rfl rfl (LtK.skip rfl rfl rfl (LtK.skip rfl rfl rfl ?_)))))))
   refine LtK.skip rfl rfl rfl (LtK.skip rfl rfl rfl (LtK.put rfl rfl rfl (Z9 rfl rfl rfl) (LtK.nil (Z5 (by kernel_rfl) (Zd hK179 (Zn rfl rfl (Zf (fun K hK196 => ?_))))))))
   refine Zg (Zb 1 rfl (Zh (Zd hK196 (Zl (Zj (Ze (Ze ?_)))))))
   refine Zj (Ze (Zj (Ze (Ze (Zj (Ze (Zm rfl (RV.tmp rfl RV.nil) rfl ?_)))))))
   obtain rfl := QJ H
   replace hS := hS.cut 0
   exact ⟨rfl, hS⟩
  replace H := Zq H hb
  refine Zo [Ff,Ff,Ff,Ff,Ff,Ff,Ff,Ff,Ff,Ff,Ff,Ff,Ff,Ff,Ff,Ff,Ff,Ff,Ff,Tt,Tt,Tt,Tt,Tt,Tt,Tt,Tt,Tt,Tt] (by decide +kernel) PFC.h (LtK.put rfl rfl rfl (Zu rfl) (LtK.put rfl rfl rfl (Zu rfl) ?_))
  obtain ⟨e198, hi200, H⟩ := bind_some H
  obtain ⟨j199, A201, c202, hi200a, hi200b, hi200c⟩ := Zar (q := q124) hq125 hi200
  refine LtK.put rfl rfl rfl (Y2 Y9 rfl rfl hi200a hi200c (Rd.el (hS.rd Vv) Yc hi200b)) (LtK.put rfl rfl rfl (Y0 Je rfl (Rd.el (hS.rd Vv) Yc hi200b)) (LtK.put rfl rfl rfl (Za6 Zy rfl (Zgg _) (Rd.el (hS.rd Vv) Yc hi200b) rfl) (LtK.put rfl rfl rfl (Zc Zz rfl) (LtK.put rfl rfl rfl (Zc Xc rfl) (LtK.put rfl rfl rfl (Zi Zy rfl (Zgg _) hS hs0 trivial Xv) (LtK.put rfl rfl rfl (Yl rfl rfl) (LtK.put rfl rfl rfl (Yk rfl rfl rfl) ?_)))))))
  refine LtK.nil (Z5 (by kernel_rfl) (Zd hK179 (Zx rfl (fun hb => ?_) (fun hb => ?_))))
  rotate_left
  ·replace H := Zq H hb
   refine Zv (Zw (Zd hK178 (Zg (Zb 1 rfl (Za rfl rfl rfl (Xu rfl rfl) (Zb 1 rfl (Zh ?_)))))))
   exact Xo (n2, (IntKind.wrap .i64 (v174 + 1))) (by repeat (first | exact Sub.nil | refine Sub.cons rfl ?_)) ⟨hS, H⟩ (Nat.lt_succ_self _)
  replace H := Zp H hb
  refine Zf (fun K hK204 => Zg (Zb 1 rfl (Zh (Zd hK204 (Zl (Zj (Ze ?_)))))))
  refine Ze (Zj (Ze (Zj (Ze (Ze (Zj (Ze ?_)))))))
  refine Zm rfl (RV.tmp rfl RV.nil) rfl ?_
  obtain rfl := QJ H
  replace hS := hS.cut 0
  exact ⟨rfl, hS⟩
 refine Zf (fun K hK583 => Zf (fun K hK584 => Zg (Zb 2 rfl (Za rfl rfl rfl (Yb Y9 rfl) (Za rfl rfl rfl (Y4 rfl rfl) (Zh (Zd hK584 ?_)))))))
 refine Zx rfl (fun hb => ?_) (fun hb => ?_)
 rotate_left
 ·replace H := Zq H hb
  refine Xy (Z4 (Z4 (Yz (Zd hK25 (Zf (fun K hK1104 => Zg ?_))))))
  obtain ⟨r1105, hm1106, H⟩ := bind_some H
  refine Zt rfl rfl rfl rfl (by kernel_rfl) rfl (Zbb _ hm1106) ?_
  rintro e w ⟨rfl, hN⟩; refine ⟨_, rfl, ?_⟩; obtain ⟨hB, hS⟩ := hS.jn hN
  refine Zb 1 rfl (Zh (Zd hK1104 (Zl (Zm rfl (RV.tmp rfl RV.nil) rfl ?_))))
  obtain rfl := QJ H
  replace hS := hS.cut 0
  exact ⟨rfl, hS⟩
 replace H := Zp H hb
 refine Zv (Zd hK583 (Zf (fun K hK586 => Z6 (Zf (fun K hK587 => Zf (fun K hK588 => Zg (Zb 2 rfl ?_)))))))
 obtain ⟨e589, hi591, H⟩ := bind_some H
 obtain ⟨j590, A592, c593, hi591a, hi591b, hi591c⟩ := Zar (q := q6_) s6_q hi591
 refine Za rfl rfl rfl (Y2 Y9 rfl rfl hi591a hi591c (Rd.el (hS.rd0 s6_.rd) Yc hi591b)) (Za rfl rfl rfl (Y0 Zb2 rfl (Rd.el (hS.rd0 s6_.rd) Yc hi591b)) (Za rfl rfl rfl (Za6 Y6 rfl (Zgf _) (Rd.el (hS.rd0 s6_.rd) Yc hi591b) rfl) (Za rfl rfl rfl (Yb Y1 rfl) (Za rfl rfl rfl (Y8 rfl rfl) (Zh (Zd hK588 (Zx rfl (fun hb => ?_) (fun hb => ?_))))))))
 ·replace H := Zp H hb
  refine Zf (fun K hK595 => Zg ?_)
  obtain ⟨r596, hm597, H⟩ := bind_some H
  refine Zt rfl rfl rfl rfl (by kernel_rfl) rfl (Zbb _ hm597) ?_
  rintro e w ⟨rfl, hN⟩; refine ⟨_, rfl, ?_⟩; obtain ⟨hB, hS⟩ := hS.jn hN
  refine Zb 1 rfl (Zh (Zd hK595 (Zl (Ze (Zj (Ze (Ze ?_)))))))
  refine Zj (Ze (Zm rfl (RV.tmp rfl RV.nil) rfl ?_))
  obtain rfl := QJ H
  replace hS := hS.cut 0
  exact ⟨rfl, hS⟩
 replace H := Zq H hb
 refine Zv (Zd hK587 (Zf (fun K hK599 => Zg (Zb 1 rfl (Zh (Zd hK599 (Zf (fun K hK600 => ?_))))))))
 refine Zf (fun K hK601 => Zg (Zb 2 rfl (Za rfl rfl rfl (Yb el_31 rfl) (Za rfl rfl rfl (Y4 rfl rfl) (Zh (Zd hK601 (Zx rfl (fun hb => ?_) (fun hb => ?_))))))))
 rotate_left
 ·replace H := Zq H hb
  refine Zv (Zd hK600 (Zf (fun K hK855 => Zg (Zb 2 rfl ?_))))
  obtain ⟨e856, hi858, H⟩ := bind_some H
  obtain ⟨j857, A859, c860, hi858a, hi858b, hi858c⟩ := Zar (q := q6_) s6_q hi858
  refine Za rfl rfl rfl (Y2 Y9 rfl rfl hi858a hi858c (Rd.el (hS.rd0 s6_.rd) Yc hi858b)) (Za rfl rfl rfl (V8 Vz rfl (Zgf _) (Rd.el (hS.rd0 s6_.rd) Yc hi858b) X7) (Yr rfl rfl Zbu hS (fun b861 w hS hB => Zr rfl rfl rfl CellsOf.agg hS ps0 st0_15 (by kernel_rfl) rfl (fun w hS hB => Zh (Zd hK855 (Zf (fun K hK863 => Zg ?_)))))))
  refine Za rfl rfl rfl (Zc Xb rfl) (Za rfl rfl rfl (Zi Zy rfl (Zgf _) hS X9 trivial Yw) (Za rfl rfl rfl (Zc Zc5 rfl) (Zr rfl rfl rfl CellsOf.int hS ps0 st2_1 (by kernel_rfl) rfl (fun w hS hB => Zh (Zd hK863 (Zf (fun K hK864 => Zg ?_)))))))
  refine Za rfl rfl rfl (Zk Ya rfl (Zgf _) hS X9 trivial Z1) (Zb 1 rfl (Za rfl rfl rfl (Zk Vz rfl (Zgf _) hS hs0 trivial X7) ?_))
  obtain ⟨r865, hm866, H⟩ := bind_some H
  refine Zt rfl rfl rfl rfl (by kernel_rfl) rfl (Zex x0 0 {e856 with dst := x0.id} A0_ c0_ A1_ c1_ A2_ c2_ A3_ c3_ A4_ c4_ A859 c860 _ (Zgi s0_.k (hS.rd0 s0_.rd) (hS.blk0 s0_.blk)) (Zgi s1_.k (hS.rd0 s1_.rd) (hS.blk0 s1_.blk)) (Zgi s2_.k (hS.rd0 s2_.rd) (hS.blk0 s2_.blk)) (Zgi s3_.k (hS.rd0 s3_.rd) (hS.blk0 s3_.blk)) (Zgi s4_.k (hS.rd0 s4_.rd) (hS.blk0 s4_.blk)) (SlW.of_rd ((s6_n _ (List.mem_of_getElem? hi858b)).k) (hS.rd0 (s6_n _ (List.mem_of_getElem? hi858b)).rd)) hm866) ?_
  rintro e w ⟨A867, c868, A871, c872, A875, c876, A879, c880, A883, c884, A887, c888, q891, rfl, k869, k873, k877, k881, k885, k889, hq892, okq893, hN⟩; refine ⟨_, rfl, ?_⟩; obtain ⟨hB, hS⟩ := hS.jn hN
  refine Zb 1 rfl (Za rfl rfl rfl (Yj rfl rfl) (Za rfl rfl rfl (Yj rfl rfl) (Yr rfl rfl Zcn hS (fun b895 w hS hB => Zr rfl rfl rfl CellsOf.agg hS ps0 Yo (by kernel_rfl) rfl (fun w hS hB => Zb 1 rfl (Zh (Zd hK864 ?_)))))))
  refine Zf (fun K hK897 => Zf (fun K hK898 => Zg (Za rfl rfl rfl (Zk Ya rfl (Zgf _) hS hs0 trivial Z1) ?_)))
  obtain ⟨r899, hm900, H⟩ := bind_some H
  refine Zt rfl rfl rfl rfl (by kernel_rfl) rfl (Zcv r865.1 A867 c868 A871 c872 A875 c876 A879 c880 A883 c884 _ (Zgi k869 (hS.rd X9) (hS.rd_blk X9)) (Zgi k873 (hS.row_rd Vt) (hS.row_blk Vt)) (Zgi k877 (hS.row_rd hs3) (hS.row_blk hs3)) (Zgi k881 (hS.row_rd hs4) (hS.row_blk hs4)) (Zgi k885 (hS.row_rd hs5) (hS.row_blk hs5)) hm900) ?_
  rintro e w ⟨rfl, hN⟩; refine ⟨_, rfl, ?_⟩; obtain ⟨hB, hS⟩ := hS.jn hN
  refine Za rfl rfl rfl (Yt rfl) (Zb 1 rfl (Zs 65 rfl (fun hb => ?_) (fun hb => ?_)))
  ·replace H := Zp H hb
   refine Zb 73 rfl (Zh (Zd hK898 (Zn rfl rfl (Zf (fun K hK902 => Zg (Zb 1 rfl (Zh ?_)))))))
   refine Zd hK902 (Zl (Ze (Zj (Ze (Ze (Zj (Ze ?_)))))))
   refine Zm rfl (RV.tmp rfl RV.nil) rfl ?_
   obtain rfl := QJ H
   replace hS := hS.cut 0
   exact ⟨rfl, hS⟩
  replace H := Zq H hb
  refine Za rfl rfl rfl (Zc Zz rfl) (Za rfl rfl rfl (Zc Xc rfl) (Za rfl rfl rfl (Zi Zy rfl (Zgf _) hS hs0 trivial Xv) (Za rfl rfl rfl (Zc Zz rfl) (Za rfl rfl rfl (Zc Xc rfl) (Za rfl rfl rfl (Zi Zy rfl (Zgf _) hS hs9 trivial Xv) (Za rfl rfl rfl (Y4 rfl rfl) (Zb 2 rfl ?_)))))))
  refine Zs 74 rfl (fun hb => ?_) (fun hb => ?_)
  ·replace H := Zp H hb
   refine Zb 64 rfl (Zh (Zd hK898 (Zn rfl rfl (Zf (fun K hK905 => Zg (Zb 1 rfl (Zh ?_)))))))
   refine Zd hK905 (Zl (Ze (Zj (Ze (Ze (Zj (Ze ?_)))))))
   refine Zm rfl (RV.tmp rfl RV.nil) rfl ?_
   obtain rfl := QJ H
   replace hS := hS.cut 0
   exact ⟨rfl, hS⟩
  replace H := Zq H hb
  refine Za rfl rfl rfl (Zc Zz rfl) (Za rfl rfl rfl (Zc Xc rfl) (Za rfl rfl rfl (Zi Zy rfl (Zgf _) hS hs0 trivial Xv) (Za rfl rfl rfl (Zc Zz rfl) (Za rfl rfl rfl (Zc Xc rfl) (Za rfl rfl rfl (Zi Zy rfl (Zgf _) hS hs9 trivial Xv) (Za rfl rfl rfl (Xh rfl rfl) (Zb 1 rfl ?_)))))))
  refine Zs 82 rfl (fun hb => ?_) (fun hb => ?_)
  rotate_left
  ·replace H := Zq H hb
   refine Zb 16 rfl (Za rfl rfl rfl (Zc Zz rfl) (Za rfl rfl rfl (Zc Yg rfl) (Za rfl rfl rfl (Zi Y6 rfl (Zgf _) hS hs0 trivial Xt) (Za rfl rfl rfl (Yb Y1 rfl) (Za rfl rfl rfl (Zc Zz rfl) (Za rfl rfl rfl (Zc Yg rfl) (Za rfl rfl rfl (Zi Y6 rfl (Zgf _) hS hs9 trivial Xt) ?_)))))))
   refine Za rfl rfl rfl (Yb Y1 rfl) (Za rfl rfl rfl (Y4 rfl rfl) (Zb 2 rfl (Zs 109 rfl (fun hb => ?_) (fun hb => ?_))))
   ·replace H := Zp H hb
    refine Zb 29 rfl (Zh (Zd hK898 (Zn rfl rfl (Zf (fun K hK1041 => Zg (Zb 1 rfl (Zh ?_)))))))
    refine Zd hK1041 (Zl (Ze (Zj (Ze (Ze (Zj (Ze ?_)))))))
    refine Zm rfl (RV.tmp rfl RV.nil) rfl ?_
    obtain rfl := QJ H
    replace hS := hS.cut 0
    exact ⟨rfl, hS⟩
   replace H := Zq H hb
   refine Za rfl rfl rfl (Zc V6 rfl) (Za rfl rfl rfl (Zi Zy rfl (Zgf _) hS hs0 trivial J9) (Za rfl rfl rfl (Zc V6 rfl) (Za rfl rfl rfl (Zi Zy rfl (Zgf _) hS hs9 trivial J9) (Za rfl rfl rfl (Yl rfl rfl) (Zb 2 rfl (Zs 116 rfl (fun hb => ?_) (fun hb => ?_)))))))
   ·replace H := Zp H hb
    refine Zb 22 rfl (Zh (Zd hK898 (Zn rfl rfl (Zf (fun K hK1044 => Zg (Zb 1 rfl (Zh ?_)))))))
    refine Zd hK1044 (Zl (Ze (Zj (Ze (Ze (Zj (Ze ?_)))))))
    refine Zm rfl (RV.tmp rfl RV.nil) rfl ?_
    obtain rfl := QJ H
    replace hS := hS.cut 0
    exact ⟨rfl, hS⟩
   replace H := Zq H hb
   refine Za rfl rfl rfl (Zc Zz rfl) (Za rfl rfl rfl (Zc Xe rfl) (Za rfl rfl rfl (Zk Y3 rfl (Zgf _) hS hs0 trivial Zb1) (Za rfl rfl rfl (Zc Zz rfl) (Za rfl rfl rfl (Zc Xe rfl) (Za rfl rfl rfl (Zk Y3 rfl (Zgf _) hS hs9 trivial Zb1) (Za rfl rfl rfl (Zb0 (by kernel_rfl) rfl rfl (Jg _ _ _ _ _ _ _ _ _ _)) (Zb 2 rfl ?_)))))))
   refine Zs 125 rfl (fun hb => ?_) (fun hb => ?_)
   ·replace H := Zp H hb
    refine Zb 13 rfl (Zh (Zd hK898 (Zn rfl rfl (Zf (fun K hK1047 => Zg (Zb 1 rfl (Zh ?_)))))))
    refine Zd hK1047 (Zl (Ze (Zj (Ze (Ze (Zj (Ze ?_)))))))
    refine Zm rfl (RV.tmp rfl RV.nil) rfl ?_
    obtain rfl := QJ H
    replace hS := hS.cut 0
    exact ⟨rfl, hS⟩
   replace H := Zq H hb
   refine Za rfl rfl rfl (Zc Xb rfl) (Za rfl rfl rfl (Zi Zy rfl (Zgf _) hS hs0 trivial Yw) (Za rfl rfl rfl (Zc Xb rfl) (Za rfl rfl rfl (Zi Zy rfl (Zgf _) hS hs9 trivial Yw) (Za rfl rfl rfl (Yl rfl rfl) (Zb 2 rfl (Zs 132 rfl (fun hb => ?_) (fun hb => ?_)))))))
   ·replace H := Zp H hb
    refine Zb 6 rfl (Zh (Zd hK898 (Zn rfl rfl (Zf (fun K hK1050 => Zg (Zb 1 rfl (Zh ?_)))))))
    refine Zd hK1050 (Zl (Ze (Zj (Ze (Ze (Zj (Ze ?_)))))))
    refine Zm rfl (RV.tmp rfl RV.nil) rfl ?_
    obtain rfl := QJ H
    replace hS := hS.cut 0
    exact ⟨rfl, hS⟩
   replace H := Zq H hb
   refine Za rfl rfl rfl (Zc Yx rfl) (Za rfl rfl rfl (Zi Zy rfl (Zgf _) hS hs0 trivial Xd) (Za rfl rfl rfl (Zc Yx rfl) (Za rfl rfl rfl (Zi Zy rfl (Zgf _) hS hs9 trivial Xd) (Za rfl rfl rfl (Yl rfl rfl) (Zb 1 rfl (Zh (Zd hK898 ?_)))))))
   refine Zx rfl (fun hb => ?_) (fun hb => ?_)
   ·replace H := Zp H hb
    refine Zf (fun K hK1053 => Zg (Zb 1 rfl (Zh (Zd hK1053 (Zl (Ze (Zj ?_)))))))
    refine Ze (Ze (Zj (Ze (Zm rfl (RV.tmp rfl RV.nil) rfl ?_))))
    obtain rfl := QJ H
    replace hS := hS.cut 0
    exact ⟨rfl, hS⟩
   replace H := Zq H hb
   refine Zv (Zd hK897 (Zf (fun K hK1055 => Zf (fun K hK1056 => Yh 20 [] (fun _ _ => True) ⟨by kernel_rfl, by kernel_rfl⟩ hS (fun w hS hB => Zo [Tt,Tt,Tt,Tt,Tt,Tt,Tt,Tt,Tt,Tt,Tt] (by decide +kernel) PFC.h (LtK.put rfl rfl rfl (Zc Zz rfl) (LtK.put rfl rfl rfl (Zc Yg rfl) ?_)))))))
   refine LtK.put rfl rfl rfl (Zi Y6 rfl (Zgg _) hS hs0 trivial Xt) (LtK.put rfl rfl rfl (Zc Zz rfl) (LtK.put rfl rfl rfl (Zc Yg rfl) (LtK.put rfl rfl rfl (Zi Y6 rfl (Zgg _) hS hs9 trivial Xt) (LtK.put rfl rfl rfl (Yb Y1 rfl) ?_))))
   obtain ⟨l1057, ht1058, H⟩ := bind_some H
   refine LtK.put rfl rfl rfl (J1 Y1 rfl rfl k869.1 ht1058) (LtK.put rfl rfl rfl (Zc Zz rfl) (LtK.put rfl rfl rfl (Zc Yg rfl) (LtK.put rfl rfl rfl (Zi Y6 rfl (Zgg _) hS hs9 trivial Xt) (LtK.nil (Yd [Ff,Ff,Ff,Ff,Ff,Ff,Ff,Ff,Ff,Ff,Ff,Tt] 11 ⟨by decide, by kernel_rfl, by kernel_rfl⟩ rfl rfl ?_)))))
   try dsimp only [Z2]
   obtain ⟨r1059, hm1060, H⟩ := bind_some H
   refine Zt rfl rfl rfl rfl (by kernel_rfl) rfl (Ja l1057 x0.tuple.log A867 c868 A0_ c0_ _ (Zgi (Zdo k869 ht1058) (Rd.takeI Vf (hS.rd X9) ht1058) (hS.rd_blk X9)) (Zgi s0_.k (hS.rd0 s0_.rd) (hS.blk0 s0_.blk)) hm1060) ?_
   rintro e w ⟨rfl, hN⟩; refine ⟨_, rfl, ?_⟩; obtain ⟨hB, hS⟩ := hS.jn hN
   refine Zh (Ye hB (Zo [Ff,Ff,Ff,Ff,Ff,Ff,Ff,Ff,Ff,Ff,Ff,Ff,Tt,Tt] (by decide +kernel) PFC.h (LtK.put rfl rfl rfl (Yt rfl) (LtK.put rfl rfl rfl (Zu rfl) (LtK.nil (Xf 152 rfl (fun hb => ?_) (fun hb => ?_)))))))
   ·replace H := Zp H hb
    refine Zo [Ff,Ff,Ff,Ff,Ff,Ff,Ff,Ff,Ff,Ff,Ff,Ff,Ff,Ff,Tt,Tt,Tt,Tt,Tt,Tt] (by decide +kernel) PFC.h (LtK.skip rfl rfl rfl (LtK.skip rfl rfl rfl (LtK.skip rfl rfl rfl (LtK.skip rfl rfl rfl (LtK.skip rfl rfl rfl (LtK.put rfl rfl rfl (Z9 rfl rfl rfl) (LtK.nil ?_)))))))
    refine Z5 (by kernel_rfl) (Zd hK1056 (Zn rfl rfl (Zf (fun K hK1062 => Zg (Zb 1 rfl (Zh (Zd hK1062 ?_)))))))
    refine Zl (Ze (Zj (Ze (Ze (Zj (Ze (Zm rfl (RV.tmp rfl RV.nil) rfl ?_)))))))
    obtain rfl := QJ H
    replace hS := hS.cut 0
    exact ⟨rfl, hS⟩
   replace H := Zq H hb
   refine Zo [Ff,Ff,Ff,Ff,Ff,Ff,Ff,Ff,Ff,Ff,Ff,Ff,Ff,Ff,Tt,Tt,Tt,Tt,Tt,Tt] (by decide +kernel) PFC.h (LtK.put rfl rfl rfl (Zu rfl) (LtK.put rfl rfl rfl (Yb Y9 rfl) (LtK.put rfl rfl rfl (Zc Yx rfl) (LtK.put rfl rfl rfl (Zi Zy rfl (Zgg _) hS hs0 trivial Xd) (LtK.put rfl rfl rfl (Y8 rfl rfl) (LtK.put rfl rfl rfl (Yk rfl rfl rfl) (LtK.nil ?_)))))))
   refine Z5 (by kernel_rfl) (Zd hK1056 (Zx rfl (fun hb => ?_) (fun hb => ?_)))
   ·replace H := Zp H hb
    refine Zf (fun K hK1065 => Zg (Zb 1 rfl (Zh (Zd hK1065 (Zl (Ze (Zj ?_)))))))
    refine Ze (Ze (Zj (Ze (Zm rfl (RV.tmp rfl RV.nil) rfl ?_))))
    obtain rfl := QJ H
    replace hS := hS.cut 0
    exact ⟨rfl, hS⟩
   replace H := Zq H hb
   refine Zv (Zd hK1055 (Zf (fun K hK1067 => Zf (fun K hK1068 => Zg (Zb 1 rfl (Zh (Zd hK1068 ?_)))))))
   refine Z6 (Vp (X := Nat × Bool × Int) (fun x => (1, .slice A5_ x1.length c5_) :: (2, .slice A6_ x2.length c6_) :: (3, .pointer (some ⟨b2, 0, none⟩)) :: (6, .bool x.2.1) :: (7, .int .i64 0) :: (10, .pointer (some ⟨b895, 0, none⟩)) :: (11, .slice A887 r865.2.length c888) :: (12, .int .i64 x.2.2) :: []) (fun x w => St0 All w0 w (.box b895 [.int .i64 r865.1.id, .int .i64 r865.1.n, .int .u8 r865.1.role, .int .i64 r865.1.binary, .int .i64 r865.1.tuple.snap.index, .int .i64 r865.1.tuple.snap.term, .int .i64 r865.1.tuple.snap.sum, .int .i64 r865.1.tuple.snap.level, .bool r865.1.tuple.snap.final, .slice A867 r865.1.tuple.log.length c868, .int .i64 r865.1.tuple.term, .int .i64 r865.1.tuple.vote, .int .i64 r865.1.commit, .int .i64 r865.1.applied.index, .int .i64 r865.1.applied.term, .int .i64 r865.1.applied.sum, .int .i64 r865.1.applied.level, .bool r865.1.applied.final, .slice A871 r865.1.votes.length c872, .slice A875 r865.1.next.length c876, .slice A879 r865.1.mtch.length c880, .slice A883 r865.1.caps.length c884] 30 :: .rd A867 (Z8 enE r865.1.tuple.log) :: .row (.slice A871 r865.1.votes.length c872) 4 1 r865.1.votes.length (Z8 enO r865.1.votes) :: .row (.slice A875 r865.1.next.length c876) 3 1 r865.1.next.length (Z8 Vr r865.1.next) :: .row (.slice A879 r865.1.mtch.length c880) 3 1 r865.1.mtch.length (Z8 Vr r865.1.mtch) :: .row (.slice A883 r865.1.caps.length c884) 3 1 r865.1.caps.length (Z8 Vr r865.1.caps) :: .rd A887 (Z8 enQ q891) :: .rds (q891.map Zfk) :: .box b861 [.int .u8 e856.kind, .int .i64 e856.frm, .int .i64 x0.id, .int .i64 e856.term, .int .i64 e856.cap, .int .i64 e856.last, .int .i64 e856.lastTerm, .int .i64 e856.commit, .bool e856.okk, .slice A859 e856.entries.length c860, .int .i64 e856.snap.index, .int .i64 e856.snap.term, .int .i64 e856.snap.sum, .int .i64 e856.snap.level, .bool e856.snap.final] 36 :: .box b2 [.int .i64 x0.id, .int .i64 x0.n, .int .u8 x0.role, .int .i64 x0.binary, .int .i64 x0.tuple.snap.index, .int .i64 x0.tuple.snap.term, .int .i64 x0.tuple.snap.sum, .int .i64 x0.tuple.snap.level, .bool x0.tuple.snap.final, .slice A0_ x0.tuple.log.length c0_, .int .i64 x0.tuple.term, .int .i64 x0.tuple.vote, .int .i64 x0.commit, .int .i64 x0.applied.index, .int .i64 x0.applied.term, .int .i64 x0.applied.sum, .int .i64 x0.applied.level, .bool x0.applied.final, .slice A1_ x0.votes.length c1_, .slice A2_ x0.next.length c2_, .slice A3_ x0.mtch.length c3_, .slice A4_ x0.caps.length c4_] 30 :: []) ∧ Xq x1 x2 r865 x.1 x.2.1 x.2.2 = some r) (fun x => x.1) (Yy, false, 0) (by repeat (first | exact Sub.nil | refine Sub.cons rfl ?_)) ⟨hS, H⟩ ?_)
   rintro ⟨n, v1069, v1070⟩ w ⟨hS, H⟩
   dsimp only at hS H ⊢
   obtain _ | n := n
   ·have H0 : none = some r := H
    cases H0
   rw [Xq] at H
   refine Zf (fun K hK1071 => Zf (fun K hK1072 => Zg (Zb 2 rfl (Za rfl rfl rfl (Yb Y9 rfl) (Za rfl rfl rfl (Y4 rfl rfl) (Zh (Zd hK1072 ?_)))))))
   refine Zx rfl (fun hb => ?_) (fun hb => ?_)
   rotate_left
   ·replace H := Zq H hb
    refine Xy (Z4 (Z4 (Yz (Zd hK1067 (Zg (Za rfl rfl rfl (Zk Ya rfl (Zgf _) hS hs0 trivial Z1) (Zr rfl rfl rfl CellsOf.agg hS ps9 Yo (by kernel_rfl) rfl (fun w hS hB => ?_))))))))
    refine Zh (Zw (Zd hK586 (Zg (Zb 1 rfl (Za rfl rfl rfl (Xu rfl rfl) (Zb 1 rfl (Zh ?_)))))))
    replace hS := hS.front 9 rfl
    replace hS := hS.front 6 rfl
    replace hS := hS.front 6 rfl
    replace hS := hS.front 6 rfl
    replace hS := hS.front 6 rfl
    replace hS := hS.front 6 rfl
    replace hS := hS.cut 6
    exact QH_peel (Yy, 1, r865.1.id, r865.1.n, r865.1.role, r865.1.binary, r865.1.tuple.snap.index, r865.1.tuple.snap.term, r865.1.tuple.snap.sum, r865.1.tuple.snap.level, r865.1.tuple.snap.final, r865.1.tuple.log, A867, c868, r865.1.tuple.term, r865.1.tuple.vote, r865.1.commit, r865.1.applied.index, r865.1.applied.term, r865.1.applied.sum, r865.1.applied.level, r865.1.applied.final, r865.1.votes, A871, c872, r865.1.next, A875, c876, r865.1.mtch, A879, c880, r865.1.caps, A883, c884) (by repeat (first | exact Sub.nil | refine Sub.cons rfl ?_)) ⟨hS, k869, k873, k877, k881, k885, H⟩ (Nat.lt_succ_self _)
   replace H := Zp H hb
   refine Zv (Zd hK1071 (Zf (fun K hK1074 => Z6 (Zf (fun K hK1075 => Yh 29 [] (fun _ _ => True) ⟨by kernel_rfl, by kernel_rfl⟩ hS (fun w hS hB => Zo [Tt,Tt,Tt,Tt,Tt,Tt] (by decide +kernel) PFC.h (LtK.put rfl rfl rfl (Zu rfl) ?_)))))))
   refine LtK.put rfl rfl rfl (Zu rfl) ?_
   obtain ⟨e1076, hi1078, H⟩ := bind_some H
   obtain ⟨j1077, A1079, c1080, hi1078a, hi1078b, hi1078c⟩ := Zar (q := q891) hq892 hi1078
   refine LtK.put rfl rfl rfl (Y2 Y9 rfl rfl hi1078a hi1078c (Rd.el (hS.rd Vv) Yc hi1078b)) (LtK.put rfl rfl rfl (V8 Vz rfl (Zgg _) (Rd.el (hS.rd Vv) Yc hi1078b) X7) (LtK.put rfl rfl rfl (Zc Yx rfl) (LtK.put rfl rfl rfl (Zi Zy rfl (Zgg _) hS hs0 trivial Xd) (LtK.nil (Yd [Ff,Ff,Ff,Ff,Ff,Ff,Tt] 6 ⟨by decide, by kernel_rfl, by kernel_rfl⟩ rfl rfl ?_)))))
   try dsimp only [Z2]
   obtain ⟨r1081, hm1082, H⟩ := bind_some H
   refine Zt rfl rfl rfl rfl (by kernel_rfl) rfl (Jc e1076 r865.1.n A1079 c1080 _ (SlW.of_rd (okq893 _ (List.mem_of_getElem? hi1078b)) (hS.rds_rd hs7 hi1078b)) hm1082) ?_
   rintro e w ⟨rfl, hN⟩; refine ⟨_, rfl, ?_⟩; obtain ⟨hB, hS⟩ := hS.jn hN
   refine Zh (Ye hB (Zo [Ff,Ff,Ff,Ff,Ff,Ff,Ff,Tt,Tt] (by decide +kernel) PFC.h (LtK.put rfl rfl rfl (Yt rfl) (LtK.put rfl rfl rfl (Zu rfl) (LtK.nil (Xf 173 rfl (fun hb => ?_) (fun hb => ?_)))))))
   ·replace H := Zp H hb
    refine Zo [Ff,Ff,Ff,Ff,Ff,Ff,Ff,Ff,Ff,Tt,Tt,Tt,Tt,Tt,Tt,Tt,Tt,Tt,Tt,Tt,Tt,Tt,Tt,Tt,Tt,Tt,Tt,Tt,Tt] (by decide +kernel) PFC.h (LtK.skip rfl rfl rfl (LtK.skip rfl rfl rfl (LtK.skip rfl rfl rfl (LtK.skip rfl rfl rfl (LtK.skip rfl rfl rfl (LtK.skip rfl rfl rfl (LtK.skip rfl rfl rfl ?_)))))))
    refine LtK.skip rfl rfl rfl (LtK.put rfl rfl rfl (Z9 rfl rfl rfl) (LtK.put rfl rfl rfl (Zu rfl) (LtK.skip rfl rfl rfl (LtK.skip rfl rfl rfl (LtK.skip rfl rfl rfl (LtK.skip rfl rfl rfl (LtK.skip rfl rfl rfl ?_)))))))
    refine LtK.skip rfl rfl rfl (LtK.skip rfl rfl rfl (LtK.skip rfl rfl rfl (LtK.skip rfl rfl rfl (LtK.put rfl rfl rfl (Z9 rfl rfl rfl) (LtK.nil (Z5 (by kernel_rfl) (Zd hK1075 ?_)))))))
    refine Zn rfl rfl (Zf (fun K hK1084 => Zg (Zb 1 rfl (Zh (Zd hK1084 (Zl (Zj ?_)))))))
    refine Ze (Ze (Zj (Ze (Zj (Ze (Ze (Zj ?_)))))))
    refine Ze (Zm rfl (RV.tmp rfl RV.nil) rfl ?_)
    obtain rfl := QJ H
    replace hS := hS.cut 0
    exact ⟨rfl, hS⟩
   replace H := Zq H hb
   refine Zo [Ff,Ff,Ff,Ff,Ff,Ff,Ff,Ff,Ff,Tt,Tt,Tt,Tt,Tt,Tt,Tt,Tt,Tt,Tt] (by decide +kernel) PFC.h (LtK.put rfl rfl rfl (Zu rfl) (LtK.put rfl rfl rfl (Zu rfl) ?_))
   obtain ⟨e1086, hi1088, H⟩ := bind_some H
   obtain ⟨j1087, A1089, c1090, hi1088a, hi1088b, hi1088c⟩ := Zar (q := q891) hq892 hi1088
   refine LtK.put rfl rfl rfl (Y2 Y9 rfl rfl hi1088a hi1088c (Rd.el (hS.rd Vv) Yc hi1088b)) (LtK.put rfl rfl rfl (Y0 Ji rfl (Rd.el (hS.rd Vv) Yc hi1088b)) (LtK.put rfl rfl rfl (Za6 Zy rfl (Zgg _) (Rd.el (hS.rd Vv) Yc hi1088b) rfl) (LtK.put rfl rfl rfl (Zc Xb rfl) (LtK.put rfl rfl rfl (Zi Zy rfl (Zgg _) hS hs0 trivial Yw) (LtK.put rfl rfl rfl (Yl rfl rfl) (LtK.put rfl rfl rfl (Yk rfl rfl rfl) (LtK.put rfl rfl rfl (Zu rfl) ?_)))))))
   refine LtK.nil (Xf 183 rfl (fun hb => ?_) (fun hb => ?_))
   ·replace H := Zp H hb
    refine Zo [Ff,Ff,Ff,Ff,Ff,Ff,Ff,Ff,Ff,Ff,Ff,Ff,Ff,Ff,Ff,Ff,Ff,Ff,Ff,Tt,Tt,Tt,Tt,Tt,Tt,Tt,Tt,Tt,Tt] (by decide +kernel) PFC.h (LtK.skip rfl rfl rfl (LtK.skip rfl rfl rfl (LtK.skip rfl rfl rfl (LtK.skip rfl rfl rfl (LtK.skip rfl rfl rfl (LtK.skip rfl rfl rfl (LtK.skip rfl rfl rfl ?_)))))))
    refine LtK.skip rfl rfl rfl (LtK.skip rfl rfl rfl (LtK.put rfl rfl rfl (Z9 rfl rfl rfl) (LtK.nil (Z5 (by kernel_rfl) (Zd hK1075 (Zn rfl rfl (Zf (fun K hK1092 => ?_))))))))
    refine Zg (Zb 1 rfl (Zh (Zd hK1092 (Zl (Zj (Ze (Ze ?_)))))))
    refine Zj (Ze (Zj (Ze (Ze (Zj (Ze (Zm rfl (RV.tmp rfl RV.nil) rfl ?_)))))))
    obtain rfl := QJ H
    replace hS := hS.cut 0
    exact ⟨rfl, hS⟩
   replace H := Zq H hb
   refine Zo [Ff,Ff,Ff,Ff,Ff,Ff,Ff,Ff,Ff,Ff,Ff,Ff,Ff,Ff,Ff,Ff,Ff,Ff,Ff,Tt,Tt,Tt,Tt,Tt,Tt,Tt,Tt,Tt,Tt] (by decide +kernel) PFC.h (LtK.put rfl rfl rfl (Zu rfl) (LtK.put rfl rfl rfl (Zu rfl) ?_))
   obtain ⟨e1094, hi1096, H⟩ := bind_some H
   obtain ⟨j1095, A1097, c1098, hi1096a, hi1096b, hi1096c⟩ := Zar (q := q891) hq892 hi1096
   refine LtK.put rfl rfl rfl (Y2 Y9 rfl rfl hi1096a hi1096c (Rd.el (hS.rd Vv) Yc hi1096b)) (LtK.put rfl rfl rfl (Y0 Je rfl (Rd.el (hS.rd Vv) Yc hi1096b)) (LtK.put rfl rfl rfl (Za6 Zy rfl (Zgg _) (Rd.el (hS.rd Vv) Yc hi1096b) rfl) (LtK.put rfl rfl rfl (Zc Zz rfl) (LtK.put rfl rfl rfl (Zc Xc rfl) (LtK.put rfl rfl rfl (Zi Zy rfl (Zgg _) hS hs0 trivial Xv) (LtK.put rfl rfl rfl (Yl rfl rfl) (LtK.put rfl rfl rfl (Yk rfl rfl rfl) ?_)))))))
   refine LtK.nil (Z5 (by kernel_rfl) (Zd hK1075 (Zx rfl (fun hb => ?_) (fun hb => ?_))))
   rotate_left
   ·replace H := Zq H hb
    refine Zv (Zw (Zd hK1074 (Zg (Zb 1 rfl (Za rfl rfl rfl (Xu rfl rfl) (Zb 1 rfl (Zh ?_)))))))
    exact Xo (n, v1069, (IntKind.wrap .i64 (v1070 + 1))) (by repeat (first | exact Sub.nil | refine Sub.cons rfl ?_)) ⟨hS, H⟩ (Nat.lt_succ_self _)
   replace H := Zp H hb
   refine Zf (fun K hK1100 => Zg (Zb 1 rfl (Zh (Zd hK1100 (Zl (Zj (Ze ?_)))))))
   refine Ze (Zj (Ze (Zj (Ze (Ze (Zj (Ze ?_)))))))
   refine Zm rfl (RV.tmp rfl RV.nil) rfl ?_
   obtain rfl := QJ H
   replace hS := hS.cut 0
   exact ⟨rfl, hS⟩
  replace H := Zp H hb
  refine Za rfl rfl rfl (Zc Zz rfl) (Za rfl rfl rfl (Zc Vq rfl) (Za rfl rfl rfl (Zi Zy rfl (Zgf _) hS hs9 trivial Zbz) (Za rfl rfl rfl (Y8 rfl rfl) (Zb 2 rfl (Zs 88 rfl (fun hb => ?_) (fun hb => ?_))))))
  rotate_left
  ·replace H := Zq H hb
   refine Zb 10 rfl (Za rfl rfl rfl (Zc Zz rfl) (Za rfl rfl rfl (Zc Yg rfl) (Za rfl rfl rfl (Zi Y6 rfl (Zgf _) hS hs0 trivial Xt) (Za rfl rfl rfl (Yb Y1 rfl) (Za rfl rfl rfl (Zc Zz rfl) (Za rfl rfl rfl (Zc Yg rfl) (Za rfl rfl rfl (Zi Y6 rfl (Zgf _) hS hs9 trivial Xt) ?_)))))))
   refine Za rfl rfl rfl (Yb Y1 rfl) (Za rfl rfl rfl (Y4 rfl rfl) (Zb 2 rfl (Zs 109 rfl (fun hb => ?_) (fun hb => ?_))))
   ·replace H := Zp H hb
    refine Zb 29 rfl (Zh (Zd hK898 (Zn rfl rfl (Zf (fun K hK977 => Zg (Zb 1 rfl (Zh ?_)))))))
    refine Zd hK977 (Zl (Ze (Zj (Ze (Ze (Zj (Ze ?_)))))))
    refine Zm rfl (RV.tmp rfl RV.nil) rfl ?_
    obtain rfl := QJ H
    replace hS := hS.cut 0
    exact ⟨rfl, hS⟩
   replace H := Zq H hb
   refine Za rfl rfl rfl (Zc V6 rfl) (Za rfl rfl rfl (Zi Zy rfl (Zgf _) hS hs0 trivial J9) (Za rfl rfl rfl (Zc V6 rfl) (Za rfl rfl rfl (Zi Zy rfl (Zgf _) hS hs9 trivial J9) (Za rfl rfl rfl (Yl rfl rfl) (Zb 2 rfl (Zs 116 rfl (fun hb => ?_) (fun hb => ?_)))))))
   ·replace H := Zp H hb
    refine Zb 22 rfl (Zh (Zd hK898 (Zn rfl rfl (Zf (fun K hK980 => Zg (Zb 1 rfl (Zh ?_)))))))
    refine Zd hK980 (Zl (Ze (Zj (Ze (Ze (Zj (Ze ?_)))))))
    refine Zm rfl (RV.tmp rfl RV.nil) rfl ?_
    obtain rfl := QJ H
    replace hS := hS.cut 0
    exact ⟨rfl, hS⟩
   replace H := Zq H hb
   refine Za rfl rfl rfl (Zc Zz rfl) (Za rfl rfl rfl (Zc Xe rfl) (Za rfl rfl rfl (Zk Y3 rfl (Zgf _) hS hs0 trivial Zb1) (Za rfl rfl rfl (Zc Zz rfl) (Za rfl rfl rfl (Zc Xe rfl) (Za rfl rfl rfl (Zk Y3 rfl (Zgf _) hS hs9 trivial Zb1) (Za rfl rfl rfl (Zb0 (by kernel_rfl) rfl rfl (Jg _ _ _ _ _ _ _ _ _ _)) (Zb 2 rfl ?_)))))))
   refine Zs 125 rfl (fun hb => ?_) (fun hb => ?_)
   ·replace H := Zp H hb
    refine Zb 13 rfl (Zh (Zd hK898 (Zn rfl rfl (Zf (fun K hK983 => Zg (Zb 1 rfl (Zh ?_)))))))
    refine Zd hK983 (Zl (Ze (Zj (Ze (Ze (Zj (Ze ?_)))))))
    refine Zm rfl (RV.tmp rfl RV.nil) rfl ?_
    obtain rfl := QJ H
    replace hS := hS.cut 0
    exact ⟨rfl, hS⟩
   replace H := Zq H hb
   refine Za rfl rfl rfl (Zc Xb rfl) (Za rfl rfl rfl (Zi Zy rfl (Zgf _) hS hs0 trivial Yw) (Za rfl rfl rfl (Zc Xb rfl) (Za rfl rfl rfl (Zi Zy rfl (Zgf _) hS hs9 trivial Yw) (Za rfl rfl rfl (Yl rfl rfl) (Zb 2 rfl (Zs 132 rfl (fun hb => ?_) (fun hb => ?_)))))))
   ·replace H := Zp H hb
    refine Zb 6 rfl (Zh (Zd hK898 (Zn rfl rfl (Zf (fun K hK986 => Zg (Zb 1 rfl (Zh ?_)))))))
    refine Zd hK986 (Zl (Ze (Zj (Ze (Ze (Zj (Ze ?_)))))))
    refine Zm rfl (RV.tmp rfl RV.nil) rfl ?_
    obtain rfl := QJ H
    replace hS := hS.cut 0
    exact ⟨rfl, hS⟩
   replace H := Zq H hb
   refine Za rfl rfl rfl (Zc Yx rfl) (Za rfl rfl rfl (Zi Zy rfl (Zgf _) hS hs0 trivial Xd) (Za rfl rfl rfl (Zc Yx rfl) (Za rfl rfl rfl (Zi Zy rfl (Zgf _) hS hs9 trivial Xd) (Za rfl rfl rfl (Yl rfl rfl) (Zb 1 rfl (Zh (Zd hK898 ?_)))))))
   refine Zx rfl (fun hb => ?_) (fun hb => ?_)
   ·replace H := Zp H hb
    refine Zf (fun K hK989 => Zg (Zb 1 rfl (Zh (Zd hK989 (Zl (Ze (Zj ?_)))))))
    refine Ze (Ze (Zj (Ze (Zm rfl (RV.tmp rfl RV.nil) rfl ?_))))
    obtain rfl := QJ H
    replace hS := hS.cut 0
    exact ⟨rfl, hS⟩
   replace H := Zq H hb
   refine Zv (Zd hK897 (Zf (fun K hK991 => Zf (fun K hK992 => Yh 20 [] (fun _ _ => True) ⟨by kernel_rfl, by kernel_rfl⟩ hS (fun w hS hB => Zo [Tt,Tt,Tt,Tt,Tt,Tt,Tt,Tt,Tt,Tt,Tt] (by decide +kernel) PFC.h (LtK.put rfl rfl rfl (Zc Zz rfl) (LtK.put rfl rfl rfl (Zc Yg rfl) ?_)))))))
   refine LtK.put rfl rfl rfl (Zi Y6 rfl (Zgg _) hS hs0 trivial Xt) (LtK.put rfl rfl rfl (Zc Zz rfl) (LtK.put rfl rfl rfl (Zc Yg rfl) (LtK.put rfl rfl rfl (Zi Y6 rfl (Zgg _) hS hs9 trivial Xt) (LtK.put rfl rfl rfl (Yb Y1 rfl) ?_))))
   obtain ⟨l993, ht994, H⟩ := bind_some H
   refine LtK.put rfl rfl rfl (J1 Y1 rfl rfl k869.1 ht994) (LtK.put rfl rfl rfl (Zc Zz rfl) (LtK.put rfl rfl rfl (Zc Yg rfl) (LtK.put rfl rfl rfl (Zi Y6 rfl (Zgg _) hS hs9 trivial Xt) (LtK.nil (Yd [Ff,Ff,Ff,Ff,Ff,Ff,Ff,Ff,Ff,Ff,Ff,Tt] 11 ⟨by decide, by kernel_rfl, by kernel_rfl⟩ rfl rfl ?_)))))
   try dsimp only [Z2]
   obtain ⟨r995, hm996, H⟩ := bind_some H
   refine Zt rfl rfl rfl rfl (by kernel_rfl) rfl (Ja l993 x0.tuple.log A867 c868 A0_ c0_ _ (Zgi (Zdo k869 ht994) (Rd.takeI Vf (hS.rd X9) ht994) (hS.rd_blk X9)) (Zgi s0_.k (hS.rd0 s0_.rd) (hS.blk0 s0_.blk)) hm996) ?_
   rintro e w ⟨rfl, hN⟩; refine ⟨_, rfl, ?_⟩; obtain ⟨hB, hS⟩ := hS.jn hN
   refine Zh (Ye hB (Zo [Ff,Ff,Ff,Ff,Ff,Ff,Ff,Ff,Ff,Ff,Ff,Ff,Tt,Tt] (by decide +kernel) PFC.h (LtK.put rfl rfl rfl (Yt rfl) (LtK.put rfl rfl rfl (Zu rfl) (LtK.nil (Xf 152 rfl (fun hb => ?_) (fun hb => ?_)))))))
   ·replace H := Zp H hb
    refine Zo [Ff,Ff,Ff,Ff,Ff,Ff,Ff,Ff,Ff,Ff,Ff,Ff,Ff,Ff,Tt,Tt,Tt,Tt,Tt,Tt] (by decide +kernel) PFC.h (LtK.skip rfl rfl rfl (LtK.skip rfl rfl rfl (LtK.skip rfl rfl rfl (LtK.skip rfl rfl rfl (LtK.skip rfl rfl rfl (LtK.put rfl rfl rfl (Z9 rfl rfl rfl) (LtK.nil ?_)))))))
    refine Z5 (by kernel_rfl) (Zd hK992 (Zn rfl rfl (Zf (fun K hK998 => Zg (Zb 1 rfl (Zh (Zd hK998 ?_)))))))
    refine Zl (Ze (Zj (Ze (Ze (Zj (Ze (Zm rfl (RV.tmp rfl RV.nil) rfl ?_)))))))
    obtain rfl := QJ H
    replace hS := hS.cut 0
    exact ⟨rfl, hS⟩
   replace H := Zq H hb
   refine Zo [Ff,Ff,Ff,Ff,Ff,Ff,Ff,Ff,Ff,Ff,Ff,Ff,Ff,Ff,Tt,Tt,Tt,Tt,Tt,Tt] (by decide +kernel) PFC.h (LtK.put rfl rfl rfl (Zu rfl) (LtK.put rfl rfl rfl (Yb Y9 rfl) (LtK.put rfl rfl rfl (Zc Yx rfl) (LtK.put rfl rfl rfl (Zi Zy rfl (Zgg _) hS hs0 trivial Xd) (LtK.put rfl rfl rfl (Y8 rfl rfl) (LtK.put rfl rfl rfl (Yk rfl rfl rfl) (LtK.nil ?_)))))))
   refine Z5 (by kernel_rfl) (Zd hK992 (Zx rfl (fun hb => ?_) (fun hb => ?_)))
   ·replace H := Zp H hb
    refine Zf (fun K hK1001 => Zg (Zb 1 rfl (Zh (Zd hK1001 (Zl (Ze (Zj ?_)))))))
    refine Ze (Ze (Zj (Ze (Zm rfl (RV.tmp rfl RV.nil) rfl ?_))))
    obtain rfl := QJ H
    replace hS := hS.cut 0
    exact ⟨rfl, hS⟩
   replace H := Zq H hb
   refine Zv (Zd hK991 (Zf (fun K hK1003 => Zf (fun K hK1004 => Zg (Zb 1 rfl (Zh (Zd hK1004 ?_)))))))
   refine Z6 (Vp (X := Nat × Bool × Int) (fun x => (1, .slice A5_ x1.length c5_) :: (2, .slice A6_ x2.length c6_) :: (3, .pointer (some ⟨b2, 0, none⟩)) :: (6, .bool x.2.1) :: (7, .int .i64 0) :: (10, .pointer (some ⟨b895, 0, none⟩)) :: (11, .slice A887 r865.2.length c888) :: (12, .int .i64 x.2.2) :: []) (fun x w => St0 All w0 w (.box b895 [.int .i64 r865.1.id, .int .i64 r865.1.n, .int .u8 r865.1.role, .int .i64 r865.1.binary, .int .i64 r865.1.tuple.snap.index, .int .i64 r865.1.tuple.snap.term, .int .i64 r865.1.tuple.snap.sum, .int .i64 r865.1.tuple.snap.level, .bool r865.1.tuple.snap.final, .slice A867 r865.1.tuple.log.length c868, .int .i64 r865.1.tuple.term, .int .i64 r865.1.tuple.vote, .int .i64 r865.1.commit, .int .i64 r865.1.applied.index, .int .i64 r865.1.applied.term, .int .i64 r865.1.applied.sum, .int .i64 r865.1.applied.level, .bool r865.1.applied.final, .slice A871 r865.1.votes.length c872, .slice A875 r865.1.next.length c876, .slice A879 r865.1.mtch.length c880, .slice A883 r865.1.caps.length c884] 30 :: .rd A867 (Z8 enE r865.1.tuple.log) :: .row (.slice A871 r865.1.votes.length c872) 4 1 r865.1.votes.length (Z8 enO r865.1.votes) :: .row (.slice A875 r865.1.next.length c876) 3 1 r865.1.next.length (Z8 Vr r865.1.next) :: .row (.slice A879 r865.1.mtch.length c880) 3 1 r865.1.mtch.length (Z8 Vr r865.1.mtch) :: .row (.slice A883 r865.1.caps.length c884) 3 1 r865.1.caps.length (Z8 Vr r865.1.caps) :: .rd A887 (Z8 enQ q891) :: .rds (q891.map Zfk) :: .box b861 [.int .u8 e856.kind, .int .i64 e856.frm, .int .i64 x0.id, .int .i64 e856.term, .int .i64 e856.cap, .int .i64 e856.last, .int .i64 e856.lastTerm, .int .i64 e856.commit, .bool e856.okk, .slice A859 e856.entries.length c860, .int .i64 e856.snap.index, .int .i64 e856.snap.term, .int .i64 e856.snap.sum, .int .i64 e856.snap.level, .bool e856.snap.final] 36 :: .box b2 [.int .i64 x0.id, .int .i64 x0.n, .int .u8 x0.role, .int .i64 x0.binary, .int .i64 x0.tuple.snap.index, .int .i64 x0.tuple.snap.term, .int .i64 x0.tuple.snap.sum, .int .i64 x0.tuple.snap.level, .bool x0.tuple.snap.final, .slice A0_ x0.tuple.log.length c0_, .int .i64 x0.tuple.term, .int .i64 x0.tuple.vote, .int .i64 x0.commit, .int .i64 x0.applied.index, .int .i64 x0.applied.term, .int .i64 x0.applied.sum, .int .i64 x0.applied.level, .bool x0.applied.final, .slice A1_ x0.votes.length c1_, .slice A2_ x0.next.length c2_, .slice A3_ x0.mtch.length c3_, .slice A4_ x0.caps.length c4_] 30 :: []) ∧ Xp x1 x2 r865 x.1 x.2.1 x.2.2 = some r) (fun x => x.1) (Yy, false, 0) (by repeat (first | exact Sub.nil | refine Sub.cons rfl ?_)) ⟨hS, H⟩ ?_)
   rintro ⟨n, v1005, v1006⟩ w ⟨hS, H⟩
   dsimp only at hS H ⊢
   obtain _ | n := n
   ·have H0 : none = some r := H
    cases H0
   rw [Xp] at H
   refine Zf (fun K hK1007 => Zf (fun K hK1008 => Zg (Zb 2 rfl (Za rfl rfl rfl (Yb Y9 rfl) (Za rfl rfl rfl (Y4 rfl rfl) (Zh (Zd hK1008 ?_)))))))
   refine Zx rfl (fun hb => ?_) (fun hb => ?_)
   rotate_left
   ·replace H := Zq H hb
    refine Xy (Z4 (Z4 (Yz (Zd hK1003 (Zg (Za rfl rfl rfl (Zk Ya rfl (Zgf _) hS hs0 trivial Z1) (Zr rfl rfl rfl CellsOf.agg hS ps9 Yo (by kernel_rfl) rfl (fun w hS hB => ?_))))))))
    refine Zh (Zw (Zd hK586 (Zg (Zb 1 rfl (Za rfl rfl rfl (Xu rfl rfl) (Zb 1 rfl (Zh ?_)))))))
    replace hS := hS.front 9 rfl
    replace hS := hS.front 6 rfl
    replace hS := hS.front 6 rfl
    replace hS := hS.front 6 rfl
    replace hS := hS.front 6 rfl
    replace hS := hS.front 6 rfl
    replace hS := hS.cut 6
    exact QH_peel (Yy, 1, r865.1.id, r865.1.n, r865.1.role, r865.1.binary, r865.1.tuple.snap.index, r865.1.tuple.snap.term, r865.1.tuple.snap.sum, r865.1.tuple.snap.level, r865.1.tuple.snap.final, r865.1.tuple.log, A867, c868, r865.1.tuple.term, r865.1.tuple.vote, r865.1.commit, r865.1.applied.index, r865.1.applied.term, r865.1.applied.sum, r865.1.applied.level, r865.1.applied.final, r865.1.votes, A871, c872, r865.1.next, A875, c876, r865.1.mtch, A879, c880, r865.1.caps, A883, c884) (by repeat (first | exact Sub.nil | refine Sub.cons rfl ?_)) ⟨hS, k869, k873, k877, k881, k885, H⟩ (Nat.lt_succ_self _)
   replace H := Zp H hb
   refine Zv (Zd hK1007 (Zf (fun K hK1010 => Z6 (Zf (fun K hK1011 => Yh 29 [] (fun _ _ => True) ⟨by kernel_rfl, by kernel_rfl⟩ hS (fun w hS hB => Zo [Tt,Tt,Tt,Tt,Tt,Tt] (by decide +kernel) PFC.h (LtK.put rfl rfl rfl (Zu rfl) ?_)))))))
   refine LtK.put rfl rfl rfl (Zu rfl) ?_
   obtain ⟨e1012, hi1014, H⟩ := bind_some H
   obtain ⟨j1013, A1015, c1016, hi1014a, hi1014b, hi1014c⟩ := Zar (q := q891) hq892 hi1014
   refine LtK.put rfl rfl rfl (Y2 Y9 rfl rfl hi1014a hi1014c (Rd.el (hS.rd Vv) Yc hi1014b)) (LtK.put rfl rfl rfl (V8 Vz rfl (Zgg _) (Rd.el (hS.rd Vv) Yc hi1014b) X7) (LtK.put rfl rfl rfl (Zc Yx rfl) (LtK.put rfl rfl rfl (Zi Zy rfl (Zgg _) hS hs0 trivial Xd) (LtK.nil (Yd [Ff,Ff,Ff,Ff,Ff,Ff,Tt] 6 ⟨by decide, by kernel_rfl, by kernel_rfl⟩ rfl rfl ?_)))))
   try dsimp only [Z2]
   obtain ⟨r1017, hm1018, H⟩ := bind_some H
   refine Zt rfl rfl rfl rfl (by kernel_rfl) rfl (Jc e1012 r865.1.n A1015 c1016 _ (SlW.of_rd (okq893 _ (List.mem_of_getElem? hi1014b)) (hS.rds_rd hs7 hi1014b)) hm1018) ?_
   rintro e w ⟨rfl, hN⟩; refine ⟨_, rfl, ?_⟩; obtain ⟨hB, hS⟩ := hS.jn hN
   refine Zh (Ye hB (Zo [Ff,Ff,Ff,Ff,Ff,Ff,Ff,Tt,Tt] (by decide +kernel) PFC.h (LtK.put rfl rfl rfl (Yt rfl) (LtK.put rfl rfl rfl (Zu rfl) (LtK.nil (Xf 173 rfl (fun hb => ?_) (fun hb => ?_)))))))
   ·replace H := Zp H hb
    refine Zo [Ff,Ff,Ff,Ff,Ff,Ff,Ff,Ff,Ff,Tt,Tt,Tt,Tt,Tt,Tt,Tt,Tt,Tt,Tt,Tt,Tt,Tt,Tt,Tt,Tt,Tt,Tt,Tt,Tt] (by decide +kernel) PFC.h (LtK.skip rfl rfl rfl (LtK.skip rfl rfl rfl (LtK.skip rfl rfl rfl (LtK.skip rfl rfl rfl (LtK.skip rfl rfl rfl (LtK.skip rfl rfl rfl (LtK.skip rfl rfl rfl ?_)))))))
    refine LtK.skip rfl rfl rfl (LtK.put rfl rfl rfl (Z9 rfl rfl rfl) (LtK.put rfl rfl rfl (Zu rfl) (LtK.skip rfl rfl rfl (LtK.skip rfl rfl rfl (LtK.skip rfl rfl rfl (LtK.skip rfl rfl rfl (LtK.skip rfl rfl rfl ?_)))))))
    refine LtK.skip rfl rfl rfl (LtK.skip rfl rfl rfl (LtK.skip rfl rfl rfl (LtK.skip rfl rfl rfl (LtK.put rfl rfl rfl (Z9 rfl rfl rfl) (LtK.nil (Z5 (by kernel_rfl) (Zd hK1011 ?_)))))))
    refine Zn rfl rfl (Zf (fun K hK1020 => Zg (Zb 1 rfl (Zh (Zd hK1020 (Zl (Zj ?_)))))))
    refine Ze (Ze (Zj (Ze (Zj (Ze (Ze (Zj ?_)))))))
    refine Ze (Zm rfl (RV.tmp rfl RV.nil) rfl ?_)
    obtain rfl := QJ H
    replace hS := hS.cut 0
    exact ⟨rfl, hS⟩
   replace H := Zq H hb
   refine Zo [Ff,Ff,Ff,Ff,Ff,Ff,Ff,Ff,Ff,Tt,Tt,Tt,Tt,Tt,Tt,Tt,Tt,Tt,Tt] (by decide +kernel) PFC.h (LtK.put rfl rfl rfl (Zu rfl) (LtK.put rfl rfl rfl (Zu rfl) ?_))
   obtain ⟨e1022, hi1024, H⟩ := bind_some H
   obtain ⟨j1023, A1025, c1026, hi1024a, hi1024b, hi1024c⟩ := Zar (q := q891) hq892 hi1024
   refine LtK.put rfl rfl rfl (Y2 Y9 rfl rfl hi1024a hi1024c (Rd.el (hS.rd Vv) Yc hi1024b)) (LtK.put rfl rfl rfl (Y0 Ji rfl (Rd.el (hS.rd Vv) Yc hi1024b)) (LtK.put rfl rfl rfl (Za6 Zy rfl (Zgg _) (Rd.el (hS.rd Vv) Yc hi1024b) rfl) (LtK.put rfl rfl rfl (Zc Xb rfl) (LtK.put rfl rfl rfl (Zi Zy rfl (Zgg _) hS hs0 trivial Yw) (LtK.put rfl rfl rfl (Yl rfl rfl) (LtK.put rfl rfl rfl (Yk rfl rfl rfl) (LtK.put rfl rfl rfl (Zu rfl) ?_)))))))
   refine LtK.nil (Xf 183 rfl (fun hb => ?_) (fun hb => ?_))
   ·replace H := Zp H hb
    refine Zo [Ff,Ff,Ff,Ff,Ff,Ff,Ff,Ff,Ff,Ff,Ff,Ff,Ff,Ff,Ff,Ff,Ff,Ff,Ff,Tt,Tt,Tt,Tt,Tt,Tt,Tt,Tt,Tt,Tt] (by decide +kernel) PFC.h (LtK.skip rfl rfl rfl (LtK.skip rfl rfl rfl (LtK.skip rfl rfl rfl (LtK.skip rfl rfl rfl (LtK.skip rfl rfl rfl (LtK.skip rfl rfl rfl (LtK.skip rfl rfl rfl ?_)))))))
    refine LtK.skip rfl rfl rfl (LtK.skip rfl rfl rfl (LtK.put rfl rfl rfl (Z9 rfl rfl rfl) (LtK.nil (Z5 (by kernel_rfl) (Zd hK1011 (Zn rfl rfl (Zf (fun K hK1028 => ?_))))))))
    refine Zg (Zb 1 rfl (Zh (Zd hK1028 (Zl (Zj (Ze (Ze ?_)))))))
    refine Zj (Ze (Zj (Ze (Ze (Zj (Ze (Zm rfl (RV.tmp rfl RV.nil) rfl ?_)))))))
    obtain rfl := QJ H
    replace hS := hS.cut 0
    exact ⟨rfl, hS⟩
   replace H := Zq H hb
   refine Zo [Ff,Ff,Ff,Ff,Ff,Ff,Ff,Ff,Ff,Ff,Ff,Ff,Ff,Ff,Ff,Ff,Ff,Ff,Ff,Tt,Tt,Tt,Tt,Tt,Tt,Tt,Tt,Tt,Tt] (by decide +kernel) PFC.h (LtK.put rfl rfl rfl (Zu rfl) (LtK.put rfl rfl rfl (Zu rfl) ?_))
   obtain ⟨e1030, hi1032, H⟩ := bind_some H
   obtain ⟨j1031, A1033, c1034, hi1032a, hi1032b, hi1032c⟩ := Zar (q := q891) hq892 hi1032
   refine LtK.put rfl rfl rfl (Y2 Y9 rfl rfl hi1032a hi1032c (Rd.el (hS.rd Vv) Yc hi1032b)) (LtK.put rfl rfl rfl (Y0 Je rfl (Rd.el (hS.rd Vv) Yc hi1032b)) (LtK.put rfl rfl rfl (Za6 Zy rfl (Zgg _) (Rd.el (hS.rd Vv) Yc hi1032b) rfl) (LtK.put rfl rfl rfl (Zc Zz rfl) (LtK.put rfl rfl rfl (Zc Xc rfl) (LtK.put rfl rfl rfl (Zi Zy rfl (Zgg _) hS hs0 trivial Xv) (LtK.put rfl rfl rfl (Yl rfl rfl) (LtK.put rfl rfl rfl (Yk rfl rfl rfl) ?_)))))))
   refine LtK.nil (Z5 (by kernel_rfl) (Zd hK1011 (Zx rfl (fun hb => ?_) (fun hb => ?_))))
   rotate_left
   ·replace H := Zq H hb
    refine Zv (Zw (Zd hK1010 (Zg (Zb 1 rfl (Za rfl rfl rfl (Xu rfl rfl) (Zb 1 rfl (Zh ?_)))))))
    exact Xo (n, v1005, (IntKind.wrap .i64 (v1006 + 1))) (by repeat (first | exact Sub.nil | refine Sub.cons rfl ?_)) ⟨hS, H⟩ (Nat.lt_succ_self _)
   replace H := Zp H hb
   refine Zf (fun K hK1036 => Zg (Zb 1 rfl (Zh (Zd hK1036 (Zl (Zj (Ze ?_)))))))
   refine Ze (Zj (Ze (Zj (Ze (Ze (Zj (Ze ?_)))))))
   refine Zm rfl (RV.tmp rfl RV.nil) rfl ?_
   obtain rfl := QJ H
   replace hS := hS.cut 0
   exact ⟨rfl, hS⟩
  replace H := Zp H hb
  refine Za rfl rfl rfl (Zc Zz rfl) (Za rfl rfl rfl (Zc Vq rfl) (Za rfl rfl rfl (Zi Zy rfl (Zgf _) hS hs0 trivial Zbz) (Za rfl rfl rfl (Zc Zz rfl) (Za rfl rfl rfl (Zc Vq rfl) (Za rfl rfl rfl (Zi Zy rfl (Zgf _) hS hs9 trivial Zbz) (Za rfl rfl rfl (Yl rfl rfl) (Zb 3 rfl ?_)))))))
  refine Zs 98 rfl (fun hb => ?_) (fun hb => ?_)
  ·replace H := Zp H hb
   refine Zb 40 rfl (Zh (Zd hK898 (Zn rfl rfl (Zf (fun K hK910 => Zg (Zb 1 rfl (Zh ?_)))))))
   refine Zd hK910 (Zl (Ze (Zj (Ze (Ze (Zj (Ze ?_)))))))
   refine Zm rfl (RV.tmp rfl RV.nil) rfl ?_
   obtain rfl := QJ H
   replace hS := hS.cut 0
   exact ⟨rfl, hS⟩
  replace H := Zq H hb
  refine Za rfl rfl rfl (Zc Zz rfl) (Za rfl rfl rfl (Zc Yg rfl) (Za rfl rfl rfl (Zi Y6 rfl (Zgf _) hS hs0 trivial Xt) (Za rfl rfl rfl (Yb Y1 rfl) (Za rfl rfl rfl (Zc Zz rfl) (Za rfl rfl rfl (Zc Yg rfl) (Za rfl rfl rfl (Zi Y6 rfl (Zgf _) hS hs9 trivial Xt) (Za rfl rfl rfl (Yb Y1 rfl) ?_)))))))
  refine Za rfl rfl rfl (Y4 rfl rfl) (Zb 2 rfl (Zs 109 rfl (fun hb => ?_) (fun hb => ?_)))
  ·replace H := Zp H hb
   refine Zb 29 rfl (Zh (Zd hK898 (Zn rfl rfl (Zf (fun K hK913 => Zg (Zb 1 rfl (Zh ?_)))))))
   refine Zd hK913 (Zl (Ze (Zj (Ze (Ze (Zj (Ze ?_)))))))
   refine Zm rfl (RV.tmp rfl RV.nil) rfl ?_
   obtain rfl := QJ H
   replace hS := hS.cut 0
   exact ⟨rfl, hS⟩
  replace H := Zq H hb
  refine Za rfl rfl rfl (Zc V6 rfl) (Za rfl rfl rfl (Zi Zy rfl (Zgf _) hS hs0 trivial J9) (Za rfl rfl rfl (Zc V6 rfl) (Za rfl rfl rfl (Zi Zy rfl (Zgf _) hS hs9 trivial J9) (Za rfl rfl rfl (Yl rfl rfl) (Zb 2 rfl (Zs 116 rfl (fun hb => ?_) (fun hb => ?_)))))))
  ·replace H := Zp H hb
   refine Zb 22 rfl (Zh (Zd hK898 (Zn rfl rfl (Zf (fun K hK916 => Zg (Zb 1 rfl (Zh ?_)))))))
   refine Zd hK916 (Zl (Ze (Zj (Ze (Ze (Zj (Ze ?_)))))))
   refine Zm rfl (RV.tmp rfl RV.nil) rfl ?_
   obtain rfl := QJ H
   replace hS := hS.cut 0
   exact ⟨rfl, hS⟩
  replace H := Zq H hb
  refine Za rfl rfl rfl (Zc Zz rfl) (Za rfl rfl rfl (Zc Xe rfl) (Za rfl rfl rfl (Zk Y3 rfl (Zgf _) hS hs0 trivial Zb1) (Za rfl rfl rfl (Zc Zz rfl) (Za rfl rfl rfl (Zc Xe rfl) (Za rfl rfl rfl (Zk Y3 rfl (Zgf _) hS hs9 trivial Zb1) (Za rfl rfl rfl (Zb0 (by kernel_rfl) rfl rfl (Jg _ _ _ _ _ _ _ _ _ _)) (Zb 2 rfl ?_)))))))
  refine Zs 125 rfl (fun hb => ?_) (fun hb => ?_)
  ·replace H := Zp H hb
   refine Zb 13 rfl (Zh (Zd hK898 (Zn rfl rfl (Zf (fun K hK919 => Zg (Zb 1 rfl (Zh ?_)))))))
   refine Zd hK919 (Zl (Ze (Zj (Ze (Ze (Zj (Ze ?_)))))))
   refine Zm rfl (RV.tmp rfl RV.nil) rfl ?_
   obtain rfl := QJ H
   replace hS := hS.cut 0
   exact ⟨rfl, hS⟩
  replace H := Zq H hb
  refine Za rfl rfl rfl (Zc Xb rfl) (Za rfl rfl rfl (Zi Zy rfl (Zgf _) hS hs0 trivial Yw) (Za rfl rfl rfl (Zc Xb rfl) (Za rfl rfl rfl (Zi Zy rfl (Zgf _) hS hs9 trivial Yw) (Za rfl rfl rfl (Yl rfl rfl) (Zb 2 rfl (Zs 132 rfl (fun hb => ?_) (fun hb => ?_)))))))
  ·replace H := Zp H hb
   refine Zb 6 rfl (Zh (Zd hK898 (Zn rfl rfl (Zf (fun K hK922 => Zg (Zb 1 rfl (Zh ?_)))))))
   refine Zd hK922 (Zl (Ze (Zj (Ze (Ze (Zj (Ze ?_)))))))
   refine Zm rfl (RV.tmp rfl RV.nil) rfl ?_
   obtain rfl := QJ H
   replace hS := hS.cut 0
   exact ⟨rfl, hS⟩
  replace H := Zq H hb
  refine Za rfl rfl rfl (Zc Yx rfl) (Za rfl rfl rfl (Zi Zy rfl (Zgf _) hS hs0 trivial Xd) (Za rfl rfl rfl (Zc Yx rfl) (Za rfl rfl rfl (Zi Zy rfl (Zgf _) hS hs9 trivial Xd) (Za rfl rfl rfl (Yl rfl rfl) (Zb 1 rfl (Zh (Zd hK898 ?_)))))))
  refine Zx rfl (fun hb => ?_) (fun hb => ?_)
  ·replace H := Zp H hb
   refine Zf (fun K hK925 => Zg (Zb 1 rfl (Zh (Zd hK925 (Zl (Ze (Zj ?_)))))))
   refine Ze (Ze (Zj (Ze (Zm rfl (RV.tmp rfl RV.nil) rfl ?_))))
   obtain rfl := QJ H
   replace hS := hS.cut 0
   exact ⟨rfl, hS⟩
  replace H := Zq H hb
  refine Zv (Zd hK897 (Zf (fun K hK927 => Zf (fun K hK928 => Yh 20 [] (fun _ _ => True) ⟨by kernel_rfl, by kernel_rfl⟩ hS (fun w hS hB => Zo [Tt,Tt,Tt,Tt,Tt,Tt,Tt,Tt,Tt,Tt,Tt] (by decide +kernel) PFC.h (LtK.put rfl rfl rfl (Zc Zz rfl) (LtK.put rfl rfl rfl (Zc Yg rfl) ?_)))))))
  refine LtK.put rfl rfl rfl (Zi Y6 rfl (Zgg _) hS hs0 trivial Xt) (LtK.put rfl rfl rfl (Zc Zz rfl) (LtK.put rfl rfl rfl (Zc Yg rfl) (LtK.put rfl rfl rfl (Zi Y6 rfl (Zgg _) hS hs9 trivial Xt) (LtK.put rfl rfl rfl (Yb Y1 rfl) ?_))))
  obtain ⟨l929, ht930, H⟩ := bind_some H
  refine LtK.put rfl rfl rfl (J1 Y1 rfl rfl k869.1 ht930) (LtK.put rfl rfl rfl (Zc Zz rfl) (LtK.put rfl rfl rfl (Zc Yg rfl) (LtK.put rfl rfl rfl (Zi Y6 rfl (Zgg _) hS hs9 trivial Xt) (LtK.nil (Yd [Ff,Ff,Ff,Ff,Ff,Ff,Ff,Ff,Ff,Ff,Ff,Tt] 11 ⟨by decide, by kernel_rfl, by kernel_rfl⟩ rfl rfl ?_)))))
  try dsimp only [Z2]
  obtain ⟨r931, hm932, H⟩ := bind_some H
  refine Zt rfl rfl rfl rfl (by kernel_rfl) rfl (Ja l929 x0.tuple.log A867 c868 A0_ c0_ _ (Zgi (Zdo k869 ht930) (Rd.takeI Vf (hS.rd X9) ht930) (hS.rd_blk X9)) (Zgi s0_.k (hS.rd0 s0_.rd) (hS.blk0 s0_.blk)) hm932) ?_
  rintro e w ⟨rfl, hN⟩; refine ⟨_, rfl, ?_⟩; obtain ⟨hB, hS⟩ := hS.jn hN
  refine Zh (Ye hB (Zo [Ff,Ff,Ff,Ff,Ff,Ff,Ff,Ff,Ff,Ff,Ff,Ff,Tt,Tt] (by decide +kernel) PFC.h (LtK.put rfl rfl rfl (Yt rfl) (LtK.put rfl rfl rfl (Zu rfl) (LtK.nil (Xf 152 rfl (fun hb => ?_) (fun hb => ?_)))))))
  ·replace H := Zp H hb
   refine Zo [Ff,Ff,Ff,Ff,Ff,Ff,Ff,Ff,Ff,Ff,Ff,Ff,Ff,Ff,Tt,Tt,Tt,Tt,Tt,Tt] (by decide +kernel) PFC.h (LtK.skip rfl rfl rfl (LtK.skip rfl rfl rfl (LtK.skip rfl rfl rfl (LtK.skip rfl rfl rfl (LtK.skip rfl rfl rfl (LtK.put rfl rfl rfl (Z9 rfl rfl rfl) (LtK.nil ?_)))))))
   refine Z5 (by kernel_rfl) (Zd hK928 (Zn rfl rfl (Zf (fun K hK934 => Zg (Zb 1 rfl (Zh (Zd hK934 ?_)))))))
   refine Zl (Ze (Zj (Ze (Ze (Zj (Ze (Zm rfl (RV.tmp rfl RV.nil) rfl ?_)))))))
   obtain rfl := QJ H
   replace hS := hS.cut 0
   exact ⟨rfl, hS⟩
  replace H := Zq H hb
  refine Zo [Ff,Ff,Ff,Ff,Ff,Ff,Ff,Ff,Ff,Ff,Ff,Ff,Ff,Ff,Tt,Tt,Tt,Tt,Tt,Tt] (by decide +kernel) PFC.h (LtK.put rfl rfl rfl (Zu rfl) (LtK.put rfl rfl rfl (Yb Y9 rfl) (LtK.put rfl rfl rfl (Zc Yx rfl) (LtK.put rfl rfl rfl (Zi Zy rfl (Zgg _) hS hs0 trivial Xd) (LtK.put rfl rfl rfl (Y8 rfl rfl) (LtK.put rfl rfl rfl (Yk rfl rfl rfl) (LtK.nil ?_)))))))
  refine Z5 (by kernel_rfl) (Zd hK928 (Zx rfl (fun hb => ?_) (fun hb => ?_)))
  ·replace H := Zp H hb
   refine Zf (fun K hK937 => Zg (Zb 1 rfl (Zh (Zd hK937 (Zl (Ze (Zj ?_)))))))
   refine Ze (Ze (Zj (Ze (Zm rfl (RV.tmp rfl RV.nil) rfl ?_))))
   obtain rfl := QJ H
   replace hS := hS.cut 0
   exact ⟨rfl, hS⟩
  replace H := Zq H hb
  refine Zv (Zd hK927 (Zf (fun K hK939 => Zf (fun K hK940 => Zg (Zb 1 rfl (Zh (Zd hK940 ?_)))))))
  refine Z6 (Vp (X := Nat × Bool × Int) (fun x => (1, .slice A5_ x1.length c5_) :: (2, .slice A6_ x2.length c6_) :: (3, .pointer (some ⟨b2, 0, none⟩)) :: (6, .bool x.2.1) :: (7, .int .i64 0) :: (10, .pointer (some ⟨b895, 0, none⟩)) :: (11, .slice A887 r865.2.length c888) :: (12, .int .i64 x.2.2) :: []) (fun x w => St0 All w0 w (.box b895 [.int .i64 r865.1.id, .int .i64 r865.1.n, .int .u8 r865.1.role, .int .i64 r865.1.binary, .int .i64 r865.1.tuple.snap.index, .int .i64 r865.1.tuple.snap.term, .int .i64 r865.1.tuple.snap.sum, .int .i64 r865.1.tuple.snap.level, .bool r865.1.tuple.snap.final, .slice A867 r865.1.tuple.log.length c868, .int .i64 r865.1.tuple.term, .int .i64 r865.1.tuple.vote, .int .i64 r865.1.commit, .int .i64 r865.1.applied.index, .int .i64 r865.1.applied.term, .int .i64 r865.1.applied.sum, .int .i64 r865.1.applied.level, .bool r865.1.applied.final, .slice A871 r865.1.votes.length c872, .slice A875 r865.1.next.length c876, .slice A879 r865.1.mtch.length c880, .slice A883 r865.1.caps.length c884] 30 :: .rd A867 (Z8 enE r865.1.tuple.log) :: .row (.slice A871 r865.1.votes.length c872) 4 1 r865.1.votes.length (Z8 enO r865.1.votes) :: .row (.slice A875 r865.1.next.length c876) 3 1 r865.1.next.length (Z8 Vr r865.1.next) :: .row (.slice A879 r865.1.mtch.length c880) 3 1 r865.1.mtch.length (Z8 Vr r865.1.mtch) :: .row (.slice A883 r865.1.caps.length c884) 3 1 r865.1.caps.length (Z8 Vr r865.1.caps) :: .rd A887 (Z8 enQ q891) :: .rds (q891.map Zfk) :: .box b861 [.int .u8 e856.kind, .int .i64 e856.frm, .int .i64 x0.id, .int .i64 e856.term, .int .i64 e856.cap, .int .i64 e856.last, .int .i64 e856.lastTerm, .int .i64 e856.commit, .bool e856.okk, .slice A859 e856.entries.length c860, .int .i64 e856.snap.index, .int .i64 e856.snap.term, .int .i64 e856.snap.sum, .int .i64 e856.snap.level, .bool e856.snap.final] 36 :: .box b2 [.int .i64 x0.id, .int .i64 x0.n, .int .u8 x0.role, .int .i64 x0.binary, .int .i64 x0.tuple.snap.index, .int .i64 x0.tuple.snap.term, .int .i64 x0.tuple.snap.sum, .int .i64 x0.tuple.snap.level, .bool x0.tuple.snap.final, .slice A0_ x0.tuple.log.length c0_, .int .i64 x0.tuple.term, .int .i64 x0.tuple.vote, .int .i64 x0.commit, .int .i64 x0.applied.index, .int .i64 x0.applied.term, .int .i64 x0.applied.sum, .int .i64 x0.applied.level, .bool x0.applied.final, .slice A1_ x0.votes.length c1_, .slice A2_ x0.next.length c2_, .slice A3_ x0.mtch.length c3_, .slice A4_ x0.caps.length c4_] 30 :: []) ∧ Xs x1 x2 r865 x.1 x.2.1 x.2.2 = some r) (fun x => x.1) (Yy, false, 0) (by repeat (first | exact Sub.nil | refine Sub.cons rfl ?_)) ⟨hS, H⟩ ?_)
  rintro ⟨n, v941, v942⟩ w ⟨hS, H⟩
  dsimp only at hS H ⊢
  obtain _ | n := n
  ·have H0 : none = some r := H
   cases H0
  rw [Xs] at H
  refine Zf (fun K hK943 => Zf (fun K hK944 => Zg (Zb 2 rfl (Za rfl rfl rfl (Yb Y9 rfl) (Za rfl rfl rfl (Y4 rfl rfl) (Zh (Zd hK944 ?_)))))))
  refine Zx rfl (fun hb => ?_) (fun hb => ?_)
  rotate_left
  ·replace H := Zq H hb
   refine Xy (Z4 (Z4 (Yz (Zd hK939 (Zg (Za rfl rfl rfl (Zk Ya rfl (Zgf _) hS hs0 trivial Z1) (Zr rfl rfl rfl CellsOf.agg hS ps9 Yo (by kernel_rfl) rfl (fun w hS hB => ?_))))))))
   refine Zh (Zw (Zd hK586 (Zg (Zb 1 rfl (Za rfl rfl rfl (Xu rfl rfl) (Zb 1 rfl (Zh ?_)))))))
   replace hS := hS.front 9 rfl
   replace hS := hS.front 6 rfl
   replace hS := hS.front 6 rfl
   replace hS := hS.front 6 rfl
   replace hS := hS.front 6 rfl
   replace hS := hS.front 6 rfl
   replace hS := hS.cut 6
   exact QH_peel (Yy, 1, r865.1.id, r865.1.n, r865.1.role, r865.1.binary, r865.1.tuple.snap.index, r865.1.tuple.snap.term, r865.1.tuple.snap.sum, r865.1.tuple.snap.level, r865.1.tuple.snap.final, r865.1.tuple.log, A867, c868, r865.1.tuple.term, r865.1.tuple.vote, r865.1.commit, r865.1.applied.index, r865.1.applied.term, r865.1.applied.sum, r865.1.applied.level, r865.1.applied.final, r865.1.votes, A871, c872, r865.1.next, A875, c876, r865.1.mtch, A879, c880, r865.1.caps, A883, c884) (by repeat (first | exact Sub.nil | refine Sub.cons rfl ?_)) ⟨hS, k869, k873, k877, k881, k885, H⟩ (Nat.lt_succ_self _)
  replace H := Zp H hb
  refine Zv (Zd hK943 (Zf (fun K hK946 => Z6 (Zf (fun K hK947 => Yh 29 [] (fun _ _ => True) ⟨by kernel_rfl, by kernel_rfl⟩ hS (fun w hS hB => Zo [Tt,Tt,Tt,Tt,Tt,Tt] (by decide +kernel) PFC.h (LtK.put rfl rfl rfl (Zu rfl) ?_)))))))
  refine LtK.put rfl rfl rfl (Zu rfl) ?_
  obtain ⟨e948, hi950, H⟩ := bind_some H
  obtain ⟨j949, A951, c952, hi950a, hi950b, hi950c⟩ := Zar (q := q891) hq892 hi950
  refine LtK.put rfl rfl rfl (Y2 Y9 rfl rfl hi950a hi950c (Rd.el (hS.rd Vv) Yc hi950b)) (LtK.put rfl rfl rfl (V8 Vz rfl (Zgg _) (Rd.el (hS.rd Vv) Yc hi950b) X7) (LtK.put rfl rfl rfl (Zc Yx rfl) (LtK.put rfl rfl rfl (Zi Zy rfl (Zgg _) hS hs0 trivial Xd) (LtK.nil (Yd [Ff,Ff,Ff,Ff,Ff,Ff,Tt] 6 ⟨by decide, by kernel_rfl, by kernel_rfl⟩ rfl rfl ?_)))))
  try dsimp only [Z2]
  obtain ⟨r953, hm954, H⟩ := bind_some H
  refine Zt rfl rfl rfl rfl (by kernel_rfl) rfl (Jc e948 r865.1.n A951 c952 _ (SlW.of_rd (okq893 _ (List.mem_of_getElem? hi950b)) (hS.rds_rd hs7 hi950b)) hm954) ?_
  rintro e w ⟨rfl, hN⟩; refine ⟨_, rfl, ?_⟩; obtain ⟨hB, hS⟩ := hS.jn hN
  refine Zh (Ye hB (Zo [Ff,Ff,Ff,Ff,Ff,Ff,Ff,Tt,Tt] (by decide +kernel) PFC.h (LtK.put rfl rfl rfl (Yt rfl) (LtK.put rfl rfl rfl (Zu rfl) (LtK.nil (Xf 173 rfl (fun hb => ?_) (fun hb => ?_)))))))
  ·replace H := Zp H hb
   refine Zo [Ff,Ff,Ff,Ff,Ff,Ff,Ff,Ff,Ff,Tt,Tt,Tt,Tt,Tt,Tt,Tt,Tt,Tt,Tt,Tt,Tt,Tt,Tt,Tt,Tt,Tt,Tt,Tt,Tt] (by decide +kernel) PFC.h (LtK.skip rfl rfl rfl (LtK.skip rfl rfl rfl (LtK.skip rfl rfl rfl (LtK.skip rfl rfl rfl (LtK.skip rfl rfl rfl (LtK.skip rfl rfl rfl (LtK.skip rfl rfl rfl ?_)))))))
   refine LtK.skip rfl rfl rfl (LtK.put rfl rfl rfl (Z9 rfl rfl rfl) (LtK.put rfl rfl rfl (Zu rfl) (LtK.skip rfl rfl rfl (LtK.skip rfl rfl rfl (LtK.skip rfl rfl rfl (LtK.skip rfl rfl rfl (LtK.skip rfl rfl rfl ?_)))))))
   refine LtK.skip rfl rfl rfl (LtK.skip rfl rfl rfl (LtK.skip rfl rfl rfl (LtK.skip rfl rfl rfl (LtK.put rfl rfl rfl (Z9 rfl rfl rfl) (LtK.nil (Z5 (by kernel_rfl) (Zd hK947 ?_)))))))
   refine Zn rfl rfl (Zf (fun K hK956 => Zg (Zb 1 rfl (Zh (Zd hK956 (Zl (Zj ?_)))))))
   refine Ze (Ze (Zj (Ze (Zj (Ze (Ze (Zj ?_)))))))
   refine Ze (Zm rfl (RV.tmp rfl RV.nil) rfl ?_)
   obtain rfl := QJ H
   replace hS := hS.cut 0
   exact ⟨rfl, hS⟩
  replace H := Zq H hb
  refine Zo [Ff,Ff,Ff,Ff,Ff,Ff,Ff,Ff,Ff,Tt,Tt,Tt,Tt,Tt,Tt,Tt,Tt,Tt,Tt] (by decide +kernel) PFC.h (LtK.put rfl rfl rfl (Zu rfl) (LtK.put rfl rfl rfl (Zu rfl) ?_))
  obtain ⟨e958, hi960, H⟩ := bind_some H
  obtain ⟨j959, A961, c962, hi960a, hi960b, hi960c⟩ := Zar (q := q891) hq892 hi960
  refine LtK.put rfl rfl rfl (Y2 Y9 rfl rfl hi960a hi960c (Rd.el (hS.rd Vv) Yc hi960b)) (LtK.put rfl rfl rfl (Y0 Ji rfl (Rd.el (hS.rd Vv) Yc hi960b)) (LtK.put rfl rfl rfl (Za6 Zy rfl (Zgg _) (Rd.el (hS.rd Vv) Yc hi960b) rfl) (LtK.put rfl rfl rfl (Zc Xb rfl) (LtK.put rfl rfl rfl (Zi Zy rfl (Zgg _) hS hs0 trivial Yw) (LtK.put rfl rfl rfl (Yl rfl rfl) (LtK.put rfl rfl rfl (Yk rfl rfl rfl) (LtK.put rfl rfl rfl (Zu rfl) ?_)))))))
  refine LtK.nil (Xf 183 rfl (fun hb => ?_) (fun hb => ?_))
  ·replace H := Zp H hb
   refine Zo [Ff,Ff,Ff,Ff,Ff,Ff,Ff,Ff,Ff,Ff,Ff,Ff,Ff,Ff,Ff,Ff,Ff,Ff,Ff,Tt,Tt,Tt,Tt,Tt,Tt,Tt,Tt,Tt,Tt] (by decide +kernel) PFC.h (LtK.skip rfl rfl rfl (LtK.skip rfl rfl rfl (LtK.skip rfl rfl rfl (LtK.skip rfl rfl rfl (LtK.skip rfl rfl rfl (LtK.skip rfl rfl rfl (LtK.skip rfl rfl rfl ?_)))))))
   refine LtK.skip rfl rfl rfl (LtK.skip rfl rfl rfl (LtK.put rfl rfl rfl (Z9 rfl rfl rfl) (LtK.nil (Z5 (by kernel_rfl) (Zd hK947 (Zn rfl rfl (Zf (fun K hK964 => ?_))))))))
   refine Zg (Zb 1 rfl (Zh (Zd hK964 (Zl (Zj (Ze (Ze ?_)))))))
   refine Zj (Ze (Zj (Ze (Ze (Zj (Ze (Zm rfl (RV.tmp rfl RV.nil) rfl ?_)))))))
   obtain rfl := QJ H
   replace hS := hS.cut 0
   exact ⟨rfl, hS⟩
  replace H := Zq H hb
  refine Zo [Ff,Ff,Ff,Ff,Ff,Ff,Ff,Ff,Ff,Ff,Ff,Ff,Ff,Ff,Ff,Ff,Ff,Ff,Ff,Tt,Tt,Tt,Tt,Tt,Tt,Tt,Tt,Tt,Tt] (by decide +kernel) PFC.h (LtK.put rfl rfl rfl (Zu rfl) (LtK.put rfl rfl rfl (Zu rfl) ?_))
  obtain ⟨e966, hi968, H⟩ := bind_some H
  obtain ⟨j967, A969, c970, hi968a, hi968b, hi968c⟩ := Zar (q := q891) hq892 hi968
  refine LtK.put rfl rfl rfl (Y2 Y9 rfl rfl hi968a hi968c (Rd.el (hS.rd Vv) Yc hi968b)) (LtK.put rfl rfl rfl (Y0 Je rfl (Rd.el (hS.rd Vv) Yc hi968b)) (LtK.put rfl rfl rfl (Za6 Zy rfl (Zgg _) (Rd.el (hS.rd Vv) Yc hi968b) rfl) (LtK.put rfl rfl rfl (Zc Zz rfl) (LtK.put rfl rfl rfl (Zc Xc rfl) (LtK.put rfl rfl rfl (Zi Zy rfl (Zgg _) hS hs0 trivial Xv) (LtK.put rfl rfl rfl (Yl rfl rfl) (LtK.put rfl rfl rfl (Yk rfl rfl rfl) ?_)))))))
  refine LtK.nil (Z5 (by kernel_rfl) (Zd hK947 (Zx rfl (fun hb => ?_) (fun hb => ?_))))
  rotate_left
  ·replace H := Zq H hb
   refine Zv (Zw (Zd hK946 (Zg (Zb 1 rfl (Za rfl rfl rfl (Xu rfl rfl) (Zb 1 rfl (Zh ?_)))))))
   exact Xo (n, v941, (IntKind.wrap .i64 (v942 + 1))) (by repeat (first | exact Sub.nil | refine Sub.cons rfl ?_)) ⟨hS, H⟩ (Nat.lt_succ_self _)
  replace H := Zp H hb
  refine Zf (fun K hK972 => Zg (Zb 1 rfl (Zh (Zd hK972 (Zl (Zj (Ze ?_)))))))
  refine Ze (Zj (Ze (Zj (Ze (Ze (Zj (Ze ?_)))))))
  refine Zm rfl (RV.tmp rfl RV.nil) rfl ?_
  obtain rfl := QJ H
  replace hS := hS.cut 0
  exact ⟨rfl, hS⟩
 replace H := Zp H hb
 refine Zg (Zb 2 rfl ?_)
 obtain ⟨e603, hi605, H⟩ := bind_some H
 obtain ⟨j604, hi605a, hi605b, hi605c⟩ := Xn hi605
 refine Za rfl rfl rfl (Y2 el_31 rfl rfl hi605a hi605c (Rd.el (hS.rd0 s5_.rd) he_enY hi605b)) (Za rfl rfl rfl (Zav Zbi rfl (Zgf _) (Rd.el (hS.rd0 s5_.rd) he_enY hi605b) rfl) (Zb 1 rfl (Zh (Zd hK600 (Zf (fun K hK606 => Zg (Zb 2 rfl ?_)))))))
 obtain ⟨e607, hi609, H⟩ := bind_some H
 obtain ⟨j608, A610, c611, hi609a, hi609b, hi609c⟩ := Zar (q := q6_) s6_q hi609
 refine Za rfl rfl rfl (Y2 Y9 rfl rfl hi609a hi609c (Rd.el (hS.rd0 s6_.rd) Yc hi609b)) (Za rfl rfl rfl (V8 Vz rfl (Zgf _) (Rd.el (hS.rd0 s6_.rd) Yc hi609b) X7) (Yr rfl rfl Zbu hS (fun b612 w hS hB => Zr rfl rfl rfl CellsOf.agg hS ps0 st0_15 (by kernel_rfl) rfl (fun w hS hB => Zh (Zd hK606 (Zf (fun K hK614 => Zg ?_)))))))
 refine Za rfl rfl rfl (Zc Xb rfl) (Za rfl rfl rfl (Zi Zy rfl (Zgf _) hS X9 trivial Yw) (Za rfl rfl rfl (Zc Zc5 rfl) (Zr rfl rfl rfl CellsOf.int hS ps0 st2_1 (by kernel_rfl) rfl (fun w hS hB => Zh (Zd hK614 (Zf (fun K hK615 => Zg ?_)))))))
 refine Za rfl rfl rfl (Zk Ya rfl (Zgf _) hS X9 trivial Z1) (Zb 1 rfl (Za rfl rfl rfl (Zk Vz rfl (Zgf _) hS hs0 trivial X7) ?_))
 obtain ⟨r616, hm617, H⟩ := bind_some H
 refine Zt rfl rfl rfl rfl (by kernel_rfl) rfl (Zex x0 (e603.toNat : Int) {e607 with dst := x0.id} A0_ c0_ A1_ c1_ A2_ c2_ A3_ c3_ A4_ c4_ A610 c611 _ (Zgi s0_.k (hS.rd0 s0_.rd) (hS.blk0 s0_.blk)) (Zgi s1_.k (hS.rd0 s1_.rd) (hS.blk0 s1_.blk)) (Zgi s2_.k (hS.rd0 s2_.rd) (hS.blk0 s2_.blk)) (Zgi s3_.k (hS.rd0 s3_.rd) (hS.blk0 s3_.blk)) (Zgi s4_.k (hS.rd0 s4_.rd) (hS.blk0 s4_.blk)) (SlW.of_rd ((s6_n _ (List.mem_of_getElem? hi609b)).k) (hS.rd0 (s6_n _ (List.mem_of_getElem? hi609b)).rd)) hm617) ?_
 rintro e w ⟨A618, c619, A622, c623, A626, c627, A630, c631, A634, c635, A638, c639, q642, rfl, k620, k624, k628, k632, k636, k640, hq643, okq644, hN⟩; refine ⟨_, rfl, ?_⟩; obtain ⟨hB, hS⟩ := hS.jn hN
 refine Zb 1 rfl (Za rfl rfl rfl (Yj rfl rfl) (Za rfl rfl rfl (Yj rfl rfl) (Yr rfl rfl Zcn hS (fun b646 w hS hB => Zr rfl rfl rfl CellsOf.agg hS ps0 Yo (by kernel_rfl) rfl (fun w hS hB => Zb 1 rfl (Zh (Zd hK615 ?_)))))))
 refine Zf (fun K hK648 => Zf (fun K hK649 => Zg (Za rfl rfl rfl (Zk Ya rfl (Zgf _) hS hs0 trivial Z1) ?_)))
 obtain ⟨r650, hm651, H⟩ := bind_some H
 refine Zt rfl rfl rfl rfl (by kernel_rfl) rfl (Zcv r616.1 A618 c619 A622 c623 A626 c627 A630 c631 A634 c635 _ (Zgi k620 (hS.rd X9) (hS.rd_blk X9)) (Zgi k624 (hS.row_rd Vt) (hS.row_blk Vt)) (Zgi k628 (hS.row_rd hs3) (hS.row_blk hs3)) (Zgi k632 (hS.row_rd hs4) (hS.row_blk hs4)) (Zgi k636 (hS.row_rd hs5) (hS.row_blk hs5)) hm651) ?_
 rintro e w ⟨rfl, hN⟩; refine ⟨_, rfl, ?_⟩; obtain ⟨hB, hS⟩ := hS.jn hN
 refine Za rfl rfl rfl (Yt rfl) (Zb 1 rfl (Zs 65 rfl (fun hb => ?_) (fun hb => ?_)))
 ·replace H := Zp H hb
  refine Zb 73 rfl (Zh (Zd hK649 (Zn rfl rfl (Zf (fun K hK653 => Zg (Zb 1 rfl (Zh ?_)))))))
  refine Zd hK653 (Zl (Ze (Zj (Ze (Ze (Zj (Ze ?_)))))))
  refine Zm rfl (RV.tmp rfl RV.nil) rfl ?_
  obtain rfl := QJ H
  replace hS := hS.cut 0
  exact ⟨rfl, hS⟩
 replace H := Zq H hb
 refine Za rfl rfl rfl (Zc Zz rfl) (Za rfl rfl rfl (Zc Xc rfl) (Za rfl rfl rfl (Zi Zy rfl (Zgf _) hS hs0 trivial Xv) (Za rfl rfl rfl (Zc Zz rfl) (Za rfl rfl rfl (Zc Xc rfl) (Za rfl rfl rfl (Zi Zy rfl (Zgf _) hS hs9 trivial Xv) (Za rfl rfl rfl (Y4 rfl rfl) (Zb 2 rfl ?_)))))))
 refine Zs 74 rfl (fun hb => ?_) (fun hb => ?_)
 ·replace H := Zp H hb
  refine Zb 64 rfl (Zh (Zd hK649 (Zn rfl rfl (Zf (fun K hK656 => Zg (Zb 1 rfl (Zh ?_)))))))
  refine Zd hK656 (Zl (Ze (Zj (Ze (Ze (Zj (Ze ?_)))))))
  refine Zm rfl (RV.tmp rfl RV.nil) rfl ?_
  obtain rfl := QJ H
  replace hS := hS.cut 0
  exact ⟨rfl, hS⟩
 replace H := Zq H hb
 refine Za rfl rfl rfl (Zc Zz rfl) (Za rfl rfl rfl (Zc Xc rfl) (Za rfl rfl rfl (Zi Zy rfl (Zgf _) hS hs0 trivial Xv) (Za rfl rfl rfl (Zc Zz rfl) (Za rfl rfl rfl (Zc Xc rfl) (Za rfl rfl rfl (Zi Zy rfl (Zgf _) hS hs9 trivial Xv) (Za rfl rfl rfl (Xh rfl rfl) (Zb 1 rfl ?_)))))))
 refine Zs 82 rfl (fun hb => ?_) (fun hb => ?_)
 rotate_left
 ·replace H := Zq H hb
  refine Zb 16 rfl (Za rfl rfl rfl (Zc Zz rfl) (Za rfl rfl rfl (Zc Yg rfl) (Za rfl rfl rfl (Zi Y6 rfl (Zgf _) hS hs0 trivial Xt) (Za rfl rfl rfl (Yb Y1 rfl) (Za rfl rfl rfl (Zc Zz rfl) (Za rfl rfl rfl (Zc Yg rfl) (Za rfl rfl rfl (Zi Y6 rfl (Zgf _) hS hs9 trivial Xt) ?_)))))))
  refine Za rfl rfl rfl (Yb Y1 rfl) (Za rfl rfl rfl (Y4 rfl rfl) (Zb 2 rfl (Zs 109 rfl (fun hb => ?_) (fun hb => ?_))))
  ·replace H := Zp H hb
   refine Zb 29 rfl (Zh (Zd hK649 (Zn rfl rfl (Zf (fun K hK792 => Zg (Zb 1 rfl (Zh ?_)))))))
   refine Zd hK792 (Zl (Ze (Zj (Ze (Ze (Zj (Ze ?_)))))))
   refine Zm rfl (RV.tmp rfl RV.nil) rfl ?_
   obtain rfl := QJ H
   replace hS := hS.cut 0
   exact ⟨rfl, hS⟩
  replace H := Zq H hb
  refine Za rfl rfl rfl (Zc V6 rfl) (Za rfl rfl rfl (Zi Zy rfl (Zgf _) hS hs0 trivial J9) (Za rfl rfl rfl (Zc V6 rfl) (Za rfl rfl rfl (Zi Zy rfl (Zgf _) hS hs9 trivial J9) (Za rfl rfl rfl (Yl rfl rfl) (Zb 2 rfl (Zs 116 rfl (fun hb => ?_) (fun hb => ?_)))))))
  ·replace H := Zp H hb
   refine Zb 22 rfl (Zh (Zd hK649 (Zn rfl rfl (Zf (fun K hK795 => Zg (Zb 1 rfl (Zh ?_)))))))
   refine Zd hK795 (Zl (Ze (Zj (Ze (Ze (Zj (Ze ?_)))))))
   refine Zm rfl (RV.tmp rfl RV.nil) rfl ?_
   obtain rfl := QJ H
   replace hS := hS.cut 0
   exact ⟨rfl, hS⟩
  replace H := Zq H hb
  refine Za rfl rfl rfl (Zc Zz rfl) (Za rfl rfl rfl (Zc Xe rfl) (Za rfl rfl rfl (Zk Y3 rfl (Zgf _) hS hs0 trivial Zb1) (Za rfl rfl rfl (Zc Zz rfl) (Za rfl rfl rfl (Zc Xe rfl) (Za rfl rfl rfl (Zk Y3 rfl (Zgf _) hS hs9 trivial Zb1) (Za rfl rfl rfl (Zb0 (by kernel_rfl) rfl rfl (Jg _ _ _ _ _ _ _ _ _ _)) (Zb 2 rfl ?_)))))))
  refine Zs 125 rfl (fun hb => ?_) (fun hb => ?_)
  ·replace H := Zp H hb
   refine Zb 13 rfl (Zh (Zd hK649 (Zn rfl rfl (Zf (fun K hK798 => Zg (Zb 1 rfl (Zh ?_)))))))
   refine Zd hK798 (Zl (Ze (Zj (Ze (Ze (Zj (Ze ?_)))))))
   refine Zm rfl (RV.tmp rfl RV.nil) rfl ?_
   obtain rfl := QJ H
   replace hS := hS.cut 0
   exact ⟨rfl, hS⟩
  replace H := Zq H hb
  refine Za rfl rfl rfl (Zc Xb rfl) (Za rfl rfl rfl (Zi Zy rfl (Zgf _) hS hs0 trivial Yw) (Za rfl rfl rfl (Zc Xb rfl) (Za rfl rfl rfl (Zi Zy rfl (Zgf _) hS hs9 trivial Yw) (Za rfl rfl rfl (Yl rfl rfl) (Zb 2 rfl (Zs 132 rfl (fun hb => ?_) (fun hb => ?_)))))))
  ·replace H := Zp H hb
   refine Zb 6 rfl (Zh (Zd hK649 (Zn rfl rfl (Zf (fun K hK801 => Zg (Zb 1 rfl (Zh ?_)))))))
   refine Zd hK801 (Zl (Ze (Zj (Ze (Ze (Zj (Ze ?_)))))))
   refine Zm rfl (RV.tmp rfl RV.nil) rfl ?_
   obtain rfl := QJ H
   replace hS := hS.cut 0
   exact ⟨rfl, hS⟩
  replace H := Zq H hb
  refine Za rfl rfl rfl (Zc Yx rfl) (Za rfl rfl rfl (Zi Zy rfl (Zgf _) hS hs0 trivial Xd) (Za rfl rfl rfl (Zc Yx rfl) (Za rfl rfl rfl (Zi Zy rfl (Zgf _) hS hs9 trivial Xd) (Za rfl rfl rfl (Yl rfl rfl) (Zb 1 rfl (Zh (Zd hK649 ?_)))))))
  refine Zx rfl (fun hb => ?_) (fun hb => ?_)
  ·replace H := Zp H hb
   refine Zf (fun K hK804 => Zg (Zb 1 rfl (Zh (Zd hK804 (Zl (Ze (Zj ?_)))))))
   refine Ze (Ze (Zj (Ze (Zm rfl (RV.tmp rfl RV.nil) rfl ?_))))
   obtain rfl := QJ H
   replace hS := hS.cut 0
   exact ⟨rfl, hS⟩
  replace H := Zq H hb
  refine Zv (Zd hK648 (Zf (fun K hK806 => Zf (fun K hK807 => Yh 20 [] (fun _ _ => True) ⟨by kernel_rfl, by kernel_rfl⟩ hS (fun w hS hB => Zo [Tt,Tt,Tt,Tt,Tt,Tt,Tt,Tt,Tt,Tt,Tt] (by decide +kernel) PFC.h (LtK.put rfl rfl rfl (Zc Zz rfl) (LtK.put rfl rfl rfl (Zc Yg rfl) ?_)))))))
  refine LtK.put rfl rfl rfl (Zi Y6 rfl (Zgg _) hS hs0 trivial Xt) (LtK.put rfl rfl rfl (Zc Zz rfl) (LtK.put rfl rfl rfl (Zc Yg rfl) (LtK.put rfl rfl rfl (Zi Y6 rfl (Zgg _) hS hs9 trivial Xt) (LtK.put rfl rfl rfl (Yb Y1 rfl) ?_))))
  obtain ⟨l808, ht809, H⟩ := bind_some H
  refine LtK.put rfl rfl rfl (J1 Y1 rfl rfl k620.1 ht809) (LtK.put rfl rfl rfl (Zc Zz rfl) (LtK.put rfl rfl rfl (Zc Yg rfl) (LtK.put rfl rfl rfl (Zi Y6 rfl (Zgg _) hS hs9 trivial Xt) (LtK.nil (Yd [Ff,Ff,Ff,Ff,Ff,Ff,Ff,Ff,Ff,Ff,Ff,Tt] 11 ⟨by decide, by kernel_rfl, by kernel_rfl⟩ rfl rfl ?_)))))
  try dsimp only [Z2]
  obtain ⟨r810, hm811, H⟩ := bind_some H
  refine Zt rfl rfl rfl rfl (by kernel_rfl) rfl (Ja l808 x0.tuple.log A618 c619 A0_ c0_ _ (Zgi (Zdo k620 ht809) (Rd.takeI Vf (hS.rd X9) ht809) (hS.rd_blk X9)) (Zgi s0_.k (hS.rd0 s0_.rd) (hS.blk0 s0_.blk)) hm811) ?_
  rintro e w ⟨rfl, hN⟩; refine ⟨_, rfl, ?_⟩; obtain ⟨hB, hS⟩ := hS.jn hN
  refine Zh (Ye hB (Zo [Ff,Ff,Ff,Ff,Ff,Ff,Ff,Ff,Ff,Ff,Ff,Ff,Tt,Tt] (by decide +kernel) PFC.h (LtK.put rfl rfl rfl (Yt rfl) (LtK.put rfl rfl rfl (Zu rfl) (LtK.nil (Xf 152 rfl (fun hb => ?_) (fun hb => ?_)))))))
  ·replace H := Zp H hb
   refine Zo [Ff,Ff,Ff,Ff,Ff,Ff,Ff,Ff,Ff,Ff,Ff,Ff,Ff,Ff,Tt,Tt,Tt,Tt,Tt,Tt] (by decide +kernel) PFC.h (LtK.skip rfl rfl rfl (LtK.skip rfl rfl rfl (LtK.skip rfl rfl rfl (LtK.skip rfl rfl rfl (LtK.skip rfl rfl rfl (LtK.put rfl rfl rfl (Z9 rfl rfl rfl) (LtK.nil ?_)))))))
   refine Z5 (by kernel_rfl) (Zd hK807 (Zn rfl rfl (Zf (fun K hK813 => Zg (Zb 1 rfl (Zh (Zd hK813 ?_)))))))
   refine Zl (Ze (Zj (Ze (Ze (Zj (Ze (Zm rfl (RV.tmp rfl RV.nil) rfl ?_)))))))
   obtain rfl := QJ H
   replace hS := hS.cut 0
   exact ⟨rfl, hS⟩
  replace H := Zq H hb
  refine Zo [Ff,Ff,Ff,Ff,Ff,Ff,Ff,Ff,Ff,Ff,Ff,Ff,Ff,Ff,Tt,Tt,Tt,Tt,Tt,Tt] (by decide +kernel) PFC.h (LtK.put rfl rfl rfl (Zu rfl) (LtK.put rfl rfl rfl (Yb Y9 rfl) (LtK.put rfl rfl rfl (Zc Yx rfl) (LtK.put rfl rfl rfl (Zi Zy rfl (Zgg _) hS hs0 trivial Xd) (LtK.put rfl rfl rfl (Y8 rfl rfl) (LtK.put rfl rfl rfl (Yk rfl rfl rfl) (LtK.nil ?_)))))))
  refine Z5 (by kernel_rfl) (Zd hK807 (Zx rfl (fun hb => ?_) (fun hb => ?_)))
  ·replace H := Zp H hb
   refine Zf (fun K hK816 => Zg (Zb 1 rfl (Zh (Zd hK816 (Zl (Ze (Zj ?_)))))))
   refine Ze (Ze (Zj (Ze (Zm rfl (RV.tmp rfl RV.nil) rfl ?_))))
   obtain rfl := QJ H
   replace hS := hS.cut 0
   exact ⟨rfl, hS⟩
  replace H := Zq H hb
  refine Zv (Zd hK806 (Zf (fun K hK818 => Zf (fun K hK819 => Zg (Zb 1 rfl (Zh (Zd hK819 ?_)))))))
  refine Z6 (Vp (X := Nat × Bool × Int) (fun x => (1, .slice A5_ x1.length c5_) :: (2, .slice A6_ x2.length c6_) :: (3, .pointer (some ⟨b2, 0, none⟩)) :: (6, .bool x.2.1) :: (7, .int .i64 0) :: (10, .pointer (some ⟨b646, 0, none⟩)) :: (11, .slice A638 r616.2.length c639) :: (12, .int .i64 x.2.2) :: []) (fun x w => St0 All w0 w (.box b646 [.int .i64 r616.1.id, .int .i64 r616.1.n, .int .u8 r616.1.role, .int .i64 r616.1.binary, .int .i64 r616.1.tuple.snap.index, .int .i64 r616.1.tuple.snap.term, .int .i64 r616.1.tuple.snap.sum, .int .i64 r616.1.tuple.snap.level, .bool r616.1.tuple.snap.final, .slice A618 r616.1.tuple.log.length c619, .int .i64 r616.1.tuple.term, .int .i64 r616.1.tuple.vote, .int .i64 r616.1.commit, .int .i64 r616.1.applied.index, .int .i64 r616.1.applied.term, .int .i64 r616.1.applied.sum, .int .i64 r616.1.applied.level, .bool r616.1.applied.final, .slice A622 r616.1.votes.length c623, .slice A626 r616.1.next.length c627, .slice A630 r616.1.mtch.length c631, .slice A634 r616.1.caps.length c635] 30 :: .rd A618 (Z8 enE r616.1.tuple.log) :: .row (.slice A622 r616.1.votes.length c623) 4 1 r616.1.votes.length (Z8 enO r616.1.votes) :: .row (.slice A626 r616.1.next.length c627) 3 1 r616.1.next.length (Z8 Vr r616.1.next) :: .row (.slice A630 r616.1.mtch.length c631) 3 1 r616.1.mtch.length (Z8 Vr r616.1.mtch) :: .row (.slice A634 r616.1.caps.length c635) 3 1 r616.1.caps.length (Z8 Vr r616.1.caps) :: .rd A638 (Z8 enQ q642) :: .rds (q642.map Zfk) :: .box b612 [.int .u8 e607.kind, .int .i64 e607.frm, .int .i64 x0.id, .int .i64 e607.term, .int .i64 e607.cap, .int .i64 e607.last, .int .i64 e607.lastTerm, .int .i64 e607.commit, .bool e607.okk, .slice A610 e607.entries.length c611, .int .i64 e607.snap.index, .int .i64 e607.snap.term, .int .i64 e607.snap.sum, .int .i64 e607.snap.level, .bool e607.snap.final] 36 :: .box b2 [.int .i64 x0.id, .int .i64 x0.n, .int .u8 x0.role, .int .i64 x0.binary, .int .i64 x0.tuple.snap.index, .int .i64 x0.tuple.snap.term, .int .i64 x0.tuple.snap.sum, .int .i64 x0.tuple.snap.level, .bool x0.tuple.snap.final, .slice A0_ x0.tuple.log.length c0_, .int .i64 x0.tuple.term, .int .i64 x0.tuple.vote, .int .i64 x0.commit, .int .i64 x0.applied.index, .int .i64 x0.applied.term, .int .i64 x0.applied.sum, .int .i64 x0.applied.level, .bool x0.applied.final, .slice A1_ x0.votes.length c1_, .slice A2_ x0.next.length c2_, .slice A3_ x0.mtch.length c3_, .slice A4_ x0.caps.length c4_] 30 :: []) ∧ Xr x1 x2 r616 x.1 x.2.1 x.2.2 = some r) (fun x => x.1) (Yy, false, 0) (by repeat (first | exact Sub.nil | refine Sub.cons rfl ?_)) ⟨hS, H⟩ ?_)
  rintro ⟨n, v820, v821⟩ w ⟨hS, H⟩
  dsimp only at hS H ⊢
  obtain _ | n := n
  ·have H0 : none = some r := H
   cases H0
  rw [Xr] at H
  refine Zf (fun K hK822 => Zf (fun K hK823 => Zg (Zb 2 rfl (Za rfl rfl rfl (Yb Y9 rfl) (Za rfl rfl rfl (Y4 rfl rfl) (Zh (Zd hK823 ?_)))))))
  refine Zx rfl (fun hb => ?_) (fun hb => ?_)
  rotate_left
  ·replace H := Zq H hb
   refine Xy (Z4 (Z4 (Yz (Zd hK818 (Zg (Za rfl rfl rfl (Zk Ya rfl (Zgf _) hS hs0 trivial Z1) (Zr rfl rfl rfl CellsOf.agg hS ps9 Yo (by kernel_rfl) rfl (fun w hS hB => ?_))))))))
   refine Zh (Zw (Zd hK586 (Zg (Zb 1 rfl (Za rfl rfl rfl (Xu rfl rfl) (Zb 1 rfl (Zh ?_)))))))
   replace hS := hS.front 9 rfl
   replace hS := hS.front 6 rfl
   replace hS := hS.front 6 rfl
   replace hS := hS.front 6 rfl
   replace hS := hS.front 6 rfl
   replace hS := hS.front 6 rfl
   replace hS := hS.cut 6
   exact QH_peel (Yy, 1, r616.1.id, r616.1.n, r616.1.role, r616.1.binary, r616.1.tuple.snap.index, r616.1.tuple.snap.term, r616.1.tuple.snap.sum, r616.1.tuple.snap.level, r616.1.tuple.snap.final, r616.1.tuple.log, A618, c619, r616.1.tuple.term, r616.1.tuple.vote, r616.1.commit, r616.1.applied.index, r616.1.applied.term, r616.1.applied.sum, r616.1.applied.level, r616.1.applied.final, r616.1.votes, A622, c623, r616.1.next, A626, c627, r616.1.mtch, A630, c631, r616.1.caps, A634, c635) (by repeat (first | exact Sub.nil | refine Sub.cons rfl ?_)) ⟨hS, k620, k624, k628, k632, k636, H⟩ (Nat.lt_succ_self _)
  replace H := Zp H hb
  refine Zv (Zd hK822 (Zf (fun K hK825 => Z6 (Zf (fun K hK826 => Yh 29 [] (fun _ _ => True) ⟨by kernel_rfl, by kernel_rfl⟩ hS (fun w hS hB => Zo [Tt,Tt,Tt,Tt,Tt,Tt] (by decide +kernel) PFC.h (LtK.put rfl rfl rfl (Zu rfl) ?_)))))))
  refine LtK.put rfl rfl rfl (Zu rfl) ?_
  obtain ⟨e827, hi829, H⟩ := bind_some H
  obtain ⟨j828, A830, c831, hi829a, hi829b, hi829c⟩ := Zar (q := q642) hq643 hi829
  refine LtK.put rfl rfl rfl (Y2 Y9 rfl rfl hi829a hi829c (Rd.el (hS.rd Vv) Yc hi829b)) (LtK.put rfl rfl rfl (V8 Vz rfl (Zgg _) (Rd.el (hS.rd Vv) Yc hi829b) X7) (LtK.put rfl rfl rfl (Zc Yx rfl) (LtK.put rfl rfl rfl (Zi Zy rfl (Zgg _) hS hs0 trivial Xd) (LtK.nil (Yd [Ff,Ff,Ff,Ff,Ff,Ff,Tt] 6 ⟨by decide, by kernel_rfl, by kernel_rfl⟩ rfl rfl ?_)))))
  try dsimp only [Z2]
  obtain ⟨r832, hm833, H⟩ := bind_some H
  refine Zt rfl rfl rfl rfl (by kernel_rfl) rfl (Jc e827 r616.1.n A830 c831 _ (SlW.of_rd (okq644 _ (List.mem_of_getElem? hi829b)) (hS.rds_rd hs7 hi829b)) hm833) ?_
  rintro e w ⟨rfl, hN⟩; refine ⟨_, rfl, ?_⟩; obtain ⟨hB, hS⟩ := hS.jn hN
  refine Zh (Ye hB (Zo [Ff,Ff,Ff,Ff,Ff,Ff,Ff,Tt,Tt] (by decide +kernel) PFC.h (LtK.put rfl rfl rfl (Yt rfl) (LtK.put rfl rfl rfl (Zu rfl) (LtK.nil (Xf 173 rfl (fun hb => ?_) (fun hb => ?_)))))))
  ·replace H := Zp H hb
   refine Zo [Ff,Ff,Ff,Ff,Ff,Ff,Ff,Ff,Ff,Tt,Tt,Tt,Tt,Tt,Tt,Tt,Tt,Tt,Tt,Tt,Tt,Tt,Tt,Tt,Tt,Tt,Tt,Tt,Tt] (by decide +kernel) PFC.h (LtK.skip rfl rfl rfl (LtK.skip rfl rfl rfl (LtK.skip rfl rfl rfl (LtK.skip rfl rfl rfl (LtK.skip rfl rfl rfl (LtK.skip rfl rfl rfl (LtK.skip rfl rfl rfl ?_)))))))
   refine LtK.skip rfl rfl rfl (LtK.put rfl rfl rfl (Z9 rfl rfl rfl) (LtK.put rfl rfl rfl (Zu rfl) (LtK.skip rfl rfl rfl (LtK.skip rfl rfl rfl (LtK.skip rfl rfl rfl (LtK.skip rfl rfl rfl (LtK.skip rfl rfl rfl ?_)))))))
   refine LtK.skip rfl rfl rfl (LtK.skip rfl rfl rfl (LtK.skip rfl rfl rfl (LtK.skip rfl rfl rfl (LtK.put rfl rfl rfl (Z9 rfl rfl rfl) (LtK.nil (Z5 (by kernel_rfl) (Zd hK826 ?_)))))))
   refine Zn rfl rfl (Zf (fun K hK835 => Zg (Zb 1 rfl (Zh (Zd hK835 (Zl (Zj ?_)))))))
   refine Ze (Ze (Zj (Ze (Zj (Ze (Ze (Zj ?_)))))))
   refine Ze (Zm rfl (RV.tmp rfl RV.nil) rfl ?_)
   obtain rfl := QJ H
   replace hS := hS.cut 0
   exact ⟨rfl, hS⟩
  replace H := Zq H hb
  refine Zo [Ff,Ff,Ff,Ff,Ff,Ff,Ff,Ff,Ff,Tt,Tt,Tt,Tt,Tt,Tt,Tt,Tt,Tt,Tt] (by decide +kernel) PFC.h (LtK.put rfl rfl rfl (Zu rfl) (LtK.put rfl rfl rfl (Zu rfl) ?_))
  obtain ⟨e837, hi839, H⟩ := bind_some H
  obtain ⟨j838, A840, c841, hi839a, hi839b, hi839c⟩ := Zar (q := q642) hq643 hi839
  refine LtK.put rfl rfl rfl (Y2 Y9 rfl rfl hi839a hi839c (Rd.el (hS.rd Vv) Yc hi839b)) (LtK.put rfl rfl rfl (Y0 Ji rfl (Rd.el (hS.rd Vv) Yc hi839b)) (LtK.put rfl rfl rfl (Za6 Zy rfl (Zgg _) (Rd.el (hS.rd Vv) Yc hi839b) rfl) (LtK.put rfl rfl rfl (Zc Xb rfl) (LtK.put rfl rfl rfl (Zi Zy rfl (Zgg _) hS hs0 trivial Yw) (LtK.put rfl rfl rfl (Yl rfl rfl) (LtK.put rfl rfl rfl (Yk rfl rfl rfl) (LtK.put rfl rfl rfl (Zu rfl) ?_)))))))
  refine LtK.nil (Xf 183 rfl (fun hb => ?_) (fun hb => ?_))
  ·replace H := Zp H hb
   refine Zo [Ff,Ff,Ff,Ff,Ff,Ff,Ff,Ff,Ff,Ff,Ff,Ff,Ff,Ff,Ff,Ff,Ff,Ff,Ff,Tt,Tt,Tt,Tt,Tt,Tt,Tt,Tt,Tt,Tt] (by decide +kernel) PFC.h (LtK.skip rfl rfl rfl (LtK.skip rfl rfl rfl (LtK.skip rfl rfl rfl (LtK.skip rfl rfl rfl (LtK.skip rfl rfl rfl (LtK.skip rfl rfl rfl (LtK.skip rfl rfl rfl ?_)))))))
   refine LtK.skip rfl rfl rfl (LtK.skip rfl rfl rfl (LtK.put rfl rfl rfl (Z9 rfl rfl rfl) (LtK.nil (Z5 (by kernel_rfl) (Zd hK826 (Zn rfl rfl (Zf (fun K hK843 => ?_))))))))
   refine Zg (Zb 1 rfl (Zh (Zd hK843 (Zl (Zj (Ze (Ze ?_)))))))
   refine Zj (Ze (Zj (Ze (Ze (Zj (Ze (Zm rfl (RV.tmp rfl RV.nil) rfl ?_)))))))
   obtain rfl := QJ H
   replace hS := hS.cut 0
   exact ⟨rfl, hS⟩
  replace H := Zq H hb
  refine Zo [Ff,Ff,Ff,Ff,Ff,Ff,Ff,Ff,Ff,Ff,Ff,Ff,Ff,Ff,Ff,Ff,Ff,Ff,Ff,Tt,Tt,Tt,Tt,Tt,Tt,Tt,Tt,Tt,Tt] (by decide +kernel) PFC.h (LtK.put rfl rfl rfl (Zu rfl) (LtK.put rfl rfl rfl (Zu rfl) ?_))
  obtain ⟨e845, hi847, H⟩ := bind_some H
  obtain ⟨j846, A848, c849, hi847a, hi847b, hi847c⟩ := Zar (q := q642) hq643 hi847
  refine LtK.put rfl rfl rfl (Y2 Y9 rfl rfl hi847a hi847c (Rd.el (hS.rd Vv) Yc hi847b)) (LtK.put rfl rfl rfl (Y0 Je rfl (Rd.el (hS.rd Vv) Yc hi847b)) (LtK.put rfl rfl rfl (Za6 Zy rfl (Zgg _) (Rd.el (hS.rd Vv) Yc hi847b) rfl) (LtK.put rfl rfl rfl (Zc Zz rfl) (LtK.put rfl rfl rfl (Zc Xc rfl) (LtK.put rfl rfl rfl (Zi Zy rfl (Zgg _) hS hs0 trivial Xv) (LtK.put rfl rfl rfl (Yl rfl rfl) (LtK.put rfl rfl rfl (Yk rfl rfl rfl) ?_)))))))
  refine LtK.nil (Z5 (by kernel_rfl) (Zd hK826 (Zx rfl (fun hb => ?_) (fun hb => ?_))))
  rotate_left
  ·replace H := Zq H hb
   refine Zv (Zw (Zd hK825 (Zg (Zb 1 rfl (Za rfl rfl rfl (Xu rfl rfl) (Zb 1 rfl (Zh ?_)))))))
   exact Xo (n, v820, (IntKind.wrap .i64 (v821 + 1))) (by repeat (first | exact Sub.nil | refine Sub.cons rfl ?_)) ⟨hS, H⟩ (Nat.lt_succ_self _)
  replace H := Zp H hb
  refine Zf (fun K hK851 => Zg (Zb 1 rfl (Zh (Zd hK851 (Zl (Zj (Ze ?_)))))))
  refine Ze (Zj (Ze (Zj (Ze (Ze (Zj (Ze ?_)))))))
  refine Zm rfl (RV.tmp rfl RV.nil) rfl ?_
  obtain rfl := QJ H
  replace hS := hS.cut 0
  exact ⟨rfl, hS⟩
 replace H := Zp H hb
 refine Za rfl rfl rfl (Zc Zz rfl) (Za rfl rfl rfl (Zc Vq rfl) (Za rfl rfl rfl (Zi Zy rfl (Zgf _) hS hs9 trivial Zbz) (Za rfl rfl rfl (Y8 rfl rfl) (Zb 2 rfl (Zs 88 rfl (fun hb => ?_) (fun hb => ?_))))))
 rotate_left
 ·replace H := Zq H hb
  refine Zb 10 rfl (Za rfl rfl rfl (Zc Zz rfl) (Za rfl rfl rfl (Zc Yg rfl) (Za rfl rfl rfl (Zi Y6 rfl (Zgf _) hS hs0 trivial Xt) (Za rfl rfl rfl (Yb Y1 rfl) (Za rfl rfl rfl (Zc Zz rfl) (Za rfl rfl rfl (Zc Yg rfl) (Za rfl rfl rfl (Zi Y6 rfl (Zgf _) hS hs9 trivial Xt) ?_)))))))
  refine Za rfl rfl rfl (Yb Y1 rfl) (Za rfl rfl rfl (Y4 rfl rfl) (Zb 2 rfl (Zs 109 rfl (fun hb => ?_) (fun hb => ?_))))
  ·replace H := Zp H hb
   refine Zb 29 rfl (Zh (Zd hK649 (Zn rfl rfl (Zf (fun K hK728 => Zg (Zb 1 rfl (Zh ?_)))))))
   refine Zd hK728 (Zl (Ze (Zj (Ze (Ze (Zj (Ze ?_)))))))
   refine Zm rfl (RV.tmp rfl RV.nil) rfl ?_
   obtain rfl := QJ H
   replace hS := hS.cut 0
   exact ⟨rfl, hS⟩
  replace H := Zq H hb
  refine Za rfl rfl rfl (Zc V6 rfl) (Za rfl rfl rfl (Zi Zy rfl (Zgf _) hS hs0 trivial J9) (Za rfl rfl rfl (Zc V6 rfl) (Za rfl rfl rfl (Zi Zy rfl (Zgf _) hS hs9 trivial J9) (Za rfl rfl rfl (Yl rfl rfl) (Zb 2 rfl (Zs 116 rfl (fun hb => ?_) (fun hb => ?_)))))))
  ·replace H := Zp H hb
   refine Zb 22 rfl (Zh (Zd hK649 (Zn rfl rfl (Zf (fun K hK731 => Zg (Zb 1 rfl (Zh ?_)))))))
   refine Zd hK731 (Zl (Ze (Zj (Ze (Ze (Zj (Ze ?_)))))))
   refine Zm rfl (RV.tmp rfl RV.nil) rfl ?_
   obtain rfl := QJ H
   replace hS := hS.cut 0
   exact ⟨rfl, hS⟩
  replace H := Zq H hb
  refine Za rfl rfl rfl (Zc Zz rfl) (Za rfl rfl rfl (Zc Xe rfl) (Za rfl rfl rfl (Zk Y3 rfl (Zgf _) hS hs0 trivial Zb1) (Za rfl rfl rfl (Zc Zz rfl) (Za rfl rfl rfl (Zc Xe rfl) (Za rfl rfl rfl (Zk Y3 rfl (Zgf _) hS hs9 trivial Zb1) (Za rfl rfl rfl (Zb0 (by kernel_rfl) rfl rfl (Jg _ _ _ _ _ _ _ _ _ _)) (Zb 2 rfl ?_)))))))
  refine Zs 125 rfl (fun hb => ?_) (fun hb => ?_)
  ·replace H := Zp H hb
   refine Zb 13 rfl (Zh (Zd hK649 (Zn rfl rfl (Zf (fun K hK734 => Zg (Zb 1 rfl (Zh ?_)))))))
   refine Zd hK734 (Zl (Ze (Zj (Ze (Ze (Zj (Ze ?_)))))))
   refine Zm rfl (RV.tmp rfl RV.nil) rfl ?_
   obtain rfl := QJ H
   replace hS := hS.cut 0
   exact ⟨rfl, hS⟩
  replace H := Zq H hb
  refine Za rfl rfl rfl (Zc Xb rfl) (Za rfl rfl rfl (Zi Zy rfl (Zgf _) hS hs0 trivial Yw) (Za rfl rfl rfl (Zc Xb rfl) (Za rfl rfl rfl (Zi Zy rfl (Zgf _) hS hs9 trivial Yw) (Za rfl rfl rfl (Yl rfl rfl) (Zb 2 rfl (Zs 132 rfl (fun hb => ?_) (fun hb => ?_)))))))
  ·replace H := Zp H hb
   refine Zb 6 rfl (Zh (Zd hK649 (Zn rfl rfl (Zf (fun K hK737 => Zg (Zb 1 rfl (Zh ?_)))))))
   refine Zd hK737 (Zl (Ze (Zj (Ze (Ze (Zj (Ze ?_)))))))
   refine Zm rfl (RV.tmp rfl RV.nil) rfl ?_
   obtain rfl := QJ H
   replace hS := hS.cut 0
   exact ⟨rfl, hS⟩
  replace H := Zq H hb
  refine Za rfl rfl rfl (Zc Yx rfl) (Za rfl rfl rfl (Zi Zy rfl (Zgf _) hS hs0 trivial Xd) (Za rfl rfl rfl (Zc Yx rfl) (Za rfl rfl rfl (Zi Zy rfl (Zgf _) hS hs9 trivial Xd) (Za rfl rfl rfl (Yl rfl rfl) (Zb 1 rfl (Zh (Zd hK649 ?_)))))))
  refine Zx rfl (fun hb => ?_) (fun hb => ?_)
  ·replace H := Zp H hb
   refine Zf (fun K hK740 => Zg (Zb 1 rfl (Zh (Zd hK740 (Zl (Ze (Zj ?_)))))))
   refine Ze (Ze (Zj (Ze (Zm rfl (RV.tmp rfl RV.nil) rfl ?_))))
   obtain rfl := QJ H
   replace hS := hS.cut 0
   exact ⟨rfl, hS⟩
  replace H := Zq H hb
  refine Zv (Zd hK648 (Zf (fun K hK742 => Zf (fun K hK743 => Yh 20 [] (fun _ _ => True) ⟨by kernel_rfl, by kernel_rfl⟩ hS (fun w hS hB => Zo [Tt,Tt,Tt,Tt,Tt,Tt,Tt,Tt,Tt,Tt,Tt] (by decide +kernel) PFC.h (LtK.put rfl rfl rfl (Zc Zz rfl) (LtK.put rfl rfl rfl (Zc Yg rfl) ?_)))))))
  refine LtK.put rfl rfl rfl (Zi Y6 rfl (Zgg _) hS hs0 trivial Xt) (LtK.put rfl rfl rfl (Zc Zz rfl) (LtK.put rfl rfl rfl (Zc Yg rfl) (LtK.put rfl rfl rfl (Zi Y6 rfl (Zgg _) hS hs9 trivial Xt) (LtK.put rfl rfl rfl (Yb Y1 rfl) ?_))))
  obtain ⟨l744, ht745, H⟩ := bind_some H
  refine LtK.put rfl rfl rfl (J1 Y1 rfl rfl k620.1 ht745) (LtK.put rfl rfl rfl (Zc Zz rfl) (LtK.put rfl rfl rfl (Zc Yg rfl) (LtK.put rfl rfl rfl (Zi Y6 rfl (Zgg _) hS hs9 trivial Xt) (LtK.nil (Yd [Ff,Ff,Ff,Ff,Ff,Ff,Ff,Ff,Ff,Ff,Ff,Tt] 11 ⟨by decide, by kernel_rfl, by kernel_rfl⟩ rfl rfl ?_)))))
  try dsimp only [Z2]
  obtain ⟨r746, hm747, H⟩ := bind_some H
  refine Zt rfl rfl rfl rfl (by kernel_rfl) rfl (Ja l744 x0.tuple.log A618 c619 A0_ c0_ _ (Zgi (Zdo k620 ht745) (Rd.takeI Vf (hS.rd X9) ht745) (hS.rd_blk X9)) (Zgi s0_.k (hS.rd0 s0_.rd) (hS.blk0 s0_.blk)) hm747) ?_
  rintro e w ⟨rfl, hN⟩; refine ⟨_, rfl, ?_⟩; obtain ⟨hB, hS⟩ := hS.jn hN
  refine Zh (Ye hB (Zo [Ff,Ff,Ff,Ff,Ff,Ff,Ff,Ff,Ff,Ff,Ff,Ff,Tt,Tt] (by decide +kernel) PFC.h (LtK.put rfl rfl rfl (Yt rfl) (LtK.put rfl rfl rfl (Zu rfl) (LtK.nil (Xf 152 rfl (fun hb => ?_) (fun hb => ?_)))))))
  ·replace H := Zp H hb
   refine Zo [Ff,Ff,Ff,Ff,Ff,Ff,Ff,Ff,Ff,Ff,Ff,Ff,Ff,Ff,Tt,Tt,Tt,Tt,Tt,Tt] (by decide +kernel) PFC.h (LtK.skip rfl rfl rfl (LtK.skip rfl rfl rfl (LtK.skip rfl rfl rfl (LtK.skip rfl rfl rfl (LtK.skip rfl rfl rfl (LtK.put rfl rfl rfl (Z9 rfl rfl rfl) (LtK.nil ?_)))))))
   refine Z5 (by kernel_rfl) (Zd hK743 (Zn rfl rfl (Zf (fun K hK749 => Zg (Zb 1 rfl (Zh (Zd hK749 ?_)))))))
   refine Zl (Ze (Zj (Ze (Ze (Zj (Ze (Zm rfl (RV.tmp rfl RV.nil) rfl ?_)))))))
   obtain rfl := QJ H
   replace hS := hS.cut 0
   exact ⟨rfl, hS⟩
  replace H := Zq H hb
  refine Zo [Ff,Ff,Ff,Ff,Ff,Ff,Ff,Ff,Ff,Ff,Ff,Ff,Ff,Ff,Tt,Tt,Tt,Tt,Tt,Tt] (by decide +kernel) PFC.h (LtK.put rfl rfl rfl (Zu rfl) (LtK.put rfl rfl rfl (Yb Y9 rfl) (LtK.put rfl rfl rfl (Zc Yx rfl) (LtK.put rfl rfl rfl (Zi Zy rfl (Zgg _) hS hs0 trivial Xd) (LtK.put rfl rfl rfl (Y8 rfl rfl) (LtK.put rfl rfl rfl (Yk rfl rfl rfl) (LtK.nil ?_)))))))
  refine Z5 (by kernel_rfl) (Zd hK743 (Zx rfl (fun hb => ?_) (fun hb => ?_)))
  ·replace H := Zp H hb
   refine Zf (fun K hK752 => Zg (Zb 1 rfl (Zh (Zd hK752 (Zl (Ze (Zj ?_)))))))
   refine Ze (Ze (Zj (Ze (Zm rfl (RV.tmp rfl RV.nil) rfl ?_))))
   obtain rfl := QJ H
   replace hS := hS.cut 0
   exact ⟨rfl, hS⟩
  replace H := Zq H hb
  refine Zv (Zd hK742 (Zf (fun K hK754 => Zf (fun K hK755 => Zg (Zb 1 rfl (Zh (Zd hK755 ?_)))))))
  refine Z6 (Vp (X := Nat × Bool × Int) (fun x => (1, .slice A5_ x1.length c5_) :: (2, .slice A6_ x2.length c6_) :: (3, .pointer (some ⟨b2, 0, none⟩)) :: (6, .bool x.2.1) :: (7, .int .i64 0) :: (10, .pointer (some ⟨b646, 0, none⟩)) :: (11, .slice A638 r616.2.length c639) :: (12, .int .i64 x.2.2) :: []) (fun x w => St0 All w0 w (.box b646 [.int .i64 r616.1.id, .int .i64 r616.1.n, .int .u8 r616.1.role, .int .i64 r616.1.binary, .int .i64 r616.1.tuple.snap.index, .int .i64 r616.1.tuple.snap.term, .int .i64 r616.1.tuple.snap.sum, .int .i64 r616.1.tuple.snap.level, .bool r616.1.tuple.snap.final, .slice A618 r616.1.tuple.log.length c619, .int .i64 r616.1.tuple.term, .int .i64 r616.1.tuple.vote, .int .i64 r616.1.commit, .int .i64 r616.1.applied.index, .int .i64 r616.1.applied.term, .int .i64 r616.1.applied.sum, .int .i64 r616.1.applied.level, .bool r616.1.applied.final, .slice A622 r616.1.votes.length c623, .slice A626 r616.1.next.length c627, .slice A630 r616.1.mtch.length c631, .slice A634 r616.1.caps.length c635] 30 :: .rd A618 (Z8 enE r616.1.tuple.log) :: .row (.slice A622 r616.1.votes.length c623) 4 1 r616.1.votes.length (Z8 enO r616.1.votes) :: .row (.slice A626 r616.1.next.length c627) 3 1 r616.1.next.length (Z8 Vr r616.1.next) :: .row (.slice A630 r616.1.mtch.length c631) 3 1 r616.1.mtch.length (Z8 Vr r616.1.mtch) :: .row (.slice A634 r616.1.caps.length c635) 3 1 r616.1.caps.length (Z8 Vr r616.1.caps) :: .rd A638 (Z8 enQ q642) :: .rds (q642.map Zfk) :: .box b612 [.int .u8 e607.kind, .int .i64 e607.frm, .int .i64 x0.id, .int .i64 e607.term, .int .i64 e607.cap, .int .i64 e607.last, .int .i64 e607.lastTerm, .int .i64 e607.commit, .bool e607.okk, .slice A610 e607.entries.length c611, .int .i64 e607.snap.index, .int .i64 e607.snap.term, .int .i64 e607.snap.sum, .int .i64 e607.snap.level, .bool e607.snap.final] 36 :: .box b2 [.int .i64 x0.id, .int .i64 x0.n, .int .u8 x0.role, .int .i64 x0.binary, .int .i64 x0.tuple.snap.index, .int .i64 x0.tuple.snap.term, .int .i64 x0.tuple.snap.sum, .int .i64 x0.tuple.snap.level, .bool x0.tuple.snap.final, .slice A0_ x0.tuple.log.length c0_, .int .i64 x0.tuple.term, .int .i64 x0.tuple.vote, .int .i64 x0.commit, .int .i64 x0.applied.index, .int .i64 x0.applied.term, .int .i64 x0.applied.sum, .int .i64 x0.applied.level, .bool x0.applied.final, .slice A1_ x0.votes.length c1_, .slice A2_ x0.next.length c2_, .slice A3_ x0.mtch.length c3_, .slice A4_ x0.caps.length c4_] 30 :: []) ∧ X5 x1 x2 r616 x.1 x.2.1 x.2.2 = some r) (fun x => x.1) (Yy, false, 0) (by repeat (first | exact Sub.nil | refine Sub.cons rfl ?_)) ⟨hS, H⟩ ?_)
  rintro ⟨n, v756, v757⟩ w ⟨hS, H⟩
  dsimp only at hS H ⊢
  obtain _ | n := n
  ·have H0 : none = some r := H
   cases H0
  rw [X5] at H
  refine Zf (fun K hK758 => Zf (fun K hK759 => Zg (Zb 2 rfl (Za rfl rfl rfl (Yb Y9 rfl) (Za rfl rfl rfl (Y4 rfl rfl) (Zh (Zd hK759 ?_)))))))
  refine Zx rfl (fun hb => ?_) (fun hb => ?_)
  rotate_left
  ·replace H := Zq H hb
   refine Xy (Z4 (Z4 (Yz (Zd hK754 (Zg (Za rfl rfl rfl (Zk Ya rfl (Zgf _) hS hs0 trivial Z1) (Zr rfl rfl rfl CellsOf.agg hS ps9 Yo (by kernel_rfl) rfl (fun w hS hB => ?_))))))))
   refine Zh (Zw (Zd hK586 (Zg (Zb 1 rfl (Za rfl rfl rfl (Xu rfl rfl) (Zb 1 rfl (Zh ?_)))))))
   replace hS := hS.front 9 rfl
   replace hS := hS.front 6 rfl
   replace hS := hS.front 6 rfl
   replace hS := hS.front 6 rfl
   replace hS := hS.front 6 rfl
   replace hS := hS.front 6 rfl
   replace hS := hS.cut 6
   exact QH_peel (Yy, 1, r616.1.id, r616.1.n, r616.1.role, r616.1.binary, r616.1.tuple.snap.index, r616.1.tuple.snap.term, r616.1.tuple.snap.sum, r616.1.tuple.snap.level, r616.1.tuple.snap.final, r616.1.tuple.log, A618, c619, r616.1.tuple.term, r616.1.tuple.vote, r616.1.commit, r616.1.applied.index, r616.1.applied.term, r616.1.applied.sum, r616.1.applied.level, r616.1.applied.final, r616.1.votes, A622, c623, r616.1.next, A626, c627, r616.1.mtch, A630, c631, r616.1.caps, A634, c635) (by repeat (first | exact Sub.nil | refine Sub.cons rfl ?_)) ⟨hS, k620, k624, k628, k632, k636, H⟩ (Nat.lt_succ_self _)
  replace H := Zp H hb
  refine Zv (Zd hK758 (Zf (fun K hK761 => Z6 (Zf (fun K hK762 => Yh 29 [] (fun _ _ => True) ⟨by kernel_rfl, by kernel_rfl⟩ hS (fun w hS hB => Zo [Tt,Tt,Tt,Tt,Tt,Tt] (by decide +kernel) PFC.h (LtK.put rfl rfl rfl (Zu rfl) ?_)))))))
  refine LtK.put rfl rfl rfl (Zu rfl) ?_
  obtain ⟨e763, hi765, H⟩ := bind_some H
  obtain ⟨j764, A766, c767, hi765a, hi765b, hi765c⟩ := Zar (q := q642) hq643 hi765
  refine LtK.put rfl rfl rfl (Y2 Y9 rfl rfl hi765a hi765c (Rd.el (hS.rd Vv) Yc hi765b)) (LtK.put rfl rfl rfl (V8 Vz rfl (Zgg _) (Rd.el (hS.rd Vv) Yc hi765b) X7) (LtK.put rfl rfl rfl (Zc Yx rfl) (LtK.put rfl rfl rfl (Zi Zy rfl (Zgg _) hS hs0 trivial Xd) (LtK.nil (Yd [Ff,Ff,Ff,Ff,Ff,Ff,Tt] 6 ⟨by decide, by kernel_rfl, by kernel_rfl⟩ rfl rfl ?_)))))
  try dsimp only [Z2]
  obtain ⟨r768, hm769, H⟩ := bind_some H
  refine Zt rfl rfl rfl rfl (by kernel_rfl) rfl (Jc e763 r616.1.n A766 c767 _ (SlW.of_rd (okq644 _ (List.mem_of_getElem? hi765b)) (hS.rds_rd hs7 hi765b)) hm769) ?_
  rintro e w ⟨rfl, hN⟩; refine ⟨_, rfl, ?_⟩; obtain ⟨hB, hS⟩ := hS.jn hN
  refine Zh (Ye hB (Zo [Ff,Ff,Ff,Ff,Ff,Ff,Ff,Tt,Tt] (by decide +kernel) PFC.h (LtK.put rfl rfl rfl (Yt rfl) (LtK.put rfl rfl rfl (Zu rfl) (LtK.nil (Xf 173 rfl (fun hb => ?_) (fun hb => ?_)))))))
  ·replace H := Zp H hb
   refine Zo [Ff,Ff,Ff,Ff,Ff,Ff,Ff,Ff,Ff,Tt,Tt,Tt,Tt,Tt,Tt,Tt,Tt,Tt,Tt,Tt,Tt,Tt,Tt,Tt,Tt,Tt,Tt,Tt,Tt] (by decide +kernel) PFC.h (LtK.skip rfl rfl rfl (LtK.skip rfl rfl rfl (LtK.skip rfl rfl rfl (LtK.skip rfl rfl rfl (LtK.skip rfl rfl rfl (LtK.skip rfl rfl rfl (LtK.skip rfl rfl rfl ?_)))))))
   refine LtK.skip rfl rfl rfl (LtK.put rfl rfl rfl (Z9 rfl rfl rfl) (LtK.put rfl rfl rfl (Zu rfl) (LtK.skip rfl rfl rfl (LtK.skip rfl rfl rfl (LtK.skip rfl rfl rfl (LtK.skip rfl rfl rfl (LtK.skip rfl rfl rfl ?_)))))))
   refine LtK.skip rfl rfl rfl (LtK.skip rfl rfl rfl (LtK.skip rfl rfl rfl (LtK.skip rfl rfl rfl (LtK.put rfl rfl rfl (Z9 rfl rfl rfl) (LtK.nil (Z5 (by kernel_rfl) (Zd hK762 ?_)))))))
   refine Zn rfl rfl (Zf (fun K hK771 => Zg (Zb 1 rfl (Zh (Zd hK771 (Zl (Zj ?_)))))))
   refine Ze (Ze (Zj (Ze (Zj (Ze (Ze (Zj ?_)))))))
   refine Ze (Zm rfl (RV.tmp rfl RV.nil) rfl ?_)
   obtain rfl := QJ H
   replace hS := hS.cut 0
   exact ⟨rfl, hS⟩
  replace H := Zq H hb
  refine Zo [Ff,Ff,Ff,Ff,Ff,Ff,Ff,Ff,Ff,Tt,Tt,Tt,Tt,Tt,Tt,Tt,Tt,Tt,Tt] (by decide +kernel) PFC.h (LtK.put rfl rfl rfl (Zu rfl) (LtK.put rfl rfl rfl (Zu rfl) ?_))
  obtain ⟨e773, hi775, H⟩ := bind_some H
  obtain ⟨j774, A776, c777, hi775a, hi775b, hi775c⟩ := Zar (q := q642) hq643 hi775
  refine LtK.put rfl rfl rfl (Y2 Y9 rfl rfl hi775a hi775c (Rd.el (hS.rd Vv) Yc hi775b)) (LtK.put rfl rfl rfl (Y0 Ji rfl (Rd.el (hS.rd Vv) Yc hi775b)) (LtK.put rfl rfl rfl (Za6 Zy rfl (Zgg _) (Rd.el (hS.rd Vv) Yc hi775b) rfl) (LtK.put rfl rfl rfl (Zc Xb rfl) (LtK.put rfl rfl rfl (Zi Zy rfl (Zgg _) hS hs0 trivial Yw) (LtK.put rfl rfl rfl (Yl rfl rfl) (LtK.put rfl rfl rfl (Yk rfl rfl rfl) (LtK.put rfl rfl rfl (Zu rfl) ?_)))))))
  refine LtK.nil (Xf 183 rfl (fun hb => ?_) (fun hb => ?_))
  ·replace H := Zp H hb
   refine Zo [Ff,Ff,Ff,Ff,Ff,Ff,Ff,Ff,Ff,Ff,Ff,Ff,Ff,Ff,Ff,Ff,Ff,Ff,Ff,Tt,Tt,Tt,Tt,Tt,Tt,Tt,Tt,Tt,Tt] (by decide +kernel) PFC.h (LtK.skip rfl rfl rfl (LtK.skip rfl rfl rfl (LtK.skip rfl rfl rfl (LtK.skip rfl rfl rfl (LtK.skip rfl rfl rfl (LtK.skip rfl rfl rfl (LtK.skip rfl rfl rfl ?_)))))))
   refine LtK.skip rfl rfl rfl (LtK.skip rfl rfl rfl (LtK.put rfl rfl rfl (Z9 rfl rfl rfl) (LtK.nil (Z5 (by kernel_rfl) (Zd hK762 (Zn rfl rfl (Zf (fun K hK779 => ?_))))))))
   refine Zg (Zb 1 rfl (Zh (Zd hK779 (Zl (Zj (Ze (Ze ?_)))))))
   refine Zj (Ze (Zj (Ze (Ze (Zj (Ze (Zm rfl (RV.tmp rfl RV.nil) rfl ?_)))))))
   obtain rfl := QJ H
   replace hS := hS.cut 0
   exact ⟨rfl, hS⟩
  replace H := Zq H hb
  refine Zo [Ff,Ff,Ff,Ff,Ff,Ff,Ff,Ff,Ff,Ff,Ff,Ff,Ff,Ff,Ff,Ff,Ff,Ff,Ff,Tt,Tt,Tt,Tt,Tt,Tt,Tt,Tt,Tt,Tt] (by decide +kernel) PFC.h (LtK.put rfl rfl rfl (Zu rfl) (LtK.put rfl rfl rfl (Zu rfl) ?_))
  obtain ⟨e781, hi783, H⟩ := bind_some H
  obtain ⟨j782, A784, c785, hi783a, hi783b, hi783c⟩ := Zar (q := q642) hq643 hi783
  refine LtK.put rfl rfl rfl (Y2 Y9 rfl rfl hi783a hi783c (Rd.el (hS.rd Vv) Yc hi783b)) (LtK.put rfl rfl rfl (Y0 Je rfl (Rd.el (hS.rd Vv) Yc hi783b)) (LtK.put rfl rfl rfl (Za6 Zy rfl (Zgg _) (Rd.el (hS.rd Vv) Yc hi783b) rfl) (LtK.put rfl rfl rfl (Zc Zz rfl) (LtK.put rfl rfl rfl (Zc Xc rfl) (LtK.put rfl rfl rfl (Zi Zy rfl (Zgg _) hS hs0 trivial Xv) (LtK.put rfl rfl rfl (Yl rfl rfl) (LtK.put rfl rfl rfl (Yk rfl rfl rfl) ?_)))))))
  refine LtK.nil (Z5 (by kernel_rfl) (Zd hK762 (Zx rfl (fun hb => ?_) (fun hb => ?_))))
  rotate_left
  ·replace H := Zq H hb
   refine Zv (Zw (Zd hK761 (Zg (Zb 1 rfl (Za rfl rfl rfl (Xu rfl rfl) (Zb 1 rfl (Zh ?_)))))))
   exact Xo (n, v756, (IntKind.wrap .i64 (v757 + 1))) (by repeat (first | exact Sub.nil | refine Sub.cons rfl ?_)) ⟨hS, H⟩ (Nat.lt_succ_self _)
  replace H := Zp H hb
  refine Zf (fun K hK787 => Zg (Zb 1 rfl (Zh (Zd hK787 (Zl (Zj (Ze ?_)))))))
  refine Ze (Zj (Ze (Zj (Ze (Ze (Zj (Ze ?_)))))))
  refine Zm rfl (RV.tmp rfl RV.nil) rfl ?_
  obtain rfl := QJ H
  replace hS := hS.cut 0
  exact ⟨rfl, hS⟩
 replace H := Zp H hb
 refine Za rfl rfl rfl (Zc Zz rfl) (Za rfl rfl rfl (Zc Vq rfl) (Za rfl rfl rfl (Zi Zy rfl (Zgf _) hS hs0 trivial Zbz) (Za rfl rfl rfl (Zc Zz rfl) (Za rfl rfl rfl (Zc Vq rfl) (Za rfl rfl rfl (Zi Zy rfl (Zgf _) hS hs9 trivial Zbz) (Za rfl rfl rfl (Yl rfl rfl) (Zb 3 rfl ?_)))))))
 refine Zs 98 rfl (fun hb => ?_) (fun hb => ?_)
 ·replace H := Zp H hb
  refine Zb 40 rfl (Zh (Zd hK649 (Zn rfl rfl (Zf (fun K hK661 => Zg (Zb 1 rfl (Zh ?_)))))))
  refine Zd hK661 (Zl (Ze (Zj (Ze (Ze (Zj (Ze ?_)))))))
  refine Zm rfl (RV.tmp rfl RV.nil) rfl ?_
  obtain rfl := QJ H
  replace hS := hS.cut 0
  exact ⟨rfl, hS⟩
 replace H := Zq H hb
 refine Za rfl rfl rfl (Zc Zz rfl) (Za rfl rfl rfl (Zc Yg rfl) (Za rfl rfl rfl (Zi Y6 rfl (Zgf _) hS hs0 trivial Xt) (Za rfl rfl rfl (Yb Y1 rfl) (Za rfl rfl rfl (Zc Zz rfl) (Za rfl rfl rfl (Zc Yg rfl) (Za rfl rfl rfl (Zi Y6 rfl (Zgf _) hS hs9 trivial Xt) (Za rfl rfl rfl (Yb Y1 rfl) ?_)))))))
 refine Za rfl rfl rfl (Y4 rfl rfl) (Zb 2 rfl (Zs 109 rfl (fun hb => ?_) (fun hb => ?_)))
 ·replace H := Zp H hb
  refine Zb 29 rfl (Zh (Zd hK649 (Zn rfl rfl (Zf (fun K hK664 => Zg (Zb 1 rfl (Zh ?_)))))))
  refine Zd hK664 (Zl (Ze (Zj (Ze (Ze (Zj (Ze ?_)))))))
  refine Zm rfl (RV.tmp rfl RV.nil) rfl ?_
  obtain rfl := QJ H
  replace hS := hS.cut 0
  exact ⟨rfl, hS⟩
 replace H := Zq H hb
 refine Za rfl rfl rfl (Zc V6 rfl) (Za rfl rfl rfl (Zi Zy rfl (Zgf _) hS hs0 trivial J9) (Za rfl rfl rfl (Zc V6 rfl) (Za rfl rfl rfl (Zi Zy rfl (Zgf _) hS hs9 trivial J9) (Za rfl rfl rfl (Yl rfl rfl) (Zb 2 rfl (Zs 116 rfl (fun hb => ?_) (fun hb => ?_)))))))
 ·replace H := Zp H hb
  refine Zb 22 rfl (Zh (Zd hK649 (Zn rfl rfl (Zf (fun K hK667 => Zg (Zb 1 rfl (Zh ?_)))))))
  refine Zd hK667 (Zl (Ze (Zj (Ze (Ze (Zj (Ze ?_)))))))
  refine Zm rfl (RV.tmp rfl RV.nil) rfl ?_
  obtain rfl := QJ H
  replace hS := hS.cut 0
  exact ⟨rfl, hS⟩
 replace H := Zq H hb
 refine Za rfl rfl rfl (Zc Zz rfl) (Za rfl rfl rfl (Zc Xe rfl) (Za rfl rfl rfl (Zk Y3 rfl (Zgf _) hS hs0 trivial Zb1) (Za rfl rfl rfl (Zc Zz rfl) (Za rfl rfl rfl (Zc Xe rfl) (Za rfl rfl rfl (Zk Y3 rfl (Zgf _) hS hs9 trivial Zb1) (Za rfl rfl rfl (Zb0 (by kernel_rfl) rfl rfl (Jg _ _ _ _ _ _ _ _ _ _)) (Zb 2 rfl ?_)))))))
 refine Zs 125 rfl (fun hb => ?_) (fun hb => ?_)
 ·replace H := Zp H hb
  refine Zb 13 rfl (Zh (Zd hK649 (Zn rfl rfl (Zf (fun K hK670 => Zg (Zb 1 rfl (Zh ?_)))))))
  refine Zd hK670 (Zl (Ze (Zj (Ze (Ze (Zj (Ze ?_)))))))
  refine Zm rfl (RV.tmp rfl RV.nil) rfl ?_
  obtain rfl := QJ H
  replace hS := hS.cut 0
  exact ⟨rfl, hS⟩
 replace H := Zq H hb
 refine Za rfl rfl rfl (Zc Xb rfl) (Za rfl rfl rfl (Zi Zy rfl (Zgf _) hS hs0 trivial Yw) (Za rfl rfl rfl (Zc Xb rfl) (Za rfl rfl rfl (Zi Zy rfl (Zgf _) hS hs9 trivial Yw) (Za rfl rfl rfl (Yl rfl rfl) (Zb 2 rfl (Zs 132 rfl (fun hb => ?_) (fun hb => ?_)))))))
 ·replace H := Zp H hb
  refine Zb 6 rfl (Zh (Zd hK649 (Zn rfl rfl (Zf (fun K hK673 => Zg (Zb 1 rfl (Zh ?_)))))))
  refine Zd hK673 (Zl (Ze (Zj (Ze (Ze (Zj (Ze ?_)))))))
  refine Zm rfl (RV.tmp rfl RV.nil) rfl ?_
  obtain rfl := QJ H
  replace hS := hS.cut 0
  exact ⟨rfl, hS⟩
 replace H := Zq H hb
 refine Za rfl rfl rfl (Zc Yx rfl) (Za rfl rfl rfl (Zi Zy rfl (Zgf _) hS hs0 trivial Xd) (Za rfl rfl rfl (Zc Yx rfl) (Za rfl rfl rfl (Zi Zy rfl (Zgf _) hS hs9 trivial Xd) (Za rfl rfl rfl (Yl rfl rfl) (Zb 1 rfl (Zh (Zd hK649 ?_)))))))
 refine Zx rfl (fun hb => ?_) (fun hb => ?_)
 ·replace H := Zp H hb
  refine Zf (fun K hK676 => Zg (Zb 1 rfl (Zh (Zd hK676 (Zl (Ze (Zj ?_)))))))
  refine Ze (Ze (Zj (Ze (Zm rfl (RV.tmp rfl RV.nil) rfl ?_))))
  obtain rfl := QJ H
  replace hS := hS.cut 0
  exact ⟨rfl, hS⟩
 replace H := Zq H hb
 refine Zv (Zd hK648 (Zf (fun K hK678 => Zf (fun K hK679 => Yh 20 [] (fun _ _ => True) ⟨by kernel_rfl, by kernel_rfl⟩ hS (fun w hS hB => Zo [Tt,Tt,Tt,Tt,Tt,Tt,Tt,Tt,Tt,Tt,Tt] (by decide +kernel) PFC.h (LtK.put rfl rfl rfl (Zc Zz rfl) (LtK.put rfl rfl rfl (Zc Yg rfl) ?_)))))))
 refine LtK.put rfl rfl rfl (Zi Y6 rfl (Zgg _) hS hs0 trivial Xt) (LtK.put rfl rfl rfl (Zc Zz rfl) (LtK.put rfl rfl rfl (Zc Yg rfl) (LtK.put rfl rfl rfl (Zi Y6 rfl (Zgg _) hS hs9 trivial Xt) (LtK.put rfl rfl rfl (Yb Y1 rfl) ?_))))
 obtain ⟨l680, ht681, H⟩ := bind_some H
 refine LtK.put rfl rfl rfl (J1 Y1 rfl rfl k620.1 ht681) (LtK.put rfl rfl rfl (Zc Zz rfl) (LtK.put rfl rfl rfl (Zc Yg rfl) (LtK.put rfl rfl rfl (Zi Y6 rfl (Zgg _) hS hs9 trivial Xt) (LtK.nil (Yd [Ff,Ff,Ff,Ff,Ff,Ff,Ff,Ff,Ff,Ff,Ff,Tt] 11 ⟨by decide, by kernel_rfl, by kernel_rfl⟩ rfl rfl ?_)))))
 try dsimp only [Z2]
 obtain ⟨r682, hm683, H⟩ := bind_some H
 refine Zt rfl rfl rfl rfl (by kernel_rfl) rfl (Ja l680 x0.tuple.log A618 c619 A0_ c0_ _ (Zgi (Zdo k620 ht681) (Rd.takeI Vf (hS.rd X9) ht681) (hS.rd_blk X9)) (Zgi s0_.k (hS.rd0 s0_.rd) (hS.blk0 s0_.blk)) hm683) ?_
 rintro e w ⟨rfl, hN⟩; refine ⟨_, rfl, ?_⟩; obtain ⟨hB, hS⟩ := hS.jn hN
 refine Zh (Ye hB (Zo [Ff,Ff,Ff,Ff,Ff,Ff,Ff,Ff,Ff,Ff,Ff,Ff,Tt,Tt] (by decide +kernel) PFC.h (LtK.put rfl rfl rfl (Yt rfl) (LtK.put rfl rfl rfl (Zu rfl) (LtK.nil (Xf 152 rfl (fun hb => ?_) (fun hb => ?_)))))))
 ·replace H := Zp H hb
  refine Zo [Ff,Ff,Ff,Ff,Ff,Ff,Ff,Ff,Ff,Ff,Ff,Ff,Ff,Ff,Tt,Tt,Tt,Tt,Tt,Tt] (by decide +kernel) PFC.h (LtK.skip rfl rfl rfl (LtK.skip rfl rfl rfl (LtK.skip rfl rfl rfl (LtK.skip rfl rfl rfl (LtK.skip rfl rfl rfl (LtK.put rfl rfl rfl (Z9 rfl rfl rfl) (LtK.nil ?_)))))))
  refine Z5 (by kernel_rfl) (Zd hK679 (Zn rfl rfl (Zf (fun K hK685 => Zg (Zb 1 rfl (Zh (Zd hK685 ?_)))))))
  refine Zl (Ze (Zj (Ze (Ze (Zj (Ze (Zm rfl (RV.tmp rfl RV.nil) rfl ?_)))))))
  obtain rfl := QJ H
  replace hS := hS.cut 0
  exact ⟨rfl, hS⟩
 replace H := Zq H hb
 refine Zo [Ff,Ff,Ff,Ff,Ff,Ff,Ff,Ff,Ff,Ff,Ff,Ff,Ff,Ff,Tt,Tt,Tt,Tt,Tt,Tt] (by decide +kernel) PFC.h (LtK.put rfl rfl rfl (Zu rfl) (LtK.put rfl rfl rfl (Yb Y9 rfl) (LtK.put rfl rfl rfl (Zc Yx rfl) (LtK.put rfl rfl rfl (Zi Zy rfl (Zgg _) hS hs0 trivial Xd) (LtK.put rfl rfl rfl (Y8 rfl rfl) (LtK.put rfl rfl rfl (Yk rfl rfl rfl) (LtK.nil ?_)))))))
 refine Z5 (by kernel_rfl) (Zd hK679 (Zx rfl (fun hb => ?_) (fun hb => ?_)))
 ·replace H := Zp H hb
  refine Zf (fun K hK688 => Zg (Zb 1 rfl (Zh (Zd hK688 (Zl (Ze (Zj ?_)))))))
  refine Ze (Ze (Zj (Ze (Zm rfl (RV.tmp rfl RV.nil) rfl ?_))))
  obtain rfl := QJ H
  replace hS := hS.cut 0
  exact ⟨rfl, hS⟩
 replace H := Zq H hb
 refine Zv (Zd hK678 (Zf (fun K hK690 => Zf (fun K hK691 => Zg (Zb 1 rfl (Zh (Zd hK691 ?_)))))))
 refine Z6 (Vp (X := Nat × Bool × Int) (fun x => (1, .slice A5_ x1.length c5_) :: (2, .slice A6_ x2.length c6_) :: (3, .pointer (some ⟨b2, 0, none⟩)) :: (6, .bool x.2.1) :: (7, .int .i64 0) :: (10, .pointer (some ⟨b646, 0, none⟩)) :: (11, .slice A638 r616.2.length c639) :: (12, .int .i64 x.2.2) :: []) (fun x w => St0 All w0 w (.box b646 [.int .i64 r616.1.id, .int .i64 r616.1.n, .int .u8 r616.1.role, .int .i64 r616.1.binary, .int .i64 r616.1.tuple.snap.index, .int .i64 r616.1.tuple.snap.term, .int .i64 r616.1.tuple.snap.sum, .int .i64 r616.1.tuple.snap.level, .bool r616.1.tuple.snap.final, .slice A618 r616.1.tuple.log.length c619, .int .i64 r616.1.tuple.term, .int .i64 r616.1.tuple.vote, .int .i64 r616.1.commit, .int .i64 r616.1.applied.index, .int .i64 r616.1.applied.term, .int .i64 r616.1.applied.sum, .int .i64 r616.1.applied.level, .bool r616.1.applied.final, .slice A622 r616.1.votes.length c623, .slice A626 r616.1.next.length c627, .slice A630 r616.1.mtch.length c631, .slice A634 r616.1.caps.length c635] 30 :: .rd A618 (Z8 enE r616.1.tuple.log) :: .row (.slice A622 r616.1.votes.length c623) 4 1 r616.1.votes.length (Z8 enO r616.1.votes) :: .row (.slice A626 r616.1.next.length c627) 3 1 r616.1.next.length (Z8 Vr r616.1.next) :: .row (.slice A630 r616.1.mtch.length c631) 3 1 r616.1.mtch.length (Z8 Vr r616.1.mtch) :: .row (.slice A634 r616.1.caps.length c635) 3 1 r616.1.caps.length (Z8 Vr r616.1.caps) :: .rd A638 (Z8 enQ q642) :: .rds (q642.map Zfk) :: .box b612 [.int .u8 e607.kind, .int .i64 e607.frm, .int .i64 x0.id, .int .i64 e607.term, .int .i64 e607.cap, .int .i64 e607.last, .int .i64 e607.lastTerm, .int .i64 e607.commit, .bool e607.okk, .slice A610 e607.entries.length c611, .int .i64 e607.snap.index, .int .i64 e607.snap.term, .int .i64 e607.snap.sum, .int .i64 e607.snap.level, .bool e607.snap.final] 36 :: .box b2 [.int .i64 x0.id, .int .i64 x0.n, .int .u8 x0.role, .int .i64 x0.binary, .int .i64 x0.tuple.snap.index, .int .i64 x0.tuple.snap.term, .int .i64 x0.tuple.snap.sum, .int .i64 x0.tuple.snap.level, .bool x0.tuple.snap.final, .slice A0_ x0.tuple.log.length c0_, .int .i64 x0.tuple.term, .int .i64 x0.tuple.vote, .int .i64 x0.commit, .int .i64 x0.applied.index, .int .i64 x0.applied.term, .int .i64 x0.applied.sum, .int .i64 x0.applied.level, .bool x0.applied.final, .slice A1_ x0.votes.length c1_, .slice A2_ x0.next.length c2_, .slice A3_ x0.mtch.length c3_, .slice A4_ x0.caps.length c4_] 30 :: []) ∧ X1 x1 x2 r616 x.1 x.2.1 x.2.2 = some r) (fun x => x.1) (Yy, false, 0) (by repeat (first | exact Sub.nil | refine Sub.cons rfl ?_)) ⟨hS, H⟩ ?_)
 rintro ⟨n, v692, v693⟩ w ⟨hS, H⟩
 dsimp only at hS H ⊢
 obtain _ | n := n
 ·have H0 : none = some r := H
  cases H0
 rw [X1] at H
 refine Zf (fun K hK694 => Zf (fun K hK695 => Zg (Zb 2 rfl (Za rfl rfl rfl (Yb Y9 rfl) (Za rfl rfl rfl (Y4 rfl rfl) (Zh (Zd hK695 ?_)))))))
 refine Zx rfl (fun hb => ?_) (fun hb => ?_)
 rotate_left
 ·replace H := Zq H hb
  refine Xy (Z4 (Z4 (Yz (Zd hK690 (Zg (Za rfl rfl rfl (Zk Ya rfl (Zgf _) hS hs0 trivial Z1) (Zr rfl rfl rfl CellsOf.agg hS ps9 Yo (by kernel_rfl) rfl (fun w hS hB => ?_))))))))
  refine Zh (Zw (Zd hK586 (Zg (Zb 1 rfl (Za rfl rfl rfl (Xu rfl rfl) (Zb 1 rfl (Zh ?_)))))))
  replace hS := hS.front 9 rfl
  replace hS := hS.front 6 rfl
  replace hS := hS.front 6 rfl
  replace hS := hS.front 6 rfl
  replace hS := hS.front 6 rfl
  replace hS := hS.front 6 rfl
  replace hS := hS.cut 6
  exact QH_peel (Yy, 1, r616.1.id, r616.1.n, r616.1.role, r616.1.binary, r616.1.tuple.snap.index, r616.1.tuple.snap.term, r616.1.tuple.snap.sum, r616.1.tuple.snap.level, r616.1.tuple.snap.final, r616.1.tuple.log, A618, c619, r616.1.tuple.term, r616.1.tuple.vote, r616.1.commit, r616.1.applied.index, r616.1.applied.term, r616.1.applied.sum, r616.1.applied.level, r616.1.applied.final, r616.1.votes, A622, c623, r616.1.next, A626, c627, r616.1.mtch, A630, c631, r616.1.caps, A634, c635) (by repeat (first | exact Sub.nil | refine Sub.cons rfl ?_)) ⟨hS, k620, k624, k628, k632, k636, H⟩ (Nat.lt_succ_self _)
 replace H := Zp H hb
 refine Zv (Zd hK694 (Zf (fun K hK697 => Z6 (Zf (fun K hK698 => Yh 29 [] (fun _ _ => True) ⟨by kernel_rfl, by kernel_rfl⟩ hS (fun w hS hB => Zo [Tt,Tt,Tt,Tt,Tt,Tt] (by decide +kernel) PFC.h (LtK.put rfl rfl rfl (Zu rfl) ?_)))))))
 refine LtK.put rfl rfl rfl (Zu rfl) ?_
 obtain ⟨e699, hi701, H⟩ := bind_some H
 obtain ⟨j700, A702, c703, hi701a, hi701b, hi701c⟩ := Zar (q := q642) hq643 hi701
 refine LtK.put rfl rfl rfl (Y2 Y9 rfl rfl hi701a hi701c (Rd.el (hS.rd Vv) Yc hi701b)) (LtK.put rfl rfl rfl (V8 Vz rfl (Zgg _) (Rd.el (hS.rd Vv) Yc hi701b) X7) (LtK.put rfl rfl rfl (Zc Yx rfl) (LtK.put rfl rfl rfl (Zi Zy rfl (Zgg _) hS hs0 trivial Xd) (LtK.nil (Yd [Ff,Ff,Ff,Ff,Ff,Ff,Tt] 6 ⟨by decide, by kernel_rfl, by kernel_rfl⟩ rfl rfl ?_)))))
 try dsimp only [Z2]
 obtain ⟨r704, hm705, H⟩ := bind_some H
 refine Zt rfl rfl rfl rfl (by kernel_rfl) rfl (Jc e699 r616.1.n A702 c703 _ (SlW.of_rd (okq644 _ (List.mem_of_getElem? hi701b)) (hS.rds_rd hs7 hi701b)) hm705) ?_
 rintro e w ⟨rfl, hN⟩; refine ⟨_, rfl, ?_⟩; obtain ⟨hB, hS⟩ := hS.jn hN
 refine Zh (Ye hB (Zo [Ff,Ff,Ff,Ff,Ff,Ff,Ff,Tt,Tt] (by decide +kernel) PFC.h (LtK.put rfl rfl rfl (Yt rfl) (LtK.put rfl rfl rfl (Zu rfl) (LtK.nil (Xf 173 rfl (fun hb => ?_) (fun hb => ?_)))))))
 ·replace H := Zp H hb
  refine Zo [Ff,Ff,Ff,Ff,Ff,Ff,Ff,Ff,Ff,Tt,Tt,Tt,Tt,Tt,Tt,Tt,Tt,Tt,Tt,Tt,Tt,Tt,Tt,Tt,Tt,Tt,Tt,Tt,Tt] (by decide +kernel) PFC.h (LtK.skip rfl rfl rfl (LtK.skip rfl rfl rfl (LtK.skip rfl rfl rfl (LtK.skip rfl rfl rfl (LtK.skip rfl rfl rfl (LtK.skip rfl rfl rfl (LtK.skip rfl rfl rfl ?_)))))))
  refine LtK.skip rfl rfl rfl (LtK.put rfl rfl rfl (Z9 rfl rfl rfl) (LtK.put rfl rfl rfl (Zu rfl) (LtK.skip rfl rfl rfl (LtK.skip rfl rfl rfl (LtK.skip rfl rfl rfl (LtK.skip rfl rfl rfl (LtK.skip rfl rfl rfl ?_)))))))
  refine LtK.skip rfl rfl rfl (LtK.skip rfl rfl rfl (LtK.skip rfl rfl rfl (LtK.skip rfl rfl rfl (LtK.put rfl rfl rfl (Z9 rfl rfl rfl) (LtK.nil (Z5 (by kernel_rfl) (Zd hK698 ?_)))))))
  refine Zn rfl rfl (Zf (fun K hK707 => Zg (Zb 1 rfl (Zh (Zd hK707 (Zl (Zj ?_)))))))
  refine Ze (Ze (Zj (Ze (Zj (Ze (Ze (Zj ?_)))))))
  refine Ze (Zm rfl (RV.tmp rfl RV.nil) rfl ?_)
  obtain rfl := QJ H
  replace hS := hS.cut 0
  exact ⟨rfl, hS⟩
 replace H := Zq H hb
 refine Zo [Ff,Ff,Ff,Ff,Ff,Ff,Ff,Ff,Ff,Tt,Tt,Tt,Tt,Tt,Tt,Tt,Tt,Tt,Tt] (by decide +kernel) PFC.h (LtK.put rfl rfl rfl (Zu rfl) (LtK.put rfl rfl rfl (Zu rfl) ?_))
 obtain ⟨e709, hi711, H⟩ := bind_some H
 obtain ⟨j710, A712, c713, hi711a, hi711b, hi711c⟩ := Zar (q := q642) hq643 hi711
 refine LtK.put rfl rfl rfl (Y2 Y9 rfl rfl hi711a hi711c (Rd.el (hS.rd Vv) Yc hi711b)) (LtK.put rfl rfl rfl (Y0 Ji rfl (Rd.el (hS.rd Vv) Yc hi711b)) (LtK.put rfl rfl rfl (Za6 Zy rfl (Zgg _) (Rd.el (hS.rd Vv) Yc hi711b) rfl) (LtK.put rfl rfl rfl (Zc Xb rfl) (LtK.put rfl rfl rfl (Zi Zy rfl (Zgg _) hS hs0 trivial Yw) (LtK.put rfl rfl rfl (Yl rfl rfl) (LtK.put rfl rfl rfl (Yk rfl rfl rfl) (LtK.put rfl rfl rfl (Zu rfl) ?_)))))))
 refine LtK.nil (Xf 183 rfl (fun hb => ?_) (fun hb => ?_))
 ·replace H := Zp H hb
  refine Zo [Ff,Ff,Ff,Ff,Ff,Ff,Ff,Ff,Ff,Ff,Ff,Ff,Ff,Ff,Ff,Ff,Ff,Ff,Ff,Tt,Tt,Tt,Tt,Tt,Tt,Tt,Tt,Tt,Tt] (by decide +kernel) PFC.h (LtK.skip rfl rfl rfl (LtK.skip rfl rfl rfl (LtK.skip rfl rfl rfl (LtK.skip rfl rfl rfl (LtK.skip rfl rfl rfl (LtK.skip rfl rfl rfl (LtK.skip rfl rfl rfl ?_)))))))
  refine LtK.skip rfl rfl rfl (LtK.skip rfl rfl rfl (LtK.put rfl rfl rfl (Z9 rfl rfl rfl) (LtK.nil (Z5 (by kernel_rfl) (Zd hK698 (Zn rfl rfl (Zf (fun K hK715 => ?_))))))))
  refine Zg (Zb 1 rfl (Zh (Zd hK715 (Zl (Zj (Ze (Ze ?_)))))))
  refine Zj (Ze (Zj (Ze (Ze (Zj (Ze (Zm rfl (RV.tmp rfl RV.nil) rfl ?_)))))))
  obtain rfl := QJ H
  replace hS := hS.cut 0
  exact ⟨rfl, hS⟩
 replace H := Zq H hb
 refine Zo [Ff,Ff,Ff,Ff,Ff,Ff,Ff,Ff,Ff,Ff,Ff,Ff,Ff,Ff,Ff,Ff,Ff,Ff,Ff,Tt,Tt,Tt,Tt,Tt,Tt,Tt,Tt,Tt,Tt] (by decide +kernel) PFC.h (LtK.put rfl rfl rfl (Zu rfl) (LtK.put rfl rfl rfl (Zu rfl) ?_))
 obtain ⟨e717, hi719, H⟩ := bind_some H
 obtain ⟨j718, A720, c721, hi719a, hi719b, hi719c⟩ := Zar (q := q642) hq643 hi719
 refine LtK.put rfl rfl rfl (Y2 Y9 rfl rfl hi719a hi719c (Rd.el (hS.rd Vv) Yc hi719b)) (LtK.put rfl rfl rfl (Y0 Je rfl (Rd.el (hS.rd Vv) Yc hi719b)) (LtK.put rfl rfl rfl (Za6 Zy rfl (Zgg _) (Rd.el (hS.rd Vv) Yc hi719b) rfl) (LtK.put rfl rfl rfl (Zc Zz rfl) (LtK.put rfl rfl rfl (Zc Xc rfl) (LtK.put rfl rfl rfl (Zi Zy rfl (Zgg _) hS hs0 trivial Xv) (LtK.put rfl rfl rfl (Yl rfl rfl) (LtK.put rfl rfl rfl (Yk rfl rfl rfl) ?_)))))))
 refine LtK.nil (Z5 (by kernel_rfl) (Zd hK698 (Zx rfl (fun hb => ?_) (fun hb => ?_))))
 rotate_left
 ·replace H := Zq H hb
  refine Zv (Zw (Zd hK697 (Zg (Zb 1 rfl (Za rfl rfl rfl (Xu rfl rfl) (Zb 1 rfl (Zh ?_)))))))
  exact Xo (n, v692, (IntKind.wrap .i64 (v693 + 1))) (by repeat (first | exact Sub.nil | refine Sub.cons rfl ?_)) ⟨hS, H⟩ (Nat.lt_succ_self _)
 replace H := Zp H hb
 refine Zf (fun K hK723 => Zg (Zb 1 rfl (Zh (Zd hK723 (Zl (Zj (Ze ?_)))))))
 refine Ze (Zj (Ze (Zj (Ze (Ze (Zj (Ze ?_)))))))
 refine Zm rfl (RV.tmp rfl RV.nil) rfl ?_
 obtain rfl := QJ H
 replace hS := hS.cut 0
 exact ⟨rfl, hS⟩
end Go.Proofs.Ytamjlcaoieliaaa
