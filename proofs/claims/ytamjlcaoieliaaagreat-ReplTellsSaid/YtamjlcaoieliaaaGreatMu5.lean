/- Texts of one claim put together. -/
import Derived.Test.YtamjlcaoieliaaaGreatMu1
import Derived.Test.YtamjlcaoieliaaaGreatMu2
import Derived.Test.YtamjlcaoieliaaaGreatMu4
namespace Go.Proofs.YtamjlcaoieliaaaGreat
open Go Go.RowKit
set_option maxRecDepth 100000
set_option maxHeartbeats 4000000
theorem c_ref20_Fine (x0 : Ms) (x1 : Int) (A0_ : OA) (c0_ : Nat) (w0 : World) (s0_ : SlI w0 Vv A0_ c0_ x0.entries) {r : Bool} (H : Zc2 x0 x1 = some r) : Calls Tryz.prog 42 #[.agg #[.int .u8 x0.kind, .int .i64 x0.frm, .int .i64 x0.dst, .int .i64 x0.term, .int .i64 x0.cap, .int .i64 x0.last, .int .i64 x0.lastTerm, .int .i64 x0.commit, .bool x0.okk, .slice A0_ x0.entries.length c0_, .int .i64 x0.snap.index, .int .i64 x0.snap.term, .int .i64 x0.snap.sum, .int .i64 x0.snap.level, .bool x0.snap.final], .int .i64 x1] w0 fun e w' => e = .returned (.bool r) ∧ St0 All w0 w' [] := by
 unfold Zc2 at H
 refine Yn Tryz.func42 rfl Tryz.ntmps42 rfl ?_
 have hS := St0.start All w0
 refine Zd (fun K hK1 => Ze (Z4 rfl rfl rfl CellsOf.agg hS (fun b2 w hS hB => Zb 1 rfl (Zg (Zc hK1 (Zd (fun K hK4 => Zd (fun K hK5 => ?_))))))))
 refine Ze (Zb 1 rfl (Za rfl rfl rfl (Xk rfl rfl) (Zb 1 rfl (Zs 7 rfl (fun hb => ?_) (fun hb => ?_)))))
 ·replace H := Zp H hb
  refine Zb 62 rfl (Zg (Zc hK5 (Zt rfl rfl (Zd (fun K hK7 => Ze (Zb 1 rfl (Zg ?_)))))))
  refine Zc hK7 (Zk (Zj (Zm rfl (RV.tmp rfl RV.nil) rfl ?_)))
  obtain rfl := QJ H
  replace hS := hS.cut 0
  exact ⟨rfl, hS⟩
 replace H := Zo H hb
 refine Zb 1 rfl (Za rfl rfl rfl (Xc rfl rfl) (Zb 2 rfl (Zs 11 rfl (fun hb => ?_) (fun hb => ?_))))
 ·replace H := Zp H hb
  refine Zb 58 rfl (Zg (Zc hK5 (Zt rfl rfl (Zd (fun K hK10 => Ze (Zb 1 rfl (Zg ?_)))))))
  refine Zc hK10 (Zk (Zj (Zm rfl (RV.tmp rfl RV.nil) rfl ?_)))
  obtain rfl := QJ H
  replace hS := hS.cut 0
  exact ⟨rfl, hS⟩
 replace H := Zo H hb
 refine Za rfl rfl rfl (Zf Zck rfl) (Za rfl rfl rfl (Zh Z1 rfl (Zhr _) hS hs0 trivial Vl) (Za rfl rfl rfl (Xk rfl rfl) (Zb 2 rfl (Zs 16 rfl (fun hb => ?_) (fun hb => ?_)))))
 ·replace H := Zp H hb
  refine Zb 53 rfl (Zg (Zc hK5 (Zt rfl rfl (Zd (fun K hK13 => Ze (Zb 1 rfl (Zg ?_)))))))
  refine Zc hK13 (Zk (Zj (Zm rfl (RV.tmp rfl RV.nil) rfl ?_)))
  obtain rfl := QJ H
  replace hS := hS.cut 0
  exact ⟨rfl, hS⟩
 replace H := Zo H hb
 refine Za rfl rfl rfl (Zf Zck rfl) (Za rfl rfl rfl (Zh Z1 rfl (Zhr _) hS hs0 trivial Vl) (Zb 1 rfl (Za rfl rfl rfl (Xc rfl rfl) (Zb 2 rfl (Zs 22 rfl (fun hb => ?_) (fun hb => ?_))))))
 ·replace H := Zp H hb
  refine Zb 47 rfl (Zg (Zc hK5 (Zt rfl rfl (Zd (fun K hK16 => Ze (Zb 1 rfl (Zg ?_)))))))
  refine Zc hK16 (Zk (Zj (Zm rfl (RV.tmp rfl RV.nil) rfl ?_)))
  obtain rfl := QJ H
  replace hS := hS.cut 0
  exact ⟨rfl, hS⟩
 replace H := Zo H hb
 refine Za rfl rfl rfl (Zf Zeq rfl) (Za rfl rfl rfl (Zh Z1 rfl (Zhr _) hS hs0 trivial Za0) (Za rfl rfl rfl (Xk rfl rfl) (Zb 2 rfl (Zs 27 rfl (fun hb => ?_) (fun hb => ?_)))))
 ·replace H := Zp H hb
  refine Zb 42 rfl (Zg (Zc hK5 (Zt rfl rfl (Zd (fun K hK19 => Ze (Zb 1 rfl (Zg ?_)))))))
  refine Zc hK19 (Zk (Zj (Zm rfl (RV.tmp rfl RV.nil) rfl ?_)))
  obtain rfl := QJ H
  replace hS := hS.cut 0
  exact ⟨rfl, hS⟩
 replace H := Zo H hb
 refine Za rfl rfl rfl (Zf Zeq rfl) (Za rfl rfl rfl (Zh Z1 rfl (Zhr _) hS hs0 trivial Za0) (Zb 1 rfl (Za rfl rfl rfl (Xc rfl rfl) (Zb 2 rfl (Zs 33 rfl (fun hb => ?_) (fun hb => ?_))))))
 ·replace H := Zp H hb
  refine Zb 36 rfl (Zg (Zc hK5 (Zt rfl rfl (Zd (fun K hK22 => Ze (Zb 1 rfl (Zg ?_)))))))
  refine Zc hK22 (Zk (Zj (Zm rfl (RV.tmp rfl RV.nil) rfl ?_)))
  obtain rfl := QJ H
  replace hS := hS.cut 0
  exact ⟨rfl, hS⟩
 replace H := Zo H hb
 refine Za rfl rfl rfl (Zf Zck rfl) (Za rfl rfl rfl (Zh Z1 rfl (Zhr _) hS hs0 trivial Vl) (Za rfl rfl rfl (Zf Zeq rfl) (Za rfl rfl rfl (Zh Z1 rfl (Zhr _) hS hs0 trivial Za0) (Za rfl rfl rfl (Y1 rfl rfl) (Zb 2 rfl (Zs 40 rfl (fun hb => ?_) (fun hb => ?_)))))))
 ·replace H := Zp H hb
  refine Zb 29 rfl (Zg (Zc hK5 (Zt rfl rfl (Zd (fun K hK25 => Ze (Zb 1 rfl (Zg ?_)))))))
  refine Zc hK25 (Zk (Zj (Zm rfl (RV.tmp rfl RV.nil) rfl ?_)))
  obtain rfl := QJ H
  replace hS := hS.cut 0
  exact ⟨rfl, hS⟩
 replace H := Zo H hb
 refine Za rfl rfl rfl (Zf Vo rfl) (Za rfl rfl rfl (Zh Zbq rfl (Zhr _) hS hs0 trivial Y4) (Za rfl rfl rfl (Xk rfl rfl) (Zb 2 rfl (Zs 45 rfl (fun hb => ?_) (fun hb => ?_)))))
 ·replace H := Zp H hb
  refine Zb 24 rfl (Zg (Zc hK5 (Zt rfl rfl (Zd (fun K hK28 => Ze (Zb 1 rfl (Zg ?_)))))))
  refine Zc hK28 (Zk (Zj (Zm rfl (RV.tmp rfl RV.nil) rfl ?_)))
  obtain rfl := QJ H
  replace hS := hS.cut 0
  exact ⟨rfl, hS⟩
 replace H := Zo H hb
 refine Za rfl rfl rfl (Zf Vo rfl) (Za rfl rfl rfl (Zh Zbq rfl (Zhr _) hS hs0 trivial Y4) (Za rfl rfl rfl (Zed rfl rfl) (Zb 2 rfl (Zs 50 rfl (fun hb => ?_) (fun hb => ?_)))))
 ·replace H := Zp H hb
  refine Zb 19 rfl (Zg (Zc hK5 (Zt rfl rfl (Zd (fun K hK31 => Ze (Zb 1 rfl (Zg ?_)))))))
  refine Zc hK31 (Zk (Zj (Zm rfl (RV.tmp rfl RV.nil) rfl ?_)))
  obtain rfl := QJ H
  replace hS := hS.cut 0
  exact ⟨rfl, hS⟩
 replace H := Zo H hb
 refine Za rfl rfl rfl (Zf Zca rfl) (Za rfl rfl rfl (Zh Z1 rfl (Zhr _) hS hs0 trivial J9) (Za rfl rfl rfl (Xk rfl rfl) (Zb 2 rfl (Zs 55 rfl (fun hb => ?_) (fun hb => ?_)))))
 ·replace H := Zp H hb
  refine Zb 14 rfl (Zg (Zc hK5 (Zt rfl rfl (Zd (fun K hK34 => Ze (Zb 1 rfl (Zg ?_)))))))
  refine Zc hK34 (Zk (Zj (Zm rfl (RV.tmp rfl RV.nil) rfl ?_)))
  obtain rfl := QJ H
  replace hS := hS.cut 0
  exact ⟨rfl, hS⟩
 replace H := Zo H hb
 refine Za rfl rfl rfl (Zf Zca rfl) (Za rfl rfl rfl (Zh Z1 rfl (Zhr _) hS hs0 trivial J9) (Za rfl rfl rfl (Xc rfl rfl) (Zb 2 rfl (Zs 60 rfl (fun hb => ?_) (fun hb => ?_)))))
 ·replace H := Zp H hb
  refine Zb 9 rfl (Zg (Zc hK5 (Zt rfl rfl (Zd (fun K hK37 => Ze (Zb 1 rfl (Zg ?_)))))))
  refine Zc hK37 (Zk (Zj (Zm rfl (RV.tmp rfl RV.nil) rfl ?_)))
  obtain rfl := QJ H
  replace hS := hS.cut 0
  exact ⟨rfl, hS⟩
 replace H := Zo H hb
 refine Za rfl rfl rfl (Zf fo_32_4 rfl) (Za rfl rfl rfl (Zh Z1 rfl (Zhr _) hS hs0 trivial Zfw) (Za rfl rfl rfl (Xk rfl rfl) (Zb 2 rfl (Zs 65 rfl (fun hb => ?_) (fun hb => ?_)))))
 ·replace H := Zp H hb
  refine Zb 4 rfl (Zg (Zc hK5 (Zt rfl rfl (Zd (fun K hK40 => Ze (Zb 1 rfl (Zg ?_)))))))
  refine Zc hK40 (Zk (Zj (Zm rfl (RV.tmp rfl RV.nil) rfl ?_)))
  obtain rfl := QJ H
  replace hS := hS.cut 0
  exact ⟨rfl, hS⟩
 replace H := Zo H hb
 refine Za rfl rfl rfl (Zf fo_32_4 rfl) (Za rfl rfl rfl (Zh Z1 rfl (Zhr _) hS hs0 trivial Zfw) (Za rfl rfl rfl (Xc rfl rfl) (Zb 1 rfl (Zg (Zc hK5 (Zy rfl (fun hb => ?_) (fun hb => ?_)))))))
 ·replace H := Zp H hb
  refine Zd (fun K hK43 => Ze (Zb 1 rfl (Zg (Zc hK43 (Zk (Zj (Zm rfl (RV.tmp rfl RV.nil) rfl ?_)))))))
  obtain rfl := QJ H
  replace hS := hS.cut 0
  exact ⟨rfl, hS⟩
 replace H := Zo H hb
 refine Zr (Zc hK4 (Zd (fun K hK45 => Zd (fun K hK46 => Ze (Za rfl rfl rfl (Zf V0 rfl) (Za rfl rfl rfl (Zh Z1 rfl (Zhr _) hS hs0 trivial Jd) ?_))))))
 obtain ⟨r47, hm48, H⟩ := bind_some H
 refine Zn rfl rfl rfl rfl (by kernel_rfl) rfl (Zge x0.last _ hm48) ?_
 rintro e w ⟨rfl, hN⟩; refine ⟨_, rfl, ?_⟩; obtain ⟨hB, hS⟩ := hS.jn hN
 refine Za rfl rfl rfl (Ys rfl) (Zb 1 rfl (Zs 74 rfl (fun hb => ?_) (fun hb => ?_)))
 ·replace H := Zp H hb
  refine Zb 16 rfl (Zg (Zc hK46 (Zt rfl rfl (Zd (fun K hK50 => Ze (Zb 1 rfl (Zg ?_)))))))
  refine Zc hK50 (Zk (Zj (Zm rfl (RV.tmp rfl RV.nil) rfl ?_)))
  obtain rfl := QJ H
  replace hS := hS.cut 0
  exact ⟨rfl, hS⟩
 replace H := Zo H hb
 refine Za rfl rfl rfl (Zf Zfe rfl) (Za rfl rfl rfl (Zh Z1 rfl (Zhr _) hS hs0 trivial Zgj) ?_)
 obtain ⟨r52, hm53, H⟩ := bind_some H
 refine Zn rfl rfl rfl rfl (by kernel_rfl) rfl (Zge x0.lastTerm _ hm53) ?_
 rintro e w ⟨rfl, hN⟩; refine ⟨_, rfl, ?_⟩; obtain ⟨hB, hS⟩ := hS.jn hN
 refine Za rfl rfl rfl (Ys rfl) (Zb 2 rfl (Zs 80 rfl (fun hb => ?_) (fun hb => ?_)))
 ·replace H := Zp H hb
  refine Zb 10 rfl (Zg (Zc hK46 (Zt rfl rfl (Zd (fun K hK55 => Ze (Zb 1 rfl (Zg ?_)))))))
  refine Zc hK55 (Zk (Zj (Zm rfl (RV.tmp rfl RV.nil) rfl ?_)))
  obtain rfl := QJ H
  replace hS := hS.cut 0
  exact ⟨rfl, hS⟩
 replace H := Zo H hb
 refine Za rfl rfl rfl (Zf Zdu rfl) (Za rfl rfl rfl (Zh Z1 rfl (Zhr _) hS hs0 trivial Zey) ?_)
 obtain ⟨r57, hm58, H⟩ := bind_some H
 refine Zn rfl rfl rfl rfl (by kernel_rfl) rfl (Zge x0.commit _ hm58) ?_
 rintro e w ⟨rfl, hN⟩; refine ⟨_, rfl, ?_⟩; obtain ⟨hB, hS⟩ := hS.jn hN
 refine Za rfl rfl rfl (Ys rfl) (Zb 2 rfl (Zs 86 rfl (fun hb => ?_) (fun hb => ?_)))
 ·replace H := Zp H hb
  refine Zb 4 rfl (Zg (Zc hK46 (Zt rfl rfl (Zd (fun K hK60 => Ze (Zb 1 rfl (Zg ?_)))))))
  refine Zc hK60 (Zk (Zj (Zm rfl (RV.tmp rfl RV.nil) rfl ?_)))
  obtain rfl := QJ H
  replace hS := hS.cut 0
  exact ⟨rfl, hS⟩
 replace H := Zo H hb
 refine Za rfl rfl rfl (Zi Xn rfl (Zhr _) hS hs0 trivial Y2) ?_
 obtain ⟨r62, hm63, H⟩ := bind_some H
 refine Zn rfl rfl rfl rfl (by kernel_rfl) rfl (c_ref20_entries x0 A0_ c0_ _ (Zhu s0_.k (hS.rd0 s0_.rd) (hS.blk0 s0_.blk)) hm63) ?_
 rintro e w ⟨rfl, hN⟩; refine ⟨_, rfl, ?_⟩; obtain ⟨hB, hS⟩ := hS.jn hN
 refine Za rfl rfl rfl (Ys rfl) (Zb 1 rfl (Zg (Zc hK46 (Zy rfl (fun hb => ?_) (fun hb => ?_)))))
 ·replace H := Zp H hb
  refine Zd (fun K hK65 => Ze (Zb 1 rfl (Zg (Zc hK65 (Zk (Zj (Zm rfl (RV.tmp rfl RV.nil) rfl ?_)))))))
  obtain rfl := QJ H
  replace hS := hS.cut 0
  exact ⟨rfl, hS⟩
 replace H := Zo H hb
 refine Zr (Zc hK45 (Zd (fun K hK67 => Zd (fun K hK68 => Ze (Za rfl rfl rfl (Zf Vo rfl) (Za rfl rfl rfl (Zh Zbq rfl (Zhr _) hS hs0 trivial Y4) (Za rfl rfl rfl (Xu rfl rfl) ?_)))))))
 refine Zb 1 rfl (Zs 94 rfl (fun hb => ?_) (fun hb => ?_))
 rotate_left
 ·replace H := Zo H hb
  refine Zb 11 rfl (Za rfl rfl rfl (Zf Zf0 rfl) (Za rfl rfl rfl (Zh sc_4 rfl (Zhr _) hS hs0 trivial sg8_1) (Zb 1 rfl (Zs 108 rfl (fun hb => ?_) (fun hb => ?_)))))
  rotate_left
  ·replace H := Zo H hb
   refine Zb 10 rfl (Zg (Zc hK68 (Yl rfl rfl (Zr (Zc hK67 (Zd (fun K hK141 => Zd (fun K hK142 => ?_))))))))
   refine Ze (Za rfl rfl rfl (Zf Vo rfl) (Za rfl rfl rfl (Zh Zbq rfl (Zhr _) hS hs0 trivial Y4) (Za rfl rfl rfl (Y1 rfl rfl) (Zg (Zc hK142 (Zy rfl (fun hb => ?_) (fun hb => ?_)))))))
   rotate_left
   ·replace H := Zo H hb
    refine Zr (Zc hK141 (Zd (fun K hK150 => Ze (Za rfl rfl rfl (Zf Xm rfl) (Za rfl rfl rfl (Zi Y6 rfl (Zhr _) hS hs0 trivial Zae) (Za rfl rfl rfl (Xl (cells := [.int .i64 0, .int .i64 0, .int .i64 0, .int .i64 0, .bool false]) rfl (by kernel_rfl)) (Za rfl rfl rfl (Zah (by kernel_rfl) rfl rfl (Zbc _ _ _ _ _ _ _ _ _ _)) ?_)))))))
    refine Zb 1 rfl (Zg (Zc hK150 (Zk (Zm rfl (RV.tmp rfl RV.nil) rfl ?_))))
    obtain rfl := QJ H
    replace hS := hS.cut 0
    exact ⟨rfl, hS⟩
   replace H := Zp H hb
   refine Zd (fun K hK144 => Ze (Za rfl rfl rfl (Zf Xm rfl) (Za rfl rfl rfl (Zi Y6 rfl (Zhr _) hS hs0 trivial Zae) ?_)))
   obtain ⟨r145, hm146, H⟩ := bind_some H
   refine Zn rfl rfl rfl rfl (by kernel_rfl) rfl (Zbh x0.snap _ hm146) ?_
   rintro e w ⟨rfl, hN⟩; refine ⟨_, rfl, ?_⟩; obtain ⟨hB, hS⟩ := hS.jn hN
   refine Zb 1 rfl (Zs 125 rfl (fun hb => ?_) (fun hb => ?_))
   rotate_left
   ·replace H := Zo H hb
    refine Zb 6 rfl (Zg (Zc hK144 (Zk (Zj (Zm rfl (RV.tmp rfl RV.nil) rfl ?_)))))
    obtain rfl := QJ H
    replace hS := hS.cut 0
    exact ⟨rfl, hS⟩
   replace H := Zp H hb
   refine Za rfl rfl rfl (Zf Xm rfl) (Za rfl rfl rfl (Zf Yj rfl) (Za rfl rfl rfl (Zh Z1 rfl (Zhr _) hS hs0 trivial Zam) (Za rfl rfl rfl (Xc rfl rfl) (Zb 2 rfl (Zg (Zc hK144 (Zk ?_)))))))
   refine Zj (Zm rfl (RV.tmp rfl RV.nil) rfl ?_)
   obtain rfl := QJ H
   replace hS := hS.cut 0
   exact ⟨rfl, hS⟩
  replace H := Zp H hb
  refine Za rfl rfl rfl (Zf Vo rfl) (Za rfl rfl rfl (Zh Zbq rfl (Zhr _) hS hs0 trivial Y4) (Za rfl rfl rfl (Xu rfl rfl) (Zb 2 rfl (Zs 113 rfl (fun hb => ?_) (fun hb => ?_)))))
  rotate_left
  ·replace H := Zo H hb
   refine Zb 5 rfl (Zg (Zc hK68 (Yl rfl rfl (Zr (Zc hK67 (Zd (fun K hK130 => Zd (fun K hK131 => ?_))))))))
   refine Ze (Za rfl rfl rfl (Zf Vo rfl) (Za rfl rfl rfl (Zh Zbq rfl (Zhr _) hS hs0 trivial Y4) (Za rfl rfl rfl (Y1 rfl rfl) (Zg (Zc hK131 (Zy rfl (fun hb => ?_) (fun hb => ?_)))))))
   rotate_left
   ·replace H := Zo H hb
    refine Zr (Zc hK130 (Zd (fun K hK139 => Ze (Za rfl rfl rfl (Zf Xm rfl) (Za rfl rfl rfl (Zi Y6 rfl (Zhr _) hS hs0 trivial Zae) (Za rfl rfl rfl (Xl (cells := [.int .i64 0, .int .i64 0, .int .i64 0, .int .i64 0, .bool false]) rfl (by kernel_rfl)) (Za rfl rfl rfl (Zah (by kernel_rfl) rfl rfl (Zbc _ _ _ _ _ _ _ _ _ _)) ?_)))))))
    refine Zb 1 rfl (Zg (Zc hK139 (Zk (Zm rfl (RV.tmp rfl RV.nil) rfl ?_))))
    obtain rfl := QJ H
    replace hS := hS.cut 0
    exact ⟨rfl, hS⟩
   replace H := Zp H hb
   refine Zd (fun K hK133 => Ze (Za rfl rfl rfl (Zf Xm rfl) (Za rfl rfl rfl (Zi Y6 rfl (Zhr _) hS hs0 trivial Zae) ?_)))
   obtain ⟨r134, hm135, H⟩ := bind_some H
   refine Zn rfl rfl rfl rfl (by kernel_rfl) rfl (Zbh x0.snap _ hm135) ?_
   rintro e w ⟨rfl, hN⟩; refine ⟨_, rfl, ?_⟩; obtain ⟨hB, hS⟩ := hS.jn hN
   refine Zb 1 rfl (Zs 125 rfl (fun hb => ?_) (fun hb => ?_))
   rotate_left
   ·replace H := Zo H hb
    refine Zb 6 rfl (Zg (Zc hK133 (Zk (Zj (Zm rfl (RV.tmp rfl RV.nil) rfl ?_)))))
    obtain rfl := QJ H
    replace hS := hS.cut 0
    exact ⟨rfl, hS⟩
   replace H := Zp H hb
   refine Za rfl rfl rfl (Zf Xm rfl) (Za rfl rfl rfl (Zf Yj rfl) (Za rfl rfl rfl (Zh Z1 rfl (Zhr _) hS hs0 trivial Zam) (Za rfl rfl rfl (Xc rfl rfl) (Zb 2 rfl (Zg (Zc hK133 (Zk ?_)))))))
   refine Zj (Zm rfl (RV.tmp rfl RV.nil) rfl ?_)
   obtain rfl := QJ H
   replace hS := hS.cut 0
   exact ⟨rfl, hS⟩
  replace H := Zp H hb
  refine Za rfl rfl rfl (Zf Vo rfl) (Za rfl rfl rfl (Zh Zbq rfl (Zhr _) hS hs0 trivial Y4) (Za rfl rfl rfl (Xu rfl rfl) (Zb 2 rfl (Zg (Zc hK68 (Zy rfl (fun hb => ?_) (fun hb => ?_)))))))
  ·replace H := Zp H hb
   refine Zd (fun K hK117 => Ze (Zb 1 rfl (Zg (Zc hK117 (Zk (Zj (Zm rfl (RV.tmp rfl RV.nil) rfl ?_)))))))
   obtain rfl := QJ H
   replace hS := hS.cut 0
   exact ⟨rfl, hS⟩
  replace H := Zo H hb
  refine Zr (Zc hK67 (Zd (fun K hK119 => Zd (fun K hK120 => Ze (Za rfl rfl rfl (Zf Vo rfl) (Za rfl rfl rfl (Zh Zbq rfl (Zhr _) hS hs0 trivial Y4) (Za rfl rfl rfl (Y1 rfl rfl) ?_)))))))
  refine Zg (Zc hK120 (Zy rfl (fun hb => ?_) (fun hb => ?_)))
  rotate_left
  ·replace H := Zo H hb
   refine Zr (Zc hK119 (Zd (fun K hK128 => Ze (Za rfl rfl rfl (Zf Xm rfl) (Za rfl rfl rfl (Zi Y6 rfl (Zhr _) hS hs0 trivial Zae) (Za rfl rfl rfl (Xl (cells := [.int .i64 0, .int .i64 0, .int .i64 0, .int .i64 0, .bool false]) rfl (by kernel_rfl)) (Za rfl rfl rfl (Zah (by kernel_rfl) rfl rfl (Zbc _ _ _ _ _ _ _ _ _ _)) ?_)))))))
   refine Zb 1 rfl (Zg (Zc hK128 (Zk (Zm rfl (RV.tmp rfl RV.nil) rfl ?_))))
   obtain rfl := QJ H
   replace hS := hS.cut 0
   exact ⟨rfl, hS⟩
  replace H := Zp H hb
  refine Zd (fun K hK122 => Ze (Za rfl rfl rfl (Zf Xm rfl) (Za rfl rfl rfl (Zi Y6 rfl (Zhr _) hS hs0 trivial Zae) ?_)))
  obtain ⟨r123, hm124, H⟩ := bind_some H
  refine Zn rfl rfl rfl rfl (by kernel_rfl) rfl (Zbh x0.snap _ hm124) ?_
  rintro e w ⟨rfl, hN⟩; refine ⟨_, rfl, ?_⟩; obtain ⟨hB, hS⟩ := hS.jn hN
  refine Zb 1 rfl (Zs 125 rfl (fun hb => ?_) (fun hb => ?_))
  rotate_left
  ·replace H := Zo H hb
   refine Zb 6 rfl (Zg (Zc hK122 (Zk (Zj (Zm rfl (RV.tmp rfl RV.nil) rfl ?_)))))
   obtain rfl := QJ H
   replace hS := hS.cut 0
   exact ⟨rfl, hS⟩
  replace H := Zp H hb
  refine Za rfl rfl rfl (Zf Xm rfl) (Za rfl rfl rfl (Zf Yj rfl) (Za rfl rfl rfl (Zh Z1 rfl (Zhr _) hS hs0 trivial Zam) (Za rfl rfl rfl (Xc rfl rfl) (Zb 2 rfl (Zg (Zc hK122 (Zk ?_)))))))
  refine Zj (Zm rfl (RV.tmp rfl RV.nil) rfl ?_)
  obtain rfl := QJ H
  replace hS := hS.cut 0
  exact ⟨rfl, hS⟩
 replace H := Zp H hb
 refine Za rfl rfl rfl (Zf X8 rfl) (Za rfl rfl rfl (Zh Xx rfl (Zhr _) hS hs0 trivial Zak) (Za rfl rfl rfl (Y0 Y8 rfl) (Za rfl rfl rfl (Xc rfl rfl) (Zb 1 rfl (Zs 99 rfl (fun hb => ?_) (fun hb => ?_))))))
 ·replace H := Zp H hb
  refine Zb 19 rfl (Zg (Zc hK68 (Zt rfl rfl (Zd (fun K hK71 => Ze (Zb 1 rfl (Zg ?_)))))))
  refine Zc hK71 (Zk (Zj (Zm rfl (RV.tmp rfl RV.nil) rfl ?_)))
  obtain rfl := QJ H
  replace hS := hS.cut 0
  exact ⟨rfl, hS⟩
 replace H := Zo H hb
 refine Za rfl rfl rfl (Zf Zdu rfl) (Za rfl rfl rfl (Zh Z1 rfl (Zhr _) hS hs0 trivial Zey) (Za rfl rfl rfl (Xc rfl rfl) (Zb 3 rfl (Zs 105 rfl (fun hb => ?_) (fun hb => ?_)))))
 ·replace H := Zp H hb
  refine Zb 13 rfl (Zg (Zc hK68 (Zt rfl rfl (Zd (fun K hK74 => Ze (Zb 1 rfl (Zg ?_)))))))
  refine Zc hK74 (Zk (Zj (Zm rfl (RV.tmp rfl RV.nil) rfl ?_)))
  obtain rfl := QJ H
  replace hS := hS.cut 0
  exact ⟨rfl, hS⟩
 replace H := Zo H hb
 refine Za rfl rfl rfl (Zf Zf0 rfl) (Za rfl rfl rfl (Zh sc_4 rfl (Zhr _) hS hs0 trivial sg8_1) (Zb 1 rfl (Zs 108 rfl (fun hb => ?_) (fun hb => ?_))))
 rotate_left
 ·replace H := Zo H hb
  refine Zb 10 rfl (Zg (Zc hK68 (Yl rfl rfl (Zr (Zc hK67 (Zd (fun K hK103 => Zd (fun K hK104 => ?_))))))))
  refine Ze (Za rfl rfl rfl (Zf Vo rfl) (Za rfl rfl rfl (Zh Zbq rfl (Zhr _) hS hs0 trivial Y4) (Za rfl rfl rfl (Y1 rfl rfl) (Zg (Zc hK104 (Zy rfl (fun hb => ?_) (fun hb => ?_)))))))
  rotate_left
  ·replace H := Zo H hb
   refine Zr (Zc hK103 (Zd (fun K hK112 => Ze (Za rfl rfl rfl (Zf Xm rfl) (Za rfl rfl rfl (Zi Y6 rfl (Zhr _) hS hs0 trivial Zae) (Za rfl rfl rfl (Xl (cells := [.int .i64 0, .int .i64 0, .int .i64 0, .int .i64 0, .bool false]) rfl (by kernel_rfl)) (Za rfl rfl rfl (Zah (by kernel_rfl) rfl rfl (Zbc _ _ _ _ _ _ _ _ _ _)) ?_)))))))
   refine Zb 1 rfl (Zg (Zc hK112 (Zk (Zm rfl (RV.tmp rfl RV.nil) rfl ?_))))
   obtain rfl := QJ H
   replace hS := hS.cut 0
   exact ⟨rfl, hS⟩
  replace H := Zp H hb
  refine Zd (fun K hK106 => Ze (Za rfl rfl rfl (Zf Xm rfl) (Za rfl rfl rfl (Zi Y6 rfl (Zhr _) hS hs0 trivial Zae) ?_)))
  obtain ⟨r107, hm108, H⟩ := bind_some H
  refine Zn rfl rfl rfl rfl (by kernel_rfl) rfl (Zbh x0.snap _ hm108) ?_
  rintro e w ⟨rfl, hN⟩; refine ⟨_, rfl, ?_⟩; obtain ⟨hB, hS⟩ := hS.jn hN
  refine Zb 1 rfl (Zs 125 rfl (fun hb => ?_) (fun hb => ?_))
  rotate_left
  ·replace H := Zo H hb
   refine Zb 6 rfl (Zg (Zc hK106 (Zk (Zj (Zm rfl (RV.tmp rfl RV.nil) rfl ?_)))))
   obtain rfl := QJ H
   replace hS := hS.cut 0
   exact ⟨rfl, hS⟩
  replace H := Zp H hb
  refine Za rfl rfl rfl (Zf Xm rfl) (Za rfl rfl rfl (Zf Yj rfl) (Za rfl rfl rfl (Zh Z1 rfl (Zhr _) hS hs0 trivial Zam) (Za rfl rfl rfl (Xc rfl rfl) (Zb 2 rfl (Zg (Zc hK106 (Zk ?_)))))))
  refine Zj (Zm rfl (RV.tmp rfl RV.nil) rfl ?_)
  obtain rfl := QJ H
  replace hS := hS.cut 0
  exact ⟨rfl, hS⟩
 replace H := Zp H hb
 refine Za rfl rfl rfl (Zf Vo rfl) (Za rfl rfl rfl (Zh Zbq rfl (Zhr _) hS hs0 trivial Y4) (Za rfl rfl rfl (Xu rfl rfl) (Zb 2 rfl (Zs 113 rfl (fun hb => ?_) (fun hb => ?_)))))
 rotate_left
 ·replace H := Zo H hb
  refine Zb 5 rfl (Zg (Zc hK68 (Yl rfl rfl (Zr (Zc hK67 (Zd (fun K hK92 => Zd (fun K hK93 => ?_))))))))
  refine Ze (Za rfl rfl rfl (Zf Vo rfl) (Za rfl rfl rfl (Zh Zbq rfl (Zhr _) hS hs0 trivial Y4) (Za rfl rfl rfl (Y1 rfl rfl) (Zg (Zc hK93 (Zy rfl (fun hb => ?_) (fun hb => ?_)))))))
  rotate_left
  ·replace H := Zo H hb
   refine Zr (Zc hK92 (Zd (fun K hK101 => Ze (Za rfl rfl rfl (Zf Xm rfl) (Za rfl rfl rfl (Zi Y6 rfl (Zhr _) hS hs0 trivial Zae) (Za rfl rfl rfl (Xl (cells := [.int .i64 0, .int .i64 0, .int .i64 0, .int .i64 0, .bool false]) rfl (by kernel_rfl)) (Za rfl rfl rfl (Zah (by kernel_rfl) rfl rfl (Zbc _ _ _ _ _ _ _ _ _ _)) ?_)))))))
   refine Zb 1 rfl (Zg (Zc hK101 (Zk (Zm rfl (RV.tmp rfl RV.nil) rfl ?_))))
   obtain rfl := QJ H
   replace hS := hS.cut 0
   exact ⟨rfl, hS⟩
  replace H := Zp H hb
  refine Zd (fun K hK95 => Ze (Za rfl rfl rfl (Zf Xm rfl) (Za rfl rfl rfl (Zi Y6 rfl (Zhr _) hS hs0 trivial Zae) ?_)))
  obtain ⟨r96, hm97, H⟩ := bind_some H
  refine Zn rfl rfl rfl rfl (by kernel_rfl) rfl (Zbh x0.snap _ hm97) ?_
  rintro e w ⟨rfl, hN⟩; refine ⟨_, rfl, ?_⟩; obtain ⟨hB, hS⟩ := hS.jn hN
  refine Zb 1 rfl (Zs 125 rfl (fun hb => ?_) (fun hb => ?_))
  rotate_left
  ·replace H := Zo H hb
   refine Zb 6 rfl (Zg (Zc hK95 (Zk (Zj (Zm rfl (RV.tmp rfl RV.nil) rfl ?_)))))
   obtain rfl := QJ H
   replace hS := hS.cut 0
   exact ⟨rfl, hS⟩
  replace H := Zp H hb
  refine Za rfl rfl rfl (Zf Xm rfl) (Za rfl rfl rfl (Zf Yj rfl) (Za rfl rfl rfl (Zh Z1 rfl (Zhr _) hS hs0 trivial Zam) (Za rfl rfl rfl (Xc rfl rfl) (Zb 2 rfl (Zg (Zc hK95 (Zk ?_)))))))
  refine Zj (Zm rfl (RV.tmp rfl RV.nil) rfl ?_)
  obtain rfl := QJ H
  replace hS := hS.cut 0
  exact ⟨rfl, hS⟩
 replace H := Zp H hb
 refine Za rfl rfl rfl (Zf Vo rfl) (Za rfl rfl rfl (Zh Zbq rfl (Zhr _) hS hs0 trivial Y4) (Za rfl rfl rfl (Xu rfl rfl) (Zb 2 rfl (Zg (Zc hK68 (Zy rfl (fun hb => ?_) (fun hb => ?_)))))))
 ·replace H := Zp H hb
  refine Zd (fun K hK79 => Ze (Zb 1 rfl (Zg (Zc hK79 (Zk (Zj (Zm rfl (RV.tmp rfl RV.nil) rfl ?_)))))))
  obtain rfl := QJ H
  replace hS := hS.cut 0
  exact ⟨rfl, hS⟩
 replace H := Zo H hb
 refine Zr (Zc hK67 (Zd (fun K hK81 => Zd (fun K hK82 => Ze (Za rfl rfl rfl (Zf Vo rfl) (Za rfl rfl rfl (Zh Zbq rfl (Zhr _) hS hs0 trivial Y4) (Za rfl rfl rfl (Y1 rfl rfl) ?_)))))))
 refine Zg (Zc hK82 (Zy rfl (fun hb => ?_) (fun hb => ?_)))
 rotate_left
 ·replace H := Zo H hb
  refine Zr (Zc hK81 (Zd (fun K hK90 => Ze (Za rfl rfl rfl (Zf Xm rfl) (Za rfl rfl rfl (Zi Y6 rfl (Zhr _) hS hs0 trivial Zae) (Za rfl rfl rfl (Xl (cells := [.int .i64 0, .int .i64 0, .int .i64 0, .int .i64 0, .bool false]) rfl (by kernel_rfl)) (Za rfl rfl rfl (Zah (by kernel_rfl) rfl rfl (Zbc _ _ _ _ _ _ _ _ _ _)) ?_)))))))
  refine Zb 1 rfl (Zg (Zc hK90 (Zk (Zm rfl (RV.tmp rfl RV.nil) rfl ?_))))
  obtain rfl := QJ H
  replace hS := hS.cut 0
  exact ⟨rfl, hS⟩
 replace H := Zp H hb
 refine Zd (fun K hK84 => Ze (Za rfl rfl rfl (Zf Xm rfl) (Za rfl rfl rfl (Zi Y6 rfl (Zhr _) hS hs0 trivial Zae) ?_)))
 obtain ⟨r85, hm86, H⟩ := bind_some H
 refine Zn rfl rfl rfl rfl (by kernel_rfl) rfl (Zbh x0.snap _ hm86) ?_
 rintro e w ⟨rfl, hN⟩; refine ⟨_, rfl, ?_⟩; obtain ⟨hB, hS⟩ := hS.jn hN
 refine Zb 1 rfl (Zs 125 rfl (fun hb => ?_) (fun hb => ?_))
 rotate_left
 ·replace H := Zo H hb
  refine Zb 6 rfl (Zg (Zc hK84 (Zk (Zj (Zm rfl (RV.tmp rfl RV.nil) rfl ?_)))))
  obtain rfl := QJ H
  replace hS := hS.cut 0
  exact ⟨rfl, hS⟩
 replace H := Zp H hb
 refine Za rfl rfl rfl (Zf Xm rfl) (Za rfl rfl rfl (Zf Yj rfl) (Za rfl rfl rfl (Zh Z1 rfl (Zhr _) hS hs0 trivial Zam) (Za rfl rfl rfl (Xc rfl rfl) (Zb 2 rfl (Zg (Zc hK84 (Zk ?_)))))))
 refine Zj (Zm rfl (RV.tmp rfl RV.nil) rfl ?_)
 obtain rfl := QJ H
 replace hS := hS.cut 0
 exact ⟨rfl, hS⟩
theorem c_ref22_fits (x0 : Co) (x1 : Ms) (A0_ : OA) (c0_ : Nat) (A1_ : OA) (c1_ : Nat) (A2_ : OA) (c2_ : Nat) (A3_ : OA) (c3_ : Nat) (A4_ : OA) (c4_ : Nat) (A5_ : OA) (c5_ : Nat) (w0 : World) (s0_ : SlI w0 Vv A0_ c0_ x0.tuple.log) (s1_ : SlI w0 enO A1_ c1_ x0.votes) (s2_ : SlI w0 Vh A2_ c2_ x0.next) (s3_ : SlI w0 Vh A3_ c3_ x0.mtch) (s4_ : SlI w0 Vh A4_ c4_ x0.caps) (s5_ : SlI w0 Vv A5_ c5_ x1.entries) {r : Bool} (H : Zen x0 x1 = some r) : Calls Tryz.prog 62 #[.agg #[.int .i64 x0.id, .int .i64 x0.n, .int .u8 x0.role, .int .i64 x0.binary, .int .i64 x0.tuple.snap.index, .int .i64 x0.tuple.snap.term, .int .i64 x0.tuple.snap.sum, .int .i64 x0.tuple.snap.level, .bool x0.tuple.snap.final, .slice A0_ x0.tuple.log.length c0_, .int .i64 x0.tuple.term, .int .i64 x0.tuple.vote, .int .i64 x0.commit, .int .i64 x0.applied.index, .int .i64 x0.applied.term, .int .i64 x0.applied.sum, .int .i64 x0.applied.level, .bool x0.applied.final, .slice A1_ x0.votes.length c1_, .slice A2_ x0.next.length c2_, .slice A3_ x0.mtch.length c3_, .slice A4_ x0.caps.length c4_], .agg #[.int .u8 x1.kind, .int .i64 x1.frm, .int .i64 x1.dst, .int .i64 x1.term, .int .i64 x1.cap, .int .i64 x1.last, .int .i64 x1.lastTerm, .int .i64 x1.commit, .bool x1.okk, .slice A5_ x1.entries.length c5_, .int .i64 x1.snap.index, .int .i64 x1.snap.term, .int .i64 x1.snap.sum, .int .i64 x1.snap.level, .bool x1.snap.final]] w0 fun e w' => e = .returned (.bool r) ∧ St0 All w0 w' [] := by
 unfold Zen at H
 refine Yn Tryz.func62 rfl Tryz.ntmps62 rfl ?_
 have hS := St0.start All w0
 refine Zd (fun K hK1 => Ze (Z4 rfl rfl rfl CellsOf.agg hS (fun b2 w hS hB => Z4 rfl rfl rfl CellsOf.agg hS (fun b4 w hS hB => Zb 1 rfl (Zg (Zc hK1 (Zd (fun K hK6 => ?_))))))))
 refine Ze (Za rfl rfl rfl (Zi Z7 rfl (Zhr _) hS Xa trivial Zz) ?_)
 obtain ⟨r7, hm8, H⟩ := bind_some H
 refine Zn rfl rfl rfl rfl (by kernel_rfl) rfl (Zg5 x0 A0_ c0_ A1_ c1_ A2_ c2_ A3_ c3_ A4_ c4_ _ (Zhu s0_.k (hS.rd0 s0_.rd) (hS.blk0 s0_.blk)) (Zhu s1_.k (hS.rd0 s1_.rd) (hS.blk0 s1_.blk)) (Zhu s2_.k (hS.rd0 s2_.rd) (hS.blk0 s2_.blk)) (Zhu s3_.k (hS.rd0 s3_.rd) (hS.blk0 s3_.blk)) (Zhu s4_.k (hS.rd0 s4_.rd) (hS.blk0 s4_.blk)) hm8) ?_
 rintro e w ⟨rfl, hN⟩; refine ⟨_, rfl, ?_⟩; obtain ⟨hB, hS⟩ := hS.jn hN
 refine Zb 1 rfl (Zs 7 rfl (fun hb => ?_) (fun hb => ?_))
 rotate_left
 ·replace H := Zo H hb
  refine Zb 13 rfl (Zg (Zc hK6 (Zk (Zm rfl (RV.tmp rfl RV.nil) rfl ?_))))
  obtain rfl := QJ H
  replace hS := hS.cut 0
  exact ⟨rfl, hS⟩
 replace H := Zp H hb
 refine Za rfl rfl rfl (Zi Xn rfl (Zhr _) hS hs0 trivial Y2) (Za rfl rfl rfl (Zf V4 rfl) (Za rfl rfl rfl (Zh Z1 rfl (Zhr _) hS Xa trivial Vl) ?_))
 obtain ⟨r10, hm11, H⟩ := bind_some H
 refine Zn rfl rfl rfl rfl (by kernel_rfl) rfl (c_ref20_Fine x1 x0.n A5_ c5_ _ (Zhu s5_.k (hS.rd0 s5_.rd) (hS.blk0 s5_.blk)) hm11) ?_
 rintro e w ⟨rfl, hN⟩; refine ⟨_, rfl, ?_⟩; obtain ⟨hB, hS⟩ := hS.jn hN
 refine Zb 2 rfl (Zs 13 rfl (fun hb => ?_) (fun hb => ?_))
 rotate_left
 ·replace H := Zo H hb
  refine Zb 7 rfl (Zg (Zc hK6 (Zk (Zm rfl (RV.tmp rfl RV.nil) rfl ?_))))
  obtain rfl := QJ H
  replace hS := hS.cut 0
  exact ⟨rfl, hS⟩
 replace H := Zp H hb
 refine Za rfl rfl rfl (Zf Zeq rfl) (Za rfl rfl rfl (Zh Z1 rfl (Zhr _) hS hs0 trivial Za0) (Za rfl rfl rfl (Zf Zai rfl) (Za rfl rfl rfl (Zh Z1 rfl (Zhr _) hS Xa trivial Y4) (Za rfl rfl rfl (Y1 rfl rfl) (Zb 2 rfl (Zg (Zc hK6 ?_)))))))
 refine Zk (Zm rfl (RV.tmp rfl RV.nil) rfl ?_)
 obtain rfl := QJ H
 replace hS := hS.cut 0
 exact ⟨rfl, hS⟩
theorem c_ref21_To (x0 : Co) (x1 : Ms) (A0_ : OA) (c0_ : Nat) (A1_ : OA) (c1_ : Nat) (A2_ : OA) (c2_ : Nat) (A3_ : OA) (c3_ : Nat) (A4_ : OA) (c4_ : Nat) (A5_ : OA) (c5_ : Nat) (w0 : World) (s0_ : SlI w0 Vv A0_ c0_ x0.tuple.log) (s1_ : SlI w0 enO A1_ c1_ x0.votes) (s2_ : SlI w0 Vh A2_ c2_ x0.next) (s3_ : SlI w0 Vh A3_ c3_ x0.mtch) (s4_ : SlI w0 Vh A4_ c4_ x0.caps) (s5_ : SlI w0 Vv A5_ c5_ x1.entries) {r : Bool} (H : Zcr x0 x1 = some r) : Calls Tryz.prog 45 #[.agg #[.int .i64 x0.id, .int .i64 x0.n, .int .u8 x0.role, .int .i64 x0.binary, .int .i64 x0.tuple.snap.index, .int .i64 x0.tuple.snap.term, .int .i64 x0.tuple.snap.sum, .int .i64 x0.tuple.snap.level, .bool x0.tuple.snap.final, .slice A0_ x0.tuple.log.length c0_, .int .i64 x0.tuple.term, .int .i64 x0.tuple.vote, .int .i64 x0.commit, .int .i64 x0.applied.index, .int .i64 x0.applied.term, .int .i64 x0.applied.sum, .int .i64 x0.applied.level, .bool x0.applied.final, .slice A1_ x0.votes.length c1_, .slice A2_ x0.next.length c2_, .slice A3_ x0.mtch.length c3_, .slice A4_ x0.caps.length c4_], .agg #[.int .u8 x1.kind, .int .i64 x1.frm, .int .i64 x1.dst, .int .i64 x1.term, .int .i64 x1.cap, .int .i64 x1.last, .int .i64 x1.lastTerm, .int .i64 x1.commit, .bool x1.okk, .slice A5_ x1.entries.length c5_, .int .i64 x1.snap.index, .int .i64 x1.snap.term, .int .i64 x1.snap.sum, .int .i64 x1.snap.level, .bool x1.snap.final]] w0 fun e w' => e = .returned (.bool r) ∧ St0 All w0 w' [] := by
 unfold Zcr at H
 refine Yn Tryz.func45 rfl Tryz.ntmps45 rfl ?_
 have hS := St0.start All w0
 refine Zd (fun K hK1 => Ze (Z4 rfl rfl rfl CellsOf.agg hS (fun b2 w hS hB => Z4 rfl rfl rfl CellsOf.agg hS (fun b4 w hS hB => Zb 1 rfl (Zg (Zc hK1 (Zd (fun K hK6 => ?_))))))))
 refine Ze (Za rfl rfl rfl (Zi Z7 rfl (Zhr _) hS Xa trivial Zz) ?_)
 obtain ⟨r7, hm8, H⟩ := bind_some H
 refine Zn rfl rfl rfl rfl (by kernel_rfl) rfl (Zg5 x0 A0_ c0_ A1_ c1_ A2_ c2_ A3_ c3_ A4_ c4_ _ (Zhu s0_.k (hS.rd0 s0_.rd) (hS.blk0 s0_.blk)) (Zhu s1_.k (hS.rd0 s1_.rd) (hS.blk0 s1_.blk)) (Zhu s2_.k (hS.rd0 s2_.rd) (hS.blk0 s2_.blk)) (Zhu s3_.k (hS.rd0 s3_.rd) (hS.blk0 s3_.blk)) (Zhu s4_.k (hS.rd0 s4_.rd) (hS.blk0 s4_.blk)) hm8) ?_
 rintro e w ⟨rfl, hN⟩; refine ⟨_, rfl, ?_⟩; obtain ⟨hB, hS⟩ := hS.jn hN
 refine Zb 1 rfl (Zs 7 rfl (fun hb => ?_) (fun hb => ?_))
 rotate_left
 ·replace H := Zo H hb
  refine Zb 13 rfl (Zg (Zc hK6 (Zk (Zm rfl (RV.tmp rfl RV.nil) rfl ?_))))
  obtain rfl := QJ H
  replace hS := hS.cut 0
  exact ⟨rfl, hS⟩
 replace H := Zp H hb
 refine Za rfl rfl rfl (Zi Xn rfl (Zhr _) hS hs0 trivial Y2) (Za rfl rfl rfl (Zf V4 rfl) (Za rfl rfl rfl (Zh Z1 rfl (Zhr _) hS Xa trivial Vl) ?_))
 obtain ⟨r10, hm11, H⟩ := bind_some H
 refine Zn rfl rfl rfl rfl (by kernel_rfl) rfl (c_ref20_Fine x1 x0.n A5_ c5_ _ (Zhu s5_.k (hS.rd0 s5_.rd) (hS.blk0 s5_.blk)) hm11) ?_
 rintro e w ⟨rfl, hN⟩; refine ⟨_, rfl, ?_⟩; obtain ⟨hB, hS⟩ := hS.jn hN
 refine Zb 2 rfl (Zs 13 rfl (fun hb => ?_) (fun hb => ?_))
 rotate_left
 ·replace H := Zo H hb
  refine Zb 7 rfl (Zg (Zc hK6 (Zk (Zm rfl (RV.tmp rfl RV.nil) rfl ?_))))
  obtain rfl := QJ H
  replace hS := hS.cut 0
  exact ⟨rfl, hS⟩
 replace H := Zp H hb
 refine Za rfl rfl rfl (Zf Zeq rfl) (Za rfl rfl rfl (Zh Z1 rfl (Zhr _) hS hs0 trivial Za0) (Za rfl rfl rfl (Zf Zai rfl) (Za rfl rfl rfl (Zh Z1 rfl (Zhr _) hS Xa trivial Y4) (Za rfl rfl rfl (Y1 rfl rfl) (Zb 2 rfl (Zg (Zc hK6 ?_)))))))
 refine Zk (Zm rfl (RV.tmp rfl RV.nil) rfl ?_)
 obtain rfl := QJ H
 replace hS := hS.cut 0
 exact ⟨rfl, hS⟩
theorem c_ref21_Hear (x0 : Co) (x1 : Ms) (A0_ : OA) (c0_ : Nat) (A1_ : OA) (c1_ : Nat) (A2_ : OA) (c2_ : Nat) (A3_ : OA) (c3_ : Nat) (A4_ : OA) (c4_ : Nat) (A5_ : OA) (c5_ : Nat) (w0 : World) (s0_ : SlI w0 Vv A0_ c0_ x0.tuple.log) (s1_ : SlI w0 enO A1_ c1_ x0.votes) (s2_ : SlI w0 Vh A2_ c2_ x0.next) (s3_ : SlI w0 Vh A3_ c3_ x0.mtch) (s4_ : SlI w0 Vh A4_ c4_ x0.caps) (s5_ : SlI w0 Vv A5_ c5_ x1.entries) {r : Co} (H : Zee x0 x1 = some r) : Calls Tryz.prog 65 #[.agg #[.int .i64 x0.id, .int .i64 x0.n, .int .u8 x0.role, .int .i64 x0.binary, .int .i64 x0.tuple.snap.index, .int .i64 x0.tuple.snap.term, .int .i64 x0.tuple.snap.sum, .int .i64 x0.tuple.snap.level, .bool x0.tuple.snap.final, .slice A0_ x0.tuple.log.length c0_, .int .i64 x0.tuple.term, .int .i64 x0.tuple.vote, .int .i64 x0.commit, .int .i64 x0.applied.index, .int .i64 x0.applied.term, .int .i64 x0.applied.sum, .int .i64 x0.applied.level, .bool x0.applied.final, .slice A1_ x0.votes.length c1_, .slice A2_ x0.next.length c2_, .slice A3_ x0.mtch.length c3_, .slice A4_ x0.caps.length c4_], .agg #[.int .u8 x1.kind, .int .i64 x1.frm, .int .i64 x1.dst, .int .i64 x1.term, .int .i64 x1.cap, .int .i64 x1.last, .int .i64 x1.lastTerm, .int .i64 x1.commit, .bool x1.okk, .slice A5_ x1.entries.length c5_, .int .i64 x1.snap.index, .int .i64 x1.snap.term, .int .i64 x1.snap.sum, .int .i64 x1.snap.level, .bool x1.snap.final]] w0 fun e w' => ∃ (A0 : OA) (c0 : Nat) (A1 : OA) (c1 : Nat) (A2 : OA) (c2 : Nat) (A3 : OA) (c3 : Nat) (A4 : OA) (c4 : Nat), e = .returned (.agg #[.int .i64 r.id, .int .i64 r.n, .int .u8 r.role, .int .i64 r.binary, .int .i64 r.tuple.snap.index, .int .i64 r.tuple.snap.term, .int .i64 r.tuple.snap.sum, .int .i64 r.tuple.snap.level, .bool r.tuple.snap.final, .slice A0 r.tuple.log.length c0, .int .i64 r.tuple.term, .int .i64 r.tuple.vote, .int .i64 r.commit, .int .i64 r.applied.index, .int .i64 r.applied.term, .int .i64 r.applied.sum, .int .i64 r.applied.level, .bool r.applied.final, .slice A1 r.votes.length c1, .slice A2 r.next.length c2, .slice A3 r.mtch.length c3, .slice A4 r.caps.length c4]) ∧ (r.tuple.log.length ≤ c0 ∧ c0 ≤ maxLen) ∧ (r.votes.length ≤ c1 ∧ c1 ≤ maxLen) ∧ (r.next.length ≤ c2 ∧ c2 ≤ maxLen) ∧ (r.mtch.length ≤ c3 ∧ c3 ≤ maxLen) ∧ (r.caps.length ≤ c4 ∧ c4 ≤ maxLen) ∧ St0 All w0 w' [.row (.slice A0 r.tuple.log.length c0) 53 3 r.tuple.log.length (Yg Vv r.tuple.log), .row (.slice A1 r.votes.length c1) 4 1 r.votes.length (Yg enO r.votes), .row (.slice A2 r.next.length c2) 3 1 r.next.length (Yg Vh r.next), .row (.slice A3 r.mtch.length c3) 3 1 r.mtch.length (Yg Vh r.mtch), .row (.slice A4 r.caps.length c4) 3 1 r.caps.length (Yg Vh r.caps)] := by
 unfold Zee at H
 refine Yn Tryz.func65 rfl Tryz.ntmps65 rfl ?_
 have hS := St0.start All w0
 refine Zd (fun K hK1 => Ze (Z4 rfl rfl rfl CellsOf.agg hS (fun b2 w hS hB => Z4 rfl rfl rfl CellsOf.agg hS (fun b4 w hS hB => Z5 rfl rfl Zdk hS (fun b6 w hS hB => Zg (Zc hK1 (Zd (fun K hK8 => ?_))))))))
 refine Ze (Za rfl rfl rfl (Zi Z7 rfl (Zhr _) hS Xq trivial Zz) ?_)
 obtain ⟨r9, hm10, H⟩ := bind_some H
 refine Zn rfl rfl rfl rfl (by kernel_rfl) rfl (Zcw x0 A0_ c0_ A1_ c1_ A2_ c2_ A3_ c3_ A4_ c4_ _ (Zhu s0_.k (hS.rd0 s0_.rd) (hS.blk0 s0_.blk)) (Zhu s1_.k (hS.rd0 s1_.rd) (hS.blk0 s1_.blk)) (Zhu s2_.k (hS.rd0 s2_.rd) (hS.blk0 s2_.blk)) (Zhu s3_.k (hS.rd0 s3_.rd) (hS.blk0 s3_.blk)) (Zhu s4_.k (hS.rd0 s4_.rd) (hS.blk0 s4_.blk)) hm10) ?_
 rintro e w ⟨A11, c12, A15, c16, A19, c20, A23, c24, A27, c28, rfl, k13, k17, k21, k25, k29, hN⟩; refine ⟨_, rfl, ?_⟩; obtain ⟨hB, hS⟩ := hS.jn hN
 refine Zl rfl rfl rfl CellsOf.agg hS ps7 Yo (by kernel_rfl) rfl (fun w hS hB => Zg (Zc hK8 (Zd (fun K hK31 => Zd (fun K hK32 => Ze (Za rfl rfl rfl (Zi Z7 rfl (Zhr _) hS hs7 trivial Zz) (Za rfl rfl rfl (Zi Xn rfl (Zhr _) hS hs6 trivial Y2) ?_)))))))
 obtain ⟨r33, hm34, H⟩ := bind_some H
 refine Zn rfl rfl rfl rfl (by kernel_rfl) rfl (c_ref21_To r9 x1 A11 c12 A15 c16 A19 c20 A23 c24 A27 c28 A5_ c5_ _ (Zhu k13 (hS.row_rd hs0) (hS.row_blk hs0)) (Zhu k17 (hS.row_rd Xa) (hS.row_blk Xa)) (Zhu k21 (hS.row_rd Xq) (hS.row_blk Xq)) (Zhu k25 (hS.row_rd hs3) (hS.row_blk hs3)) (Zhu k29 (hS.row_rd hs4) (hS.row_blk hs4)) (Zhu s5_.k (hS.rd0 s5_.rd) (hS.blk0 s5_.blk)) hm34) ?_
 rintro e w ⟨rfl, hN⟩; refine ⟨_, rfl, ?_⟩; obtain ⟨hB, hS⟩ := hS.jn hN
 refine Zg (Zc hK32 (Zy rfl (fun hb => ?_) (fun hb => ?_)))
 rotate_left
 ·replace H := Zo H hb
  refine Zr (Zc hK31 (Zd (fun K hK42 => Ze (Za rfl rfl rfl (Zi Z7 rfl (Zhr _) hS hs7 trivial Zz) (Zl rfl rfl rfl CellsOf.agg hS ps5 Yo (by kernel_rfl) rfl (fun w hS hB => Zg (Zc hK42 ?_)))))))
  refine Zk (Zm rfl (RV.cell rfl (Zu Z7 hS hs5 Zz) RV.nil) rfl ?_)
  obtain rfl := QJ H
  have hS := hS.front 4 rfl
  have hS := hS.front 4 rfl
  have hS := hS.front 4 rfl
  have hS := hS.front 4 rfl
  have hS := hS.front 4 rfl
  replace hS := hS.cut 5
  exact ⟨A11, c12, A15, c16, A19, c20, A23, c24, A27, c28, rfl, k13, k17, k21, k25, k29, hS⟩
 replace H := Zp H hb
 refine Ze (Za rfl rfl rfl (Zf Jl rfl) (Za rfl rfl rfl (Zh X3 rfl (Zhr _) hS hs7 trivial Zdc) (Za rfl rfl rfl (Zf Zck rfl) (Za rfl rfl rfl (Zh Z1 rfl (Zhr _) hS hs6 trivial Vl) (Za rfl rfl rfl (Ju rfl rfl) (Za rfl rfl rfl (Zf fo_32_4 rfl) (Za rfl rfl rfl (Zh Z1 rfl (Zhr _) hS hs6 trivial Zfw) ?_)))))))
 obtain ⟨e36, hi38, H⟩ := bind_some H
 obtain ⟨j37, hi38a, hi38b, hi38c⟩ := Yt hi38
 refine Za rfl rfl rfl (Xf Xv rfl rfl hi38a hi38c (Rd.el (hS.row_rd hs4) Yh hi38b)) (wpX_storeR (a' := x1.cap) (zs := (Zbe r9.caps (IntKind.wrap .i64 (x1.frm - 1)) x1.cap)) Yh rfl rfl rfl CellsOf.int hS ps4 (Rd.el (hS.row_rd hs4) Yh hi38b) hi38a hi38b rfl Zfp (by kernel_rfl) rfl (fun w hS => ?_))
 have hi39b := Zc8 (a := x1.cap) hi38a hi38b
 have hi39a := hi38a
 refine Zg (Zc hK31 (Zd (fun K hK40 => Ze (Za rfl rfl rfl (Zi Z7 rfl (Zhr _) hS hs7 trivial Zz) (Zl rfl rfl rfl CellsOf.agg hS ps5 Yo (by kernel_rfl) rfl (fun w hS hB => Zg (Zc hK40 ?_)))))))
 refine Zk (Zm rfl (RV.cell rfl (Zu Z7 hS hs5 Zz) RV.nil) rfl ?_)
 obtain rfl := QJ H
 have hS := hS.front 4 rfl
 have hS := hS.front 4 rfl
 have hS := hS.front 4 rfl
 have hS := hS.front 4 rfl
 have hS := hS.front 4 rfl
 replace hS := hS.cut 5
 exact ⟨A11, c12, A15, c16, A19, c20, A23, c24, A27, c28, by (repeat rw [(Jg rfl)]); rfl, k13, k17, k21, k25, (Zhd k29), hS.eqv (by (repeat rw [(Jg rfl)]); rfl)⟩
theorem c_ref22_Meet (x0 : Co) (x1 : Ms) (A0_ : OA) (c0_ : Nat) (A1_ : OA) (c1_ : Nat) (A2_ : OA) (c2_ : Nat) (A3_ : OA) (c3_ : Nat) (A4_ : OA) (c4_ : Nat) (A5_ : OA) (c5_ : Nat) (w0 : World) (s0_ : SlI w0 Vv A0_ c0_ x0.tuple.log) (s1_ : SlI w0 enO A1_ c1_ x0.votes) (s2_ : SlI w0 Vh A2_ c2_ x0.next) (s3_ : SlI w0 Vh A3_ c3_ x0.mtch) (s4_ : SlI w0 Vh A4_ c4_ x0.caps) (s5_ : SlI w0 Vv A5_ c5_ x1.entries) {r : Co} (H : Zc0 x0 x1 = some r) : Calls Tryz.prog 18 #[.agg #[.int .i64 x0.id, .int .i64 x0.n, .int .u8 x0.role, .int .i64 x0.binary, .int .i64 x0.tuple.snap.index, .int .i64 x0.tuple.snap.term, .int .i64 x0.tuple.snap.sum, .int .i64 x0.tuple.snap.level, .bool x0.tuple.snap.final, .slice A0_ x0.tuple.log.length c0_, .int .i64 x0.tuple.term, .int .i64 x0.tuple.vote, .int .i64 x0.commit, .int .i64 x0.applied.index, .int .i64 x0.applied.term, .int .i64 x0.applied.sum, .int .i64 x0.applied.level, .bool x0.applied.final, .slice A1_ x0.votes.length c1_, .slice A2_ x0.next.length c2_, .slice A3_ x0.mtch.length c3_, .slice A4_ x0.caps.length c4_], .agg #[.int .u8 x1.kind, .int .i64 x1.frm, .int .i64 x1.dst, .int .i64 x1.term, .int .i64 x1.cap, .int .i64 x1.last, .int .i64 x1.lastTerm, .int .i64 x1.commit, .bool x1.okk, .slice A5_ x1.entries.length c5_, .int .i64 x1.snap.index, .int .i64 x1.snap.term, .int .i64 x1.snap.sum, .int .i64 x1.snap.level, .bool x1.snap.final]] w0 fun e w' => ∃ (A0 : OA) (c0 : Nat) (A1 : OA) (c1 : Nat) (A2 : OA) (c2 : Nat) (A3 : OA) (c3 : Nat) (A4 : OA) (c4 : Nat), e = .returned (.agg #[.int .i64 r.id, .int .i64 r.n, .int .u8 r.role, .int .i64 r.binary, .int .i64 r.tuple.snap.index, .int .i64 r.tuple.snap.term, .int .i64 r.tuple.snap.sum, .int .i64 r.tuple.snap.level, .bool r.tuple.snap.final, .slice A0 r.tuple.log.length c0, .int .i64 r.tuple.term, .int .i64 r.tuple.vote, .int .i64 r.commit, .int .i64 r.applied.index, .int .i64 r.applied.term, .int .i64 r.applied.sum, .int .i64 r.applied.level, .bool r.applied.final, .slice A1 r.votes.length c1, .slice A2 r.next.length c2, .slice A3 r.mtch.length c3, .slice A4 r.caps.length c4]) ∧ (r.tuple.log.length ≤ c0 ∧ c0 ≤ maxLen) ∧ (r.votes.length ≤ c1 ∧ c1 ≤ maxLen) ∧ (r.next.length ≤ c2 ∧ c2 ≤ maxLen) ∧ (r.mtch.length ≤ c3 ∧ c3 ≤ maxLen) ∧ (r.caps.length ≤ c4 ∧ c4 ≤ maxLen) ∧ St0 All w0 w' [.row (.slice A0 r.tuple.log.length c0) 53 3 r.tuple.log.length (Yg Vv r.tuple.log), .row (.slice A1 r.votes.length c1) 4 1 r.votes.length (Yg enO r.votes), .row (.slice A2 r.next.length c2) 3 1 r.next.length (Yg Vh r.next), .row (.slice A3 r.mtch.length c3) 3 1 r.mtch.length (Yg Vh r.mtch), .row (.slice A4 r.caps.length c4) 3 1 r.caps.length (Yg Vh r.caps)] := by
 unfold Zc0 at H
 refine Yn Tryz.func18 rfl Tryz.ntmps18 rfl ?_
 have hS := St0.start All w0
 refine Zd (fun K hK1 => Ze (Z4 rfl rfl rfl CellsOf.agg hS (fun b2 w hS hB => Z4 rfl rfl rfl CellsOf.agg hS (fun b4 w hS hB => Z5 rfl rfl Zdk hS (fun b6 w hS hB => Zg (Zc hK1 (Zd (fun K hK8 => ?_))))))))
 refine Ze (Za rfl rfl rfl (Zi Z7 rfl (Zhr _) hS Xq trivial Zz) ?_)
 obtain ⟨r9, hm10, H⟩ := bind_some H
 refine Zn rfl rfl rfl rfl (by kernel_rfl) rfl (Zcw x0 A0_ c0_ A1_ c1_ A2_ c2_ A3_ c3_ A4_ c4_ _ (Zhu s0_.k (hS.rd0 s0_.rd) (hS.blk0 s0_.blk)) (Zhu s1_.k (hS.rd0 s1_.rd) (hS.blk0 s1_.blk)) (Zhu s2_.k (hS.rd0 s2_.rd) (hS.blk0 s2_.blk)) (Zhu s3_.k (hS.rd0 s3_.rd) (hS.blk0 s3_.blk)) (Zhu s4_.k (hS.rd0 s4_.rd) (hS.blk0 s4_.blk)) hm10) ?_
 rintro e w ⟨A11, c12, A15, c16, A19, c20, A23, c24, A27, c28, rfl, k13, k17, k21, k25, k29, hN⟩; refine ⟨_, rfl, ?_⟩; obtain ⟨hB, hS⟩ := hS.jn hN
 refine Zl rfl rfl rfl CellsOf.agg hS ps7 Yo (by kernel_rfl) rfl (fun w hS hB => Zg (Zc hK8 (Zd (fun K hK31 => Zd (fun K hK32 => Ze (Za rfl rfl rfl (Zi Z7 rfl (Zhr _) hS hs7 trivial Zz) (Za rfl rfl rfl (Zi Xn rfl (Zhr _) hS hs6 trivial Y2) ?_)))))))
 obtain ⟨r33, hm34, H⟩ := bind_some H
 refine Zn rfl rfl rfl rfl (by kernel_rfl) rfl (c_ref22_fits r9 x1 A11 c12 A15 c16 A19 c20 A23 c24 A27 c28 A5_ c5_ _ (Zhu k13 (hS.row_rd hs0) (hS.row_blk hs0)) (Zhu k17 (hS.row_rd Xa) (hS.row_blk Xa)) (Zhu k21 (hS.row_rd Xq) (hS.row_blk Xq)) (Zhu k25 (hS.row_rd hs3) (hS.row_blk hs3)) (Zhu k29 (hS.row_rd hs4) (hS.row_blk hs4)) (Zhu s5_.k (hS.rd0 s5_.rd) (hS.blk0 s5_.blk)) hm34) ?_
 rintro e w ⟨rfl, hN⟩; refine ⟨_, rfl, ?_⟩; obtain ⟨hB, hS⟩ := hS.jn hN
 refine Za rfl rfl rfl (Ys rfl) (Zg (Zc hK32 (Zy rfl (fun hb => ?_) (fun hb => ?_))))
 ·replace H := Zp H hb
  refine Zd (fun K hK36 => Ze (Za rfl rfl rfl (Zi Z7 rfl (Zhr _) hS hs7 trivial Zz) (Zl rfl rfl rfl CellsOf.agg hS ps5 Yo (by kernel_rfl) rfl (fun w hS hB => Zg (Zc hK36 (Zk (Zj ?_)))))))
  refine Zm rfl (RV.cell rfl (Zu Z7 hS hs5 Zz) RV.nil) rfl ?_
  obtain rfl := QJ H
  have hS := hS.front 4 rfl
  have hS := hS.front 4 rfl
  have hS := hS.front 4 rfl
  have hS := hS.front 4 rfl
  have hS := hS.front 4 rfl
  replace hS := hS.cut 5
  exact ⟨A11, c12, A15, c16, A19, c20, A23, c24, A27, c28, rfl, k13, k17, k21, k25, k29, hS⟩
 replace H := Zo H hb
 refine Zr (Zc hK31 (Zd (fun K hK38 => Ze (Za rfl rfl rfl (Zi Z7 rfl (Zhr _) hS hs7 trivial Zz) (Za rfl rfl rfl (Zi Xn rfl (Zhr _) hS hs6 trivial Y2) ?_)))))
 obtain ⟨r39, hm40, H⟩ := bind_some H
 refine Zn rfl rfl rfl rfl (by kernel_rfl) rfl (c_ref21_Hear r9 x1 A11 c12 A15 c16 A19 c20 A23 c24 A27 c28 A5_ c5_ _ (Zhu k13 (hS.row_rd hs0) (hS.row_blk hs0)) (Zhu k17 (hS.row_rd Xa) (hS.row_blk Xa)) (Zhu k21 (hS.row_rd Xq) (hS.row_blk Xq)) (Zhu k25 (hS.row_rd hs3) (hS.row_blk hs3)) (Zhu k29 (hS.row_rd hs4) (hS.row_blk hs4)) (Zhu s5_.k (hS.rd0 s5_.rd) (hS.blk0 s5_.blk)) hm40) ?_
 rintro e w ⟨A41, c42, A45, c46, A49, c50, A53, c54, A57, c58, rfl, k43, k47, k51, k55, k59, hN⟩; refine ⟨_, rfl, ?_⟩; obtain ⟨hB, hS⟩ := hS.jn hN
 refine Zl rfl rfl rfl CellsOf.agg hS ps12 Yo (by kernel_rfl) rfl (fun w hS hB => Zg (Zc hK38 (Zd (fun K hK61 => Zd (fun K hK62 => Ze (Za rfl rfl rfl (Zf Zca rfl) (Za rfl rfl rfl (Zh Z1 rfl (Zhr _) hS hs11 trivial J9) ?_)))))))
 refine Za rfl rfl rfl (Zf Yy rfl) (Za rfl rfl rfl (Zf Vi rfl) (Za rfl rfl rfl (Zh Z1 rfl (Zhr _) hS hs12 trivial Zam) (Za rfl rfl rfl (Za5 rfl rfl) (Zg (Zc hK62 (Zy rfl (fun hb => ?_) (fun hb => ?_)))))))
 ·replace H := Zp H hb
  refine Zd (fun K hK64 => Ze (Za rfl rfl rfl (Zi Z7 rfl (Zhr _) hS hs12 trivial Zz) (Zl rfl rfl rfl CellsOf.agg hS ps10 Yo (by kernel_rfl) rfl (fun w hS hB => Zg (Zc hK64 (Zk (Zj ?_)))))))
  refine Zm rfl (RV.cell rfl (Zu Z7 hS Zek Zz) RV.nil) rfl ?_
  obtain rfl := QJ H
  have hS := hS.front 4 rfl
  have hS := hS.front 4 rfl
  have hS := hS.front 4 rfl
  have hS := hS.front 4 rfl
  have hS := hS.front 4 rfl
  replace hS := hS.cut 5
  exact ⟨A41, c42, A45, c46, A49, c50, A53, c54, A57, c58, rfl, k43, k47, k51, k55, k59, hS⟩
 replace H := Zo H hb
 refine Zr (Zc hK61 (Zd (fun K hK66 => Ze (Za rfl rfl rfl (Zf Yy rfl) (Za rfl rfl rfl (Zi Ya rfl (Zhr _) hS hs12 trivial Jv) (Za rfl rfl rfl (Zf Zca rfl) (Za rfl rfl rfl (Zh Z1 rfl (Zhr _) hS hs11 trivial J9) ?_)))))))
 obtain ⟨r67, hm68, H⟩ := bind_some H
 refine Zn rfl rfl rfl rfl (by kernel_rfl) rfl (c_ref12_Hard r39.tuple x1.term 0 A41 c42 _ (Zhu k43 (hS.row_rd hs0) (hS.row_blk hs0)) hm68) ?_
 rintro e w ⟨A69, c70, rfl, k71, hN⟩; refine ⟨_, rfl, ?_⟩; obtain ⟨hB, hS⟩ := hS.jn hN
 refine Zb 1 rfl (Za rfl rfl rfl (Zv rfl rfl) (Za rfl rfl rfl (Zv rfl rfl) (Za rfl rfl rfl (Zf Yy rfl) (Zl rfl rfl rfl CellsOf.agg hS ps13 st4_8 (by kernel_rfl) rfl (fun w hS hB => Zg (Zc hK66 (Zd (fun K hK73 => ?_))))))))
 refine Ze (Za rfl rfl rfl (Zf Zbj rfl) (Zl rfl rfl rfl CellsOf.int hS ps13 st2_1 (by kernel_rfl) rfl (fun w hS hB => Zg (Zc hK73 (Zd (fun K hK74 => Ze (Za rfl rfl rfl (Zf V4 rfl) ?_)))))))
 refine Za rfl rfl rfl (Zh Z1 rfl (Zhr _) hS Zg4 trivial Vl) ?_
 obtain ⟨l75, hm76, H⟩ := bind_some H
 refine wpX_make Zg6 em_27 rfl (by decide) rfl rfl rfl rfl hS hm76 (fun A77 c78 w k79 hS hB => ?_)
 refine Za rfl rfl rfl (Zf Zbg rfl) (Zl rfl rfl rfl CellsOf.slice hS ps14 st18_1 (by kernel_rfl) rfl (fun w hS hB => Zg (Zc hK74 (Zd (fun K hK81 => Ze (Za rfl rfl rfl (Zi Z7 rfl (Zhr _) hS Zg8 trivial Zz) (Zl rfl rfl rfl CellsOf.agg hS ps12 Yo (by kernel_rfl) rfl (fun w hS hB => ?_))))))))
 refine Zg (Zc hK81 (Zk (Zm rfl (RV.cell rfl (Zu Z7 hS hs12 Zz) RV.nil) rfl ?_)))
 obtain rfl := QJ H
 have hS := hS.front 6 rfl
 have hS := hS.front 6 rfl
 have hS := hS.front 6 rfl
 have hS := hS.front 3 rfl
 have hS := hS.front 4 rfl
 replace hS := hS.cut 5
 exact ⟨A69, c70, A77, c78, A49, c50, A53, c54, A57, c58, rfl, k71, k79, k51, k55, k59, hS⟩
theorem c_ref20_Back (x0 : Co) (x1 : Ms) (x2 : Int) (x3 : Bool) (x4 : Int) (A0_ : OA) (c0_ : Nat) (A1_ : OA) (c1_ : Nat) (A2_ : OA) (c2_ : Nat) (A3_ : OA) (c3_ : Nat) (A4_ : OA) (c4_ : Nat) (A5_ : OA) (c5_ : Nat) (w0 : World) (s0_ : SlI w0 Vv A0_ c0_ x0.tuple.log) (s1_ : SlI w0 enO A1_ c1_ x0.votes) (s2_ : SlI w0 Vh A2_ c2_ x0.next) (s3_ : SlI w0 Vh A3_ c3_ x0.mtch) (s4_ : SlI w0 Vh A4_ c4_ x0.caps) (s5_ : SlI w0 Vv A5_ c5_ x1.entries) {r : Ms} (H : m_ref20_Back x0 x1 x2 x3 x4 = some r) : Calls Tryz.prog 63 #[.agg #[.int .i64 x0.id, .int .i64 x0.n, .int .u8 x0.role, .int .i64 x0.binary, .int .i64 x0.tuple.snap.index, .int .i64 x0.tuple.snap.term, .int .i64 x0.tuple.snap.sum, .int .i64 x0.tuple.snap.level, .bool x0.tuple.snap.final, .slice A0_ x0.tuple.log.length c0_, .int .i64 x0.tuple.term, .int .i64 x0.tuple.vote, .int .i64 x0.commit, .int .i64 x0.applied.index, .int .i64 x0.applied.term, .int .i64 x0.applied.sum, .int .i64 x0.applied.level, .bool x0.applied.final, .slice A1_ x0.votes.length c1_, .slice A2_ x0.next.length c2_, .slice A3_ x0.mtch.length c3_, .slice A4_ x0.caps.length c4_], .agg #[.int .u8 x1.kind, .int .i64 x1.frm, .int .i64 x1.dst, .int .i64 x1.term, .int .i64 x1.cap, .int .i64 x1.last, .int .i64 x1.lastTerm, .int .i64 x1.commit, .bool x1.okk, .slice A5_ x1.entries.length c5_, .int .i64 x1.snap.index, .int .i64 x1.snap.term, .int .i64 x1.snap.sum, .int .i64 x1.snap.level, .bool x1.snap.final], .int .u8 x2, .bool x3, .int .i64 x4] w0 fun e w' => ∃ (A0 : OA) (c0 : Nat), e = .returned (.agg #[.int .u8 r.kind, .int .i64 r.frm, .int .i64 r.dst, .int .i64 r.term, .int .i64 r.cap, .int .i64 r.last, .int .i64 r.lastTerm, .int .i64 r.commit, .bool r.okk, .slice A0 r.entries.length c0, .int .i64 r.snap.index, .int .i64 r.snap.term, .int .i64 r.snap.sum, .int .i64 r.snap.level, .bool r.snap.final]) ∧ (r.entries.length ≤ c0 ∧ c0 ≤ maxLen) ∧ St0 All w0 w' [.rd A0 (Yg Vv r.entries)] := by
 unfold m_ref20_Back at H
 refine gw_enter5 Tryz.func63 rfl Tryz.ntmps63 rfl ?_
 have hS := St0.start All w0
 refine Zd (fun K hK1 => Ze (Z4 rfl rfl rfl CellsOf.agg hS (fun b2 w hS hB => Z4 rfl rfl rfl CellsOf.agg hS (fun b4 w hS hB => Z5 rfl rfl Zba hS (fun b6 w hS hB => Zg (Zc hK1 (Zd (fun K hK8 => ?_))))))))
 refine Ze (Zb 1 rfl (Za rfl rfl rfl (Zf Zai rfl) (Za rfl rfl rfl (Zh Z1 rfl (Zhr _) hS Xq trivial Y4) (Za rfl rfl rfl (Zf Zck rfl) (Za rfl rfl rfl (Zh Z1 rfl (Zhr _) hS Xa trivial Vl) (Za rfl rfl rfl (Zf Yy rfl) (Za rfl rfl rfl (Zf Vi rfl) ?_)))))))
 refine Za rfl rfl rfl (Zh Z1 rfl (Zhr _) hS Xq trivial Zam) (Za rfl rfl rfl (Zf Zdr rfl) (Za rfl rfl rfl (Zh Z1 rfl (Zhr _) hS Xq trivial J9) (Zb 2 rfl (Za rfl rfl rfl (Xl (cells := [.int .u8 x2, .int .i64 x0.id, .int .i64 x1.frm, .int .i64 x0.tuple.term, .int .i64 x0.binary, .int .i64 x4, .int .i64 0, .int .i64 0, .bool x3, .slice none 0 0, .int .i64 0, .int .i64 0, .int .i64 0, .int .i64 0, .bool false]) rfl (by kernel_rfl)) (Zl rfl rfl rfl CellsOf.agg hS ps0 Zaq (by kernel_rfl) rfl (fun w hS hB => Zg (Zc hK8 ?_)))))))
 refine Zk (Zm rfl (RV.cell rfl (Zu Xn hS hs0 Y2) RV.nil) rfl ?_)
 obtain rfl := QJ H
 have hS := hS.nilRd
 replace hS := hS.cut 1
 exact ⟨none, 0, rfl, ⟨Nat.le_refl _, Nat.zero_le _⟩, hS⟩
theorem c_law23_great (x0 : Co) (x1 : Ms) (A0_ : OA) (c0_ : Nat) (A1_ : OA) (c1_ : Nat) (A2_ : OA) (c2_ : Nat) (A3_ : OA) (c3_ : Nat) (A4_ : OA) (c4_ : Nat) (A5_ : OA) (c5_ : Nat) (w0 : World) (s0_ : SlI w0 Vv A0_ c0_ x0.tuple.log) (s1_ : SlI w0 enO A1_ c1_ x0.votes) (s2_ : SlI w0 Vh A2_ c2_ x0.next) (s3_ : SlI w0 Vh A3_ c3_ x0.mtch) (s4_ : SlI w0 Vh A4_ c4_ x0.caps) (s5_ : SlI w0 Vv A5_ c5_ x1.entries) {r : Bool} (H : Zdn x0 x1 = some r) : Calls Tryz.prog 25 #[.agg #[.int .i64 x0.id, .int .i64 x0.n, .int .u8 x0.role, .int .i64 x0.binary, .int .i64 x0.tuple.snap.index, .int .i64 x0.tuple.snap.term, .int .i64 x0.tuple.snap.sum, .int .i64 x0.tuple.snap.level, .bool x0.tuple.snap.final, .slice A0_ x0.tuple.log.length c0_, .int .i64 x0.tuple.term, .int .i64 x0.tuple.vote, .int .i64 x0.commit, .int .i64 x0.applied.index, .int .i64 x0.applied.term, .int .i64 x0.applied.sum, .int .i64 x0.applied.level, .bool x0.applied.final, .slice A1_ x0.votes.length c1_, .slice A2_ x0.next.length c2_, .slice A3_ x0.mtch.length c3_, .slice A4_ x0.caps.length c4_], .agg #[.int .u8 x1.kind, .int .i64 x1.frm, .int .i64 x1.dst, .int .i64 x1.term, .int .i64 x1.cap, .int .i64 x1.last, .int .i64 x1.lastTerm, .int .i64 x1.commit, .bool x1.okk, .slice A5_ x1.entries.length c5_, .int .i64 x1.snap.index, .int .i64 x1.snap.term, .int .i64 x1.snap.sum, .int .i64 x1.snap.level, .bool x1.snap.final]] w0 fun e w' => e = .returned (.bool r) ∧ St0 All w0 w' [] := by
 unfold Zdn at H
 refine Yn Tryz.func25 rfl Tryz.ntmps25 rfl ?_
 have hS := St0.start All w0
 refine Zd (fun K hK1 => Ze (Z4 rfl rfl rfl CellsOf.agg hS (fun b2 w hS hB => Z4 rfl rfl rfl CellsOf.agg hS (fun b4 w hS hB => Zb 1 rfl (Zg (Zc hK1 (Zd (fun K hK6 => ?_))))))))
 refine Ze (Za rfl rfl rfl (Zi Z7 rfl (Zhr _) hS Xa trivial Zz) ?_)
 obtain ⟨r7, hm8, H⟩ := bind_some H
 refine Zn rfl rfl rfl rfl (by kernel_rfl) rfl (c_ref20_Great x0 A0_ c0_ A1_ c1_ A2_ c2_ A3_ c3_ A4_ c4_ _ (Zhu s0_.k (hS.rd0 s0_.rd) (hS.blk0 s0_.blk)) (Zhu s1_.k (hS.rd0 s1_.rd) (hS.blk0 s1_.blk)) (Zhu s2_.k (hS.rd0 s2_.rd) (hS.blk0 s2_.blk)) (Zhu s3_.k (hS.rd0 s3_.rd) (hS.blk0 s3_.blk)) (Zhu s4_.k (hS.rd0 s4_.rd) (hS.blk0 s4_.blk)) hm8) ?_
 rintro e w ⟨rfl, hN⟩; refine ⟨_, rfl, ?_⟩; obtain ⟨hB, hS⟩ := hS.jn hN
 refine Zb 1 rfl (Zs 7 rfl (fun hb => ?_) (fun hb => ?_))
 ·replace H := Zp H hb
  refine Zb 6 rfl (Zg (Zc hK6 (Zk (Zm rfl (RV.tmp rfl RV.nil) rfl ?_))))
  obtain rfl := QJ H
  replace hS := hS.cut 0
  exact ⟨rfl, hS⟩
 replace H := Zo H hb
 refine Za rfl rfl rfl (Zf X8 rfl) (Za rfl rfl rfl (Zh Xx rfl (Zhr _) hS hs0 trivial Zak) (Za rfl rfl rfl (Y0 Y8 rfl) (Za rfl rfl rfl (Xc rfl rfl) (Zb 2 rfl (Zg (Zc hK6 (Zk ?_)))))))
 refine Zm rfl (RV.tmp rfl RV.nil) rfl ?_
 obtain rfl := QJ H
 replace hS := hS.cut 0
 exact ⟨rfl, hS⟩
theorem c_repl_from (x0 : Tu) (x1 : Int) (x2 : Int) (A0_ : OA) (c0_ : Nat) (w0 : World) (s0_ : SlI w0 Vv A0_ c0_ x0.log) : Calls Tryz.prog 71 #[.agg #[.int .i64 x0.snap.index, .int .i64 x0.snap.term, .int .i64 x0.snap.sum, .int .i64 x0.snap.level, .bool x0.snap.final, .slice A0_ x0.log.length c0_, .int .i64 x0.term, .int .i64 x0.vote], .int .i64 x1, .int .i64 x2] w0 fun e w' => ∃ (b0_ : Nat) (b1_ : Nat) (b2_ : Nat), e = .returned (.func (.func 114) #[] #[.pointer (some ⟨b0_, 0, none⟩), .pointer (some ⟨b1_, 0, none⟩), .pointer (some ⟨b2_, 0, none⟩)]) ∧ St0 All w0 w' [.box b0_ [.int .i64 x0.snap.index, .int .i64 x0.snap.term, .int .i64 x0.snap.sum, .int .i64 x0.snap.level, .bool x0.snap.final, .slice A0_ x0.log.length c0_, .int .i64 x0.term, .int .i64 x0.vote] 26, .box b1_ [.int .i64 x1] 3, .box b2_ [.int .i64 x2] 3] := by
 refine Vx Tryz.func71 rfl Tryz.ntmps71 rfl ?_
 have hS := St0.start All w0
 refine Zd (fun K hK1 => Ze (Z4 rfl rfl rfl CellsOf.agg hS (fun b2 w hS hB => Z4 rfl rfl rfl CellsOf.int hS (fun b4 w hS hB => Z4 rfl rfl rfl CellsOf.int hS (fun b6 w hS hB => Zb 1 rfl (Zg (Zc hK1 ?_)))))))
 refine Zd (fun K hK8 => Ze (Za rfl rfl rfl (Vc rfl rfl) (Zb 1 rfl (Zg (Zc hK8 (Zk (Zm rfl (RV.tmp rfl RV.nil) rfl ?_)))))))
 have hS := hS.front 0 rfl
 have hS := hS.front 1 rfl
 have hS := hS.front 2 rfl
 exact ⟨b2, b4, b6, rfl, hS.sub (List.Sublist.cons_cons _ (List.Sublist.cons_cons _ (List.Sublist.cons_cons _ List.Sublist.slnil)))⟩
theorem Zeo (x0 : Co) (x1 : Int) (A0_ : OA) (c0_ : Nat) (A1_ : OA) (c1_ : Nat) (A2_ : OA) (c2_ : Nat) (A3_ : OA) (c3_ : Nat) (A4_ : OA) (c4_ : Nat) (w0 : World) (s0_ : SlI w0 Vv A0_ c0_ x0.tuple.log) (s1_ : SlI w0 enO A1_ c1_ x0.votes) (s2_ : SlI w0 Vh A2_ c2_ x0.next) (s3_ : SlI w0 Vh A3_ c3_ x0.mtch) (s4_ : SlI w0 Vh A4_ c4_ x0.caps) {r : Ms × Bool} (H : Vb x0 x1 = some r) : Calls Tryz.prog 27 #[.agg #[.int .i64 x0.id, .int .i64 x0.n, .int .u8 x0.role, .int .i64 x0.binary, .int .i64 x0.tuple.snap.index, .int .i64 x0.tuple.snap.term, .int .i64 x0.tuple.snap.sum, .int .i64 x0.tuple.snap.level, .bool x0.tuple.snap.final, .slice A0_ x0.tuple.log.length c0_, .int .i64 x0.tuple.term, .int .i64 x0.tuple.vote, .int .i64 x0.commit, .int .i64 x0.applied.index, .int .i64 x0.applied.term, .int .i64 x0.applied.sum, .int .i64 x0.applied.level, .bool x0.applied.final, .slice A1_ x0.votes.length c1_, .slice A2_ x0.next.length c2_, .slice A3_ x0.mtch.length c3_, .slice A4_ x0.caps.length c4_], .int .i64 x1] w0 fun e w' => ∃ (A0 : OA) (c0 : Nat), e = .returned (.tuple #[.agg #[.int .u8 r.1.kind, .int .i64 r.1.frm, .int .i64 r.1.dst, .int .i64 r.1.term, .int .i64 r.1.cap, .int .i64 r.1.last, .int .i64 r.1.lastTerm, .int .i64 r.1.commit, .bool r.1.okk, .slice A0 r.1.entries.length c0, .int .i64 r.1.snap.index, .int .i64 r.1.snap.term, .int .i64 r.1.snap.sum, .int .i64 r.1.snap.level, .bool r.1.snap.final], .bool r.2]) ∧ (r.1.entries.length ≤ c0 ∧ c0 ≤ maxLen) ∧ St0 All w0 w' [.row (.slice A0 r.1.entries.length c0) 53 3 r.1.entries.length (Yg Vv r.1.entries)] := by
 unfold Vb at H
 refine Yn Tryz.func27 rfl Tryz.ntmps27 rfl ?_
 have hS := St0.start All w0
 refine Zd (fun K hK1 => Ze (Z4 rfl rfl rfl CellsOf.agg hS (fun b2 w hS hB => Z5 rfl rfl Zba hS (fun b4 w hS hB => Zb 1 rfl (Zg (Zc hK1 (Zd (fun K hK6 => ?_))))))))
 refine Zd (fun K hK7 => Yi 37 [] (fun _ _ => True) ⟨by kernel_rfl, by kernel_rfl⟩ hS (fun w hS hB => Zq [true] (by decide +kernel) PFC.h (LtK.put rfl rfl rfl (Zi Z7 rfl (Zhs _) hS Xa trivial Zz) (LtK.nil (Z6 [Ff,Tt] 1 ⟨by decide, by kernel_rfl, by kernel_rfl⟩ rfl rfl ?_)))))
 try dsimp only [Z0]
 obtain ⟨r8, hm9, H⟩ := bind_some H
 refine Zn rfl rfl rfl rfl (by kernel_rfl) rfl (Zg0 x0 A0_ c0_ A1_ c1_ A2_ c2_ A3_ c3_ A4_ c4_ _ (Zhu s0_.k (hS.rd0 s0_.rd) (hS.blk0 s0_.blk)) (Zhu s1_.k (hS.rd0 s1_.rd) (hS.blk0 s1_.blk)) (Zhu s2_.k (hS.rd0 s2_.rd) (hS.blk0 s2_.blk)) (Zhu s3_.k (hS.rd0 s3_.rd) (hS.blk0 s3_.blk)) (Zhu s4_.k (hS.rd0 s4_.rd) (hS.blk0 s4_.blk)) hm9) ?_
 rintro e w ⟨rfl, hN⟩; refine ⟨_, rfl, ?_⟩; obtain ⟨hB, hS⟩ := hS.jn hN
 refine Zg (Z9 hB (Zq [Ff,Ff,Tt,Tt] (by decide +kernel) PFC.h (LtK.put rfl rfl rfl (Ys rfl) (LtK.put rfl rfl rfl (Zw rfl) (LtK.nil (Jw 11 rfl (fun hb => ?_) (fun hb => ?_)))))))
 ·replace H := Zp H hb
  refine Zq [Ff,Ff,Ff,Ff,Tt,Tt,Tt,Tt,Tt,Tt,Tt,Tt,Tt,Tt,Tt,Tt,Tt,Tt,Tt,Tt,Tt,Tt,Tt,Tt,Tt,Tt,Tt,Tt,Tt,Tt,Tt,Tt,Tt,Tt,Tt,Tt,Tt] (by decide +kernel) PFC.h (LtK.skip rfl rfl rfl (LtK.skip rfl rfl rfl (LtK.skip rfl rfl rfl (LtK.put rfl rfl rfl (Ym rfl rfl rfl) (LtK.put rfl rfl rfl (Zw rfl) (LtK.skip rfl rfl rfl (LtK.skip rfl rfl rfl ?_)))))))
  refine LtK.put rfl rfl rfl (Ym rfl rfl rfl) (LtK.put rfl rfl rfl (Zw rfl) (LtK.skip rfl rfl rfl (LtK.skip rfl rfl rfl (LtK.skip rfl rfl rfl (LtK.skip rfl rfl rfl (LtK.put rfl rfl rfl (Ym rfl rfl rfl) (LtK.put rfl rfl rfl (Zw rfl) ?_)))))))
  refine LtK.skip rfl rfl rfl (LtK.skip rfl rfl rfl (LtK.skip rfl rfl rfl (LtK.skip rfl rfl rfl (LtK.put rfl rfl rfl (Ym rfl rfl rfl) (LtK.put rfl rfl rfl (Zw rfl) (LtK.skip rfl rfl rfl (LtK.skip rfl rfl rfl ?_)))))))
  refine LtK.skip rfl rfl rfl (LtK.skip rfl rfl rfl (LtK.skip rfl rfl rfl (LtK.skip rfl rfl rfl (LtK.skip rfl rfl rfl (LtK.skip rfl rfl rfl (LtK.skip rfl rfl rfl (LtK.skip rfl rfl rfl ?_)))))))
  refine LtK.skip rfl rfl rfl (LtK.put rfl rfl rfl (Ym rfl rfl rfl) (LtK.nil (Ye (by kernel_rfl) (Zc hK7 (Zt rfl rfl (Zd (fun K hK11 => Ze ?_)))))))
  refine Za rfl rfl rfl (Zi Xn rfl (Zhr _) hS hs0 trivial Y2) (Zl rfl rfl rfl CellsOf.agg hS ps0 Zaq (by kernel_rfl) rfl (fun w hS hB => Zb 1 rfl (Zg (Zc hK11 (Zk (Zj (Zm rfl (RV.cell rfl (Zu Xn hS hs0 Y2) (RV.tmp rfl RV.nil)) rfl ?_)))))))
  obtain rfl := QJ H
  have hS := hS.nilRow 53 3
  replace hS := hS.cut 1
  exact ⟨none, 0, rfl, ⟨Nat.le_refl _, Nat.zero_le _⟩, hS⟩
 replace H := Zo H hb
 refine Zq [Ff,Ff,Ff,Ff,Tt,Tt,Tt,Tt,Tt] (by decide +kernel) PFC.h (LtK.put rfl rfl rfl (Zf Zbj rfl) (LtK.put rfl rfl rfl (Zh Zbq rfl (Zhs _) hS Xa trivial Za0) (LtK.put rfl rfl rfl (Xu rfl rfl) (LtK.put rfl rfl rfl (Y3 rfl rfl rfl) (LtK.put rfl rfl rfl (Zw rfl) (LtK.nil (Jw 16 rfl (fun hb => ?_) (fun hb => ?_))))))))
 ·replace H := Zp H hb
  refine Zq [Ff,Ff,Ff,Ff,Ff,Ff,Ff,Ff,Ff,Tt,Tt,Tt,Tt,Tt,Tt,Tt,Tt,Tt,Tt,Tt,Tt,Tt,Tt,Tt,Tt,Tt,Tt,Tt,Tt,Tt,Tt,Tt,Tt,Tt,Tt,Tt,Tt] (by decide +kernel) PFC.h (LtK.skip rfl rfl rfl (LtK.skip rfl rfl rfl (LtK.put rfl rfl rfl (Ym rfl rfl rfl) (LtK.put rfl rfl rfl (Zw rfl) (LtK.skip rfl rfl rfl (LtK.skip rfl rfl rfl (LtK.skip rfl rfl rfl ?_)))))))
  refine LtK.skip rfl rfl rfl (LtK.put rfl rfl rfl (Ym rfl rfl rfl) (LtK.put rfl rfl rfl (Zw rfl) (LtK.skip rfl rfl rfl (LtK.skip rfl rfl rfl (LtK.skip rfl rfl rfl (LtK.skip rfl rfl rfl (LtK.put rfl rfl rfl (Ym rfl rfl rfl) ?_)))))))
  refine LtK.put rfl rfl rfl (Zw rfl) (LtK.skip rfl rfl rfl (LtK.skip rfl rfl rfl (LtK.skip rfl rfl rfl (LtK.skip rfl rfl rfl (LtK.skip rfl rfl rfl (LtK.skip rfl rfl rfl (LtK.skip rfl rfl rfl ?_)))))))
  refine LtK.skip rfl rfl rfl (LtK.skip rfl rfl rfl (LtK.skip rfl rfl rfl (LtK.skip rfl rfl rfl (LtK.put rfl rfl rfl (Ym rfl rfl rfl) (LtK.nil (Ye (by kernel_rfl) (Zc hK7 ?_)))))))
  refine Zt rfl rfl (Zd (fun K hK14 => Ze (Za rfl rfl rfl (Zi Xn rfl (Zhr _) hS hs0 trivial Y2) (Zl rfl rfl rfl CellsOf.agg hS ps0 Zaq (by kernel_rfl) rfl (fun w hS hB => Zb 1 rfl (Zg (Zc hK14 ?_)))))))
  refine Zk (Zj (Zm rfl (RV.cell rfl (Zu Xn hS hs0 Y2) (RV.tmp rfl RV.nil)) rfl ?_))
  obtain rfl := QJ H
  have hS := hS.nilRow 53 3
  replace hS := hS.cut 1
  exact ⟨none, 0, rfl, ⟨Nat.le_refl _, Nat.zero_le _⟩, hS⟩
 replace H := Zo H hb
 refine Zq [Ff,Ff,Ff,Ff,Ff,Ff,Ff,Ff,Ff,Tt,Tt,Tt,Tt] (by decide +kernel) PFC.h (LtK.put rfl rfl rfl (Zw rfl) (LtK.put rfl rfl rfl (Xk rfl rfl) (LtK.put rfl rfl rfl (Y3 rfl rfl rfl) (LtK.put rfl rfl rfl (Zw rfl) (LtK.nil (Jw 20 rfl (fun hb => ?_) (fun hb => ?_)))))))
 ·replace H := Zp H hb
  refine Zq [Ff,Ff,Ff,Ff,Ff,Ff,Ff,Ff,Ff,Ff,Ff,Ff,Ff,Tt,Tt,Tt,Tt,Tt,Tt,Tt,Tt,Tt,Tt,Tt,Tt,Tt,Tt,Tt,Tt,Tt,Tt,Tt,Tt,Tt,Tt,Tt,Tt] (by decide +kernel) PFC.h (LtK.skip rfl rfl rfl (LtK.skip rfl rfl rfl (LtK.skip rfl rfl rfl (LtK.skip rfl rfl rfl (LtK.put rfl rfl rfl (Ym rfl rfl rfl) (LtK.put rfl rfl rfl (Zw rfl) (LtK.skip rfl rfl rfl ?_)))))))
  refine LtK.skip rfl rfl rfl (LtK.skip rfl rfl rfl (LtK.skip rfl rfl rfl (LtK.put rfl rfl rfl (Ym rfl rfl rfl) (LtK.put rfl rfl rfl (Zw rfl) (LtK.skip rfl rfl rfl (LtK.skip rfl rfl rfl (LtK.skip rfl rfl rfl ?_)))))))
  refine LtK.skip rfl rfl rfl (LtK.skip rfl rfl rfl (LtK.skip rfl rfl rfl (LtK.skip rfl rfl rfl (LtK.skip rfl rfl rfl (LtK.skip rfl rfl rfl (LtK.skip rfl rfl rfl (LtK.skip rfl rfl rfl ?_)))))))
  refine LtK.put rfl rfl rfl (Ym rfl rfl rfl) (LtK.nil (Ye (by kernel_rfl) (Zc hK7 (Zt rfl rfl (Zd (fun K hK17 => Ze (Za rfl rfl rfl (Zi Xn rfl (Zhr _) hS hs0 trivial Y2) ?_)))))))
  refine Zl rfl rfl rfl CellsOf.agg hS ps0 Zaq (by kernel_rfl) rfl (fun w hS hB => Zb 1 rfl (Zg (Zc hK17 (Zk (Zj (Zm rfl (RV.cell rfl (Zu Xn hS hs0 Y2) (RV.tmp rfl RV.nil)) rfl ?_))))))
  obtain rfl := QJ H
  have hS := hS.nilRow 53 3
  replace hS := hS.cut 1
  exact ⟨none, 0, rfl, ⟨Nat.le_refl _, Nat.zero_le _⟩, hS⟩
 replace H := Zo H hb
 refine Zq [Ff,Ff,Ff,Ff,Ff,Ff,Ff,Ff,Ff,Ff,Ff,Ff,Ff,Tt,Tt,Tt,Tt,Tt,Tt] (by decide +kernel) PFC.h (LtK.put rfl rfl rfl (Zw rfl) (LtK.put rfl rfl rfl (Zf V4 rfl) (LtK.put rfl rfl rfl (Zh Z1 rfl (Zhs _) hS Xa trivial Vl) (LtK.put rfl rfl rfl (Xc rfl rfl) (LtK.put rfl rfl rfl (Y3 rfl rfl rfl) (LtK.put rfl rfl rfl (Zw rfl) (LtK.nil ?_)))))))
 refine Jw 26 rfl (fun hb => ?_) (fun hb => ?_)
 ·replace H := Zp H hb
  refine Zq [Ff,Ff,Ff,Ff,Ff,Ff,Ff,Ff,Ff,Ff,Ff,Ff,Ff,Ff,Ff,Ff,Ff,Ff,Ff,Tt,Tt,Tt,Tt,Tt,Tt,Tt,Tt,Tt,Tt,Tt,Tt,Tt,Tt,Tt,Tt,Tt,Tt] (by decide +kernel) PFC.h (LtK.skip rfl rfl rfl (LtK.skip rfl rfl rfl (LtK.skip rfl rfl rfl (LtK.skip rfl rfl rfl (LtK.put rfl rfl rfl (Ym rfl rfl rfl) (LtK.put rfl rfl rfl (Zw rfl) (LtK.skip rfl rfl rfl ?_)))))))
  refine LtK.skip rfl rfl rfl (LtK.skip rfl rfl rfl (LtK.skip rfl rfl rfl (LtK.skip rfl rfl rfl (LtK.skip rfl rfl rfl (LtK.skip rfl rfl rfl (LtK.skip rfl rfl rfl (LtK.skip rfl rfl rfl ?_)))))))
  refine LtK.skip rfl rfl rfl (LtK.skip rfl rfl rfl (LtK.put rfl rfl rfl (Ym rfl rfl rfl) (LtK.nil (Ye (by kernel_rfl) (Zc hK7 (Zt rfl rfl (Zd (fun K hK20 => ?_))))))))
  refine Ze (Za rfl rfl rfl (Zi Xn rfl (Zhr _) hS hs0 trivial Y2) (Zl rfl rfl rfl CellsOf.agg hS ps0 Zaq (by kernel_rfl) rfl (fun w hS hB => Zb 1 rfl (Zg (Zc hK20 (Zk (Zj ?_)))))))
  refine Zm rfl (RV.cell rfl (Zu Xn hS hs0 Y2) (RV.tmp rfl RV.nil)) rfl ?_
  obtain rfl := QJ H
  have hS := hS.nilRow 53 3
  replace hS := hS.cut 1
  exact ⟨none, 0, rfl, ⟨Nat.le_refl _, Nat.zero_le _⟩, hS⟩
 replace H := Zo H hb
 refine Zq [Ff,Ff,Ff,Ff,Ff,Ff,Ff,Ff,Ff,Ff,Ff,Ff,Ff,Ff,Ff,Ff,Ff,Ff,Ff,Tt,Tt,Tt,Tt,Tt,Tt] (by decide +kernel) PFC.h (LtK.put rfl rfl rfl (Zw rfl) (LtK.put rfl rfl rfl (Zf Zai rfl) (LtK.put rfl rfl rfl (Zh Z1 rfl (Zhs _) hS Xa trivial Y4) (LtK.put rfl rfl rfl (Y1 rfl rfl) (LtK.put rfl rfl rfl (Y3 rfl rfl rfl) (LtK.put rfl rfl rfl (Zw rfl) (LtK.nil ?_)))))))
 refine Jw 32 rfl (fun hb => ?_) (fun hb => ?_)
 ·replace H := Zp H hb
  refine Zq [Ff,Ff,Ff,Ff,Ff,Ff,Ff,Ff,Ff,Ff,Ff,Ff,Ff,Ff,Ff,Ff,Ff,Ff,Ff,Ff,Ff,Ff,Ff,Ff,Ff,Tt,Tt,Tt,Tt,Tt,Tt,Tt,Tt,Tt,Tt,Tt,Tt] (by decide +kernel) PFC.h (LtK.skip rfl rfl rfl (LtK.skip rfl rfl rfl (LtK.skip rfl rfl rfl (LtK.skip rfl rfl rfl (LtK.skip rfl rfl rfl (LtK.skip rfl rfl rfl (LtK.skip rfl rfl rfl ?_)))))))
  refine LtK.skip rfl rfl rfl (LtK.skip rfl rfl rfl (LtK.skip rfl rfl rfl (LtK.skip rfl rfl rfl (LtK.put rfl rfl rfl (Ym rfl rfl rfl) (LtK.nil (Ye (by kernel_rfl) (Zc hK7 ?_)))))))
  refine Zt rfl rfl (Zd (fun K hK23 => Ze (Za rfl rfl rfl (Zi Xn rfl (Zhr _) hS hs0 trivial Y2) (Zl rfl rfl rfl CellsOf.agg hS ps0 Zaq (by kernel_rfl) rfl (fun w hS hB => Zb 1 rfl (Zg (Zc hK23 ?_)))))))
  refine Zk (Zj (Zm rfl (RV.cell rfl (Zu Xn hS hs0 Y2) (RV.tmp rfl RV.nil)) rfl ?_))
  obtain rfl := QJ H
  have hS := hS.nilRow 53 3
  replace hS := hS.cut 1
  exact ⟨none, 0, rfl, ⟨Nat.le_refl _, Nat.zero_le _⟩, hS⟩
 replace H := Zo H hb
 refine Zq [Ff,Ff,Ff,Ff,Ff,Ff,Ff,Ff,Ff,Ff,Ff,Ff,Ff,Ff,Ff,Ff,Ff,Ff,Ff,Ff,Ff,Ff,Ff,Ff,Ff,Tt,Tt,Tt,Tt,Tt,Tt,Tt,Tt,Tt,Tt,Tt,Tt] (by decide +kernel) PFC.h (LtK.put rfl rfl rfl (Zf Vs rfl) (LtK.put rfl rfl rfl (Zh X3 rfl (Zhs _) hS Xa trivial Zat) (LtK.put rfl rfl rfl (Zw rfl) (LtK.put rfl rfl rfl (Ju rfl rfl) ?_))))
 obtain ⟨e25, hi27, H⟩ := bind_some H
 obtain ⟨j26, hi27a, hi27b, hi27c⟩ := Yt hi27
 refine LtK.put rfl rfl rfl (Xf Xv rfl rfl hi27a hi27c (Rd.el (hS.rd0 s2_.rd) Yh hi27b)) (LtK.put rfl rfl rfl (Vj Z1 rfl (Zhs _) (Rd.el (hS.rd0 s2_.rd) Yh hi27b) rfl) (LtK.put rfl rfl rfl (Zf Yy rfl) (LtK.put rfl rfl rfl (Zf Xj rfl) (LtK.put rfl rfl rfl (Zf Yj rfl) (LtK.put rfl rfl rfl (Zh Z1 rfl (Zhs _) hS Xa trivial Zfw) (LtK.put rfl rfl rfl (Za5 rfl rfl) (LtK.put rfl rfl rfl (Y3 rfl rfl rfl) ?_)))))))
 refine LtK.nil (Ye (by kernel_rfl) (Zc hK7 (Zy rfl (fun hb => ?_) (fun hb => ?_))))
 ·replace H := Zp H hb
  refine Zd (fun K hK29 => Ze (Za rfl rfl rfl (Zi Xn rfl (Zhr _) hS hs0 trivial Y2) (Zl rfl rfl rfl CellsOf.agg hS ps0 Zaq (by kernel_rfl) rfl (fun w hS hB => Zb 1 rfl (Zg (Zc hK29 (Zk ?_)))))))
  refine Zj (Zm rfl (RV.cell rfl (Zu Xn hS hs0 Y2) (RV.tmp rfl RV.nil)) rfl ?_)
  obtain rfl := QJ H
  have hS := hS.nilRow 53 3
  replace hS := hS.cut 1
  exact ⟨none, 0, rfl, ⟨Nat.le_refl _, Nat.zero_le _⟩, hS⟩
 replace H := Zo H hb
 refine Zr (Zc hK6 (Zd (fun K hK31 => Ze (Za rfl rfl rfl (Zf Vs rfl) (Za rfl rfl rfl (Zh X3 rfl (Zhr _) hS Xa trivial Zat) (Zb 1 rfl (Za rfl rfl rfl (Ju rfl rfl) ?_)))))))
 obtain ⟨e32, hi34, H⟩ := bind_some H
 obtain ⟨j33, hi34a, hi34b, hi34c⟩ := Yt hi34
 refine Za rfl rfl rfl (Xf Xv rfl rfl hi34a hi34c (Rd.el (hS.rd0 s2_.rd) Yh hi34b)) (Za rfl rfl rfl (Vj Z1 rfl (Zhr _) (Rd.el (hS.rd0 s2_.rd) Yh hi34b) rfl) (Zb 1 rfl (Zg (Zc hK31 (Zd (fun K hK35 => Ze (Za rfl rfl rfl (Zf Zai rfl) ?_)))))))
 refine Za rfl rfl rfl (Zh Z1 rfl (Zhr _) hS Xa trivial Y4) (Zb 1 rfl (Za rfl rfl rfl (Zf Yy rfl) (Za rfl rfl rfl (Zf Vi rfl) (Za rfl rfl rfl (Zh Z1 rfl (Zhr _) hS Xa trivial Zam) (Za rfl rfl rfl (Zf Zdr rfl) (Za rfl rfl rfl (Zh Z1 rfl (Zhr _) hS Xa trivial J9) (Zb 1 rfl ?_)))))))
 refine Za rfl rfl rfl (Ju rfl rfl) (Za rfl rfl rfl (Zf V6 rfl) (Za rfl rfl rfl (Zh Z1 rfl (Zhr _) hS Xa trivial Zbw) (Za rfl rfl rfl (Xl (cells := [.int .u8 3, .int .i64 x0.id, .int .i64 x1, .int .i64 x0.tuple.term, .int .i64 x0.binary, .int .i64 (IntKind.wrap .i64 (e32 - 1)), .int .i64 0, .int .i64 x0.commit, .bool false, .slice none 0 0, .int .i64 0, .int .i64 0, .int .i64 0, .int .i64 0, .bool false]) rfl (by kernel_rfl)) (Zl rfl rfl rfl CellsOf.agg hS ps0 Zaq (by kernel_rfl) rfl (fun w hS hB => Zg (Zc hK35 (Zd (fun K hK36 => ?_))))))))
 refine Ze (Za rfl rfl rfl (Zf Yy rfl) (Za rfl rfl rfl (Zi Ya rfl (Zhr _) hS Xa trivial Jv) (Za rfl rfl rfl (Zf V0 rfl) (Za rfl rfl rfl (Zh Z1 rfl (Zhr _) hS hs0 trivial Jd) ?_))))
 obtain ⟨r37, hm38, H⟩ := bind_some H
 refine Zn rfl rfl rfl rfl (by kernel_rfl) rfl (Zga x0.tuple (IntKind.wrap .i64 (e32 - 1)) A0_ c0_ _ (Zhu s0_.k (hS.rd0 s0_.rd) (hS.blk0 s0_.blk)) hm38) ?_
 rintro e w ⟨rfl, hN⟩; refine ⟨_, rfl, ?_⟩; obtain ⟨hB, hS⟩ := hS.jn hN
 refine Zb 1 rfl (Za rfl rfl rfl (Zv rfl rfl) (Za rfl rfl rfl (Zv rfl rfl) (Za rfl rfl rfl (Zf Zfe rfl) (Zl rfl rfl rfl CellsOf.int hS ps0 st6_1 (by kernel_rfl) rfl (fun w hS hB => Zg (Zc hK36 (Zd (fun K hK39 => ?_))))))))
 refine Zd (fun K hK40 => Ze (Za rfl rfl rfl (Zf Yy rfl) (Za rfl rfl rfl (Zi Ya rfl (Zhr _) hS Xa trivial Jv) (Zb 1 rfl ?_))))
 have hM41 := hS
 refine Zn rfl rfl rfl rfl (by kernel_rfl) rfl (c_repl_from x0.tuple e32 4 A0_ c0_ _ (Zhu s0_.k (hS.rd0 s0_.rd) (hS.blk0 s0_.blk))) ?_
 rintro e w ⟨b43, b44, b45, rfl, hN42⟩; refine ⟨_, rfl, ?_⟩; have hB := hN42.pure; have hS := hS.join hN42
 refine Zg (Zc hK40 (Yd ?_))
 replace hS := hS.nilRow 53 3
 replace hM41 := hM41.nilRow 53 3
 obtain ⟨xs55, hx56, H⟩ := bind_some H
 refine wpC_range (w0 := w0) (X := List En × OA × Nat) rfl (by kernel_rfl) (it_from x0.tuple e32 4 _ _ _ s0_ hM41.pure b43 b44 b45 hN42 hx56) ⟨hM41.size, hN42.size⟩ (fun _ => rfl) (by kernel_rfl) (fun k x => .row (.slice x.2.1 x.1.length x.2.2) 53 3 x.1.length (Yg Vv x.1) :: .box b4 [.int .u8 3, .int .i64 x0.id, .int .i64 x1, .int .i64 x0.tuple.term, .int .i64 x0.binary, .int .i64 (IntKind.wrap .i64 (e32 - 1)), .int .i64 r37.1, .int .i64 x0.commit, .bool false, .slice x.2.1 x.1.length x.2.2, .int .i64 0, .int .i64 0, .int .i64 0, .int .i64 0, .bool false] 32 :: .box b2 [.int .i64 x0.id, .int .i64 x0.n, .int .u8 x0.role, .int .i64 x0.binary, .int .i64 x0.tuple.snap.index, .int .i64 x0.tuple.snap.term, .int .i64 x0.tuple.snap.sum, .int .i64 x0.tuple.snap.level, .bool x0.tuple.snap.final, .slice A0_ x0.tuple.log.length c0_, .int .i64 x0.tuple.term, .int .i64 x0.tuple.vote, .int .i64 x0.commit, .int .i64 x0.applied.index, .int .i64 x0.applied.term, .int .i64 x0.applied.sum, .int .i64 x0.applied.level, .bool x0.applied.final, .slice A1_ x0.votes.length c1_, .slice A2_ x0.next.length c2_, .slice A3_ x0.mtch.length c3_, .slice A4_ x0.caps.length c4_] 30 :: []) (fun k x => (x.1.length ≤ x.2.2 ∧ x.2.2 ≤ maxLen) ∧ V5 x0 x1 e32 r37 (xs55.drop k) x.1 = some r) (fun _ _ => []) (fun _ _ => False) (fun _ => False) ([], none, 0) ⟨hS.sub (List.Sublist.cons_cons _ (List.Sublist.cons _ (List.Sublist.cons _ (List.Sublist.cons _ (List.Sublist.cons_cons _ (List.Sublist.cons_cons _ List.Sublist.slnil)))))), fun e he k hk => .inl (hM41.rng e he k hk).1⟩ ⟨⟨Nat.le_refl _, Nat.zero_le _⟩, H⟩ ?_ ?_ (fun _ _ _ h _ => h.elim) (fun _ _ h _ => h.elim)
 ·rintro lo k e49 ⟨v50, A51, c52⟩ A hke ⟨k53, H⟩ hzB hRB hS
  dsimp only at hRB k53 H ⊢
  rw [drop_of_get hke, V5] at H
  dsimp only [List.zip, List.zipWith, List.foldl]
  refine Zb5 (by repeat (first | exact NL.round | exact NL.false | exact NL.body (by intro _ h; simp at h) | apply NL.then | apply NL.inBlock | apply NL.jump)) (by kernel_rfl) (Z5 rfl rfl Zdh hS (fun b57 w hS hB => Zl rfl rfl rfl CellsOf.agg hS ps0 st0_3 (by kernel_rfl) rfl (fun w hS hB => Zg (QH_asg hS ?_))))
  rintro A2 hS hBase hE
  dsimp only [List.cons_append, List.nil_append] at hS
  refine Yd (Zb5 (by repeat (first | exact NL.round | exact NL.false | exact NL.body (by intro _ h; simp at h) | apply NL.then | apply NL.inBlock | apply NL.jump)) (by kernel_rfl) (Za rfl rfl rfl (Zf X8 rfl) (Za rfl rfl rfl (Zh Xx rfl (Zhr _) hS Xq trivial Zak) (Za rfl rfl rfl (Zi Jt rfl (Zhr _) hS hs0 trivial Zd3) (Xb (ps := [(0, .tmp 81)]) [.int .i64 e49.term, .int .i64 e49.kind, .int .i64 e49.value] Y8 Zdh rfl rfl rfl rfl rfl (by kernel_rfl) hS (fun b59 w hS hB => ?_))))))
  obtain ⟨l61, hf62, H⟩ := bind_some H
  refine Jf (ys := ([e49] : List En)) Xy oc_enE em_24 (by decide) rfl rfl rfl rfl hS (fun _ => ps2) (hS.box_rd hs0) hf62 (fun A63 c64 w k65 hS => ?_)
  refine Za rfl rfl rfl (Zf X8 rfl) (Zl rfl rfl rfl CellsOf.slice hS ps3 st9_1 (by kernel_rfl) rfl (fun w hS hB => Zg (Z3 ?_)))
  exact QH_round hBase hE hS (l61, A63, c64) (List.Sublist.cons _ (List.Sublist.cons _ (List.Sublist.cons_cons _ (List.Sublist.cons_cons _ (List.Sublist.cons_cons _ List.Sublist.slnil))))) ⟨k65, H⟩
 ·rintro ⟨v50, A51, c52⟩ A ⟨k53, H⟩ hS
  dsimp only at hS k53 H ⊢
  rw [List.drop_length, V5] at H
  refine Z3 (Zc hK39 (Zd (fun K hK67 => Ze (Za rfl rfl rfl (Zi Xn rfl (Zhr _) hS Xq trivial Y2) (Zl rfl rfl rfl CellsOf.agg hS ps2 Zaq (by kernel_rfl) rfl (fun w hS hB => Zb 1 rfl (Zg ?_)))))))
  refine Zc hK67 (Zk (QH_shut (.inl rfl) hS ps0 (fun w hS => ?_)))
  replace hS := hS.sub (List.Sublist.cons _ (List.Sublist.cons_cons _ (List.Sublist.cons_cons _ (List.Sublist.cons_cons _ List.Sublist.slnil))))
  refine Zm rfl (RV.cell rfl (Zu Xn hS Xa Y2) (RV.tmp rfl RV.nil)) rfl ?_
  obtain rfl := QJ H
  have hS := hS.front 0 rfl
  replace hS := hS.cut 1
  exact ⟨A51, c52, rfl, k53, hS⟩
theorem c_repl_indexes (x0 : Ms) (A0_ : OA) (c0_ : Nat) (w0 : World) (s0_ : SlI w0 Vv A0_ c0_ x0.entries) : Calls Tryz.prog 117 #[.agg #[.int .u8 x0.kind, .int .i64 x0.frm, .int .i64 x0.dst, .int .i64 x0.term, .int .i64 x0.cap, .int .i64 x0.last, .int .i64 x0.lastTerm, .int .i64 x0.commit, .bool x0.okk, .slice A0_ x0.entries.length c0_, .int .i64 x0.snap.index, .int .i64 x0.snap.term, .int .i64 x0.snap.sum, .int .i64 x0.snap.level, .bool x0.snap.final]] w0 fun e w' => ∃ (b0_ : Nat), e = .returned (.func (.func 136) #[] #[.pointer (some ⟨b0_, 0, none⟩)]) ∧ St0 All w0 w' [.box b0_ [.int .u8 x0.kind, .int .i64 x0.frm, .int .i64 x0.dst, .int .i64 x0.term, .int .i64 x0.cap, .int .i64 x0.last, .int .i64 x0.lastTerm, .int .i64 x0.commit, .bool x0.okk, .slice A0_ x0.entries.length c0_, .int .i64 x0.snap.index, .int .i64 x0.snap.term, .int .i64 x0.snap.sum, .int .i64 x0.snap.level, .bool x0.snap.final] 32] := by
 refine Yp Tryz.func117 rfl Tryz.ntmps117 rfl ?_
 have hS := St0.start All w0
 refine Zd (fun K hK1 => Ze (Z4 rfl rfl rfl CellsOf.agg hS (fun b2 w hS hB => Zb 1 rfl (Zg (Zc hK1 (Zd (fun K hK4 => Ze ?_)))))))
 refine Za rfl rfl rfl (Vc rfl rfl) (Zb 1 rfl (Zg (Zc hK4 (Zk (Zm rfl (RV.tmp rfl RV.nil) rfl ?_)))))
 exact ⟨b2, rfl, hS.sub (List.Sublist.cons_cons _ List.Sublist.slnil)⟩
theorem c_repl_other (x0 : Co) (x1 : Ms) (A0_ : OA) (c0_ : Nat) (A1_ : OA) (c1_ : Nat) (A2_ : OA) (c2_ : Nat) (A3_ : OA) (c3_ : Nat) (A4_ : OA) (c4_ : Nat) (A5_ : OA) (c5_ : Nat) (w0 : World) (s0_ : SlI w0 Vv A0_ c0_ x0.tuple.log) (s1_ : SlI w0 enO A1_ c1_ x0.votes) (s2_ : SlI w0 Vh A2_ c2_ x0.next) (s3_ : SlI w0 Vh A3_ c3_ x0.mtch) (s4_ : SlI w0 Vh A4_ c4_ x0.caps) (s5_ : SlI w0 Vv A5_ c5_ x1.entries) {r : Int} (H : Zc7 x0 x1 = some r) : Calls Tryz.prog 74 #[.agg #[.int .i64 x0.id, .int .i64 x0.n, .int .u8 x0.role, .int .i64 x0.binary, .int .i64 x0.tuple.snap.index, .int .i64 x0.tuple.snap.term, .int .i64 x0.tuple.snap.sum, .int .i64 x0.tuple.snap.level, .bool x0.tuple.snap.final, .slice A0_ x0.tuple.log.length c0_, .int .i64 x0.tuple.term, .int .i64 x0.tuple.vote, .int .i64 x0.commit, .int .i64 x0.applied.index, .int .i64 x0.applied.term, .int .i64 x0.applied.sum, .int .i64 x0.applied.level, .bool x0.applied.final, .slice A1_ x0.votes.length c1_, .slice A2_ x0.next.length c2_, .slice A3_ x0.mtch.length c3_, .slice A4_ x0.caps.length c4_], .agg #[.int .u8 x1.kind, .int .i64 x1.frm, .int .i64 x1.dst, .int .i64 x1.term, .int .i64 x1.cap, .int .i64 x1.last, .int .i64 x1.lastTerm, .int .i64 x1.commit, .bool x1.okk, .slice A5_ x1.entries.length c5_, .int .i64 x1.snap.index, .int .i64 x1.snap.term, .int .i64 x1.snap.sum, .int .i64 x1.snap.level, .bool x1.snap.final]] w0 fun e w' => e = .returned (.int .i64 r) ∧ St0 All w0 w' [] := by
 unfold Zc7 at H
 refine Yn Tryz.func74 rfl Tryz.ntmps74 rfl ?_
 have hS := St0.start All w0
 refine Zd (fun K hK1 => Ze (Z4 rfl rfl rfl CellsOf.agg hS (fun b2 w hS hB => Z4 rfl rfl rfl CellsOf.agg hS (fun b4 w hS hB => Zb 1 rfl (Zg (Zc hK1 (Zd (fun K hK6 => ?_))))))))
 refine Ze (Za rfl rfl rfl (Zi Xn rfl (Zhr _) hS hs0 trivial Y2) ?_)
 have hM7 := hS
 refine Zn rfl rfl rfl rfl (by kernel_rfl) rfl (c_repl_indexes x1 A5_ c5_ _ (Zhu s5_.k (hS.rd0 s5_.rd) (hS.blk0 s5_.blk))) ?_
 rintro e w ⟨b9, rfl, hN8⟩; refine ⟨_, rfl, ?_⟩; have hB := hN8.pure; have hS := hS.join hN8
 obtain ⟨xs11, hx12, H⟩ := bind_some H
 obtain ⟨l13, hf14, H⟩ := bind_some H
 refine Zn rfl rfl rfl rfl (by kernel_rfl) rfl (c_slices_Collect _ _ xs11 _ (by kernel_rfl) (fun w' hB' => it_indexes x1 _ _ w' b9 ((hS.below hB').ok _ hs0.mem) (hS.rng _ hs0.mem b9 rfl).1 hx12) (Ze3 hf14).2) ?_
 rintro e w ⟨A15, c16, rfl, k17, hN⟩; refine ⟨_, rfl, ?_⟩; obtain ⟨hB, hS⟩ := hS.jn hN
 refine Za rfl rfl rfl (Vc rfl rfl) (Jy rfl rfl rfl rfl (by kernel_rfl) rfl ?_)
 show Calls _ _ #[_, _] _ _
 refine Yn Tryz.func115 rfl Tryz.ntmps115 rfl (Zd (fun K hK19 => Ze (Zb 1 rfl (Zg (Zc hK19 (Zd (fun K hK20 => Zd (fun K hK21 => ?_))))))))
 refine Ze (Zb 1 rfl (Za rfl rfl rfl (Y0 Xv rfl) (Zb 1 rfl (Zg (Zc hK21 (Yd (Vq (X := Nat × Int × Int) (fun x => (0, .slice A15 xs11.length c16) :: (1, .func (.func 118) #[] #[.pointer (some ⟨b2, 0, none⟩), .pointer (some ⟨b4, 0, none⟩)]) :: (4, .int .i64 x.2.1) :: (7, .int .i64 (xs11.length : Int)) :: (8, .int .i64 x.2.2) :: []) (fun x w => St0 All w0 w (.row (.slice A15 xs11.length c16) 3 1 xs11.length (Yg Vh xs11) :: .box b9 [.int .u8 x1.kind, .int .i64 x1.frm, .int .i64 x1.dst, .int .i64 x1.term, .int .i64 x1.cap, .int .i64 x1.last, .int .i64 x1.lastTerm, .int .i64 x1.commit, .bool x1.okk, .slice A5_ x1.entries.length c5_, .int .i64 x1.snap.index, .int .i64 x1.snap.term, .int .i64 x1.snap.sum, .int .i64 x1.snap.level, .bool x1.snap.final] 32 :: .box b4 [.int .u8 x1.kind, .int .i64 x1.frm, .int .i64 x1.dst, .int .i64 x1.term, .int .i64 x1.cap, .int .i64 x1.last, .int .i64 x1.lastTerm, .int .i64 x1.commit, .bool x1.okk, .slice A5_ x1.entries.length c5_, .int .i64 x1.snap.index, .int .i64 x1.snap.term, .int .i64 x1.snap.sum, .int .i64 x1.snap.level, .bool x1.snap.final] 32 :: .box b2 [.int .i64 x0.id, .int .i64 x0.n, .int .u8 x0.role, .int .i64 x0.binary, .int .i64 x0.tuple.snap.index, .int .i64 x0.tuple.snap.term, .int .i64 x0.tuple.snap.sum, .int .i64 x0.tuple.snap.level, .bool x0.tuple.snap.final, .slice A0_ x0.tuple.log.length c0_, .int .i64 x0.tuple.term, .int .i64 x0.tuple.vote, .int .i64 x0.commit, .int .i64 x0.applied.index, .int .i64 x0.applied.term, .int .i64 x0.applied.sum, .int .i64 x0.applied.level, .bool x0.applied.final, .slice A1_ x0.votes.length c1_, .slice A2_ x0.next.length c2_, .slice A3_ x0.mtch.length c3_, .slice A4_ x0.caps.length c4_] 30 :: []) ∧ Jc x0 x1 xs11 x.1 x.2.1 x.2.2 = some r) (fun x => x.1) (Xr, 0, 0) (by repeat (first | exact Sub.nil | refine Sub.cons rfl ?_)) ⟨hS, H⟩ ?_)))))))
 rintro ⟨n, v22, v23⟩ w ⟨hS, H⟩
 dsimp only at hS H ⊢
 obtain _ | n := n
 ·have H0 : none = some r := H
  cases H0
 rw [Jc] at H
 refine Zd (fun K hK24 => Ze (Za rfl rfl rfl (Xk rfl rfl) (Zg (Zc hK24 (Zd (fun K hK25 => Zy rfl (fun hb => ?_) (fun hb => ?_)))))))
 rotate_left
 ·replace H := Zo H hb
  refine X1 (Z8 (Z8 (Yz (Zc hK20 (Zd (fun K hK62 => Ze (Zb 1 rfl ?_)))))))
  refine Zg (Zc hK62 (Zk (Zm rfl (RV.tmp rfl RV.nil) rfl (⟨_, rfl, ?_⟩))))
  refine Zb 1 rfl (Zg (Zc hK6 (Zd (fun K hK63 => Zd (fun K hK64 => Ze (Zb 1 rfl (Za rfl rfl rfl (Xk rfl rfl) ?_)))))))
  refine Zg (Zc hK64 (Zt rfl rfl (Zd (fun K hK65 => Ze (Za rfl rfl rfl (Zf X8 rfl) (Za rfl rfl rfl (Zh Xx rfl (Zhr _) hS Xq trivial Zak) (Za rfl rfl rfl (Y0 Y8 rfl) ?_)))))))
  refine Zb 1 rfl (Zg (Zc hK65 (Zk (Zj (Zm rfl (RV.tmp rfl RV.nil) rfl ?_)))))
  obtain rfl := QJ H
  replace hS := hS.cut 0
  exact ⟨rfl, hS⟩
 replace H := Zp H hb
 refine Zr (Zc hK25 (Zd (fun K hK27 => Yd (Zd (fun K hK28 => Ze (Zb 2 rfl (Zg ?_)))))))
 refine Zc hK28 (Zd (fun K hK29 => Ze (Zb 3 rfl ?_)))
 obtain ⟨e30, hi32, H⟩ := bind_some H
 obtain ⟨j31, hi32a, hi32b, hi32c⟩ := Yt hi32
 refine Za rfl rfl rfl (Xf Xv rfl rfl hi32a hi32c (Rd.el (hS.row_rd hs0) Yh hi32b)) (Za rfl rfl rfl (Vj Z1 rfl (Zhr _) (Rd.el (hS.row_rd hs0) Yh hi32b) rfl) (Jy rfl rfl rfl rfl (by kernel_rfl) rfl ?_))
 show Calls _ _ #[_, _, _] _ _
 refine Vx Tryz.func118 rfl Tryz.ntmps118 rfl (Zd (fun K hK33 => Ze (Zb 1 rfl (Zg (Zc hK33 (Zd (fun K hK34 => Ze ?_)))))))
 refine Za rfl rfl rfl (Zf Yy rfl) (Za rfl rfl rfl (Zi Ya rfl (Zhr _) hS hs3 trivial Jv) (Zb 1 rfl ?_))
 obtain ⟨r35, hm36, H⟩ := bind_some H
 refine Zn rfl rfl rfl rfl (by kernel_rfl) rfl (Zga x0.tuple e30 A0_ c0_ _ (Zhu s0_.k (hS.rd0 s0_.rd) (hS.blk0 s0_.blk)) hm36) ?_
 rintro e w ⟨rfl, hN⟩; refine ⟨_, rfl, ?_⟩; obtain ⟨hB, hS⟩ := hS.jn hN
 refine Zb 1 rfl (Za rfl rfl rfl (Zv rfl rfl) (Za rfl rfl rfl (Zv rfl rfl) (Zb 2 rfl (Zg (Zc hK34 (Zd (fun K hK37 => Ze ?_)))))))
 refine Zb 1 rfl (Za rfl rfl rfl (Zf Yy rfl) (Za rfl rfl rfl (Zf Xj rfl) (Za rfl rfl rfl (Zf Yj rfl) (Za rfl rfl rfl (Zh Z1 rfl (Zhr _) hS hs3 trivial Zfw) (Za rfl rfl rfl (Xc rfl rfl) (Zb 1 rfl (Zs 20 rfl (fun hb => ?_) (fun hb => ?_))))))))
 rotate_left
 ·replace H := Zo H hb
  refine Zb 18 rfl (Zg (Zc hK37 (Zk (Zm rfl (RV.tmp rfl RV.nil) rfl (⟨_, rfl, ?_⟩)))))
  refine Zg (Zc hK29 (Yl rfl rfl (Zr (Z3 (Zc hK27 (Ze (Za rfl rfl rfl (Xd rfl rfl) ?_)))))))
  refine Zb 1 rfl (Zg ?_)
  exact X2 (n, v22, (IntKind.wrap .i64 (v23 + 1))) (by repeat (first | exact Sub.nil | refine Sub.cons rfl ?_)) ⟨hS, H⟩ (Nat.lt_succ_self _)
 replace H := Zp H hb
 refine Zb 1 rfl (Za rfl rfl rfl (Ys rfl) (Zb 1 rfl (Zs 23 rfl (fun hb => ?_) (fun hb => ?_))))
 ·replace H := Zp H hb
  refine Zb 15 rfl (Zg (Zc hK37 (Zk (Zm rfl (RV.tmp rfl RV.nil) rfl (⟨_, rfl, ?_⟩)))))
  refine Zg (Zc hK29 (Zt rfl rfl (Zd (fun K hK40 => Ze (Zb 2 rfl (Zg (Zc hK40 ?_)))))))
  refine Zk (Zx (Zj (Zj (Zx (Zj (Zm rfl (RV.tmp rfl RV.nil) rfl (⟨_, rfl, ?_⟩)))))))
  refine Zb 1 rfl (Zg (Zc hK6 (Zd (fun K hK41 => Zd (fun K hK42 => Ze (Zb 1 rfl (Za rfl rfl rfl (Xk rfl rfl) ?_)))))))
  refine Zg (Zc hK42 (Zy rfl (fun hb => ?_) (fun hb => ?_)))
  rotate_left
  ·replace H := Zo H hb
   refine Zr (Zc hK41 (Zd (fun K hK46 => Ze (Zb 2 rfl (Zg (Zc hK46 (Zk ?_)))))))
   refine Zm rfl (RV.tmp rfl RV.nil) rfl ?_
   obtain rfl := QJ H
   replace hS := hS.cut 0
   exact ⟨rfl, hS⟩
  replace H := Zp H hb
  refine Zd (fun K hK44 => Ze (Za rfl rfl rfl (Zf X8 rfl) (Za rfl rfl rfl (Zh Xx rfl (Zhr _) hS Xq trivial Zak) (Za rfl rfl rfl (Y0 Y8 rfl) (Zb 1 rfl (Zg (Zc hK44 ?_)))))))
  refine Zk (Zj (Zm rfl (RV.tmp rfl RV.nil) rfl ?_))
  obtain rfl := QJ H
  replace hS := hS.cut 0
  exact ⟨rfl, hS⟩
 replace H := Zo H hb
 refine Zb 1 rfl (Za rfl rfl rfl (Zf X8 rfl) (Za rfl rfl rfl (Zh Xx rfl (Zhr _) hS Xq trivial Zak) (Zb 1 rfl (Za rfl rfl rfl (Zf V0 rfl) (Za rfl rfl rfl (Zh Z1 rfl (Zhr _) hS Xq trivial Jd) (Za rfl rfl rfl (Ju rfl rfl) (Za rfl rfl rfl (Ju rfl rfl) ?_)))))))
 obtain ⟨e48, hi50, H⟩ := bind_some H
 obtain ⟨j49, hi50a, hi50b, hi50c⟩ := Yt hi50
 refine Za rfl rfl rfl (Xf Y8 rfl rfl hi50a hi50c (Rd.el (hS.rd0 s5_.rd) Xy hi50b)) (Za rfl rfl rfl (Zau Zbt rfl (Rd.el (hS.rd0 s5_.rd) Xy hi50b)) (Za rfl rfl rfl (Vj Z1 rfl (Zhr _) (Rd.el (hS.rd0 s5_.rd) Xy hi50b) rfl) (Za rfl rfl rfl (Xu rfl rfl) (Zb 3 rfl (Zg (Zc hK37 (Zk ?_)))))))
 refine Zm rfl (RV.tmp rfl RV.nil) rfl (⟨_, rfl, ?_⟩)
 refine Zg (Zc hK29 (Zy rfl (fun hb => ?_) (fun hb => ?_)))
 rotate_left
 ·replace H := Zo H hb
  refine Zr (Z3 (Zc hK27 (Ze (Za rfl rfl rfl (Xd rfl rfl) (Zb 1 rfl (Zg ?_))))))
  exact X2 (n, v22, (IntKind.wrap .i64 (v23 + 1))) (by repeat (first | exact Sub.nil | refine Sub.cons rfl ?_)) ⟨hS, H⟩ (Nat.lt_succ_self _)
 replace H := Zp H hb
 refine Zd (fun K hK52 => Ze (Zb 2 rfl (Zg (Zc hK52 (Zk (Zx (Zj ?_)))))))
 refine Zj (Zx (Zj (Zm rfl (RV.tmp rfl RV.nil) rfl (⟨_, rfl, ?_⟩))))
 refine Zb 1 rfl (Zg (Zc hK6 (Zd (fun K hK53 => Zd (fun K hK54 => Ze (Zb 1 rfl (Za rfl rfl rfl (Xk rfl rfl) ?_)))))))
 refine Zg (Zc hK54 (Zy rfl (fun hb => ?_) (fun hb => ?_)))
 rotate_left
 ·replace H := Zo H hb
  refine Zr (Zc hK53 (Zd (fun K hK58 => Ze (Zb 2 rfl (Zg (Zc hK58 (Zk ?_)))))))
  refine Zm rfl (RV.tmp rfl RV.nil) rfl ?_
  obtain rfl := QJ H
  replace hS := hS.cut 0
  exact ⟨rfl, hS⟩
 replace H := Zp H hb
 refine Zd (fun K hK56 => Ze (Za rfl rfl rfl (Zf X8 rfl) (Za rfl rfl rfl (Zh Xx rfl (Zhr _) hS Xq trivial Zak) (Za rfl rfl rfl (Y0 Y8 rfl) (Zb 1 rfl (Zg (Zc hK56 ?_)))))))
 refine Zk (Zj (Zm rfl (RV.tmp rfl RV.nil) rfl ?_))
 obtain rfl := QJ H
 replace hS := hS.cut 0
 exact ⟨rfl, hS⟩
theorem c_repl_Fit (x0 : Co) (A0_ : OA) (c0_ : Nat) (A1_ : OA) (c1_ : Nat) (A2_ : OA) (c2_ : Nat) (A3_ : OA) (c3_ : Nat) (A4_ : OA) (c4_ : Nat) (w0 : World) (s0_ : SlI w0 Vv A0_ c0_ x0.tuple.log) (s1_ : SlI w0 enO A1_ c1_ x0.votes) (s2_ : SlI w0 Vh A2_ c2_ x0.next) (s3_ : SlI w0 Vh A3_ c3_ x0.mtch) (s4_ : SlI w0 Vh A4_ c4_ x0.caps) {r : Co} (H : J0 x0 = some r) : Calls Tryz.prog 36 #[.agg #[.int .i64 x0.id, .int .i64 x0.n, .int .u8 x0.role, .int .i64 x0.binary, .int .i64 x0.tuple.snap.index, .int .i64 x0.tuple.snap.term, .int .i64 x0.tuple.snap.sum, .int .i64 x0.tuple.snap.level, .bool x0.tuple.snap.final, .slice A0_ x0.tuple.log.length c0_, .int .i64 x0.tuple.term, .int .i64 x0.tuple.vote, .int .i64 x0.commit, .int .i64 x0.applied.index, .int .i64 x0.applied.term, .int .i64 x0.applied.sum, .int .i64 x0.applied.level, .bool x0.applied.final, .slice A1_ x0.votes.length c1_, .slice A2_ x0.next.length c2_, .slice A3_ x0.mtch.length c3_, .slice A4_ x0.caps.length c4_]] w0 fun e w' => ∃ (A0 : OA) (c0 : Nat) (A1 : OA) (c1 : Nat) (A2 : OA) (c2 : Nat) (A3 : OA) (c3 : Nat) (A4 : OA) (c4 : Nat), e = .returned (.agg #[.int .i64 r.id, .int .i64 r.n, .int .u8 r.role, .int .i64 r.binary, .int .i64 r.tuple.snap.index, .int .i64 r.tuple.snap.term, .int .i64 r.tuple.snap.sum, .int .i64 r.tuple.snap.level, .bool r.tuple.snap.final, .slice A0 r.tuple.log.length c0, .int .i64 r.tuple.term, .int .i64 r.tuple.vote, .int .i64 r.commit, .int .i64 r.applied.index, .int .i64 r.applied.term, .int .i64 r.applied.sum, .int .i64 r.applied.level, .bool r.applied.final, .slice A1 r.votes.length c1, .slice A2 r.next.length c2, .slice A3 r.mtch.length c3, .slice A4 r.caps.length c4]) ∧ (r.tuple.log.length ≤ c0 ∧ c0 ≤ maxLen) ∧ (r.votes.length ≤ c1 ∧ c1 ≤ maxLen) ∧ (r.next.length ≤ c2 ∧ c2 ≤ maxLen) ∧ (r.mtch.length ≤ c3 ∧ c3 ≤ maxLen) ∧ (r.caps.length ≤ c4 ∧ c4 ≤ maxLen) ∧ St0 All w0 w' [.row (.slice A0 r.tuple.log.length c0) 53 3 r.tuple.log.length (Yg Vv r.tuple.log), .row (.slice A1 r.votes.length c1) 4 1 r.votes.length (Yg enO r.votes), .row (.slice A2 r.next.length c2) 3 1 r.next.length (Yg Vh r.next), .row (.slice A3 r.mtch.length c3) 3 1 r.mtch.length (Yg Vh r.mtch), .row (.slice A4 r.caps.length c4) 3 1 r.caps.length (Yg Vh r.caps)] := by
 unfold J0 at H
 refine Yp Tryz.func36 rfl Tryz.ntmps36 rfl ?_
 have hS := St0.start All w0
 refine Zd (fun K hK1 => Ze (Z4 rfl rfl rfl CellsOf.agg hS (fun b2 w hS hB => Z5 rfl rfl Zdk hS (fun b4 w hS hB => Zg (Zc hK1 (Zd (fun K hK6 => Ze ?_)))))))
 refine Za rfl rfl rfl (Zi Z7 rfl (Zhr _) hS Xa trivial Zz) ?_
 obtain ⟨r7, hm8, H⟩ := bind_some H
 refine Zn rfl rfl rfl rfl (by kernel_rfl) rfl (Ze8 x0 A0_ c0_ A1_ c1_ A2_ c2_ A3_ c3_ A4_ c4_ _ (Zhu s0_.k (hS.rd0 s0_.rd) (hS.blk0 s0_.blk)) (Zhu s1_.k (hS.rd0 s1_.rd) (hS.blk0 s1_.blk)) (Zhu s2_.k (hS.rd0 s2_.rd) (hS.blk0 s2_.blk)) (Zhu s3_.k (hS.rd0 s3_.rd) (hS.blk0 s3_.blk)) (Zhu s4_.k (hS.rd0 s4_.rd) (hS.blk0 s4_.blk)) hm8) ?_
 rintro e w ⟨A9, c10, A13, c14, A17, c18, A21, c22, A25, c26, rfl, k11, k15, k19, k23, k27, hN⟩; refine ⟨_, rfl, ?_⟩; obtain ⟨hB, hS⟩ := hS.jn hN
 refine Zl rfl rfl rfl CellsOf.agg hS ps6 Yo (by kernel_rfl) rfl (fun w hS hB => Zg (Zc hK6 (Zd (fun K hK29 => Ze (Za rfl rfl rfl (Zf Yy rfl) (Za rfl rfl rfl (Zi Ya rfl (Zhr _) hS hs6 trivial Jv) ?_))))))
 obtain ⟨r30, hm31, H⟩ := bind_some H
 refine Zn rfl rfl rfl rfl (by kernel_rfl) rfl (Zer r7.tuple A9 c10 _ (Zhu k11 (hS.row_rd hs0) (hS.row_blk hs0)) hm31) ?_
 rintro e w ⟨rfl, hN⟩; refine ⟨_, rfl, ?_⟩; obtain ⟨hB, hS⟩ := hS.jn hN
 refine Zb 1 rfl (Zg (Zc hK29 (Zd (fun K hK32 => Ze (Zb 1 rfl (Zg (Zc hK32 ?_)))))))
 refine Zd (fun K hK33 => Ze (Zb 1 rfl (Za rfl rfl rfl (Zf Vs rfl) (Za rfl rfl rfl (Zh X3 rfl (Zhr _) hS hs6 trivial Zat) (Zb 1 rfl (Za rfl rfl rfl (Xd rfl rfl) (Jy rfl rfl rfl rfl (by kernel_rfl) rfl ?_)))))))
 show Calls _ _ #[_, _] _ _
 refine Yn Tryz.func82 rfl Tryz.ntmps82 rfl (Zd (fun K hK34 => Ze (Zb 1 rfl (Za rfl rfl rfl (Y0 Xv rfl) (Zb 1 rfl (Zg (Zc hK34 ?_)))))))
 refine Yd (Vq (X := Nat × Int × List Int) (fun x => (0, .slice A17 r7.next.length c18) :: (1, .int .i64 (IntKind.wrap .i64 (r30 + 1))) :: (6, .int .i64 (r7.next.length : Int)) :: (7, .int .i64 x.2.1) :: []) (fun x w => St0 All w0 w (.row (.slice A9 r7.tuple.log.length c10) 53 3 r7.tuple.log.length (Yg Vv r7.tuple.log) :: .row (.slice A13 r7.votes.length c14) 4 1 r7.votes.length (Yg enO r7.votes) :: .row (.slice A17 r7.next.length c18) 3 1 r7.next.length (Yg Vh x.2.2) :: .row (.slice A21 r7.mtch.length c22) 3 1 r7.mtch.length (Yg Vh r7.mtch) :: .row (.slice A25 r7.caps.length c26) 3 1 r7.caps.length (Yg Vh r7.caps) :: .box b4 [.int .i64 0, .int .i64 0, .int .u8 0, .int .i64 0, .int .i64 0, .int .i64 0, .int .i64 0, .int .i64 0, .bool false, .slice none 0 0, .int .i64 0, .int .i64 0, .int .i64 0, .int .i64 0, .int .i64 0, .int .i64 0, .int .i64 0, .bool false, .slice none 0 0, .slice none 0 0, .slice none 0 0, .slice none 0 0] 30 :: .box b2 [.int .i64 r7.id, .int .i64 r7.n, .int .u8 r7.role, .int .i64 r7.binary, .int .i64 r7.tuple.snap.index, .int .i64 r7.tuple.snap.term, .int .i64 r7.tuple.snap.sum, .int .i64 r7.tuple.snap.level, .bool r7.tuple.snap.final, .slice A9 r7.tuple.log.length c10, .int .i64 r7.tuple.term, .int .i64 r7.tuple.vote, .int .i64 r7.commit, .int .i64 r7.applied.index, .int .i64 r7.applied.term, .int .i64 r7.applied.sum, .int .i64 r7.applied.level, .bool r7.applied.final, .slice A13 r7.votes.length c14, .slice A17 r7.next.length c18, .slice A21 r7.mtch.length c22, .slice A25 r7.caps.length c26] 30 :: []) ∧ (x.2.2.length ≤ c18 ∧ c18 ≤ maxLen) ∧ (x.2.2.length = r7.next.length) ∧ J6 r7 r30 x.1 x.2.1 x.2.2 = some r) (fun x => x.1) (Xr, 0, r7.next) (by repeat (first | exact Sub.nil | refine Sub.cons rfl ?_)) ⟨hS, k19, rfl, H⟩ ?_)
 rintro ⟨n, v35, v36⟩ w ⟨hS, k37, hl38, H⟩
 dsimp only at hS k37 hl38 H ⊢
 obtain _ | n := n
 ·have H0 : none = some r := H
  cases H0
 rw [J6] at H
 refine Zd (fun K hK39 => Ze (Za rfl rfl rfl (Xk rfl rfl) (Zg (Zc hK39 (Zd (fun K hK40 => Zy rfl (fun hb => ?_) (fun hb => ?_)))))))
 ·replace H := Zp H hb
  refine Zr (Zc hK40 (Zd (fun K hK42 => Yd (Zd (fun K hK43 => Ze (Zb 2 rfl (Zg ?_)))))))
  refine Zc hK43 (Ze (Zb 4 rfl ?_))
  obtain ⟨e44, hi46, H⟩ := bind_some H
  obtain ⟨j45, hi46a, hi46b, hi46c⟩ := Yt hi46
  refine Za rfl rfl rfl (Xf Xv rfl rfl hi46a (Nat.lt_of_lt_of_eq hi46c hl38) (Rd.el (hS.row_rd Xq) Yh hi46b)) (Za rfl rfl rfl (Vj Z1 rfl (Zhr _) (Rd.el (hS.row_rd Xq) Yh hi46b) rfl) (Zb 1 rfl (Za rfl rfl rfl (Zdy rfl rfl) ?_)))
  obtain ⟨e47, hi49, H⟩ := bind_some H
  obtain ⟨j48, hi49a, hi49b, hi49c⟩ := Yt hi49
  refine Za rfl rfl rfl (Xf Xv rfl rfl hi49a (Nat.lt_of_lt_of_eq hi49c hl38) (Rd.el (hS.row_rd Xq) Yh hi49b)) (wpX_storeR (a' := (min e44 (IntKind.wrap .i64 (r30 + 1)))) (zs := (Zbe v36 v35 (min e44 (IntKind.wrap .i64 (r30 + 1))))) Yh rfl rfl rfl CellsOf.int hS ps2 (Rd.el (hS.row_rd Xq) Yh hi49b) hi49a hi49b rfl Zfp (by kernel_rfl) rfl (fun w hS => ?_))
  have hi50b := Zc8 (a := (min e44 (IntKind.wrap .i64 (r30 + 1)))) hi49a hi49b
  have hi50a := hi49a
  refine Zg (Z3 (Zc hK42 (Ze (Za rfl rfl rfl (Xd rfl rfl) (Zb 1 rfl (Zg ?_))))))
  exact X2 (n, (IntKind.wrap .i64 (v35 + 1)), (Zbe v36 v35 (min e44 (IntKind.wrap .i64 (r30 + 1))))) (by repeat (first | exact Sub.nil | refine Sub.cons rfl ?_)) ⟨hS, (Zhd k37), (Jg hl38), H⟩ (Nat.lt_succ_self _)
 replace H := Zo H hb
 refine X1 (Z8 (Z8 (Yz (Zdb rfl RV.nil rfl (⟨_, rfl, ?_⟩)))))
 refine Zg (Zc hK33 (Zd (fun K hK52 => Ze (Zb 1 rfl (Za rfl rfl rfl (Zf Ji rfl) (Za rfl rfl rfl (Zh X3 rfl (Zhr _) hS hs6 trivial Zbo) (Zb 1 rfl ?_)))))))
 refine Jy rfl rfl rfl rfl (by kernel_rfl) rfl ?_
 show Calls _ _ #[_, _] _ _
 refine Yn Tryz.func82 rfl Tryz.ntmps82 rfl (Zd (fun K hK53 => Ze (Zb 1 rfl (Za rfl rfl rfl (Y0 Xv rfl) (Zb 1 rfl (Zg (Zc hK53 ?_)))))))
 refine Yd (Vq (X := Nat × Int × List Int) (fun x => (0, .slice A21 r7.mtch.length c22) :: (1, .int .i64 r30) :: (6, .int .i64 (r7.mtch.length : Int)) :: (7, .int .i64 x.2.1) :: []) (fun x w => St0 All w0 w (.row (.slice A9 r7.tuple.log.length c10) 53 3 r7.tuple.log.length (Yg Vv r7.tuple.log) :: .row (.slice A13 r7.votes.length c14) 4 1 r7.votes.length (Yg enO r7.votes) :: .row (.slice A17 r7.next.length c18) 3 1 r7.next.length (Yg Vh v36) :: .row (.slice A21 r7.mtch.length c22) 3 1 r7.mtch.length (Yg Vh x.2.2) :: .row (.slice A25 r7.caps.length c26) 3 1 r7.caps.length (Yg Vh r7.caps) :: .box b4 [.int .i64 0, .int .i64 0, .int .u8 0, .int .i64 0, .int .i64 0, .int .i64 0, .int .i64 0, .int .i64 0, .bool false, .slice none 0 0, .int .i64 0, .int .i64 0, .int .i64 0, .int .i64 0, .int .i64 0, .int .i64 0, .int .i64 0, .bool false, .slice none 0 0, .slice none 0 0, .slice none 0 0, .slice none 0 0] 30 :: .box b2 [.int .i64 r7.id, .int .i64 r7.n, .int .u8 r7.role, .int .i64 r7.binary, .int .i64 r7.tuple.snap.index, .int .i64 r7.tuple.snap.term, .int .i64 r7.tuple.snap.sum, .int .i64 r7.tuple.snap.level, .bool r7.tuple.snap.final, .slice A9 r7.tuple.log.length c10, .int .i64 r7.tuple.term, .int .i64 r7.tuple.vote, .int .i64 r7.commit, .int .i64 r7.applied.index, .int .i64 r7.applied.term, .int .i64 r7.applied.sum, .int .i64 r7.applied.level, .bool r7.applied.final, .slice A13 r7.votes.length c14, .slice A17 r7.next.length c18, .slice A21 r7.mtch.length c22, .slice A25 r7.caps.length c26] 30 :: []) ∧ (x.2.2.length ≤ c22 ∧ c22 ≤ maxLen) ∧ (x.2.2.length = r7.mtch.length) ∧ J3 r7 r30 v36 x.1 x.2.1 x.2.2 = some r) (fun x => x.1) (Xr, 0, r7.mtch) (by repeat (first | exact Sub.nil | refine Sub.cons rfl ?_)) ⟨hS, k23, rfl, H⟩ ?_)
 rintro ⟨n, v54, v55⟩ w ⟨hS, k56, hl57, H⟩
 dsimp only at hS k56 hl57 H ⊢
 obtain _ | n := n
 ·have H0 : none = some r := H
  cases H0
 rw [J3] at H
 refine Zd (fun K hK58 => Ze (Za rfl rfl rfl (Xk rfl rfl) (Zg (Zc hK58 (Zd (fun K hK59 => Zy rfl (fun hb => ?_) (fun hb => ?_)))))))
 rotate_left
 ·replace H := Zo H hb
  refine X1 (Z8 (Z8 (Yz (Zdb rfl RV.nil rfl (⟨_, rfl, ?_⟩)))))
  refine Zg (Zc hK52 (Zd (fun K hK71 => Ze (Za rfl rfl rfl (Zi Z7 rfl (Zhr _) hS hs6 trivial Zz) (Zl rfl rfl rfl CellsOf.agg hS ps5 Yo (by kernel_rfl) rfl (fun w hS hB => Zg (Zc hK71 ?_)))))))
  refine Zk (Zm rfl (RV.cell rfl (Zu Z7 hS hs5 Zz) RV.nil) rfl ?_)
  obtain rfl := QJ H
  have hS := hS.front 4 rfl
  have hS := hS.front 4 rfl
  have hS := hS.front 4 rfl
  have hS := hS.front 4 rfl
  have hS := hS.front 4 rfl
  replace hS := hS.cut 5
  exact ⟨A9, c10, A13, c14, A17, c18, A21, c22, A25, c26, by rw [hl38, hl57]; rfl, k11, k15, k37, k56, k27, hS.eqv (by rw [hl38, hl57]; rfl)⟩
 replace H := Zp H hb
 refine Zr (Zc hK59 (Zd (fun K hK61 => Yd (Zd (fun K hK62 => Ze (Zb 2 rfl (Zg ?_)))))))
 refine Zc hK62 (Ze (Zb 4 rfl ?_))
 obtain ⟨e63, hi65, H⟩ := bind_some H
 obtain ⟨j64, hi65a, hi65b, hi65c⟩ := Yt hi65
 refine Za rfl rfl rfl (Xf Xv rfl rfl hi65a (Nat.lt_of_lt_of_eq hi65c hl57) (Rd.el (hS.row_rd hs3) Yh hi65b)) (Za rfl rfl rfl (Vj Z1 rfl (Zhr _) (Rd.el (hS.row_rd hs3) Yh hi65b) rfl) (Zb 1 rfl (Za rfl rfl rfl (Zdy rfl rfl) ?_)))
 obtain ⟨e66, hi68, H⟩ := bind_some H
 obtain ⟨j67, hi68a, hi68b, hi68c⟩ := Yt hi68
 refine Za rfl rfl rfl (Xf Xv rfl rfl hi68a (Nat.lt_of_lt_of_eq hi68c hl57) (Rd.el (hS.row_rd hs3) Yh hi68b)) (wpX_storeR (a' := (min e63 r30)) (zs := (Zbe v55 v54 (min e63 r30))) Yh rfl rfl rfl CellsOf.int hS ps3 (Rd.el (hS.row_rd hs3) Yh hi68b) hi68a hi68b rfl Zfp (by kernel_rfl) rfl (fun w hS => ?_))
 have hi69b := Zc8 (a := (min e63 r30)) hi68a hi68b
 have hi69a := hi68a
 refine Zg (Z3 (Zc hK61 (Ze (Za rfl rfl rfl (Xd rfl rfl) (Zb 1 rfl (Zg ?_))))))
 exact X2 (n, (IntKind.wrap .i64 (v54 + 1)), (Zbe v55 v54 (min e63 r30))) (by repeat (first | exact Sub.nil | refine Sub.cons rfl ?_)) ⟨hS, (Zhd k56), (Jg hl57), H⟩ (Nat.lt_succ_self _)
theorem c_repl_Append (x0 : Co) (x1 : Ms) (A0_ : OA) (c0_ : Nat) (A1_ : OA) (c1_ : Nat) (A2_ : OA) (c2_ : Nat) (A3_ : OA) (c3_ : Nat) (A4_ : OA) (c4_ : Nat) (A5_ : OA) (c5_ : Nat) (w0 : World) (s0_ : SlI w0 Vv A0_ c0_ x0.tuple.log) (s1_ : SlI w0 enO A1_ c1_ x0.votes) (s2_ : SlI w0 Vh A2_ c2_ x0.next) (s3_ : SlI w0 Vh A3_ c3_ x0.mtch) (s4_ : SlI w0 Vh A4_ c4_ x0.caps) (s5_ : SlI w0 Vv A5_ c5_ x1.entries) {r : Co × List Ms} (H : J4 x0 x1 = some r) : Calls Tryz.prog 29 #[.agg #[.int .i64 x0.id, .int .i64 x0.n, .int .u8 x0.role, .int .i64 x0.binary, .int .i64 x0.tuple.snap.index, .int .i64 x0.tuple.snap.term, .int .i64 x0.tuple.snap.sum, .int .i64 x0.tuple.snap.level, .bool x0.tuple.snap.final, .slice A0_ x0.tuple.log.length c0_, .int .i64 x0.tuple.term, .int .i64 x0.tuple.vote, .int .i64 x0.commit, .int .i64 x0.applied.index, .int .i64 x0.applied.term, .int .i64 x0.applied.sum, .int .i64 x0.applied.level, .bool x0.applied.final, .slice A1_ x0.votes.length c1_, .slice A2_ x0.next.length c2_, .slice A3_ x0.mtch.length c3_, .slice A4_ x0.caps.length c4_], .agg #[.int .u8 x1.kind, .int .i64 x1.frm, .int .i64 x1.dst, .int .i64 x1.term, .int .i64 x1.cap, .int .i64 x1.last, .int .i64 x1.lastTerm, .int .i64 x1.commit, .bool x1.okk, .slice A5_ x1.entries.length c5_, .int .i64 x1.snap.index, .int .i64 x1.snap.term, .int .i64 x1.snap.sum, .int .i64 x1.snap.level, .bool x1.snap.final]] w0 fun e w' => ∃ (A0 : OA) (c0 : Nat) (A1 : OA) (c1 : Nat) (A2 : OA) (c2 : Nat) (A3 : OA) (c3 : Nat) (A4 : OA) (c4 : Nat) (A5 : OA) (c5 : Nat) (q5 : List Mq), e = .returned (.tuple #[.agg #[.int .i64 r.1.id, .int .i64 r.1.n, .int .u8 r.1.role, .int .i64 r.1.binary, .int .i64 r.1.tuple.snap.index, .int .i64 r.1.tuple.snap.term, .int .i64 r.1.tuple.snap.sum, .int .i64 r.1.tuple.snap.level, .bool r.1.tuple.snap.final, .slice A0 r.1.tuple.log.length c0, .int .i64 r.1.tuple.term, .int .i64 r.1.tuple.vote, .int .i64 r.1.commit, .int .i64 r.1.applied.index, .int .i64 r.1.applied.term, .int .i64 r.1.applied.sum, .int .i64 r.1.applied.level, .bool r.1.applied.final, .slice A1 r.1.votes.length c1, .slice A2 r.1.next.length c2, .slice A3 r.1.mtch.length c3, .slice A4 r.1.caps.length c4], .slice A5 r.2.length c5]) ∧ (r.1.tuple.log.length ≤ c0 ∧ c0 ≤ maxLen) ∧ (r.1.votes.length ≤ c1 ∧ c1 ≤ maxLen) ∧ (r.1.next.length ≤ c2 ∧ c2 ≤ maxLen) ∧ (r.1.mtch.length ≤ c3 ∧ c3 ≤ maxLen) ∧ (r.1.caps.length ≤ c4 ∧ c4 ≤ maxLen) ∧ (r.2.length ≤ c5 ∧ c5 ≤ maxLen) ∧ q5.map Mq.m = r.2 ∧ (∀ y ∈ q5, okQ y) ∧ St0 All w0 w' [.rd A0 (Yg Vv r.1.tuple.log), .row (.slice A1 r.1.votes.length c1) 4 1 r.1.votes.length (Yg enO r.1.votes), .row (.slice A2 r.1.next.length c2) 3 1 r.1.next.length (Yg Vh r.1.next), .row (.slice A3 r.1.mtch.length c3) 3 1 r.1.mtch.length (Yg Vh r.1.mtch), .row (.slice A4 r.1.caps.length c4) 3 1 r.1.caps.length (Yg Vh r.1.caps), .rd A5 (Yg enQ q5), .rds (q5.map subQ)] := by
 unfold J4 at H
 refine Yn Tryz.func29 rfl Tryz.ntmps29 rfl ?_
 have hS := St0.start All w0
 refine Zd (fun K hK1 => Ze (Z4 rfl rfl rfl CellsOf.agg hS (fun b2 w hS hB => Z4 rfl rfl rfl CellsOf.agg hS (fun b4 w hS hB => Z5 rfl rfl Zdk hS (fun b6 w hS hB => Zb 1 rfl (Zg (Zc hK1 ?_)))))))
 refine wpC_scope1 0 rfl (Zd (fun K hK8 => Ze (Z5 rfl rfl Zal hS (fun b9 w hS hB => Zg (Zc hK8 (Zd (fun K hK11 => Ze ?_)))))))
 refine Zb 1 rfl (Zg (Zc hK11 (Zd (fun K hK12 => Ze (Zb 2 rfl (Zg (Zc hK12 ?_)))))))
 refine Zd (fun K hK13 => Zd (fun K hK14 => Ze (Za rfl rfl rfl (Zi Z7 rfl (Zhr _) hS hs3 trivial Zz) (Za rfl rfl rfl (Zi Xn rfl (Zhr _) hS Xq trivial Y2) ?_))))
 obtain ⟨r15, hm16, H⟩ := bind_some H
 refine Zn rfl rfl rfl rfl (by kernel_rfl) rfl (c_advert_To x0 x1 A0_ c0_ A1_ c1_ A2_ c2_ A3_ c3_ A4_ c4_ A5_ c5_ _ (Zhu s0_.k (hS.rd0 s0_.rd) (hS.blk0 s0_.blk)) (Zhu s1_.k (hS.rd0 s1_.rd) (hS.blk0 s1_.blk)) (Zhu s2_.k (hS.rd0 s2_.rd) (hS.blk0 s2_.blk)) (Zhu s3_.k (hS.rd0 s3_.rd) (hS.blk0 s3_.blk)) (Zhu s4_.k (hS.rd0 s4_.rd) (hS.blk0 s4_.blk)) (Zhu s5_.k (hS.rd0 s5_.rd) (hS.blk0 s5_.blk)) hm16) ?_
 rintro e w ⟨rfl, hN⟩; refine ⟨_, rfl, ?_⟩; obtain ⟨hB, hS⟩ := hS.jn hN
 refine Za rfl rfl rfl (Ys rfl) (Zb 1 rfl (Zs 19 rfl (fun hb => ?_) (fun hb => ?_)))
 ·replace H := Zp H hb
  refine Zb 4 rfl (Zg (Zc hK14 (Zt rfl rfl (Zd (fun K hK18 => Ze (Za rfl rfl rfl (Zi Z7 rfl (Zhr _) hS hs3 trivial Zz) ?_))))))
  obtain ⟨r19, hm20, H⟩ := bind_some H
  refine Zn rfl rfl rfl rfl (by kernel_rfl) rfl (Ze8 x0 A0_ c0_ A1_ c1_ A2_ c2_ A3_ c3_ A4_ c4_ _ (Zhu s0_.k (hS.rd0 s0_.rd) (hS.blk0 s0_.blk)) (Zhu s1_.k (hS.rd0 s1_.rd) (hS.blk0 s1_.blk)) (Zhu s2_.k (hS.rd0 s2_.rd) (hS.blk0 s2_.blk)) (Zhu s3_.k (hS.rd0 s3_.rd) (hS.blk0 s3_.blk)) (Zhu s4_.k (hS.rd0 s4_.rd) (hS.blk0 s4_.blk)) hm20) ?_
  rintro e w ⟨A21, c22, A25, c26, A29, c30, A33, c34, A37, c38, rfl, k23, k27, k31, k35, k39, hN⟩; refine ⟨_, rfl, ?_⟩; obtain ⟨hB, hS⟩ := hS.jn hN
  refine Zl rfl rfl rfl CellsOf.agg hS ps6 Yo (by kernel_rfl) rfl (fun w hS hB => Zb 1 rfl (Zg (Zc hK18 (Zk (Zj (Yc (Zm rfl (RV.cell rfl (Zu Z7 hS hs6 Zz) (RV.tmp rfl RV.nil)) rfl ?_)))))))
  obtain rfl := QJ H
  have hS := hS.nilRds
  replace hS := hS.nilRd
  have hS := hS.front 6 rfl
  have hS := hS.front 6 rfl
  have hS := hS.front 6 rfl
  have hS := hS.front 6 rfl
  have hS := hS.front 6 rfl
  replace hS := hS.weak Weak.rowRd
  replace hS := hS.cut 7
  exact ⟨A21, c22, A25, c26, A29, c30, A33, c34, A37, c38, none, 0, ([] : List Mq), rfl, k23, k27, k31, k35, k39, ⟨Nat.le_refl _, Nat.zero_le _⟩, rfl, Vy, hS⟩
 replace H := Zo H hb
 refine Za rfl rfl rfl (Zf Vo rfl) (Za rfl rfl rfl (Zh Zbq rfl (Zhr _) hS Xq trivial Y4) (Za rfl rfl rfl (Xu rfl rfl) (Zb 1 rfl (Zg (Zc hK14 (Zy rfl (fun hb => ?_) (fun hb => ?_)))))))
 ·replace H := Zp H hb
  refine Zd (fun K hK43 => Ze (Za rfl rfl rfl (Zi Z7 rfl (Zhr _) hS hs3 trivial Zz) ?_))
  obtain ⟨r44, hm45, H⟩ := bind_some H
  refine Zn rfl rfl rfl rfl (by kernel_rfl) rfl (Ze8 x0 A0_ c0_ A1_ c1_ A2_ c2_ A3_ c3_ A4_ c4_ _ (Zhu s0_.k (hS.rd0 s0_.rd) (hS.blk0 s0_.blk)) (Zhu s1_.k (hS.rd0 s1_.rd) (hS.blk0 s1_.blk)) (Zhu s2_.k (hS.rd0 s2_.rd) (hS.blk0 s2_.blk)) (Zhu s3_.k (hS.rd0 s3_.rd) (hS.blk0 s3_.blk)) (Zhu s4_.k (hS.rd0 s4_.rd) (hS.blk0 s4_.blk)) hm45) ?_
  rintro e w ⟨A46, c47, A50, c51, A54, c55, A58, c59, A62, c63, rfl, k48, k52, k56, k60, k64, hN⟩; refine ⟨_, rfl, ?_⟩; obtain ⟨hB, hS⟩ := hS.jn hN
  refine Zl rfl rfl rfl CellsOf.agg hS ps6 Yo (by kernel_rfl) rfl (fun w hS hB => Zb 1 rfl (Zg (Zc hK43 (Zk (Zj (Yc (Zm rfl (RV.cell rfl (Zu Z7 hS hs6 Zz) (RV.tmp rfl RV.nil)) rfl ?_)))))))
  obtain rfl := QJ H
  have hS := hS.nilRds
  replace hS := hS.nilRd
  have hS := hS.front 6 rfl
  have hS := hS.front 6 rfl
  have hS := hS.front 6 rfl
  have hS := hS.front 6 rfl
  have hS := hS.front 6 rfl
  replace hS := hS.weak Weak.rowRd
  replace hS := hS.cut 7
  exact ⟨A46, c47, A50, c51, A54, c55, A58, c59, A62, c63, none, 0, ([] : List Mq), rfl, k48, k52, k56, k60, k64, ⟨Nat.le_refl _, Nat.zero_le _⟩, rfl, Vy, hS⟩
 replace H := Zo H hb
 refine Zr (Zc hK13 (Zd (fun K hK67 => Ze (Za rfl rfl rfl (Zi Z7 rfl (Zhr _) hS hs3 trivial Zz) (Za rfl rfl rfl (Zi Xn rfl (Zhr _) hS Xq trivial Y2) ?_)))))
 obtain ⟨r68, hm69, H⟩ := bind_some H
 refine Zn rfl rfl rfl rfl (by kernel_rfl) rfl (c_elect_Meet x0 x1 A0_ c0_ A1_ c1_ A2_ c2_ A3_ c3_ A4_ c4_ A5_ c5_ _ (Zhu s0_.k (hS.rd0 s0_.rd) (hS.blk0 s0_.blk)) (Zhu s1_.k (hS.rd0 s1_.rd) (hS.blk0 s1_.blk)) (Zhu s2_.k (hS.rd0 s2_.rd) (hS.blk0 s2_.blk)) (Zhu s3_.k (hS.rd0 s3_.rd) (hS.blk0 s3_.blk)) (Zhu s4_.k (hS.rd0 s4_.rd) (hS.blk0 s4_.blk)) (Zhu s5_.k (hS.rd0 s5_.rd) (hS.blk0 s5_.blk)) hm69) ?_
 rintro e w ⟨A70, c71, A74, c75, A78, c79, A82, c83, A86, c87, rfl, k72, k76, k80, k84, k88, hN⟩; refine ⟨_, rfl, ?_⟩; obtain ⟨hB, hS⟩ := hS.jn hN
 refine Zl rfl rfl rfl CellsOf.agg hS ps8 Yo (by kernel_rfl) rfl (fun w hS hB => Zg (Zc hK67 (Zd (fun K hK90 => Ze (Za rfl rfl rfl (Zf Yy rfl) (Za rfl rfl rfl (Zi Ya rfl (Zhr _) hS hs8 trivial Jv) ?_))))))
 obtain ⟨r91, hm92, H⟩ := bind_some H
 refine Zn rfl rfl rfl rfl (by kernel_rfl) rfl (Zer r68.tuple A70 c71 _ (Zhu k72 (hS.rd hs0) (hS.rd_blk hs0)) hm92) ?_
 rintro e w ⟨rfl, hN⟩; refine ⟨_, rfl, ?_⟩; obtain ⟨hB, hS⟩ := hS.jn hN
 refine Zb 1 rfl (Zg (Zc hK90 (Zd (fun K hK93 => Ze (Zb 2 rfl (Zg (Zc hK93 ?_)))))))
 refine Zd (fun K hK94 => Ze (Za rfl rfl rfl (Zf Yy rfl) (Za rfl rfl rfl (Zi Ya rfl (Zhr _) hS hs8 trivial Jv) (Za rfl rfl rfl (Zf V0 rfl) (Za rfl rfl rfl (Zh Z1 rfl (Zhr _) hS hs7 trivial Jd) ?_)))))
 obtain ⟨r95, hm96, H⟩ := bind_some H
 refine Zn rfl rfl rfl rfl (by kernel_rfl) rfl (Zga r68.tuple x1.last A70 c71 _ (Zhu k72 (hS.rd hs0) (hS.rd_blk hs0)) hm96) ?_
 rintro e w ⟨rfl, hN⟩; refine ⟨_, rfl, ?_⟩; obtain ⟨hB, hS⟩ := hS.jn hN
 refine Zb 1 rfl (Za rfl rfl rfl (Zv rfl rfl) (Za rfl rfl rfl (Zv rfl rfl) (Zb 2 rfl (Zg (Zc hK94 (Zd (fun K hK97 => Yd ?_)))))))
 refine Zd (fun K hK98 => Ze (Za rfl rfl rfl (Zf Zca rfl) (Za rfl rfl rfl (Zh Z1 rfl (Zhr _) hS hs7 trivial J9) (Za rfl rfl rfl (Zf Yy rfl) (Za rfl rfl rfl (Zf Vi rfl) (Za rfl rfl rfl (Zh Z1 rfl (Zhr _) hS hs8 trivial Zam) (Za rfl rfl rfl (Xk rfl rfl) ?_)))))))
 refine Zb 1 rfl (Zg (Zc hK98 (Zy rfl (fun hb => ?_) (fun hb => ?_))))
 ·replace H := Zp H hb
  refine Vr (QH_block_goto (Xp (Jh (Zd (fun K hK100 => Zr (Zc hK100 (Zd (fun K hK101 => ?_))))))))
  refine Yi 8 [6] (fun i b => (i = 6 → b ≠ b6)) ⟨by kernel_rfl, by kernel_rfl⟩ hS (fun w hS hB => Zq [true] (by decide +kernel) PFC.h (LtK.put rfl rfl rfl (Zi Z7 rfl (Zhs _) hS hs8 trivial Zz) (LtK.nil (Y7 [Ff,Tt,Tt,Tt] [6] (fun b => b ≠ b6) (by decide +kernel) (by intro j hj b hb; simp only [List.mem_cons, List.not_mem_nil, or_false] at hj; (try rcases hj with rfl | rfl | rfl | rfl | rfl) <;> first | (simp [hb]; done) | simp_all) PFC.h (LtK.put rfl rfl rfl (Zi Z7 rfl (Zht _ _) hS hs8 (hS.ne 8 6 rfl rfl rfl) Zz) (LtK.put rfl rfl rfl (Zi Xn rfl (Zht _ _) hS hs7 (hS.ne 7 6 rfl rfl rfl) Y2) (LtK.put rfl rfl rfl (Zw rfl) ?_)))))))
  refine LtK.nil (Z6 [Ff,Ff,Ff,Ff,Tt] 4 ⟨by decide, by kernel_rfl, by kernel_rfl⟩ rfl rfl ?_)
  try dsimp only [Z0]
  obtain ⟨r102, hm103, H⟩ := bind_some H
  refine Zn rfl rfl rfl rfl (by kernel_rfl) rfl (Zcs r68 x1 4 false r91 A70 c71 A74 c75 A78 c79 A82 c83 A86 c87 A5_ c5_ _ (Zhu k72 (hS.rd hs0) (hS.rd_blk hs0)) (Zhu k76 (hS.row_rd Xa) (hS.row_blk Xa)) (Zhu k80 (hS.row_rd Xq) (hS.row_blk Xq)) (Zhu k84 (hS.row_rd hs3) (hS.row_blk hs3)) (Zhu k88 (hS.row_rd hs4) (hS.row_blk hs4)) (Zhu s5_.k (hS.rd0 s5_.rd) (hS.blk0 s5_.blk)) hm103) ?_
  rintro e w ⟨A104, c105, rfl, k106, hN⟩; refine ⟨_, rfl, ?_⟩; obtain ⟨hB, hS⟩ := hS.jn hN
  refine Zg (Z9 hB (Zes [5, 6] ⟨by decide, by kernel_rfl⟩ rfl (.call [Ff,Ff,Ff,Ff,Ff,Tt] 5 rfl rfl rfl ?_ (.put [Ff,Ff,Ff,Ff,Ff,Ff,Tt] 6 rfl rfl rfl ?_ .nil))))
  ·try dsimp only [Z0]
   refine Xb (ps := [(0, .tmp 146)]) [.int .u8 r102.kind, .int .i64 r102.frm, .int .i64 r102.dst, .int .i64 r102.term, .int .i64 r102.cap, .int .i64 r102.last, .int .i64 r102.lastTerm, .int .i64 r102.commit, .bool r102.okk, .slice A104 r102.entries.length c105, .int .i64 r102.snap.index, .int .i64 r102.snap.term, .int .i64 r102.snap.sum, .int .i64 r102.snap.level, .bool r102.snap.final] Zbf Zba rfl rfl rfl rfl rfl (by kernel_rfl) hS (fun b108 w hS hB => Zg (Z9 hB (Yq [Ff,Ff,Ff,Ff,Ff,Ff,Tt] 6 ⟨by decide, by kernel_rfl, by kernel_rfl⟩ rfl rfl ?_)))
   try dsimp only [Z0]
   refine Zl rfl rfl rfl CellsOf.agg hS ps8 Yo (by kernel_rfl) rfl (fun w hS hB => Zg (Yk (hB.sub (fun _ _ h => by simpa using h)) (Zq [Ff,Ff,Ff,Ff,Ff,Ff,Ff,Tt] (by decide +kernel) PFC.h (LtK.put rfl rfl rfl (Z2 rfl) (LtK.nil (Ye (by kernel_rfl) (Zc hK101 ?_)))))))
   refine Zk (Yc (Zm rfl (RV.cell rfl (Zu Z7 hS hs8 Zz) (RV.tmp rfl RV.nil)) rfl ?_))
   obtain rfl := QJ H
   have hS := hS.nilRds
   replace hS := hS.front 2 rfl
   replace hS := hS.absorbQ ⟨r102, A104, c105⟩
   replace hS := hS.front 1 rfl
   replace hS := hS.weak Weak.boxRd
   have hS := hS.front 6 rfl
   have hS := hS.front 6 rfl
   have hS := hS.front 6 rfl
   have hS := hS.front 6 rfl
   have hS := hS.front 6 rfl
   replace hS := hS.cut 7
   exact ⟨A70, c71, A74, c75, A78, c79, A82, c83, A86, c87, (some ⟨b108, 0, none⟩), 1, ([⟨r102, A104, c105⟩] : List Mq), rfl, k72, k76, k80, k84, k88, ⟨Nat.le_refl 1, by decide⟩, rfl, (Zac k106 Vy), hS⟩
  ·try dsimp only [Z0]
   refine Zl rfl rfl rfl CellsOf.agg hS ps7 Yo (by kernel_rfl) rfl (fun w hS hB => Zg (Yk (hB.sub (fun _ _ h => by simpa using h)) (Z6 [Ff,Ff,Ff,Ff,Ff,Tt] 5 ⟨by decide, by kernel_rfl, by kernel_rfl⟩ rfl rfl ?_)))
   try dsimp only [Z0]
   refine Xb (ps := [(0, .tmp 146)]) [.int .u8 r102.kind, .int .i64 r102.frm, .int .i64 r102.dst, .int .i64 r102.term, .int .i64 r102.cap, .int .i64 r102.last, .int .i64 r102.lastTerm, .int .i64 r102.commit, .bool r102.okk, .slice A104 r102.entries.length c105, .int .i64 r102.snap.index, .int .i64 r102.snap.term, .int .i64 r102.snap.sum, .int .i64 r102.snap.level, .bool r102.snap.final] Zbf Zba rfl rfl rfl rfl rfl (by kernel_rfl) hS (fun b108 w hS hB => Zg (Z9 hB (Zq [Ff,Ff,Ff,Ff,Ff,Ff,Ff,Tt] (by decide +kernel) PFC.h (LtK.put rfl rfl rfl (Z2 rfl) (LtK.nil (Ye (by kernel_rfl) (Zc hK101 ?_)))))))
   refine Zk (Yc (Zm rfl (RV.cell rfl (Zu Z7 hS hs8 Zz) (RV.tmp rfl RV.nil)) rfl ?_))
   obtain rfl := QJ H
   have hS := hS.nilRds
   replace hS := hS.front 2 rfl
   replace hS := hS.absorbQ ⟨r102, A104, c105⟩
   replace hS := hS.front 1 rfl
   replace hS := hS.weak Weak.boxRd
   have hS := hS.front 6 rfl
   have hS := hS.front 6 rfl
   have hS := hS.front 6 rfl
   have hS := hS.front 6 rfl
   have hS := hS.front 6 rfl
   replace hS := hS.cut 7
   exact ⟨A70, c71, A74, c75, A78, c79, A82, c83, A86, c87, (some ⟨b108, 0, none⟩), 1, ([⟨r102, A104, c105⟩] : List Mq), rfl, k72, k76, k80, k84, k88, ⟨Nat.le_refl 1, by decide⟩, rfl, (Zac k106 Vy), hS⟩
 replace H := Zo H hb
 refine Zd (fun K hK111 => Ze (Za rfl rfl rfl (Zf Zbj rfl) (Za rfl rfl rfl (Zh Zbq rfl (Zhr _) hS hs8 trivial Za0) (Za rfl rfl rfl (Y1 rfl rfl) (Zb 1 rfl (Zg (Zc hK111 ?_)))))))
 refine Zy rfl (fun hb => ?_) (fun hb => ?_)
 ·replace H := Zp H hb
  refine Zd (fun K hK113 => Ze (Za rfl rfl rfl (Zi Z7 rfl (Zhr _) hS hs8 trivial Zz) (Zl rfl rfl rfl CellsOf.agg hS ps6 Yo (by kernel_rfl) rfl (fun w hS hB => Zb 1 rfl (Zg (Zc hK113 (Zk ?_)))))))
  refine Zx (Zj (Yc (Zm rfl (RV.cell rfl (Zu Z7 hS hs6 Zz) (RV.tmp rfl RV.nil)) rfl ?_)))
  obtain rfl := QJ H
  have hS := hS.nilRds
  replace hS := hS.nilRd
  have hS := hS.front 6 rfl
  have hS := hS.front 6 rfl
  have hS := hS.front 6 rfl
  have hS := hS.front 6 rfl
  have hS := hS.front 6 rfl
  replace hS := hS.cut 7
  exact ⟨A70, c71, A74, c75, A78, c79, A82, c83, A86, c87, none, 0, ([] : List Mq), rfl, k72, k76, k80, k84, k88, ⟨Nat.le_refl _, Nat.zero_le _⟩, rfl, Vy, hS⟩
 replace H := Zo H hb
 refine Zr (Z3 (Zc hK97 (Zd (fun K hK115 => Zd (fun K hK116 => Ze (Za rfl rfl rfl (Zf Zbj rfl) (Zl rfl rfl rfl CellsOf.int hS ps8 st2_1 (by kernel_rfl) rfl (fun w hS hB => ?_))))))))
 refine Zg (Zc hK116 (Zd (fun K hK117 => Ze (Za rfl rfl rfl (Zf V0 rfl) (Za rfl rfl rfl (Zh Z1 rfl (Zhr _) hS hs7 trivial Jd) (Zb 1 rfl (Za rfl rfl rfl (Xc rfl rfl) ?_)))))))
 refine Zg (Zc hK117 (Zy rfl (fun hb => ?_) (fun hb => ?_)))
 ·replace H := Zp H hb
  refine Vr (Xp (Jh (Zd (fun K hK119 => Zr (Zc hK119 (Zd (fun K hK120 => Yi 8 [6] (fun i b => (i = 6 → b ≠ b6)) ⟨by kernel_rfl, by kernel_rfl⟩ hS (fun w hS hB => ?_))))))))
  refine Zq [true] (by decide +kernel) PFC.h (LtK.put rfl rfl rfl (Zi Z7 rfl (Zhs _) hS hs8 trivial Zz) (LtK.nil (Y7 [Ff,Tt,Tt,Tt] [6] (fun b => b ≠ b6) (by decide +kernel) (by intro j hj b hb; simp only [List.mem_cons, List.not_mem_nil, or_false] at hj; (try rcases hj with rfl | rfl | rfl | rfl | rfl) <;> first | (simp [hb]; done) | simp_all) PFC.h (LtK.put rfl rfl rfl (Zi Z7 rfl (Zht _ _) hS hs8 (hS.ne 8 6 rfl rfl rfl) Zz) (LtK.put rfl rfl rfl (Zi Xn rfl (Zht _ _) hS hs7 (hS.ne 7 6 rfl rfl rfl) Y2) (LtK.put rfl rfl rfl (Zw rfl) (LtK.nil ?_)))))))
  refine Z6 [Ff,Ff,Ff,Ff,Tt] 4 ⟨by decide, by kernel_rfl, by kernel_rfl⟩ rfl rfl ?_
  try dsimp only [Z0]
  obtain ⟨r121, hm122, H⟩ := bind_some H
  refine Zn rfl rfl rfl rfl (by kernel_rfl) rfl (Zcs {r68 with role := 0} x1 4 false r91 A70 c71 A74 c75 A78 c79 A82 c83 A86 c87 A5_ c5_ _ (Zhu k72 (hS.rd hs0) (hS.rd_blk hs0)) (Zhu k76 (hS.row_rd Xa) (hS.row_blk Xa)) (Zhu k80 (hS.row_rd Xq) (hS.row_blk Xq)) (Zhu k84 (hS.row_rd hs3) (hS.row_blk hs3)) (Zhu k88 (hS.row_rd hs4) (hS.row_blk hs4)) (Zhu s5_.k (hS.rd0 s5_.rd) (hS.blk0 s5_.blk)) hm122) ?_
  rintro e w ⟨A123, c124, rfl, k125, hN⟩; refine ⟨_, rfl, ?_⟩; obtain ⟨hB, hS⟩ := hS.jn hN
  refine Zg (Z9 hB (Zes [5, 6] ⟨by decide, by kernel_rfl⟩ rfl (.call [Ff,Ff,Ff,Ff,Ff,Tt] 5 rfl rfl rfl ?_ (.put [Ff,Ff,Ff,Ff,Ff,Ff,Tt] 6 rfl rfl rfl ?_ .nil))))
  ·try dsimp only [Z0]
   refine Xb (ps := [(0, .tmp 146)]) [.int .u8 r121.kind, .int .i64 r121.frm, .int .i64 r121.dst, .int .i64 r121.term, .int .i64 r121.cap, .int .i64 r121.last, .int .i64 r121.lastTerm, .int .i64 r121.commit, .bool r121.okk, .slice A123 r121.entries.length c124, .int .i64 r121.snap.index, .int .i64 r121.snap.term, .int .i64 r121.snap.sum, .int .i64 r121.snap.level, .bool r121.snap.final] Zbf Zba rfl rfl rfl rfl rfl (by kernel_rfl) hS (fun b127 w hS hB => Zg (Z9 hB (Yq [Ff,Ff,Ff,Ff,Ff,Ff,Tt] 6 ⟨by decide, by kernel_rfl, by kernel_rfl⟩ rfl rfl ?_)))
   try dsimp only [Z0]
   refine Zl rfl rfl rfl CellsOf.agg hS ps8 Yo (by kernel_rfl) rfl (fun w hS hB => Zg (Yk (hB.sub (fun _ _ h => by simpa using h)) (Zq [Ff,Ff,Ff,Ff,Ff,Ff,Ff,Tt] (by decide +kernel) PFC.h (LtK.put rfl rfl rfl (Z2 rfl) (LtK.nil (Ye (by kernel_rfl) (Zc hK120 ?_)))))))
   refine Zk (Yc (Zm rfl (RV.cell rfl (Zu Z7 hS hs8 Zz) (RV.tmp rfl RV.nil)) rfl ?_))
   obtain rfl := QJ H
   have hS := hS.nilRds
   replace hS := hS.front 2 rfl
   replace hS := hS.absorbQ ⟨r121, A123, c124⟩
   replace hS := hS.front 1 rfl
   replace hS := hS.weak Weak.boxRd
   have hS := hS.front 6 rfl
   have hS := hS.front 6 rfl
   have hS := hS.front 6 rfl
   have hS := hS.front 6 rfl
   have hS := hS.front 6 rfl
   replace hS := hS.cut 7
   exact ⟨A70, c71, A74, c75, A78, c79, A82, c83, A86, c87, (some ⟨b127, 0, none⟩), 1, ([⟨r121, A123, c124⟩] : List Mq), rfl, k72, k76, k80, k84, k88, ⟨Nat.le_refl 1, by decide⟩, rfl, (Zac k125 Vy), hS⟩
  ·try dsimp only [Z0]
   refine Zl rfl rfl rfl CellsOf.agg hS ps7 Yo (by kernel_rfl) rfl (fun w hS hB => Zg (Yk (hB.sub (fun _ _ h => by simpa using h)) (Z6 [Ff,Ff,Ff,Ff,Ff,Tt] 5 ⟨by decide, by kernel_rfl, by kernel_rfl⟩ rfl rfl ?_)))
   try dsimp only [Z0]
   refine Xb (ps := [(0, .tmp 146)]) [.int .u8 r121.kind, .int .i64 r121.frm, .int .i64 r121.dst, .int .i64 r121.term, .int .i64 r121.cap, .int .i64 r121.last, .int .i64 r121.lastTerm, .int .i64 r121.commit, .bool r121.okk, .slice A123 r121.entries.length c124, .int .i64 r121.snap.index, .int .i64 r121.snap.term, .int .i64 r121.snap.sum, .int .i64 r121.snap.level, .bool r121.snap.final] Zbf Zba rfl rfl rfl rfl rfl (by kernel_rfl) hS (fun b127 w hS hB => Zg (Z9 hB (Zq [Ff,Ff,Ff,Ff,Ff,Ff,Ff,Tt] (by decide +kernel) PFC.h (LtK.put rfl rfl rfl (Z2 rfl) (LtK.nil (Ye (by kernel_rfl) (Zc hK120 ?_)))))))
   refine Zk (Yc (Zm rfl (RV.cell rfl (Zu Z7 hS hs8 Zz) (RV.tmp rfl RV.nil)) rfl ?_))
   obtain rfl := QJ H
   have hS := hS.nilRds
   replace hS := hS.front 2 rfl
   replace hS := hS.absorbQ ⟨r121, A123, c124⟩
   replace hS := hS.front 1 rfl
   replace hS := hS.weak Weak.boxRd
   have hS := hS.front 6 rfl
   have hS := hS.front 6 rfl
   have hS := hS.front 6 rfl
   have hS := hS.front 6 rfl
   have hS := hS.front 6 rfl
   replace hS := hS.cut 7
   exact ⟨A70, c71, A74, c75, A78, c79, A82, c83, A86, c87, (some ⟨b127, 0, none⟩), 1, ([⟨r121, A123, c124⟩] : List Mq), rfl, k72, k76, k80, k84, k88, ⟨Nat.le_refl 1, by decide⟩, rfl, (Zac k125 Vy), hS⟩
 replace H := Zo H hb
 refine Zr (Zc hK115 (Zd (fun K hK130 => wpC_join ((2, .pointer (some ⟨b2, 0, none⟩)) :: (3, .pointer (some ⟨b4, 0, none⟩)) :: (4, .pointer (some ⟨b6, 0, none⟩)) :: (5, .slice none 0 0) :: (6, .pointer (some ⟨b9, 0, none⟩)) :: (7, .int .i64 0) :: (8, .int .i64 0) :: (9, .int .i64 0) :: (10, .int .i64 r91) :: (11, .int .i64 r91) :: (64, .bool (r95.2 && (decide (r95.1 ≠ x1.lastTerm)))) :: []) (fun K hK131 => ?_) ?_)))
 ·refine Ze (Zb 2 rfl (Zs 59 rfl (fun hb => ?_) (fun hb => ?_)))
  rotate_left
  ·refine Zb 5 rfl (Zg ?_)
   exact QH_join hK131 (by rw [hb]; repeat (first | exact Sub.nil | refine Sub.cons rfl ?_))
  refine Zb 1 rfl (Za rfl rfl rfl (Zf Zfe rfl) (Za rfl rfl rfl (Zh Z1 rfl (Zhr _) hS hs7 trivial Zgj) (Za rfl rfl rfl (Xu rfl rfl) (Zb 1 rfl (Zg ?_)))))
  exact QH_join hK131 (by rw [hb]; repeat (first | exact Sub.nil | refine Sub.cons rfl ?_))
 refine Zy rfl (fun hb => ?_) (fun hb => ?_)
 ·replace H := Zp H hb
  refine Zd (fun K hK133 => Ze (Za rfl rfl rfl (Zf V0 rfl) (Za rfl rfl rfl (Zh Z1 rfl (Zhr _) hS hs7 trivial Jd) (Za rfl rfl rfl (Ju rfl rfl) (Za rfl rfl rfl (Zdw rfl rfl) (Zb 1 rfl (Zg ?_)))))))
  refine Zc hK133 (Vr (Xp (Jh (Zd (fun K hK134 => Zr (Zc hK134 (Zd (fun K hK135 => ?_))))))))
  refine Yi 8 [6] (fun i b => (i = 6 → b ≠ b6)) ⟨by kernel_rfl, by kernel_rfl⟩ hS (fun w hS hB => Zq [true] (by decide +kernel) PFC.h (LtK.put rfl rfl rfl (Zi Z7 rfl (Zhs _) hS hs8 trivial Zz) (LtK.nil (Y7 [Ff,Tt,Tt,Tt] [6] (fun b => b ≠ b6) (by decide +kernel) (by intro j hj b hb; simp only [List.mem_cons, List.not_mem_nil, or_false] at hj; (try rcases hj with rfl | rfl | rfl | rfl | rfl) <;> first | (simp [hb]; done) | simp_all) PFC.h (LtK.put rfl rfl rfl (Zi Z7 rfl (Zht _ _) hS hs8 (hS.ne 8 6 rfl rfl rfl) Zz) (LtK.put rfl rfl rfl (Zi Xn rfl (Zht _ _) hS hs7 (hS.ne 7 6 rfl rfl rfl) Y2) (LtK.put rfl rfl rfl (Zw rfl) ?_)))))))
  refine LtK.nil (Z6 [Ff,Ff,Ff,Ff,Tt] 4 ⟨by decide, by kernel_rfl, by kernel_rfl⟩ rfl rfl ?_)
  try dsimp only [Z0]
  obtain ⟨r136, hm137, H⟩ := bind_some H
  refine Zn rfl rfl rfl rfl (by kernel_rfl) rfl (Zcs {r68 with role := 0} x1 4 false (max (IntKind.wrap .i64 (x1.last - 1)) 0) A70 c71 A74 c75 A78 c79 A82 c83 A86 c87 A5_ c5_ _ (Zhu k72 (hS.rd hs0) (hS.rd_blk hs0)) (Zhu k76 (hS.row_rd Xa) (hS.row_blk Xa)) (Zhu k80 (hS.row_rd Xq) (hS.row_blk Xq)) (Zhu k84 (hS.row_rd hs3) (hS.row_blk hs3)) (Zhu k88 (hS.row_rd hs4) (hS.row_blk hs4)) (Zhu s5_.k (hS.rd0 s5_.rd) (hS.blk0 s5_.blk)) hm137) ?_
  rintro e w ⟨A138, c139, rfl, k140, hN⟩; refine ⟨_, rfl, ?_⟩; obtain ⟨hB, hS⟩ := hS.jn hN
  refine Zg (Z9 hB (Zes [5, 6] ⟨by decide, by kernel_rfl⟩ rfl (.call [Ff,Ff,Ff,Ff,Ff,Tt] 5 rfl rfl rfl ?_ (.put [Ff,Ff,Ff,Ff,Ff,Ff,Tt] 6 rfl rfl rfl ?_ .nil))))
  ·try dsimp only [Z0]
   refine Xb (ps := [(0, .tmp 146)]) [.int .u8 r136.kind, .int .i64 r136.frm, .int .i64 r136.dst, .int .i64 r136.term, .int .i64 r136.cap, .int .i64 r136.last, .int .i64 r136.lastTerm, .int .i64 r136.commit, .bool r136.okk, .slice A138 r136.entries.length c139, .int .i64 r136.snap.index, .int .i64 r136.snap.term, .int .i64 r136.snap.sum, .int .i64 r136.snap.level, .bool r136.snap.final] Zbf Zba rfl rfl rfl rfl rfl (by kernel_rfl) hS (fun b142 w hS hB => Zg (Z9 hB (Yq [Ff,Ff,Ff,Ff,Ff,Ff,Tt] 6 ⟨by decide, by kernel_rfl, by kernel_rfl⟩ rfl rfl ?_)))
   try dsimp only [Z0]
   refine Zl rfl rfl rfl CellsOf.agg hS ps8 Yo (by kernel_rfl) rfl (fun w hS hB => Zg (Yk (hB.sub (fun _ _ h => by simpa using h)) (Zq [Ff,Ff,Ff,Ff,Ff,Ff,Ff,Tt] (by decide +kernel) PFC.h (LtK.put rfl rfl rfl (Z2 rfl) (LtK.nil (Ye (by kernel_rfl) (Zc hK135 ?_)))))))
   refine Zk (Yc (Zm rfl (RV.cell rfl (Zu Z7 hS hs8 Zz) (RV.tmp rfl RV.nil)) rfl ?_))
   obtain rfl := QJ H
   have hS := hS.nilRds
   replace hS := hS.front 2 rfl
   replace hS := hS.absorbQ ⟨r136, A138, c139⟩
   replace hS := hS.front 1 rfl
   replace hS := hS.weak Weak.boxRd
   have hS := hS.front 6 rfl
   have hS := hS.front 6 rfl
   have hS := hS.front 6 rfl
   have hS := hS.front 6 rfl
   have hS := hS.front 6 rfl
   replace hS := hS.cut 7
   exact ⟨A70, c71, A74, c75, A78, c79, A82, c83, A86, c87, (some ⟨b142, 0, none⟩), 1, ([⟨r136, A138, c139⟩] : List Mq), rfl, k72, k76, k80, k84, k88, ⟨Nat.le_refl 1, by decide⟩, rfl, (Zac k140 Vy), hS⟩
  ·try dsimp only [Z0]
   refine Zl rfl rfl rfl CellsOf.agg hS ps7 Yo (by kernel_rfl) rfl (fun w hS hB => Zg (Yk (hB.sub (fun _ _ h => by simpa using h)) (Z6 [Ff,Ff,Ff,Ff,Ff,Tt] 5 ⟨by decide, by kernel_rfl, by kernel_rfl⟩ rfl rfl ?_)))
   try dsimp only [Z0]
   refine Xb (ps := [(0, .tmp 146)]) [.int .u8 r136.kind, .int .i64 r136.frm, .int .i64 r136.dst, .int .i64 r136.term, .int .i64 r136.cap, .int .i64 r136.last, .int .i64 r136.lastTerm, .int .i64 r136.commit, .bool r136.okk, .slice A138 r136.entries.length c139, .int .i64 r136.snap.index, .int .i64 r136.snap.term, .int .i64 r136.snap.sum, .int .i64 r136.snap.level, .bool r136.snap.final] Zbf Zba rfl rfl rfl rfl rfl (by kernel_rfl) hS (fun b142 w hS hB => Zg (Z9 hB (Zq [Ff,Ff,Ff,Ff,Ff,Ff,Ff,Tt] (by decide +kernel) PFC.h (LtK.put rfl rfl rfl (Z2 rfl) (LtK.nil (Ye (by kernel_rfl) (Zc hK135 ?_)))))))
   refine Zk (Yc (Zm rfl (RV.cell rfl (Zu Z7 hS hs8 Zz) (RV.tmp rfl RV.nil)) rfl ?_))
   obtain rfl := QJ H
   have hS := hS.nilRds
   replace hS := hS.front 2 rfl
   replace hS := hS.absorbQ ⟨r136, A138, c139⟩
   replace hS := hS.front 1 rfl
   replace hS := hS.weak Weak.boxRd
   have hS := hS.front 6 rfl
   have hS := hS.front 6 rfl
   have hS := hS.front 6 rfl
   have hS := hS.front 6 rfl
   have hS := hS.front 6 rfl
   replace hS := hS.cut 7
   exact ⟨A70, c71, A74, c75, A78, c79, A82, c83, A86, c87, (some ⟨b142, 0, none⟩), 1, ([⟨r136, A138, c139⟩] : List Mq), rfl, k72, k76, k80, k84, k88, ⟨Nat.le_refl 1, by decide⟩, rfl, (Zac k140 Vy), hS⟩
 replace H := Zo H hb
 refine Zr (Zc hK130 (Zd (fun K hK145 => Yi 7 [6] (fun i b => (i = 6 → b ≠ b9)) ⟨by kernel_rfl, by kernel_rfl⟩ hS (fun w hS hB => Zq [Tt,Tt,Ff,Tt,Tt] (by decide +kernel) PFC.h (LtK.put rfl rfl rfl (Zi Z7 rfl (Zhs _) hS hs8 trivial Zz) (LtK.put rfl rfl rfl (Zi Xn rfl (Zhs _) hS hs7 trivial Y2) (LtK.put rfl rfl rfl (Zf Yy rfl) ?_)))))))
 refine LtK.put rfl rfl rfl (Zi Ya rfl (Zhs _) hS hs8 trivial Jv) (LtK.nil (Z6 [Ff,Ff,Tt] 2 ⟨by decide, by kernel_rfl, by kernel_rfl⟩ rfl rfl ?_))
 try dsimp only [Z0]
 obtain ⟨r146, hm147, H⟩ := bind_some H
 refine Zn rfl rfl rfl rfl (by kernel_rfl) rfl (c_repl_other {r68 with role := 0} x1 A70 c71 A74 c75 A78 c79 A82 c83 A86 c87 A5_ c5_ _ (Zhu k72 (hS.rd hs0) (hS.rd_blk hs0)) (Zhu k76 (hS.row_rd Xa) (hS.row_blk Xa)) (Zhu k80 (hS.row_rd Xq) (hS.row_blk Xq)) (Zhu k84 (hS.row_rd hs3) (hS.row_blk hs3)) (Zhu k88 (hS.row_rd hs4) (hS.row_blk hs4)) (Zhu s5_.k (hS.rd0 s5_.rd) (hS.blk0 s5_.blk)) hm147) ?_
 rintro e w ⟨rfl, hN⟩; refine ⟨_, rfl, ?_⟩; obtain ⟨hB, hS⟩ := hS.jn hN
 refine Zg (Z9 hB (Zq [Ff,Ff,Ff,Ff,Ff,Tt] (by decide +kernel) PFC.h (LtK.put rfl rfl rfl (Z2 rfl) (LtK.nil (Yq [Ff,Ff,Ff,Ff,Ff,Ff,Tt] 6 ⟨by decide, by kernel_rfl, by kernel_rfl⟩ rfl rfl ?_)))))
 try dsimp only [Z0]
 refine Zl rfl rfl rfl CellsOf.agg hS ps5 X0 (by kernel_rfl) rfl (fun w hS hB => Zg (Yk (hB.sub (fun _ _ h => by simpa using h)) (Ye (by kernel_rfl) (Zc hK145 (Zd (fun K hK148 => Zd (fun K hK149 => Ze ?_)))))))
 refine Za rfl rfl rfl (Zf V0 rfl) (Za rfl rfl rfl (Zh Z1 rfl (Zhr _) hS hs7 trivial Jd) (Za rfl rfl rfl (Xd rfl rfl) (Zb 1 rfl (Za rfl rfl rfl (Xd rfl rfl) (Zb 1 rfl (Zg (Zc hK149 ?_)))))))
 refine Zd (fun K hK150 => Ze (Zb 1 rfl (Za rfl rfl rfl (Zf X8 rfl) (Za rfl rfl rfl (Zh Xx rfl (Zhr _) hS hs7 trivial Zak) (Za rfl rfl rfl (Y0 Y8 rfl) (Za rfl rfl rfl (Xk rfl rfl) (Zg ?_)))))))
 refine Zc hK150 (Zy rfl (fun hb => ?_) (fun hb => ?_))
 rotate_left
 ·replace H := Zo H hb
  refine Zr (Zc hK148 (Zd (fun K hK290 => Ze (Za rfl rfl rfl (Zi Ya rfl (Zhr _) hS hs5 trivial Yx) (Za rfl rfl rfl (Zf Yy rfl) (Zl rfl rfl rfl CellsOf.agg hS ps8 st4_8 (by kernel_rfl) rfl (fun w hS hB => Zg ?_)))))))
  refine Zc hK290 (Zd (fun K hK291 => Ze (Za rfl rfl rfl (Zi Z7 rfl (Zhr _) hS hs8 trivial Zz) ?_)))
  obtain ⟨r292, hm293, H⟩ := bind_some H
  refine Zn rfl rfl rfl rfl (by kernel_rfl) rfl (c_repl_Fit {r68 with role := 0} A70 c71 A74 c75 A78 c79 A82 c83 A86 c87 _ (Zhu k72 (hS.rd hs0) (hS.rd_blk hs0)) (Zhu k76 (hS.row_rd Xa) (hS.row_blk Xa)) (Zhu k80 (hS.row_rd Xq) (hS.row_blk Xq)) (Zhu k84 (hS.row_rd hs3) (hS.row_blk hs3)) (Zhu k88 (hS.row_rd hs4) (hS.row_blk hs4)) hm293) ?_
  rintro e w ⟨A294, c295, A298, c299, A302, c303, A306, c307, A310, c311, rfl, k296, k300, k304, k308, k312, hN⟩; refine ⟨_, rfl, ?_⟩; obtain ⟨hB, hS⟩ := hS.jn hN
  refine Zl rfl rfl rfl CellsOf.agg hS ps13 Yo (by kernel_rfl) rfl (fun w hS hB => Zg (Zc hK291 (Zd (fun K hK314 => Ze (Za rfl rfl rfl (Zf V0 rfl) (Za rfl rfl rfl (Zh Z1 rfl (Zhr _) hS hs12 trivial Jd) (Za rfl rfl rfl (Zf X8 rfl) ?_)))))))
  refine Za rfl rfl rfl (Zh Xx rfl (Zhr _) hS hs12 trivial Zak) (Za rfl rfl rfl (Y0 Y8 rfl) (Za rfl rfl rfl (Xd rfl rfl) (Zb 1 rfl (Zg (Zc hK314 (Zd (fun K hK315 => Ze ?_)))))))
  refine Za rfl rfl rfl (Zf V6 rfl) (Za rfl rfl rfl (Zh Z1 rfl (Zhr _) hS Zg4 trivial Zbw) (Za rfl rfl rfl (Zf Zdu rfl) (Za rfl rfl rfl (Zh Z1 rfl (Zhr _) hS hs12 trivial Zey) (Zb 1 rfl (Za rfl rfl rfl (Zdy rfl rfl) (Za rfl rfl rfl (Zdw rfl rfl) (Za rfl rfl rfl (Zf V6 rfl) ?_)))))))
  refine Zl rfl rfl rfl CellsOf.int hS ps13 st12_1 (by kernel_rfl) rfl (fun w hS hB => Zg (Zc hK315 (Zd (fun K hK316 => Ze (Za rfl rfl rfl (Zf Yy rfl) (Za rfl rfl rfl (Zi Ya rfl (Zhr _) hS Zg4 trivial Jv) (Za rfl rfl rfl (Zf V6 rfl) ?_)))))))
  refine Za rfl rfl rfl (Zh Z1 rfl (Zhr _) hS Zg4 trivial Zbw) ?_
  obtain ⟨r317, hm318, H⟩ := bind_some H
  refine Zn rfl rfl rfl rfl (by kernel_rfl) rfl (Zfb r292.tuple (max r292.commit (min x1.commit (IntKind.wrap .i64 (x1.last + (x1.entries.length : Int))))) A294 c295 _ (Zhu k296 (hS.row_rd hs0) (hS.row_blk hs0)) hm318) ?_
  rintro e w ⟨rfl, hN⟩; refine ⟨_, rfl, ?_⟩; obtain ⟨hB, hS⟩ := hS.jn hN
  refine Zb 1 rfl (Za rfl rfl rfl (Zv rfl rfl) (Za rfl rfl rfl (Zv rfl rfl) (Za rfl rfl rfl (Zf Zfg rfl) (Zl rfl rfl rfl CellsOf.agg hS ps13 st13_5 (by kernel_rfl) rfl (fun w hS hB => Zg (Zc hK316 (Zd (fun K hK319 => ?_))))))))
  refine Zd (fun K hK320 => Yi 8 [6] (fun i b => (i = 6 → b ≠ b6)) ⟨by kernel_rfl, by kernel_rfl⟩ hS (fun w hS hB => Zq [true] (by decide +kernel) PFC.h (LtK.put rfl rfl rfl (Zi Z7 rfl (Zhs _) hS Zg4 trivial Zz) (LtK.nil (Y7 [Ff,Tt,Tt,Tt] [6] (fun b => b ≠ b6) (by decide +kernel) (by intro j hj b hb; simp only [List.mem_cons, List.not_mem_nil, or_false] at hj; (try rcases hj with rfl | rfl | rfl | rfl | rfl) <;> first | (simp [hb]; done) | simp_all) PFC.h (LtK.put rfl rfl rfl (Zi Z7 rfl (Zht _ _) hS Zg4 (hS.ne 13 11 rfl rfl rfl) Zz) (LtK.put rfl rfl rfl (Zi Xn rfl (Zht _ _) hS hs12 (hS.ne 12 11 rfl rfl rfl) Y2) ?_)))))))
  refine LtK.put rfl rfl rfl (Zw rfl) (LtK.nil (Z6 [Ff,Ff,Ff,Ff,Tt] 4 ⟨by decide, by kernel_rfl, by kernel_rfl⟩ rfl rfl ?_))
  try dsimp only [Z0]
  obtain ⟨r321, hm322, H⟩ := bind_some H
  refine Zn rfl rfl rfl rfl (by kernel_rfl) rfl (Zcs {r292 with commit := (max r292.commit (min x1.commit (IntKind.wrap .i64 (x1.last + (x1.entries.length : Int))))), applied := r317.1} x1 4 true (IntKind.wrap .i64 (x1.last + (x1.entries.length : Int))) A294 c295 A298 c299 A302 c303 A306 c307 A310 c311 A5_ c5_ _ (Zhu k296 (hS.row_rd hs0) (hS.row_blk hs0)) (Zhu k300 (hS.row_rd Xa) (hS.row_blk Xa)) (Zhu k304 (hS.row_rd Xq) (hS.row_blk Xq)) (Zhu k308 (hS.row_rd hs3) (hS.row_blk hs3)) (Zhu k312 (hS.row_rd hs4) (hS.row_blk hs4)) (Zhu s5_.k (hS.rd0 s5_.rd) (hS.blk0 s5_.blk)) hm322) ?_
  rintro e w ⟨A323, c324, rfl, k325, hN⟩; refine ⟨_, rfl, ?_⟩; obtain ⟨hB, hS⟩ := hS.jn hN
  refine Zg (Z9 hB (Zes [5, 6] ⟨by decide, by kernel_rfl⟩ rfl (.call [Ff,Ff,Ff,Ff,Ff,Tt] 5 rfl rfl rfl ?_ (.put [Ff,Ff,Ff,Ff,Ff,Ff,Tt] 6 rfl rfl rfl ?_ .nil))))
  ·try dsimp only [Z0]
   refine Xb (ps := [(0, .tmp 140)]) [.int .u8 r321.kind, .int .i64 r321.frm, .int .i64 r321.dst, .int .i64 r321.term, .int .i64 r321.cap, .int .i64 r321.last, .int .i64 r321.lastTerm, .int .i64 r321.commit, .bool r321.okk, .slice A323 r321.entries.length c324, .int .i64 r321.snap.index, .int .i64 r321.snap.term, .int .i64 r321.snap.sum, .int .i64 r321.snap.level, .bool r321.snap.final] Zbf Zba rfl rfl rfl rfl rfl (by kernel_rfl) hS (fun b327 w hS hB => Zg (Z9 hB (Yq [Ff,Ff,Ff,Ff,Ff,Ff,Tt] 6 ⟨by decide, by kernel_rfl, by kernel_rfl⟩ rfl rfl ?_)))
   try dsimp only [Z0]
   refine Zl rfl rfl rfl CellsOf.agg hS ps13 Yo (by kernel_rfl) rfl (fun w hS hB => Zg (Yk (hB.sub (fun _ _ h => by simpa using h)) (Zq [Ff,Ff,Ff,Ff,Ff,Ff,Ff,Tt] (by decide +kernel) PFC.h (LtK.put rfl rfl rfl (Z2 rfl) (LtK.nil (Ye (by kernel_rfl) (Zc hK320 ?_)))))))
   refine Zk (Zj (Yc (Zm rfl (RV.cell rfl (Zu Z7 hS Zg4 Zz) (RV.tmp rfl RV.nil)) rfl ?_)))
   obtain rfl := QJ H
   have hS := hS.nilRds
   replace hS := hS.front 2 rfl
   replace hS := hS.absorbQ ⟨r321, A323, c324⟩
   replace hS := hS.front 1 rfl
   replace hS := hS.weak Weak.boxRd
   have hS := hS.front 6 rfl
   have hS := hS.front 6 rfl
   have hS := hS.front 6 rfl
   have hS := hS.front 6 rfl
   have hS := hS.front 6 rfl
   replace hS := hS.weak Weak.rowRd
   replace hS := hS.cut 7
   exact ⟨A294, c295, A298, c299, A302, c303, A306, c307, A310, c311, (some ⟨b327, 0, none⟩), 1, ([⟨r321, A323, c324⟩] : List Mq), rfl, k296, k300, k304, k308, k312, ⟨Nat.le_refl 1, by decide⟩, rfl, (Zac k325 Vy), hS⟩
  ·try dsimp only [Z0]
   refine Zl rfl rfl rfl CellsOf.agg hS ps12 Yo (by kernel_rfl) rfl (fun w hS hB => Zg (Yk (hB.sub (fun _ _ h => by simpa using h)) (Z6 [Ff,Ff,Ff,Ff,Ff,Tt] 5 ⟨by decide, by kernel_rfl, by kernel_rfl⟩ rfl rfl ?_)))
   try dsimp only [Z0]
   refine Xb (ps := [(0, .tmp 140)]) [.int .u8 r321.kind, .int .i64 r321.frm, .int .i64 r321.dst, .int .i64 r321.term, .int .i64 r321.cap, .int .i64 r321.last, .int .i64 r321.lastTerm, .int .i64 r321.commit, .bool r321.okk, .slice A323 r321.entries.length c324, .int .i64 r321.snap.index, .int .i64 r321.snap.term, .int .i64 r321.snap.sum, .int .i64 r321.snap.level, .bool r321.snap.final] Zbf Zba rfl rfl rfl rfl rfl (by kernel_rfl) hS (fun b327 w hS hB => Zg (Z9 hB (Zq [Ff,Ff,Ff,Ff,Ff,Ff,Ff,Tt] (by decide +kernel) PFC.h (LtK.put rfl rfl rfl (Z2 rfl) (LtK.nil (Ye (by kernel_rfl) (Zc hK320 ?_)))))))
   refine Zk (Zj (Yc (Zm rfl (RV.cell rfl (Zu Z7 hS Zg4 Zz) (RV.tmp rfl RV.nil)) rfl ?_)))
   obtain rfl := QJ H
   have hS := hS.nilRds
   replace hS := hS.front 2 rfl
   replace hS := hS.absorbQ ⟨r321, A323, c324⟩
   replace hS := hS.front 1 rfl
   replace hS := hS.weak Weak.boxRd
   have hS := hS.front 6 rfl
   have hS := hS.front 6 rfl
   have hS := hS.front 6 rfl
   have hS := hS.front 6 rfl
   have hS := hS.front 6 rfl
   replace hS := hS.weak Weak.rowRd
   replace hS := hS.cut 7
   exact ⟨A294, c295, A298, c299, A302, c303, A306, c307, A310, c311, (some ⟨b327, 0, none⟩), 1, ([⟨r321, A323, c324⟩] : List Mq), rfl, k296, k300, k304, k308, k312, ⟨Nat.le_refl 1, by decide⟩, rfl, (Zac k325 Vy), hS⟩
 replace H := Zp H hb
 refine Zd (fun K hK152 => Zd (fun K hK153 => Ze (Zb 1 rfl (Za rfl rfl rfl (Zf V6 rfl) (Za rfl rfl rfl (Zh Z1 rfl (Zhr _) hS hs8 trivial Zbw) (Za rfl rfl rfl (Za5 rfl rfl) (Zg ?_)))))))
 refine Zc hK153 (Zy rfl (fun hb => ?_) (fun hb => ?_))
 ·replace H := Zp H hb
  refine Zd (fun K hK155 => Ze (Za rfl rfl rfl (Zi Z7 rfl (Zhr _) hS hs8 trivial Zz) (Zl rfl rfl rfl CellsOf.agg hS ps6 Yo (by kernel_rfl) rfl (fun w hS hB => Zb 1 rfl (Zg (Zc hK155 (Zk ?_)))))))
  refine Zj (Zj (Yc (Zm rfl (RV.cell rfl (Zu Z7 hS hs6 Zz) (RV.tmp rfl RV.nil)) rfl ?_)))
  obtain rfl := QJ H
  have hS := hS.nilRds
  replace hS := hS.nilRd
  have hS := hS.front 6 rfl
  have hS := hS.front 6 rfl
  have hS := hS.front 6 rfl
  have hS := hS.front 6 rfl
  have hS := hS.front 6 rfl
  replace hS := hS.cut 7
  exact ⟨A70, c71, A74, c75, A78, c79, A82, c83, A86, c87, none, 0, ([] : List Mq), rfl, k72, k76, k80, k84, k88, ⟨Nat.le_refl _, Nat.zero_le _⟩, rfl, Vy, hS⟩
 replace H := Zo H hb
 refine Zr (Zc hK152 (Zd (fun K hK157 => Zd (fun K hK158 => Ze (Zb 2 rfl (Za rfl rfl rfl (Za5 rfl rfl) (Zg ?_)))))))
 refine Zc hK158 (Zy rfl (fun hb => ?_) (fun hb => ?_))
 rotate_left
 ·replace H := Zo H hb
  refine Zr (Zc hK157 (Zd (fun K hK228 => Yi 11 [9] (fun i b => (i = 9 → b ≠ b9)) ⟨by kernel_rfl, by kernel_rfl⟩ hS (fun w hS hB => Zq [Tt,Tt,Tt,Tt,Tt] (by decide +kernel) PFC.h (LtK.put rfl rfl rfl (Zi Ya rfl (Zhs _) hS hs5 trivial Yx) (LtK.put rfl rfl rfl (Zf X8 rfl) (LtK.put rfl rfl rfl (Zh Xx rfl (Zhs _) hS hs7 trivial Zak) ?_)))))))
  refine LtK.put rfl rfl rfl (Zw rfl) ?_
  obtain ⟨l229, hd230, H⟩ := bind_some H
  refine LtK.put rfl rfl rfl (yx_slice_l Y8 rfl rfl hd230) (LtK.nil (Z6 [Ff,Ff,Ff,Ff,Ff,Tt] 5 ⟨by decide, by kernel_rfl, by kernel_rfl⟩ rfl rfl ?_))
  try dsimp only [Z0]
  obtain ⟨r231, hm232, H⟩ := bind_some H
  refine Zn rfl rfl rfl rfl (by kernel_rfl) rfl (c_tuple_Append r68.tuple l229 A70 c71 (cutA A5_ c5_ (Int.toNat r146) 3) (c5_ - Int.toNat r146) _ (Zhu k72 (hS.rd hs0) (hS.rd_blk hs0)) (Zhu (k_drop s5_.k hd230) (Rd.dropI Xy (hS.rd0 s5_.rd) s5_.k.1 hd230) (cutA_blk (hS.blk0 s5_.blk))) hm232) ?_
  rintro e w ⟨A233, c234, rfl, k235, hN⟩; refine ⟨_, rfl, ?_⟩; obtain ⟨hB, hS⟩ := hS.jn hN
  refine Zg (Z9 hB (Zq [Ff,Ff,Ff,Ff,Ff,Ff,Tt,Tt] (by decide +kernel) PFC.h (LtK.put rfl rfl rfl (Zw rfl) (LtK.put rfl rfl rfl (Zv rfl rfl) (LtK.nil (Y7 [Ff,Ff,Ff,Ff,Ff,Ff,Ff,Ff,Tt] [9] (fun b => b ≠ b9) (by decide +kernel) (by intro j hj b hb; simp only [List.mem_cons, List.not_mem_nil, or_false] at hj; (try rcases hj with rfl | rfl | rfl | rfl | rfl) <;> first | (simp [hb]; done) | simp_all) PFC.h (LtK.put rfl rfl rfl (Zv rfl rfl) ?_)))))))
  refine LtK.nil (Yq [Ff,Ff,Ff,Ff,Ff,Ff,Ff,Ff,Ff,Tt] 9 ⟨by decide, by kernel_rfl, by kernel_rfl⟩ rfl rfl ?_)
  try dsimp only [Z0]
  refine Zl rfl rfl rfl CellsOf.agg hS ps6 X0 (by kernel_rfl) rfl (fun w hS hB => Zg (Yk (hB.sub (fun _ _ h => by simpa using h)) (Zq [Ff,Ff,Ff,Ff,Ff,Ff,Ff,Ff,Ff,Ff,Tt] (by decide +kernel) PFC.h (LtK.put rfl rfl rfl (Z2 rfl) (LtK.nil (Ye (by kernel_rfl) (Zc hK228 ?_)))))))
  refine Zd (fun K hK237 => Ze (Zb 1 rfl (Za rfl rfl rfl (Xu rfl rfl) (Zg (Zc hK237 (Zy rfl (fun hb => ?_) (fun hb => ?_)))))))
  ·replace H := Zp H hb
   refine Vr (Xp (Jh (Zd (fun K hK239 => Zr (Zc hK239 (Zd (fun K hK240 => Yi 8 [6] (fun i b => (i = 6 → b ≠ b6)) ⟨by kernel_rfl, by kernel_rfl⟩ hS (fun w hS hB => ?_))))))))
   refine Zq [true] (by decide +kernel) PFC.h (LtK.put rfl rfl rfl (Zi Z7 rfl (Zhs _) hS hs9 trivial Zz) (LtK.nil (Y7 [Ff,Tt,Tt,Tt] [6] (fun b => b ≠ b6) (by decide +kernel) (by intro j hj b hb; simp only [List.mem_cons, List.not_mem_nil, or_false] at hj; (try rcases hj with rfl | rfl | rfl | rfl | rfl) <;> first | (simp [hb]; done) | simp_all) PFC.h (LtK.put rfl rfl rfl (Zi Z7 rfl (Zht _ _) hS hs9 (hS.ne 9 7 rfl rfl rfl) Zz) (LtK.put rfl rfl rfl (Zi Xn rfl (Zht _ _) hS hs8 (hS.ne 8 7 rfl rfl rfl) Y2) (LtK.put rfl rfl rfl (Zw rfl) (LtK.nil ?_)))))))
   refine Z6 [Ff,Ff,Ff,Ff,Tt] 4 ⟨by decide, by kernel_rfl, by kernel_rfl⟩ rfl rfl ?_
   try dsimp only [Z0]
   obtain ⟨r241, hm242, H⟩ := bind_some H
   refine Zn rfl rfl rfl rfl (by kernel_rfl) rfl (Zcs {r68 with role := 0} x1 4 false r91 A70 c71 A74 c75 A78 c79 A82 c83 A86 c87 A5_ c5_ _ (Zhu k72 (hS.rd Xa) (hS.rd_blk Xa)) (Zhu k76 (hS.row_rd Xq) (hS.row_blk Xq)) (Zhu k80 (hS.row_rd hs3) (hS.row_blk hs3)) (Zhu k84 (hS.row_rd hs4) (hS.row_blk hs4)) (Zhu k88 (hS.row_rd hs5) (hS.row_blk hs5)) (Zhu s5_.k (hS.rd0 s5_.rd) (hS.blk0 s5_.blk)) hm242) ?_
   rintro e w ⟨A243, c244, rfl, k245, hN⟩; refine ⟨_, rfl, ?_⟩; obtain ⟨hB, hS⟩ := hS.jn hN
   refine Zg (Z9 hB (Zes [5, 6] ⟨by decide, by kernel_rfl⟩ rfl (.call [Ff,Ff,Ff,Ff,Ff,Tt] 5 rfl rfl rfl ?_ (.put [Ff,Ff,Ff,Ff,Ff,Ff,Tt] 6 rfl rfl rfl ?_ .nil))))
   ·try dsimp only [Z0]
    refine Xb (ps := [(0, .tmp 146)]) [.int .u8 r241.kind, .int .i64 r241.frm, .int .i64 r241.dst, .int .i64 r241.term, .int .i64 r241.cap, .int .i64 r241.last, .int .i64 r241.lastTerm, .int .i64 r241.commit, .bool r241.okk, .slice A243 r241.entries.length c244, .int .i64 r241.snap.index, .int .i64 r241.snap.term, .int .i64 r241.snap.sum, .int .i64 r241.snap.level, .bool r241.snap.final] Zbf Zba rfl rfl rfl rfl rfl (by kernel_rfl) hS (fun b247 w hS hB => Zg (Z9 hB (Yq [Ff,Ff,Ff,Ff,Ff,Ff,Tt] 6 ⟨by decide, by kernel_rfl, by kernel_rfl⟩ rfl rfl ?_)))
    try dsimp only [Z0]
    refine Zl rfl rfl rfl CellsOf.agg hS ps9 Yo (by kernel_rfl) rfl (fun w hS hB => Zg (Yk (hB.sub (fun _ _ h => by simpa using h)) (Zq [Ff,Ff,Ff,Ff,Ff,Ff,Ff,Tt] (by decide +kernel) PFC.h (LtK.put rfl rfl rfl (Z2 rfl) (LtK.nil (Ye (by kernel_rfl) (Zc hK240 ?_)))))))
    refine Zk (Yc (Zm rfl (RV.cell rfl (Zu Z7 hS hs9 Zz) (RV.tmp rfl RV.nil)) rfl ?_))
    obtain rfl := QJ H
    have hS := hS.nilRds
    replace hS := hS.front 2 rfl
    replace hS := hS.absorbQ ⟨r241, A243, c244⟩
    replace hS := hS.front 1 rfl
    replace hS := hS.weak Weak.boxRd
    have hS := hS.front 7 rfl
    have hS := hS.front 7 rfl
    have hS := hS.front 7 rfl
    have hS := hS.front 7 rfl
    have hS := hS.front 7 rfl
    replace hS := hS.cut 7
    exact ⟨A70, c71, A74, c75, A78, c79, A82, c83, A86, c87, (some ⟨b247, 0, none⟩), 1, ([⟨r241, A243, c244⟩] : List Mq), rfl, k72, k76, k80, k84, k88, ⟨Nat.le_refl 1, by decide⟩, rfl, (Zac k245 Vy), hS⟩
   ·try dsimp only [Z0]
    refine Zl rfl rfl rfl CellsOf.agg hS ps8 Yo (by kernel_rfl) rfl (fun w hS hB => Zg (Yk (hB.sub (fun _ _ h => by simpa using h)) (Z6 [Ff,Ff,Ff,Ff,Ff,Tt] 5 ⟨by decide, by kernel_rfl, by kernel_rfl⟩ rfl rfl ?_)))
    try dsimp only [Z0]
    refine Xb (ps := [(0, .tmp 146)]) [.int .u8 r241.kind, .int .i64 r241.frm, .int .i64 r241.dst, .int .i64 r241.term, .int .i64 r241.cap, .int .i64 r241.last, .int .i64 r241.lastTerm, .int .i64 r241.commit, .bool r241.okk, .slice A243 r241.entries.length c244, .int .i64 r241.snap.index, .int .i64 r241.snap.term, .int .i64 r241.snap.sum, .int .i64 r241.snap.level, .bool r241.snap.final] Zbf Zba rfl rfl rfl rfl rfl (by kernel_rfl) hS (fun b247 w hS hB => Zg (Z9 hB (Zq [Ff,Ff,Ff,Ff,Ff,Ff,Ff,Tt] (by decide +kernel) PFC.h (LtK.put rfl rfl rfl (Z2 rfl) (LtK.nil (Ye (by kernel_rfl) (Zc hK240 ?_)))))))
    refine Zk (Yc (Zm rfl (RV.cell rfl (Zu Z7 hS hs9 Zz) (RV.tmp rfl RV.nil)) rfl ?_))
    obtain rfl := QJ H
    have hS := hS.nilRds
    replace hS := hS.front 2 rfl
    replace hS := hS.absorbQ ⟨r241, A243, c244⟩
    replace hS := hS.front 1 rfl
    replace hS := hS.weak Weak.boxRd
    have hS := hS.front 7 rfl
    have hS := hS.front 7 rfl
    have hS := hS.front 7 rfl
    have hS := hS.front 7 rfl
    have hS := hS.front 7 rfl
    replace hS := hS.cut 7
    exact ⟨A70, c71, A74, c75, A78, c79, A82, c83, A86, c87, (some ⟨b247, 0, none⟩), 1, ([⟨r241, A243, c244⟩] : List Mq), rfl, k72, k76, k80, k84, k88, ⟨Nat.le_refl 1, by decide⟩, rfl, (Zac k245 Vy), hS⟩
  replace H := Zo H hb
  refine Zr (Zc hK148 (Zd (fun K hK250 => Ze (Za rfl rfl rfl (Zi Ya rfl (Zhr _) hS hs6 trivial Yx) (Za rfl rfl rfl (Zf Yy rfl) (Zl rfl rfl rfl CellsOf.agg hS ps9 st4_8 (by kernel_rfl) rfl (fun w hS hB => Zg ?_)))))))
  refine Zc hK250 (Zd (fun K hK251 => Ze (Za rfl rfl rfl (Zi Z7 rfl (Zhr _) hS hs9 trivial Zz) ?_)))
  obtain ⟨r252, hm253, H⟩ := bind_some H
  refine Zn rfl rfl rfl rfl (by kernel_rfl) rfl (c_repl_Fit {r68 with role := 0, tuple := r231.1} A233 c234 A74 c75 A78 c79 A82 c83 A86 c87 _ (Zhu k235 (hS.rd hs0) (hS.rd_blk hs0)) (Zhu k76 (hS.row_rd Xq) (hS.row_blk Xq)) (Zhu k80 (hS.row_rd hs3) (hS.row_blk hs3)) (Zhu k84 (hS.row_rd hs4) (hS.row_blk hs4)) (Zhu k88 (hS.row_rd hs5) (hS.row_blk hs5)) hm253) ?_
  rintro e w ⟨A254, c255, A258, c259, A262, c263, A266, c267, A270, c271, rfl, k256, k260, k264, k268, k272, hN⟩; refine ⟨_, rfl, ?_⟩; obtain ⟨hB, hS⟩ := hS.jn hN
  refine Zl rfl rfl rfl CellsOf.agg hS ps14 Yo (by kernel_rfl) rfl (fun w hS hB => Zg (Zc hK251 (Zd (fun K hK274 => Ze (Za rfl rfl rfl (Zf V0 rfl) (Za rfl rfl rfl (Zh Z1 rfl (Zhr _) hS Zg4 trivial Jd) (Za rfl rfl rfl (Zf X8 rfl) ?_)))))))
  refine Za rfl rfl rfl (Zh Xx rfl (Zhr _) hS Zg4 trivial Zak) (Za rfl rfl rfl (Y0 Y8 rfl) (Za rfl rfl rfl (Xd rfl rfl) (Zb 1 rfl (Zg (Zc hK274 (Zd (fun K hK275 => Ze ?_)))))))
  refine Za rfl rfl rfl (Zf V6 rfl) (Za rfl rfl rfl (Zh Z1 rfl (Zhr _) hS Zg8 trivial Zbw) (Za rfl rfl rfl (Zf Zdu rfl) (Za rfl rfl rfl (Zh Z1 rfl (Zhr _) hS Zg4 trivial Zey) (Zb 1 rfl (Za rfl rfl rfl (Zdy rfl rfl) (Za rfl rfl rfl (Zdw rfl rfl) (Za rfl rfl rfl (Zf V6 rfl) ?_)))))))
  refine Zl rfl rfl rfl CellsOf.int hS ps14 st12_1 (by kernel_rfl) rfl (fun w hS hB => Zg (Zc hK275 (Zd (fun K hK276 => Ze (Za rfl rfl rfl (Zf Yy rfl) (Za rfl rfl rfl (Zi Ya rfl (Zhr _) hS Zg8 trivial Jv) (Za rfl rfl rfl (Zf V6 rfl) ?_)))))))
  refine Za rfl rfl rfl (Zh Z1 rfl (Zhr _) hS Zg8 trivial Zbw) ?_
  obtain ⟨r277, hm278, H⟩ := bind_some H
  refine Zn rfl rfl rfl rfl (by kernel_rfl) rfl (Zfb r252.tuple (max r252.commit (min x1.commit (IntKind.wrap .i64 (x1.last + (x1.entries.length : Int))))) A254 c255 _ (Zhu k256 (hS.row_rd hs0) (hS.row_blk hs0)) hm278) ?_
  rintro e w ⟨rfl, hN⟩; refine ⟨_, rfl, ?_⟩; obtain ⟨hB, hS⟩ := hS.jn hN
  refine Zb 1 rfl (Za rfl rfl rfl (Zv rfl rfl) (Za rfl rfl rfl (Zv rfl rfl) (Za rfl rfl rfl (Zf Zfg rfl) (Zl rfl rfl rfl CellsOf.agg hS ps14 st13_5 (by kernel_rfl) rfl (fun w hS hB => Zg (Zc hK276 (Zd (fun K hK279 => ?_))))))))
  refine Zd (fun K hK280 => Yi 8 [6] (fun i b => (i = 6 → b ≠ b6)) ⟨by kernel_rfl, by kernel_rfl⟩ hS (fun w hS hB => Zq [true] (by decide +kernel) PFC.h (LtK.put rfl rfl rfl (Zi Z7 rfl (Zhs _) hS Zg8 trivial Zz) (LtK.nil (Y7 [Ff,Tt,Tt,Tt] [6] (fun b => b ≠ b6) (by decide +kernel) (by intro j hj b hb; simp only [List.mem_cons, List.not_mem_nil, or_false] at hj; (try rcases hj with rfl | rfl | rfl | rfl | rfl) <;> first | (simp [hb]; done) | simp_all) PFC.h (LtK.put rfl rfl rfl (Zi Z7 rfl (Zht _ _) hS Zg8 (hS.ne 14 12 rfl rfl rfl) Zz) (LtK.put rfl rfl rfl (Zi Xn rfl (Zht _ _) hS Zg4 (hS.ne 13 12 rfl rfl rfl) Y2) ?_)))))))
  refine LtK.put rfl rfl rfl (Zw rfl) (LtK.nil (Z6 [Ff,Ff,Ff,Ff,Tt] 4 ⟨by decide, by kernel_rfl, by kernel_rfl⟩ rfl rfl ?_))
  try dsimp only [Z0]
  obtain ⟨r281, hm282, H⟩ := bind_some H
  refine Zn rfl rfl rfl rfl (by kernel_rfl) rfl (Zcs {r252 with commit := (max r252.commit (min x1.commit (IntKind.wrap .i64 (x1.last + (x1.entries.length : Int))))), applied := r277.1} x1 4 true (IntKind.wrap .i64 (x1.last + (x1.entries.length : Int))) A254 c255 A258 c259 A262 c263 A266 c267 A270 c271 A5_ c5_ _ (Zhu k256 (hS.row_rd hs0) (hS.row_blk hs0)) (Zhu k260 (hS.row_rd Xa) (hS.row_blk Xa)) (Zhu k264 (hS.row_rd Xq) (hS.row_blk Xq)) (Zhu k268 (hS.row_rd hs3) (hS.row_blk hs3)) (Zhu k272 (hS.row_rd hs4) (hS.row_blk hs4)) (Zhu s5_.k (hS.rd0 s5_.rd) (hS.blk0 s5_.blk)) hm282) ?_
  rintro e w ⟨A283, c284, rfl, k285, hN⟩; refine ⟨_, rfl, ?_⟩; obtain ⟨hB, hS⟩ := hS.jn hN
  refine Zg (Z9 hB (Zes [5, 6] ⟨by decide, by kernel_rfl⟩ rfl (.call [Ff,Ff,Ff,Ff,Ff,Tt] 5 rfl rfl rfl ?_ (.put [Ff,Ff,Ff,Ff,Ff,Ff,Tt] 6 rfl rfl rfl ?_ .nil))))
  ·try dsimp only [Z0]
   refine Xb (ps := [(0, .tmp 140)]) [.int .u8 r281.kind, .int .i64 r281.frm, .int .i64 r281.dst, .int .i64 r281.term, .int .i64 r281.cap, .int .i64 r281.last, .int .i64 r281.lastTerm, .int .i64 r281.commit, .bool r281.okk, .slice A283 r281.entries.length c284, .int .i64 r281.snap.index, .int .i64 r281.snap.term, .int .i64 r281.snap.sum, .int .i64 r281.snap.level, .bool r281.snap.final] Zbf Zba rfl rfl rfl rfl rfl (by kernel_rfl) hS (fun b287 w hS hB => Zg (Z9 hB (Yq [Ff,Ff,Ff,Ff,Ff,Ff,Tt] 6 ⟨by decide, by kernel_rfl, by kernel_rfl⟩ rfl rfl ?_)))
   try dsimp only [Z0]
   refine Zl rfl rfl rfl CellsOf.agg hS ps14 Yo (by kernel_rfl) rfl (fun w hS hB => Zg (Yk (hB.sub (fun _ _ h => by simpa using h)) (Zq [Ff,Ff,Ff,Ff,Ff,Ff,Ff,Tt] (by decide +kernel) PFC.h (LtK.put rfl rfl rfl (Z2 rfl) (LtK.nil (Ye (by kernel_rfl) (Zc hK280 ?_)))))))
   refine Zk (Zj (Yc (Zm rfl (RV.cell rfl (Zu Z7 hS Zg8 Zz) (RV.tmp rfl RV.nil)) rfl ?_)))
   obtain rfl := QJ H
   have hS := hS.nilRds
   replace hS := hS.front 2 rfl
   replace hS := hS.absorbQ ⟨r281, A283, c284⟩
   replace hS := hS.front 1 rfl
   replace hS := hS.weak Weak.boxRd
   have hS := hS.front 6 rfl
   have hS := hS.front 6 rfl
   have hS := hS.front 6 rfl
   have hS := hS.front 6 rfl
   have hS := hS.front 6 rfl
   replace hS := hS.weak Weak.rowRd
   replace hS := hS.cut 7
   exact ⟨A254, c255, A258, c259, A262, c263, A266, c267, A270, c271, (some ⟨b287, 0, none⟩), 1, ([⟨r281, A283, c284⟩] : List Mq), rfl, k256, k260, k264, k268, k272, ⟨Nat.le_refl 1, by decide⟩, rfl, (Zac k285 Vy), hS⟩
  ·try dsimp only [Z0]
   refine Zl rfl rfl rfl CellsOf.agg hS ps13 Yo (by kernel_rfl) rfl (fun w hS hB => Zg (Yk (hB.sub (fun _ _ h => by simpa using h)) (Z6 [Ff,Ff,Ff,Ff,Ff,Tt] 5 ⟨by decide, by kernel_rfl, by kernel_rfl⟩ rfl rfl ?_)))
   try dsimp only [Z0]
   refine Xb (ps := [(0, .tmp 140)]) [.int .u8 r281.kind, .int .i64 r281.frm, .int .i64 r281.dst, .int .i64 r281.term, .int .i64 r281.cap, .int .i64 r281.last, .int .i64 r281.lastTerm, .int .i64 r281.commit, .bool r281.okk, .slice A283 r281.entries.length c284, .int .i64 r281.snap.index, .int .i64 r281.snap.term, .int .i64 r281.snap.sum, .int .i64 r281.snap.level, .bool r281.snap.final] Zbf Zba rfl rfl rfl rfl rfl (by kernel_rfl) hS (fun b287 w hS hB => Zg (Z9 hB (Zq [Ff,Ff,Ff,Ff,Ff,Ff,Ff,Tt] (by decide +kernel) PFC.h (LtK.put rfl rfl rfl (Z2 rfl) (LtK.nil (Ye (by kernel_rfl) (Zc hK280 ?_)))))))
   refine Zk (Zj (Yc (Zm rfl (RV.cell rfl (Zu Z7 hS Zg8 Zz) (RV.tmp rfl RV.nil)) rfl ?_)))
   obtain rfl := QJ H
   have hS := hS.nilRds
   replace hS := hS.front 2 rfl
   replace hS := hS.absorbQ ⟨r281, A283, c284⟩
   replace hS := hS.front 1 rfl
   replace hS := hS.weak Weak.boxRd
   have hS := hS.front 6 rfl
   have hS := hS.front 6 rfl
   have hS := hS.front 6 rfl
   have hS := hS.front 6 rfl
   have hS := hS.front 6 rfl
   replace hS := hS.weak Weak.rowRd
   replace hS := hS.cut 7
   exact ⟨A254, c255, A258, c259, A262, c263, A266, c267, A270, c271, (some ⟨b287, 0, none⟩), 1, ([⟨r281, A283, c284⟩] : List Mq), rfl, k256, k260, k264, k268, k272, ⟨Nat.le_refl 1, by decide⟩, rfl, (Zac k285 Vy), hS⟩
 replace H := Zp H hb
 refine Ze (Za rfl rfl rfl (Zi Ya rfl (Zhr _) hS hs5 trivial Yx) (Zb 1 rfl ?_))
 obtain ⟨r160, hm161, H⟩ := bind_some H
 refine Zn rfl rfl rfl rfl (by kernel_rfl) rfl (c_tuple_Cut r68.tuple (IntKind.wrap .i64 ((IntKind.wrap .i64 (x1.last + 1)) + r146)) A70 c71 _ (Zhu k72 (hS.rd hs0) (hS.rd_blk hs0)) hm161) ?_
 rintro e w ⟨A162, c163, rfl, k164, hN⟩; refine ⟨_, rfl, ?_⟩; obtain ⟨hB, hS⟩ := hS.jn hN
 refine Zb 1 rfl (Za rfl rfl rfl (Zv rfl rfl) (Za rfl rfl rfl (Zv rfl rfl) (Zl rfl rfl rfl CellsOf.agg hS ps6 X0 (by kernel_rfl) rfl (fun w hS hB => Zg (Zc hK157 (Zd (fun K hK166 => Yi 11 [9] (fun i b => (i = 9 → b ≠ b9)) ⟨by kernel_rfl, by kernel_rfl⟩ hS (fun w hS hB => ?_))))))))
 refine Zq [Tt,Tt,Tt,Tt,Tt] (by decide +kernel) PFC.h (LtK.put rfl rfl rfl (Zi Ya rfl (Zhs _) hS hs6 trivial Yx) (LtK.put rfl rfl rfl (Zf X8 rfl) (LtK.put rfl rfl rfl (Zh Xx rfl (Zhs _) hS hs8 trivial Zak) (LtK.put rfl rfl rfl (Zw rfl) ?_))))
 obtain ⟨l167, hd168, H⟩ := bind_some H
 refine LtK.put rfl rfl rfl (yx_slice_l Y8 rfl rfl hd168) (LtK.nil (Z6 [Ff,Ff,Ff,Ff,Ff,Tt] 5 ⟨by decide, by kernel_rfl, by kernel_rfl⟩ rfl rfl ?_))
 try dsimp only [Z0]
 obtain ⟨r169, hm170, H⟩ := bind_some H
 refine Zn rfl rfl rfl rfl (by kernel_rfl) rfl (c_tuple_Append r160.1 l167 A162 c163 (cutA A5_ c5_ (Int.toNat r146) 3) (c5_ - Int.toNat r146) _ (Zhu k164 (hS.rd hs0) (hS.rd_blk hs0)) (Zhu (k_drop s5_.k hd168) (Rd.dropI Xy (hS.rd0 s5_.rd) s5_.k.1 hd168) (cutA_blk (hS.blk0 s5_.blk))) hm170) ?_
 rintro e w ⟨A171, c172, rfl, k173, hN⟩; refine ⟨_, rfl, ?_⟩; obtain ⟨hB, hS⟩ := hS.jn hN
 refine Zg (Z9 hB (Zq [Ff,Ff,Ff,Ff,Ff,Ff,Tt,Tt] (by decide +kernel) PFC.h (LtK.put rfl rfl rfl (Zw rfl) (LtK.put rfl rfl rfl (Zv rfl rfl) (LtK.nil (Y7 [Ff,Ff,Ff,Ff,Ff,Ff,Ff,Ff,Tt] [9] (fun b => b ≠ b9) (by decide +kernel) (by intro j hj b hb; simp only [List.mem_cons, List.not_mem_nil, or_false] at hj; (try rcases hj with rfl | rfl | rfl | rfl | rfl) <;> first | (simp [hb]; done) | simp_all) PFC.h (LtK.put rfl rfl rfl (Zv rfl rfl) ?_)))))))
 refine LtK.nil (Yq [Ff,Ff,Ff,Ff,Ff,Ff,Ff,Ff,Ff,Tt] 9 ⟨by decide, by kernel_rfl, by kernel_rfl⟩ rfl rfl ?_)
 try dsimp only [Z0]
 refine Zl rfl rfl rfl CellsOf.agg hS ps7 X0 (by kernel_rfl) rfl (fun w hS hB => Zg (Yk (hB.sub (fun _ _ h => by simpa using h)) (Zq [Ff,Ff,Ff,Ff,Ff,Ff,Ff,Ff,Ff,Ff,Tt] (by decide +kernel) PFC.h (LtK.put rfl rfl rfl (Z2 rfl) (LtK.nil (Ye (by kernel_rfl) (Zc hK166 ?_)))))))
 refine Zd (fun K hK175 => Ze (Zb 1 rfl (Za rfl rfl rfl (Xu rfl rfl) (Zg (Zc hK175 (Zy rfl (fun hb => ?_) (fun hb => ?_)))))))
 ·replace H := Zp H hb
  refine Vr (Xp (Jh (Zd (fun K hK177 => Zr (Zc hK177 (Zd (fun K hK178 => Yi 8 [6] (fun i b => (i = 6 → b ≠ b6)) ⟨by kernel_rfl, by kernel_rfl⟩ hS (fun w hS hB => ?_))))))))
  refine Zq [true] (by decide +kernel) PFC.h (LtK.put rfl rfl rfl (Zi Z7 rfl (Zhs _) hS Zek trivial Zz) (LtK.nil (Y7 [Ff,Tt,Tt,Tt] [6] (fun b => b ≠ b6) (by decide +kernel) (by intro j hj b hb; simp only [List.mem_cons, List.not_mem_nil, or_false] at hj; (try rcases hj with rfl | rfl | rfl | rfl | rfl) <;> first | (simp [hb]; done) | simp_all) PFC.h (LtK.put rfl rfl rfl (Zi Z7 rfl (Zht _ _) hS Zek (hS.ne 10 8 rfl rfl rfl) Zz) (LtK.put rfl rfl rfl (Zi Xn rfl (Zht _ _) hS hs9 (hS.ne 9 8 rfl rfl rfl) Y2) (LtK.put rfl rfl rfl (Zw rfl) (LtK.nil ?_)))))))
  refine Z6 [Ff,Ff,Ff,Ff,Tt] 4 ⟨by decide, by kernel_rfl, by kernel_rfl⟩ rfl rfl ?_
  try dsimp only [Z0]
  obtain ⟨r179, hm180, H⟩ := bind_some H
  refine Zn rfl rfl rfl rfl (by kernel_rfl) rfl (Zcs {r68 with role := 0} x1 4 false r91 A70 c71 A74 c75 A78 c79 A82 c83 A86 c87 A5_ c5_ _ (Zhu k72 (hS.rd Xq) (hS.rd_blk Xq)) (Zhu k76 (hS.row_rd hs3) (hS.row_blk hs3)) (Zhu k80 (hS.row_rd hs4) (hS.row_blk hs4)) (Zhu k84 (hS.row_rd hs5) (hS.row_blk hs5)) (Zhu k88 (hS.row_rd hs6) (hS.row_blk hs6)) (Zhu s5_.k (hS.rd0 s5_.rd) (hS.blk0 s5_.blk)) hm180) ?_
  rintro e w ⟨A181, c182, rfl, k183, hN⟩; refine ⟨_, rfl, ?_⟩; obtain ⟨hB, hS⟩ := hS.jn hN
  refine Zg (Z9 hB (Zes [5, 6] ⟨by decide, by kernel_rfl⟩ rfl (.call [Ff,Ff,Ff,Ff,Ff,Tt] 5 rfl rfl rfl ?_ (.put [Ff,Ff,Ff,Ff,Ff,Ff,Tt] 6 rfl rfl rfl ?_ .nil))))
  ·try dsimp only [Z0]
   refine Xb (ps := [(0, .tmp 146)]) [.int .u8 r179.kind, .int .i64 r179.frm, .int .i64 r179.dst, .int .i64 r179.term, .int .i64 r179.cap, .int .i64 r179.last, .int .i64 r179.lastTerm, .int .i64 r179.commit, .bool r179.okk, .slice A181 r179.entries.length c182, .int .i64 r179.snap.index, .int .i64 r179.snap.term, .int .i64 r179.snap.sum, .int .i64 r179.snap.level, .bool r179.snap.final] Zbf Zba rfl rfl rfl rfl rfl (by kernel_rfl) hS (fun b185 w hS hB => Zg (Z9 hB (Yq [Ff,Ff,Ff,Ff,Ff,Ff,Tt] 6 ⟨by decide, by kernel_rfl, by kernel_rfl⟩ rfl rfl ?_)))
   try dsimp only [Z0]
   refine Zl rfl rfl rfl CellsOf.agg hS ps10 Yo (by kernel_rfl) rfl (fun w hS hB => Zg (Yk (hB.sub (fun _ _ h => by simpa using h)) (Zq [Ff,Ff,Ff,Ff,Ff,Ff,Ff,Tt] (by decide +kernel) PFC.h (LtK.put rfl rfl rfl (Z2 rfl) (LtK.nil (Ye (by kernel_rfl) (Zc hK178 ?_)))))))
   refine Zk (Yc (Zm rfl (RV.cell rfl (Zu Z7 hS Zek Zz) (RV.tmp rfl RV.nil)) rfl ?_))
   obtain rfl := QJ H
   have hS := hS.nilRds
   replace hS := hS.front 2 rfl
   replace hS := hS.absorbQ ⟨r179, A181, c182⟩
   replace hS := hS.front 1 rfl
   replace hS := hS.weak Weak.boxRd
   have hS := hS.front 8 rfl
   have hS := hS.front 8 rfl
   have hS := hS.front 8 rfl
   have hS := hS.front 8 rfl
   have hS := hS.front 8 rfl
   replace hS := hS.cut 7
   exact ⟨A70, c71, A74, c75, A78, c79, A82, c83, A86, c87, (some ⟨b185, 0, none⟩), 1, ([⟨r179, A181, c182⟩] : List Mq), rfl, k72, k76, k80, k84, k88, ⟨Nat.le_refl 1, by decide⟩, rfl, (Zac k183 Vy), hS⟩
  ·try dsimp only [Z0]
   refine Zl rfl rfl rfl CellsOf.agg hS ps9 Yo (by kernel_rfl) rfl (fun w hS hB => Zg (Yk (hB.sub (fun _ _ h => by simpa using h)) (Z6 [Ff,Ff,Ff,Ff,Ff,Tt] 5 ⟨by decide, by kernel_rfl, by kernel_rfl⟩ rfl rfl ?_)))
   try dsimp only [Z0]
   refine Xb (ps := [(0, .tmp 146)]) [.int .u8 r179.kind, .int .i64 r179.frm, .int .i64 r179.dst, .int .i64 r179.term, .int .i64 r179.cap, .int .i64 r179.last, .int .i64 r179.lastTerm, .int .i64 r179.commit, .bool r179.okk, .slice A181 r179.entries.length c182, .int .i64 r179.snap.index, .int .i64 r179.snap.term, .int .i64 r179.snap.sum, .int .i64 r179.snap.level, .bool r179.snap.final] Zbf Zba rfl rfl rfl rfl rfl (by kernel_rfl) hS (fun b185 w hS hB => Zg (Z9 hB (Zq [Ff,Ff,Ff,Ff,Ff,Ff,Ff,Tt] (by decide +kernel) PFC.h (LtK.put rfl rfl rfl (Z2 rfl) (LtK.nil (Ye (by kernel_rfl) (Zc hK178 ?_)))))))
   refine Zk (Yc (Zm rfl (RV.cell rfl (Zu Z7 hS Zek Zz) (RV.tmp rfl RV.nil)) rfl ?_))
   obtain rfl := QJ H
   have hS := hS.nilRds
   replace hS := hS.front 2 rfl
   replace hS := hS.absorbQ ⟨r179, A181, c182⟩
   replace hS := hS.front 1 rfl
   replace hS := hS.weak Weak.boxRd
   have hS := hS.front 8 rfl
   have hS := hS.front 8 rfl
   have hS := hS.front 8 rfl
   have hS := hS.front 8 rfl
   have hS := hS.front 8 rfl
   replace hS := hS.cut 7
   exact ⟨A70, c71, A74, c75, A78, c79, A82, c83, A86, c87, (some ⟨b185, 0, none⟩), 1, ([⟨r179, A181, c182⟩] : List Mq), rfl, k72, k76, k80, k84, k88, ⟨Nat.le_refl 1, by decide⟩, rfl, (Zac k183 Vy), hS⟩
 replace H := Zo H hb
 refine Zr (Zc hK148 (Zd (fun K hK188 => Ze (Za rfl rfl rfl (Zi Ya rfl (Zhr _) hS hs7 trivial Yx) (Za rfl rfl rfl (Zf Yy rfl) (Zl rfl rfl rfl CellsOf.agg hS ps10 st4_8 (by kernel_rfl) rfl (fun w hS hB => Zg ?_)))))))
 refine Zc hK188 (Zd (fun K hK189 => Ze (Za rfl rfl rfl (Zi Z7 rfl (Zhr _) hS Zek trivial Zz) ?_)))
 obtain ⟨r190, hm191, H⟩ := bind_some H
 refine Zn rfl rfl rfl rfl (by kernel_rfl) rfl (c_repl_Fit {r68 with role := 0, tuple := r169.1} A171 c172 A74 c75 A78 c79 A82 c83 A86 c87 _ (Zhu k173 (hS.rd hs0) (hS.rd_blk hs0)) (Zhu k76 (hS.row_rd hs3) (hS.row_blk hs3)) (Zhu k80 (hS.row_rd hs4) (hS.row_blk hs4)) (Zhu k84 (hS.row_rd hs5) (hS.row_blk hs5)) (Zhu k88 (hS.row_rd hs6) (hS.row_blk hs6)) hm191) ?_
 rintro e w ⟨A192, c193, A196, c197, A200, c201, A204, c205, A208, c209, rfl, k194, k198, k202, k206, k210, hN⟩; refine ⟨_, rfl, ?_⟩; obtain ⟨hB, hS⟩ := hS.jn hN
 refine Zl rfl rfl rfl CellsOf.agg hS ps15 Yo (by kernel_rfl) rfl (fun w hS hB => Zg (Zc hK189 (Zd (fun K hK212 => Ze (Za rfl rfl rfl (Zf V0 rfl) (Za rfl rfl rfl (Zh Z1 rfl (Zhr _) hS Zg8 trivial Jd) (Za rfl rfl rfl (Zf X8 rfl) ?_)))))))
 refine Za rfl rfl rfl (Zh Xx rfl (Zhr _) hS Zg8 trivial Zak) (Za rfl rfl rfl (Y0 Y8 rfl) (Za rfl rfl rfl (Xd rfl rfl) (Zb 1 rfl (Zg (Zc hK212 (Zd (fun K hK213 => Ze ?_)))))))
 refine Za rfl rfl rfl (Zf V6 rfl) (Za rfl rfl rfl (Zh Z1 rfl (Zhr _) hS hs15 trivial Zbw) (Za rfl rfl rfl (Zf Zdu rfl) (Za rfl rfl rfl (Zh Z1 rfl (Zhr _) hS Zg8 trivial Zey) (Zb 1 rfl (Za rfl rfl rfl (Zdy rfl rfl) (Za rfl rfl rfl (Zdw rfl rfl) (Za rfl rfl rfl (Zf V6 rfl) ?_)))))))
 refine Zl rfl rfl rfl CellsOf.int hS ps15 st12_1 (by kernel_rfl) rfl (fun w hS hB => Zg (Zc hK213 (Zd (fun K hK214 => Ze (Za rfl rfl rfl (Zf Yy rfl) (Za rfl rfl rfl (Zi Ya rfl (Zhr _) hS hs15 trivial Jv) (Za rfl rfl rfl (Zf V6 rfl) ?_)))))))
 refine Za rfl rfl rfl (Zh Z1 rfl (Zhr _) hS hs15 trivial Zbw) ?_
 obtain ⟨r215, hm216, H⟩ := bind_some H
 refine Zn rfl rfl rfl rfl (by kernel_rfl) rfl (Zfb r190.tuple (max r190.commit (min x1.commit (IntKind.wrap .i64 (x1.last + (x1.entries.length : Int))))) A192 c193 _ (Zhu k194 (hS.row_rd hs0) (hS.row_blk hs0)) hm216) ?_
 rintro e w ⟨rfl, hN⟩; refine ⟨_, rfl, ?_⟩; obtain ⟨hB, hS⟩ := hS.jn hN
 refine Zb 1 rfl (Za rfl rfl rfl (Zv rfl rfl) (Za rfl rfl rfl (Zv rfl rfl) (Za rfl rfl rfl (Zf Zfg rfl) (Zl rfl rfl rfl CellsOf.agg hS ps15 st13_5 (by kernel_rfl) rfl (fun w hS hB => Zg (Zc hK214 (Zd (fun K hK217 => ?_))))))))
 refine Zd (fun K hK218 => Yi 8 [6] (fun i b => (i = 6 → b ≠ b6)) ⟨by kernel_rfl, by kernel_rfl⟩ hS (fun w hS hB => Zq [true] (by decide +kernel) PFC.h (LtK.put rfl rfl rfl (Zi Z7 rfl (Zhs _) hS hs15 trivial Zz) (LtK.nil (Y7 [Ff,Tt,Tt,Tt] [6] (fun b => b ≠ b6) (by decide +kernel) (by intro j hj b hb; simp only [List.mem_cons, List.not_mem_nil, or_false] at hj; (try rcases hj with rfl | rfl | rfl | rfl | rfl) <;> first | (simp [hb]; done) | simp_all) PFC.h (LtK.put rfl rfl rfl (Zi Z7 rfl (Zht _ _) hS hs15 (hS.ne 15 13 rfl rfl rfl) Zz) (LtK.put rfl rfl rfl (Zi Xn rfl (Zht _ _) hS Zg8 (hS.ne 14 13 rfl rfl rfl) Y2) ?_)))))))
 refine LtK.put rfl rfl rfl (Zw rfl) (LtK.nil (Z6 [Ff,Ff,Ff,Ff,Tt] 4 ⟨by decide, by kernel_rfl, by kernel_rfl⟩ rfl rfl ?_))
 try dsimp only [Z0]
 obtain ⟨r219, hm220, H⟩ := bind_some H
 refine Zn rfl rfl rfl rfl (by kernel_rfl) rfl (Zcs {r190 with commit := (max r190.commit (min x1.commit (IntKind.wrap .i64 (x1.last + (x1.entries.length : Int))))), applied := r215.1} x1 4 true (IntKind.wrap .i64 (x1.last + (x1.entries.length : Int))) A192 c193 A196 c197 A200 c201 A204 c205 A208 c209 A5_ c5_ _ (Zhu k194 (hS.row_rd hs0) (hS.row_blk hs0)) (Zhu k198 (hS.row_rd Xa) (hS.row_blk Xa)) (Zhu k202 (hS.row_rd Xq) (hS.row_blk Xq)) (Zhu k206 (hS.row_rd hs3) (hS.row_blk hs3)) (Zhu k210 (hS.row_rd hs4) (hS.row_blk hs4)) (Zhu s5_.k (hS.rd0 s5_.rd) (hS.blk0 s5_.blk)) hm220) ?_
 rintro e w ⟨A221, c222, rfl, k223, hN⟩; refine ⟨_, rfl, ?_⟩; obtain ⟨hB, hS⟩ := hS.jn hN
 refine Zg (Z9 hB (Zes [5, 6] ⟨by decide, by kernel_rfl⟩ rfl (.call [Ff,Ff,Ff,Ff,Ff,Tt] 5 rfl rfl rfl ?_ (.put [Ff,Ff,Ff,Ff,Ff,Ff,Tt] 6 rfl rfl rfl ?_ .nil))))
 ·try dsimp only [Z0]
  refine Xb (ps := [(0, .tmp 140)]) [.int .u8 r219.kind, .int .i64 r219.frm, .int .i64 r219.dst, .int .i64 r219.term, .int .i64 r219.cap, .int .i64 r219.last, .int .i64 r219.lastTerm, .int .i64 r219.commit, .bool r219.okk, .slice A221 r219.entries.length c222, .int .i64 r219.snap.index, .int .i64 r219.snap.term, .int .i64 r219.snap.sum, .int .i64 r219.snap.level, .bool r219.snap.final] Zbf Zba rfl rfl rfl rfl rfl (by kernel_rfl) hS (fun b225 w hS hB => Zg (Z9 hB (Yq [Ff,Ff,Ff,Ff,Ff,Ff,Tt] 6 ⟨by decide, by kernel_rfl, by kernel_rfl⟩ rfl rfl ?_)))
  try dsimp only [Z0]
  refine Zl rfl rfl rfl CellsOf.agg hS ps15 Yo (by kernel_rfl) rfl (fun w hS hB => Zg (Yk (hB.sub (fun _ _ h => by simpa using h)) (Zq [Ff,Ff,Ff,Ff,Ff,Ff,Ff,Tt] (by decide +kernel) PFC.h (LtK.put rfl rfl rfl (Z2 rfl) (LtK.nil (Ye (by kernel_rfl) (Zc hK218 ?_)))))))
  refine Zk (Zj (Yc (Zm rfl (RV.cell rfl (Zu Z7 hS hs15 Zz) (RV.tmp rfl RV.nil)) rfl ?_)))
  obtain rfl := QJ H
  have hS := hS.nilRds
  replace hS := hS.front 2 rfl
  replace hS := hS.absorbQ ⟨r219, A221, c222⟩
  replace hS := hS.front 1 rfl
  replace hS := hS.weak Weak.boxRd
  have hS := hS.front 6 rfl
  have hS := hS.front 6 rfl
  have hS := hS.front 6 rfl
  have hS := hS.front 6 rfl
  have hS := hS.front 6 rfl
  replace hS := hS.weak Weak.rowRd
  replace hS := hS.cut 7
  exact ⟨A192, c193, A196, c197, A200, c201, A204, c205, A208, c209, (some ⟨b225, 0, none⟩), 1, ([⟨r219, A221, c222⟩] : List Mq), rfl, k194, k198, k202, k206, k210, ⟨Nat.le_refl 1, by decide⟩, rfl, (Zac k223 Vy), hS⟩
 ·try dsimp only [Z0]
  refine Zl rfl rfl rfl CellsOf.agg hS ps14 Yo (by kernel_rfl) rfl (fun w hS hB => Zg (Yk (hB.sub (fun _ _ h => by simpa using h)) (Z6 [Ff,Ff,Ff,Ff,Ff,Tt] 5 ⟨by decide, by kernel_rfl, by kernel_rfl⟩ rfl rfl ?_)))
  try dsimp only [Z0]
  refine Xb (ps := [(0, .tmp 140)]) [.int .u8 r219.kind, .int .i64 r219.frm, .int .i64 r219.dst, .int .i64 r219.term, .int .i64 r219.cap, .int .i64 r219.last, .int .i64 r219.lastTerm, .int .i64 r219.commit, .bool r219.okk, .slice A221 r219.entries.length c222, .int .i64 r219.snap.index, .int .i64 r219.snap.term, .int .i64 r219.snap.sum, .int .i64 r219.snap.level, .bool r219.snap.final] Zbf Zba rfl rfl rfl rfl rfl (by kernel_rfl) hS (fun b225 w hS hB => Zg (Z9 hB (Zq [Ff,Ff,Ff,Ff,Ff,Ff,Ff,Tt] (by decide +kernel) PFC.h (LtK.put rfl rfl rfl (Z2 rfl) (LtK.nil (Ye (by kernel_rfl) (Zc hK218 ?_)))))))
  refine Zk (Zj (Yc (Zm rfl (RV.cell rfl (Zu Z7 hS hs15 Zz) (RV.tmp rfl RV.nil)) rfl ?_)))
  obtain rfl := QJ H
  have hS := hS.nilRds
  replace hS := hS.front 2 rfl
  replace hS := hS.absorbQ ⟨r219, A221, c222⟩
  replace hS := hS.front 1 rfl
  replace hS := hS.weak Weak.boxRd
  have hS := hS.front 6 rfl
  have hS := hS.front 6 rfl
  have hS := hS.front 6 rfl
  have hS := hS.front 6 rfl
  have hS := hS.front 6 rfl
  replace hS := hS.weak Weak.rowRd
  replace hS := hS.cut 7
  exact ⟨A192, c193, A196, c197, A200, c201, A204, c205, A208, c209, (some ⟨b225, 0, none⟩), 1, ([⟨r219, A221, c222⟩] : List Mq), rfl, k194, k198, k202, k206, k210, ⟨Nat.le_refl 1, by decide⟩, rfl, (Zac k223 Vy), hS⟩
end Go.Proofs.YtamjlcaoieliaaaGreat
