/- Texts of one claim put together. -/
import Derived.Test.YtamjlcaoieliaaaGreatMu1
import Derived.Test.YtamjlcaoieliaaaGreatMu2
import Derived.Test.YtamjlcaoieliaaaGreatMu5
namespace Go.Proofs.YtamjlcaoieliaaaGreat

section
open Go Go.RowKit
set_option maxRecDepth 100000
set_option maxHeartbeats 4000000
theorem c_repl_Told (x0 : Co) (x1 : Ms) (A0_ : OA) (c0_ : Nat) (A1_ : OA) (c1_ : Nat) (A2_ : OA) (c2_ : Nat) (A3_ : OA) (c3_ : Nat) (A4_ : OA) (c4_ : Nat) (A5_ : OA) (c5_ : Nat) (w0 : World) (s0_ : SlI w0 Vv A0_ c0_ x0.tuple.log) (s1_ : SlI w0 enO A1_ c1_ x0.votes) (s2_ : SlI w0 Vh A2_ c2_ x0.next) (s3_ : SlI w0 Vh A3_ c3_ x0.mtch) (s4_ : SlI w0 Vh A4_ c4_ x0.caps) (s5_ : SlI w0 Vv A5_ c5_ x1.entries) {r : Co} (H : Vu x0 x1 = some r) : Calls Tryz.prog 34 #[.agg #[.int .i64 x0.id, .int .i64 x0.n, .int .u8 x0.role, .int .i64 x0.binary, .int .i64 x0.tuple.snap.index, .int .i64 x0.tuple.snap.term, .int .i64 x0.tuple.snap.sum, .int .i64 x0.tuple.snap.level, .bool x0.tuple.snap.final, .slice A0_ x0.tuple.log.length c0_, .int .i64 x0.tuple.term, .int .i64 x0.tuple.vote, .int .i64 x0.commit, .int .i64 x0.applied.index, .int .i64 x0.applied.term, .int .i64 x0.applied.sum, .int .i64 x0.applied.level, .bool x0.applied.final, .slice A1_ x0.votes.length c1_, .slice A2_ x0.next.length c2_, .slice A3_ x0.mtch.length c3_, .slice A4_ x0.caps.length c4_], .agg #[.int .u8 x1.kind, .int .i64 x1.frm, .int .i64 x1.dst, .int .i64 x1.term, .int .i64 x1.cap, .int .i64 x1.last, .int .i64 x1.lastTerm, .int .i64 x1.commit, .bool x1.okk, .slice A5_ x1.entries.length c5_, .int .i64 x1.snap.index, .int .i64 x1.snap.term, .int .i64 x1.snap.sum, .int .i64 x1.snap.level, .bool x1.snap.final]] w0 fun e w' => ∃ (A0 : OA) (c0 : Nat) (A1 : OA) (c1 : Nat) (A2 : OA) (c2 : Nat) (A3 : OA) (c3 : Nat) (A4 : OA) (c4 : Nat), e = .returned (.agg #[.int .i64 r.id, .int .i64 r.n, .int .u8 r.role, .int .i64 r.binary, .int .i64 r.tuple.snap.index, .int .i64 r.tuple.snap.term, .int .i64 r.tuple.snap.sum, .int .i64 r.tuple.snap.level, .bool r.tuple.snap.final, .slice A0 r.tuple.log.length c0, .int .i64 r.tuple.term, .int .i64 r.tuple.vote, .int .i64 r.commit, .int .i64 r.applied.index, .int .i64 r.applied.term, .int .i64 r.applied.sum, .int .i64 r.applied.level, .bool r.applied.final, .slice A1 r.votes.length c1, .slice A2 r.next.length c2, .slice A3 r.mtch.length c3, .slice A4 r.caps.length c4]) ∧ (r.tuple.log.length ≤ c0 ∧ c0 ≤ maxLen) ∧ (r.votes.length ≤ c1 ∧ c1 ≤ maxLen) ∧ (r.next.length ≤ c2 ∧ c2 ≤ maxLen) ∧ (r.mtch.length ≤ c3 ∧ c3 ≤ maxLen) ∧ (r.caps.length ≤ c4 ∧ c4 ≤ maxLen) ∧ St0 All w0 w' [.rd A0 (Yg Vv r.tuple.log), .row (.slice A1 r.votes.length c1) 4 1 r.votes.length (Yg enO r.votes), .row (.slice A2 r.next.length c2) 3 1 r.next.length (Yg Vh r.next), .row (.slice A3 r.mtch.length c3) 3 1 r.mtch.length (Yg Vh r.mtch), .row (.slice A4 r.caps.length c4) 3 1 r.caps.length (Yg Vh r.caps)] := by
 unfold Vu at H
 refine Yn Tryz.func34 rfl Tryz.ntmps34 rfl ?_
 have hS := St0.start All w0
 refine Zd (fun K hK1 => Ze (Z4 rfl rfl rfl CellsOf.agg hS (fun b2 w hS hB => Z4 rfl rfl rfl CellsOf.agg hS (fun b4 w hS hB => Z5 rfl rfl Zdk hS (fun b6 w hS hB => Zg (Zc hK1 (Zd (fun K hK8 => ?_))))))))
 refine Zd (fun K hK9 => Ze (Za rfl rfl rfl (Zi Z7 rfl (Zhr _) hS Xq trivial Zz) (Za rfl rfl rfl (Zi Xn rfl (Zhr _) hS Xa trivial Y2) ?_)))
 obtain ⟨r10, hm11, H⟩ := bind_some H
 refine Zn rfl rfl rfl rfl (by kernel_rfl) rfl (c_advert_To x0 x1 A0_ c0_ A1_ c1_ A2_ c2_ A3_ c3_ A4_ c4_ A5_ c5_ _ (Zhu s0_.k (hS.rd0 s0_.rd) (hS.blk0 s0_.blk)) (Zhu s1_.k (hS.rd0 s1_.rd) (hS.blk0 s1_.blk)) (Zhu s2_.k (hS.rd0 s2_.rd) (hS.blk0 s2_.blk)) (Zhu s3_.k (hS.rd0 s3_.rd) (hS.blk0 s3_.blk)) (Zhu s4_.k (hS.rd0 s4_.rd) (hS.blk0 s4_.blk)) (Zhu s5_.k (hS.rd0 s5_.rd) (hS.blk0 s5_.blk)) hm11) ?_
 rintro e w ⟨rfl, hN⟩; refine ⟨_, rfl, ?_⟩; obtain ⟨hB, hS⟩ := hS.jn hN
 refine Za rfl rfl rfl (Ys rfl) (Zb 1 rfl (Zs 12 rfl (fun hb => ?_) (fun hb => ?_)))
 ·replace H := Zp H hb
  refine Zb 4 rfl (Zg (Zc hK9 (Zt rfl rfl (Zd (fun K hK13 => Ze (Za rfl rfl rfl (Zi Z7 rfl (Zhr _) hS Xq trivial Zz) ?_))))))
  obtain ⟨r14, hm15, H⟩ := bind_some H
  refine Zn rfl rfl rfl rfl (by kernel_rfl) rfl (Ze8 x0 A0_ c0_ A1_ c1_ A2_ c2_ A3_ c3_ A4_ c4_ _ (Zhu s0_.k (hS.rd0 s0_.rd) (hS.blk0 s0_.blk)) (Zhu s1_.k (hS.rd0 s1_.rd) (hS.blk0 s1_.blk)) (Zhu s2_.k (hS.rd0 s2_.rd) (hS.blk0 s2_.blk)) (Zhu s3_.k (hS.rd0 s3_.rd) (hS.blk0 s3_.blk)) (Zhu s4_.k (hS.rd0 s4_.rd) (hS.blk0 s4_.blk)) hm15) ?_
  rintro e w ⟨A16, c17, A20, c21, A24, c25, A28, c29, A32, c33, rfl, k18, k22, k26, k30, k34, hN⟩; refine ⟨_, rfl, ?_⟩; obtain ⟨hB, hS⟩ := hS.jn hN
  refine Zl rfl rfl rfl CellsOf.agg hS ps5 Yo (by kernel_rfl) rfl (fun w hS hB => Zg (Zc hK13 (Zk (Zj (Zm rfl (RV.cell rfl (Zu Z7 hS hs5 Zz) RV.nil) rfl ?_)))))
  obtain rfl := QJ H
  have hS := hS.front 4 rfl
  have hS := hS.front 4 rfl
  have hS := hS.front 4 rfl
  have hS := hS.front 4 rfl
  have hS := hS.front 4 rfl
  replace hS := hS.weak Weak.rowRd
  replace hS := hS.cut 5
  exact ⟨A16, c17, A20, c21, A24, c25, A28, c29, A32, c33, rfl, k18, k22, k26, k30, k34, hS⟩
 replace H := Zo H hb
 refine Za rfl rfl rfl (Zf Vo rfl) (Za rfl rfl rfl (Zh Zbq rfl (Zhr _) hS Xa trivial Y4) (Za rfl rfl rfl (Xu rfl rfl) (Zb 1 rfl (Zg (Zc hK9 (Zy rfl (fun hb => ?_) (fun hb => ?_)))))))
 ·replace H := Zp H hb
  refine Zd (fun K hK38 => Ze (Za rfl rfl rfl (Zi Z7 rfl (Zhr _) hS Xq trivial Zz) ?_))
  obtain ⟨r39, hm40, H⟩ := bind_some H
  refine Zn rfl rfl rfl rfl (by kernel_rfl) rfl (Ze8 x0 A0_ c0_ A1_ c1_ A2_ c2_ A3_ c3_ A4_ c4_ _ (Zhu s0_.k (hS.rd0 s0_.rd) (hS.blk0 s0_.blk)) (Zhu s1_.k (hS.rd0 s1_.rd) (hS.blk0 s1_.blk)) (Zhu s2_.k (hS.rd0 s2_.rd) (hS.blk0 s2_.blk)) (Zhu s3_.k (hS.rd0 s3_.rd) (hS.blk0 s3_.blk)) (Zhu s4_.k (hS.rd0 s4_.rd) (hS.blk0 s4_.blk)) hm40) ?_
  rintro e w ⟨A41, c42, A45, c46, A49, c50, A53, c54, A57, c58, rfl, k43, k47, k51, k55, k59, hN⟩; refine ⟨_, rfl, ?_⟩; obtain ⟨hB, hS⟩ := hS.jn hN
  refine Zl rfl rfl rfl CellsOf.agg hS ps5 Yo (by kernel_rfl) rfl (fun w hS hB => Zg (Zc hK38 (Zk (Zj (Zm rfl (RV.cell rfl (Zu Z7 hS hs5 Zz) RV.nil) rfl ?_)))))
  obtain rfl := QJ H
  have hS := hS.front 4 rfl
  have hS := hS.front 4 rfl
  have hS := hS.front 4 rfl
  have hS := hS.front 4 rfl
  have hS := hS.front 4 rfl
  replace hS := hS.weak Weak.rowRd
  replace hS := hS.cut 5
  exact ⟨A41, c42, A45, c46, A49, c50, A53, c54, A57, c58, rfl, k43, k47, k51, k55, k59, hS⟩
 replace H := Zo H hb
 refine Zr (Zc hK8 (Zd (fun K hK62 => Ze (Za rfl rfl rfl (Zi Z7 rfl (Zhr _) hS Xq trivial Zz) (Za rfl rfl rfl (Zi Xn rfl (Zhr _) hS Xa trivial Y2) ?_)))))
 obtain ⟨r63, hm64, H⟩ := bind_some H
 refine Zn rfl rfl rfl rfl (by kernel_rfl) rfl (c_elect_Meet x0 x1 A0_ c0_ A1_ c1_ A2_ c2_ A3_ c3_ A4_ c4_ A5_ c5_ _ (Zhu s0_.k (hS.rd0 s0_.rd) (hS.blk0 s0_.blk)) (Zhu s1_.k (hS.rd0 s1_.rd) (hS.blk0 s1_.blk)) (Zhu s2_.k (hS.rd0 s2_.rd) (hS.blk0 s2_.blk)) (Zhu s3_.k (hS.rd0 s3_.rd) (hS.blk0 s3_.blk)) (Zhu s4_.k (hS.rd0 s4_.rd) (hS.blk0 s4_.blk)) (Zhu s5_.k (hS.rd0 s5_.rd) (hS.blk0 s5_.blk)) hm64) ?_
 rintro e w ⟨A65, c66, A69, c70, A73, c74, A77, c78, A81, c82, rfl, k67, k71, k75, k79, k83, hN⟩; refine ⟨_, rfl, ?_⟩; obtain ⟨hB, hS⟩ := hS.jn hN
 refine Zl rfl rfl rfl CellsOf.agg hS ps7 Yo (by kernel_rfl) rfl (fun w hS hB => Zg (Zc hK62 (Zd (fun K hK85 => Zd (fun K hK86 => Ze (Za rfl rfl rfl (Zf Zbj rfl) (Za rfl rfl rfl (Zh Zbq rfl (Zhr _) hS hs7 trivial Za0) ?_)))))))
 refine Za rfl rfl rfl (Xu rfl rfl) (Zb 1 rfl (Zs 25 rfl (fun hb => ?_) (fun hb => ?_)))
 ·replace H := Zp H hb
  refine Zb 7 rfl (Zg (Zc hK86 (Zt rfl rfl (Zd (fun K hK88 => Ze (Za rfl rfl rfl (Zi Z7 rfl (Zhr _) hS hs7 trivial Zz) (Zl rfl rfl rfl CellsOf.agg hS ps5 Yo (by kernel_rfl) rfl (fun w hS hB => ?_))))))))
  refine Zg (Zc hK88 (Zk (Zj (Zm rfl (RV.cell rfl (Zu Z7 hS hs5 Zz) RV.nil) rfl ?_))))
  obtain rfl := QJ H
  have hS := hS.front 4 rfl
  have hS := hS.front 4 rfl
  have hS := hS.front 4 rfl
  have hS := hS.front 4 rfl
  have hS := hS.front 4 rfl
  replace hS := hS.cut 5
  exact ⟨A65, c66, A69, c70, A73, c74, A77, c78, A81, c82, rfl, k67, k71, k75, k79, k83, hS⟩
 replace H := Zo H hb
 refine Za rfl rfl rfl (Zf Zca rfl) (Za rfl rfl rfl (Zh Z1 rfl (Zhr _) hS hs6 trivial J9) (Za rfl rfl rfl (Zf Yy rfl) (Za rfl rfl rfl (Zf Vi rfl) (Za rfl rfl rfl (Zh Z1 rfl (Zhr _) hS hs7 trivial Zam) (Za rfl rfl rfl (Xu rfl rfl) (Zb 1 rfl (Zg ?_)))))))
 refine Zc hK86 (Zy rfl (fun hb => ?_) (fun hb => ?_))
 ·replace H := Zp H hb
  refine Zd (fun K hK91 => Ze (Za rfl rfl rfl (Zi Z7 rfl (Zhr _) hS hs7 trivial Zz) (Zl rfl rfl rfl CellsOf.agg hS ps5 Yo (by kernel_rfl) rfl (fun w hS hB => Zg (Zc hK91 (Zk (Zj ?_)))))))
  refine Zm rfl (RV.cell rfl (Zu Z7 hS hs5 Zz) RV.nil) rfl ?_
  obtain rfl := QJ H
  have hS := hS.front 4 rfl
  have hS := hS.front 4 rfl
  have hS := hS.front 4 rfl
  have hS := hS.front 4 rfl
  have hS := hS.front 4 rfl
  replace hS := hS.cut 5
  exact ⟨A65, c66, A69, c70, A73, c74, A77, c78, A81, c82, rfl, k67, k71, k75, k79, k83, hS⟩
 replace H := Zo H hb
 refine Zr (Zc hK85 (Zd (fun K hK93 => Yi 16 [14, 15] (fun i b => (i = 14 → b = b6 ∨ b = b4 ∨ b = b2) ∧ (i = 15 → b = b6 ∨ b = b4 ∨ b = b2)) ⟨by kernel_rfl, by kernel_rfl⟩ hS (fun w hS hB => Ze6 [⟨12, 5, 89, [.pointer none]⟩, ⟨13, 6, 89, [.pointer none]⟩] (.cons rfl zc_89 rfl rfl rfl (.cons rfl zc_89 rfl rfl rfl .nil)) hS (fun hok => ?_)))))
 dsimp only [List.cons_append, List.nil_append]
 refine Jo [Tt,Tt,Tt,Tt,Tt,Tt] [] (fun _ => True) (by decide +kernel) (fun _ h => by cases h) PFC.h (fun X Y tk ht w hS => LtK.put rfl rfl rfl (Zf Vs rfl) (LtK.put rfl rfl rfl (Zh X3 rfl (Zht _ _) hS hs7 trivial Zat) (LtK.put rfl rfl rfl (Zf Zck rfl) (LtK.put rfl rfl rfl (Zh Z1 rfl (Zht _ _) hS hs6 trivial Vl) (LtK.put rfl rfl rfl (Ju rfl rfl) ?_)))))
 obtain ⟨e94, hi96, H⟩ := bind_some H
 obtain ⟨j95, hi96a, hi96b, hi96c⟩ := Yt hi96
 refine LtK.put rfl rfl rfl (Xf Xv rfl rfl hi96a hi96c (Rd.el (hS.row_rd Xq) Yh hi96b)) (Zei ht hS (by repeat (first | exact App.nil | apply App.cons)) (by repeat (first | exact App.nil | apply App.cons)) ?_)
 dsimp only [List.cons_append, List.nil_append]
 refine Jo [Ff,Ff,Ff,Ff,Ff,Ff,Tt,Tt,Tt,Tt,Tt,Tt] [14] (fun b => (b = b6 ∨ b = b4 ∨ b = b2)) (by decide +kernel) (by intro j hj b hb; simp only [List.mem_cons, List.not_mem_nil, or_false] at hj; (try rcases hj with rfl | rfl | rfl | rfl | rfl) <;> first | (simp [hb]; done) | simp_all) PFC.h (fun X Y tk ht w hS => LtK.put rfl rfl rfl (Zf Ji rfl) (LtK.put rfl rfl rfl (Zh X3 rfl (Zht _ _) hS hs7 (.inr (.inr (rfl))) Zbo) (LtK.put rfl rfl rfl (Zf Zck rfl) (LtK.put rfl rfl rfl (Zh Z1 rfl (Zht _ _) hS hs6 (.inr (.inl rfl)) Vl) (LtK.put rfl rfl rfl (Ju rfl rfl) ?_)))))
 obtain ⟨e97, hi99, H⟩ := bind_some H
 obtain ⟨j98, hi99a, hi99b, hi99c⟩ := Yt hi99
 refine LtK.put rfl rfl rfl (Xf Xv rfl rfl hi99a hi99c (Rd.el (hS.row_rd hs3) Yh hi99b)) (Zei ht hS (by repeat (first | exact App.nil | apply App.cons)) (by repeat (first | exact App.nil | apply App.cons)) ?_)
 dsimp only [List.cons_append, List.nil_append]
 refine Zf6 hok (by decide) (by decide +kernel) (fun _ => rfl) (fun _ => rfl) rfl (fun tk htk w hS => ?_)
 obtain ⟨b100, tkb100, rfl, htk102⟩ := tk_cons htk
 obtain ⟨b103, tkb103, rfl, htk105⟩ := tk_cons htk102
 obtain rfl := tk_nil htk105
 dsimp only [tkH, tkL, List.map] at hS ⊢
 refine Yq [Ff,Ff,Ff,Ff,Ff,Ff,Ff,Ff,Ff,Ff,Ff,Ff,Ff,Ff,Tt] 14 ⟨by decide, by kernel_rfl, by kernel_rfl⟩ rfl rfl ?_
 try dsimp only [Z0]
 refine Zl rfl rfl rfl CellsOf.ptr hS ps8 Zfp (by kernel_rfl) rfl (fun w hS hB => Zg (Yk (hB.sub (fun b _ h => by have h0 : b = b6 ∨ b = b4 ∨ b = b2 := (by simpa using h); rcases h0 with h0 | h0 | h0; (rw [h0]; exact hS.ne 5 8 rfl rfl rfl); (rw [h0]; exact hS.ne 6 8 rfl rfl rfl); (rw [h0]; exact hS.ne 7 8 rfl rfl rfl))) (Yq [Ff,Ff,Ff,Ff,Ff,Ff,Ff,Ff,Ff,Ff,Ff,Ff,Ff,Ff,Ff,Tt] 15 ⟨by decide, by kernel_rfl, by kernel_rfl⟩ rfl rfl ?_)))
 try dsimp only [Z0]
 refine Zl rfl rfl rfl CellsOf.ptr hS ps9 Zfp (by kernel_rfl) rfl (fun w hS hB => Zg (Yk (hB.sub (fun b _ h => by have h0 : b = b6 ∨ b = b4 ∨ b = b2 := (by simpa using h); rcases h0 with h0 | h0 | h0; (rw [h0]; exact hS.ne 5 9 rfl rfl rfl); (rw [h0]; exact hS.ne 6 9 rfl rfl rfl); (rw [h0]; exact hS.ne 7 9 rfl rfl rfl))) (Ye (by kernel_rfl) (Zc hK93 (Zd (fun K hK106 => Ze (wpS_makeMap rfl rfl hS (fun b107 w hS hB => ?_))))))))
 refine Za rfl rfl rfl (Vc rfl rfl) (wpS_insert (kt := 4) (e := 1) rfl rfl rfl rfl (by kernel_rfl) (by kernel_rfl) rfl hS ps0 (fun w hS hB => Za rfl rfl rfl (Vc rfl rfl) (wpS_insert (kt := 4) (e := 1) rfl rfl rfl rfl (by kernel_rfl) (by kernel_rfl) rfl hS ps0 (fun w hS hB => Zb 2 rfl (Zg (Zc hK106 (Zd (fun K hK109 => ?_))))))))
 refine Ze (Zb 1 rfl (Za rfl rfl rfl (Zf Zf0 rfl) (Za rfl rfl rfl (Zh sc_4 rfl (Zhr _) hS hs7 trivial sg8_1) (Zs 52 rfl (fun hb => ?_) (fun hb => ?_)))))
 rotate_left
 ·replace H := Zo H hb
  refine Za rfl rfl rfl (yv_lookup (kt := 4) (e := 1) rfl rfl (by kernel_rfl) (by kernel_rfl) rfl (Zhr _) hS hs0 trivial) (Jy rfl rfl rfl rfl (by kernel_rfl) rfl ?_)
  show Calls _ _ #[_, _, _] _ _
  refine Vx Tryz.func81 rfl Tryz.ntmps81 rfl (Yi 16 [15] (fun i b => (i = 15 → b = b6 ∨ b = b4 ∨ b = b2 ∨ b = b100 ∨ b = b103)) ⟨by kernel_rfl, by kernel_rfl⟩ hS (fun w hS hB => Zq [Tt,Tt,Tt,Tt,Tt,Tt,Tt,Tt,Tt,Tt,Tt,Tt,Tt,Tt,Tt] (by decide +kernel) PFC.h (LtK.put rfl rfl rfl (Zh sc_89 rfl (Zhs _) hS hs9 trivial Y4) (LtK.put rfl rfl rfl (Zh sc_89 rfl (Zhs _) hS Zek trivial Y4) (LtK.put rfl rfl rfl (Zb1 rfl (Rd.el (hS.row_rd hs4) Yh hi99b)) (LtK.put rfl rfl rfl (Vj Z1 rfl (Zhs _) (Rd.el (hS.row_rd hs4) Yh hi99b) rfl) (LtK.put rfl rfl rfl (Xd rfl rfl) ?_)))))))
  refine LtK.put rfl rfl rfl (Zh sc_89 rfl (Zhs _) hS hs9 trivial Y4) (LtK.put rfl rfl rfl (Zb1 rfl (Rd.el (hS.row_rd hs3) Yh hi96b)) (LtK.put rfl rfl rfl (Vj Z1 rfl (Zhs _) (Rd.el (hS.row_rd hs3) Yh hi96b) rfl) (LtK.put rfl rfl rfl (Ju rfl rfl) (LtK.put rfl rfl rfl (Zf V0 rfl) (LtK.put rfl rfl rfl (Zh Z1 rfl (Zhs _) hS hs7 trivial Jd) (LtK.put rfl rfl rfl (Xd rfl rfl) (LtK.put rfl rfl rfl (Zdy rfl rfl) ?_)))))))
  refine LtK.put rfl rfl rfl (Zdw rfl rfl) (LtK.put rfl rfl rfl (Zb1 rfl (Rd.el (hS.row_rd hs3) Yh hi96b)) (LtK.nil (Yq [Ff,Ff,Ff,Ff,Ff,Ff,Ff,Ff,Ff,Ff,Ff,Ff,Ff,Ff,Ff,Tt] 15 ⟨by decide, by kernel_rfl, by kernel_rfl⟩ rfl rfl ?_)))
  try dsimp only [Z0]
  refine Zbk (a' := (max (IntKind.wrap .i64 (e97 + 1)) (min (IntKind.wrap .i64 (e94 - 1)) (IntKind.wrap .i64 (x1.last + 1))))) (zs := (Zbe r63.next (IntKind.wrap .i64 (x1.frm - 1)) (max (IntKind.wrap .i64 (e97 + 1)) (min (IntKind.wrap .i64 (e94 - 1)) (IntKind.wrap .i64 (x1.last + 1)))))) Yh rfl rfl rfl CellsOf.int hS ps3 (Rd.el (hS.row_rd hs3) Yh hi96b) hi96a hi96b rfl Zfp (by kernel_rfl) rfl (fun w hS hB => ?_)
  have hi118b := Zc8 (a := (max (IntKind.wrap .i64 (e97 + 1)) (min (IntKind.wrap .i64 (e94 - 1)) (IntKind.wrap .i64 (x1.last + 1))))) hi96a hi96b
  have hi118a := hi96a
  refine Zg (Yk (hB.sub (fun b _ h => by have h0 : b = b6 ∨ b = b4 ∨ b = b2 ∨ b = b100 ∨ b = b103 := (by simpa using h); rcases h0 with h0 | h0 | h0 | h0 | h0; (rw [h0]; exact hS.neRow 6 3 rfl rfl); (rw [h0]; exact hS.neRow 7 3 rfl rfl); (rw [h0]; exact hS.neRow 8 3 rfl rfl); (rw [h0]; exact hS.neRow 9 3 rfl rfl); (rw [h0]; exact hS.neRow 10 3 rfl rfl))) ?_)
  refine Ye (by kernel_rfl) (Zdb rfl RV.nil rfl (⟨_, rfl, ?_⟩))
  refine Zg (Zc hK109 (Zd (fun K hK119 => Ze (Za rfl rfl rfl (Zi Z7 rfl (Zhr _) hS hs8 trivial Zz) (Zl rfl rfl rfl CellsOf.agg hS ps6 Yo (by kernel_rfl) rfl (fun w hS hB => Zg (Zc hK119 ?_)))))))
  refine Zk (Zm rfl (RV.cell rfl (Zu Z7 hS hs6 Zz) RV.nil) rfl ?_)
  obtain rfl := QJ H
  have hS := hS.front 5 rfl
  have hS := hS.front 5 rfl
  have hS := hS.front 5 rfl
  have hS := hS.front 5 rfl
  have hS := hS.front 5 rfl
  replace hS := hS.cut 5
  exact ⟨A65, c66, A69, c70, A73, c74, A77, c78, A81, c82, by (repeat rw [(Jg rfl)]); rfl, k67, k71, (Zhd k75), k79, k83, hS.eqv (by (repeat rw [(Jg rfl)]); rfl)⟩
 replace H := Zp H hb
 refine Za rfl rfl rfl (yv_lookup (kt := 4) (e := 1) rfl rfl (by kernel_rfl) (by kernel_rfl) rfl (Zhr _) hS hs0 trivial) (Jy rfl rfl rfl rfl (by kernel_rfl) rfl ?_)
 show Calls _ _ #[_, _, _, _] _ _
 refine Zhm Tryz.func80 rfl Tryz.ntmps80 rfl (Zd (fun K hK111 => Yi 13 [12] (fun i b => (i = 12 → b = b6 ∨ b = b4 ∨ b = b2 ∨ b = b100 ∨ b = b103)) ⟨by kernel_rfl, by kernel_rfl⟩ hS (fun w hS hB => Zq [Tt,Tt,Tt,Tt,Tt,Tt,Tt,Tt] (by decide +kernel) PFC.h (LtK.put rfl rfl rfl (Zh sc_89 rfl (Zhs _) hS Zek trivial Y4) (LtK.put rfl rfl rfl (Zh sc_89 rfl (Zhs _) hS Zek trivial Y4) (LtK.put rfl rfl rfl (Zb1 rfl (Rd.el (hS.row_rd hs4) Yh hi99b)) (LtK.put rfl rfl rfl (Vj Z1 rfl (Zhs _) (Rd.el (hS.row_rd hs4) Yh hi99b) rfl) ?_)))))))
 refine LtK.put rfl rfl rfl (Zf V0 rfl) (LtK.put rfl rfl rfl (Zh Z1 rfl (Zhs _) hS hs7 trivial Jd) (LtK.put rfl rfl rfl (Zf Yy rfl) (LtK.put rfl rfl rfl (Zi Ya rfl (Zhs _) hS hs8 trivial Jv) (LtK.nil (Z6 [Ff,Ff,Ff,Ff,Ff,Ff,Ff,Ff,Tt] 8 ⟨by decide, by kernel_rfl, by kernel_rfl⟩ rfl rfl ?_)))))
 try dsimp only [Z0]
 obtain ⟨r112, hm113, H⟩ := bind_some H
 refine Zn rfl rfl rfl rfl (by kernel_rfl) rfl (Zer r63.tuple A65 c66 _ (Zhu k67 (hS.rd Xa) (hS.rd_blk Xa)) hm113) ?_
 rintro e w ⟨rfl, hN⟩; refine ⟨_, rfl, ?_⟩; obtain ⟨hB, hS⟩ := hS.jn hN
 refine Zg (Z9 hB (Zq [Ff,Ff,Ff,Ff,Ff,Ff,Ff,Ff,Ff,Tt,Tt,Tt] (by decide +kernel) PFC.h (LtK.put rfl rfl rfl (Zdy rfl rfl) (LtK.put rfl rfl rfl (Zdw rfl rfl) (LtK.put rfl rfl rfl (Zb1 rfl (Rd.el (hS.row_rd hs4) Yh hi99b)) (LtK.nil (Yq [Ff,Ff,Ff,Ff,Ff,Ff,Ff,Ff,Ff,Ff,Ff,Ff,Tt] 12 ⟨by decide, by kernel_rfl, by kernel_rfl⟩ rfl rfl ?_)))))))
 try dsimp only [Z0]
 refine Zbk (a' := (max e97 (min x1.last r112))) (zs := (Zbe r63.mtch (IntKind.wrap .i64 (x1.frm - 1)) (max e97 (min x1.last r112)))) Yh rfl rfl rfl CellsOf.int hS ps4 (Rd.el (hS.row_rd hs4) Yh hi99b) hi99a hi99b rfl Zfp (by kernel_rfl) rfl (fun w hS hB => ?_)
 have hi114b := Zc8 (a := (max e97 (min x1.last r112))) hi99a hi99b
 have hi114a := hi99a
 refine Zg (Yk (hB.sub (fun b _ h => by have h0 : b = b6 ∨ b = b4 ∨ b = b2 ∨ b = b100 ∨ b = b103 := (by simpa using h); rcases h0 with h0 | h0 | h0 | h0 | h0; (rw [h0]; exact hS.neRow 6 4 rfl rfl); (rw [h0]; exact hS.neRow 7 4 rfl rfl); (rw [h0]; exact hS.neRow 8 4 rfl rfl); (rw [h0]; exact hS.neRow 9 4 rfl rfl); (rw [h0]; exact hS.neRow 10 4 rfl rfl))) ?_)
 refine Ye (by kernel_rfl) (Zc hK111 (Yi 11 [10] (fun i b => (i = 10 → b = b6 ∨ b = b4 ∨ b = b2 ∨ b = b100 ∨ b = b103)) ⟨by kernel_rfl, by kernel_rfl⟩ hS (fun w hS hB => Zq [Tt,Tt,Tt,Tt,Tt,Tt,Tt,Tt,Tt,Tt] (by decide +kernel) PFC.h (LtK.put rfl rfl rfl (Zh sc_89 rfl (Zhs _) hS hs9 trivial Y4) (LtK.put rfl rfl rfl (Zh sc_89 rfl (Zhs _) hS hs9 trivial Y4) (LtK.put rfl rfl rfl (Zb1 rfl (Rd.el (hS.row_rd hs3) Yh hi96b)) (LtK.put rfl rfl rfl (Vj Z1 rfl (Zhs _) (Rd.el (hS.row_rd hs3) Yh hi96b) rfl) ?_)))))))
 refine LtK.put rfl rfl rfl (Zh sc_89 rfl (Zhs _) hS Zek trivial Y4) (LtK.put rfl rfl rfl (Zb1 rfl (Rd.el (hS.row_rd hs4) Yh hi114b)) (LtK.put rfl rfl rfl (Vj Z1 rfl (Zhs _) (Rd.el (hS.row_rd hs4) Yh hi114b) rfl) (LtK.put rfl rfl rfl (Xd rfl rfl) (LtK.put rfl rfl rfl (Zdw rfl rfl) (LtK.put rfl rfl rfl (Zb1 rfl (Rd.el (hS.row_rd hs3) Yh hi96b)) (LtK.nil (Yq [Ff,Ff,Ff,Ff,Ff,Ff,Ff,Ff,Ff,Ff,Tt] 10 ⟨by decide, by kernel_rfl, by kernel_rfl⟩ rfl rfl ?_)))))))
 try dsimp only [Z0]
 refine Zbk (a' := (max e94 (IntKind.wrap .i64 ((max e97 (min x1.last r112)) + 1)))) (zs := (Zbe r63.next (IntKind.wrap .i64 (x1.frm - 1)) (max e94 (IntKind.wrap .i64 ((max e97 (min x1.last r112)) + 1))))) Yh rfl rfl rfl CellsOf.int hS ps3 (Rd.el (hS.row_rd hs3) Yh hi96b) hi96a hi96b rfl Zfp (by kernel_rfl) rfl (fun w hS hB => ?_)
 have hi115b := Zc8 (a := (max e94 (IntKind.wrap .i64 ((max e97 (min x1.last r112)) + 1)))) hi96a hi96b
 have hi115a := hi96a
 refine Zg (Yk (hB.sub (fun b _ h => by have h0 : b = b6 ∨ b = b4 ∨ b = b2 ∨ b = b100 ∨ b = b103 := (by simpa using h); rcases h0 with h0 | h0 | h0 | h0 | h0; (rw [h0]; exact hS.neRow 6 3 rfl rfl); (rw [h0]; exact hS.neRow 7 3 rfl rfl); (rw [h0]; exact hS.neRow 8 3 rfl rfl); (rw [h0]; exact hS.neRow 9 3 rfl rfl); (rw [h0]; exact hS.neRow 10 3 rfl rfl))) ?_)
 refine Ye (by kernel_rfl) (Zdb rfl RV.nil rfl (⟨_, rfl, ?_⟩))
 refine Zg (Zc hK109 (Zd (fun K hK116 => Ze (Za rfl rfl rfl (Zi Z7 rfl (Zhr _) hS hs8 trivial Zz) (Zl rfl rfl rfl CellsOf.agg hS ps6 Yo (by kernel_rfl) rfl (fun w hS hB => Zg (Zc hK116 ?_)))))))
 refine Zk (Zm rfl (RV.cell rfl (Zu Z7 hS hs6 Zz) RV.nil) rfl ?_)
 obtain rfl := QJ H
 have hS := hS.front 5 rfl
 have hS := hS.front 5 rfl
 have hS := hS.front 5 rfl
 have hS := hS.front 5 rfl
 have hS := hS.front 5 rfl
 replace hS := hS.cut 5
 exact ⟨A65, c66, A69, c70, A73, c74, A77, c78, A81, c82, by (repeat rw [(Jg rfl)]); rfl, k67, k71, (Zhd k75), (Zhd k79), k83, hS.eqv (by (repeat rw [(Jg rfl)]); rfl)⟩
theorem c_repl_Beat (x0 : Co) (A0_ : OA) (c0_ : Nat) (A1_ : OA) (c1_ : Nat) (A2_ : OA) (c2_ : Nat) (A3_ : OA) (c3_ : Nat) (A4_ : OA) (c4_ : Nat) (w0 : World) (s0_ : SlI w0 Vv A0_ c0_ x0.tuple.log) (s1_ : SlI w0 enO A1_ c1_ x0.votes) (s2_ : SlI w0 Vh A2_ c2_ x0.next) (s3_ : SlI w0 Vh A3_ c3_ x0.mtch) (s4_ : SlI w0 Vh A4_ c4_ x0.caps) {r : List Ms} (H : Zfn x0 = some r) : Calls Tryz.prog 32 #[.agg #[.int .i64 x0.id, .int .i64 x0.n, .int .u8 x0.role, .int .i64 x0.binary, .int .i64 x0.tuple.snap.index, .int .i64 x0.tuple.snap.term, .int .i64 x0.tuple.snap.sum, .int .i64 x0.tuple.snap.level, .bool x0.tuple.snap.final, .slice A0_ x0.tuple.log.length c0_, .int .i64 x0.tuple.term, .int .i64 x0.tuple.vote, .int .i64 x0.commit, .int .i64 x0.applied.index, .int .i64 x0.applied.term, .int .i64 x0.applied.sum, .int .i64 x0.applied.level, .bool x0.applied.final, .slice A1_ x0.votes.length c1_, .slice A2_ x0.next.length c2_, .slice A3_ x0.mtch.length c3_, .slice A4_ x0.caps.length c4_]] w0 fun e w' => ∃ (A0 : OA) (c0 : Nat) (q0 : List Mq), e = .returned (.slice A0 r.length c0) ∧ (r.length ≤ c0 ∧ c0 ≤ maxLen) ∧ q0.map Mq.m = r ∧ (∀ y ∈ q0, okQ y) ∧ St0 All w0 w' [.rd A0 (Yg enQ q0), .rds (q0.map subQ)] := by
 unfold Zfn at H
 refine Yp Tryz.func32 rfl Tryz.ntmps32 rfl ?_
 have hS := St0.start All w0
 refine Zd (fun K hK1 => Ze (Z4 rfl rfl rfl CellsOf.agg hS (fun b2 w hS hB => Zb 1 rfl (Zg (Zc hK1 (Zd (fun K hK4 => Zd (fun K hK5 => ?_))))))))
 refine Ze (Za rfl rfl rfl (Zf V4 rfl) (Za rfl rfl rfl (Zh Z1 rfl (Zhr _) hS hs0 trivial Vl) (Za rfl rfl rfl (Zdw rfl rfl) (Za rfl rfl rfl (Zdy rfl rfl) (Zb 1 rfl (Zg (Zc hK5 ?_)))))))
 refine Yd ?_
 replace hS := hS.nilRds
 replace hS := hS.nilRow 32 15
 refine Vq (X := Nat × List Ms × OA × Nat × List Mq × Int) (fun x => (1, .pointer (some ⟨b2, 0, none⟩)) :: (2, .slice x.2.2.1 x.2.1.length x.2.2.2.1) :: (9, .int .i64 (min (max x0.n 0) 5)) :: (10, .int .i64 x.2.2.2.2.2) :: []) (fun x w => St0 All w0 w (.row (.slice x.2.2.1 x.2.1.length x.2.2.2.1) 32 15 x.2.1.length (Yg enQ x.2.2.2.2.1) :: .rds (x.2.2.2.2.1.map subQ) :: .box b2 [.int .i64 x0.id, .int .i64 x0.n, .int .u8 x0.role, .int .i64 x0.binary, .int .i64 x0.tuple.snap.index, .int .i64 x0.tuple.snap.term, .int .i64 x0.tuple.snap.sum, .int .i64 x0.tuple.snap.level, .bool x0.tuple.snap.final, .slice A0_ x0.tuple.log.length c0_, .int .i64 x0.tuple.term, .int .i64 x0.tuple.vote, .int .i64 x0.commit, .int .i64 x0.applied.index, .int .i64 x0.applied.term, .int .i64 x0.applied.sum, .int .i64 x0.applied.level, .bool x0.applied.final, .slice A1_ x0.votes.length c1_, .slice A2_ x0.next.length c2_, .slice A3_ x0.mtch.length c3_, .slice A4_ x0.caps.length c4_] 30 :: []) ∧ (x.2.1.length ≤ x.2.2.2.1 ∧ x.2.2.2.1 ≤ maxLen) ∧ (x.2.2.2.2.1.map Mq.m = x.2.1) ∧ (∀ y ∈ x.2.2.2.2.1, okQ y) ∧ Zag x0 x.1 x.2.1 x.2.2.2.2.2 = some r) (fun x => x.1) (Xr, [], none, 0, ([] : List Mq), 0) (by repeat (first | exact Sub.nil | refine Sub.cons rfl ?_)) ⟨hS, ⟨Nat.le_refl _, Nat.zero_le _⟩, rfl, Vy, H⟩ ?_
 rintro ⟨n, v6, A7, c8, q10, v15⟩ w ⟨hS, k9, hq11, okq12, H⟩
 dsimp only at hS k9 hq11 okq12 H ⊢
 obtain _ | n := n
 ·have H0 : none = some r := H
  cases H0
 rw [Zag] at H
 refine Zd (fun K hK16 => Ze (Za rfl rfl rfl (Xk rfl rfl) (Zg (Zc hK16 (Zd (fun K hK17 => Zy rfl (fun hb => ?_) (fun hb => ?_)))))))
 rotate_left
 ·replace H := Zo H hb
  refine X1 (Z8 (Z8 (Yz (Zc hK4 (Zd (fun K hK43 => Ze (Zb 2 rfl ?_)))))))
  refine Zg (Zc hK43 (Zk (Zm rfl (RV.tmp rfl RV.nil) rfl ?_)))
  obtain rfl := QJ H
  have hS := hS.front 1 rfl
  replace hS := hS.front 1 rfl
  replace hS := hS.weak Weak.rowRd
  replace hS := hS.cut 2
  exact ⟨A7, c8, q10, rfl, k9, hq11, okq12, hS⟩
 replace H := Zp H hb
 refine Zr (Zc hK17 (Zd (fun K hK19 => Yd (Zd (fun K hK20 => Ze (Zb 2 rfl (Zg ?_)))))))
 refine Zc hK20 (Zd (fun K hK21 => Ze (Za rfl rfl rfl (Zi Z7 rfl (Zhr _) hS Xq trivial Zz) (Zb 1 rfl (Za rfl rfl rfl (Xd rfl rfl) ?_)))))
 obtain ⟨r22, hm23, H⟩ := bind_some H
 refine Zn rfl rfl rfl rfl (by kernel_rfl) rfl (Zeo x0 (IntKind.wrap .i64 (v15 + 1)) A0_ c0_ A1_ c1_ A2_ c2_ A3_ c3_ A4_ c4_ _ (Zhu s0_.k (hS.rd0 s0_.rd) (hS.blk0 s0_.blk)) (Zhu s1_.k (hS.rd0 s1_.rd) (hS.blk0 s1_.blk)) (Zhu s2_.k (hS.rd0 s2_.rd) (hS.blk0 s2_.blk)) (Zhu s3_.k (hS.rd0 s3_.rd) (hS.blk0 s3_.blk)) (Zhu s4_.k (hS.rd0 s4_.rd) (hS.blk0 s4_.blk)) hm23) ?_
 rintro e w ⟨A24, c25, rfl, k26, hN⟩; refine ⟨_, rfl, ?_⟩; obtain ⟨hB, hS⟩ := hS.jn hN
 refine Zb 1 rfl (Za rfl rfl rfl (Zv rfl rfl) (Za rfl rfl rfl (Zv rfl rfl) (Z5 rfl rfl Zba hS (fun b28 w hS hB => Zl rfl rfl rfl CellsOf.agg hS ps0 Zaq (by kernel_rfl) rfl (fun w hS hB => Zb 1 rfl (Zg (Zc hK21 ?_)))))))
 refine Zd (fun K hK30 => Ze (Zb 1 rfl (Zg (Zc hK30 (Zy rfl (fun hb => ?_) (fun hb => ?_))))))
 rotate_left
 ·replace H := Zo H hb
  refine Zr (Z3 (Zc hK19 (Ze (Za rfl rfl rfl (Xd rfl rfl) (Zb 1 rfl (Zg ?_))))))
  exact X2 (n, v6, A7, c8, q10, (IntKind.wrap .i64 (v15 + 1))) (by repeat (first | exact Sub.nil | refine Sub.cons rfl ?_)) ⟨(hS.sub (List.Sublist.cons _ (List.Sublist.cons _ (List.Sublist.cons_cons _ (List.Sublist.cons_cons _ (List.Sublist.cons_cons _ List.Sublist.slnil)))))), k9, hq11, okq12, H⟩ (Nat.lt_succ_self _)
 replace H := Zp H hb
 refine Ze (Zb 1 rfl (Za rfl rfl rfl (Zi Xn rfl (Zhr _) hS hs0 trivial Y2) (Xb (ps := [(0, .tmp 22)]) [.int .u8 r22.1.kind, .int .i64 r22.1.frm, .int .i64 r22.1.dst, .int .i64 r22.1.term, .int .i64 r22.1.cap, .int .i64 r22.1.last, .int .i64 r22.1.lastTerm, .int .i64 r22.1.commit, .bool r22.1.okk, .slice A24 r22.1.entries.length c25, .int .i64 r22.1.snap.index, .int .i64 r22.1.snap.term, .int .i64 r22.1.snap.sum, .int .i64 r22.1.snap.level, .bool r22.1.snap.final] Zbf Zba rfl rfl rfl rfl rfl (by kernel_rfl) hS (fun b32 w hS hB => ?_))))
 obtain ⟨l34, hf35, H⟩ := bind_some H
 refine wpX_appendQ (l := v6) (q := q10) (y := ⟨r22.1, A24, c25⟩) em_35 (by decide) rfl rfl rfl rfl hS hq11 (fun _ => ps3) (hS.box_rd hs0) hf35 (fun A36 c37 w k38 hS hq39 hB => ?_)
 have okq40 := okq_snoc okq12 (show okQ ⟨r22.1, A24, c25⟩ from k26)
 replace hS := hS.front 4 rfl
 replace hS := hS.front 3 rfl
 replace hS := hS.weak Weak.rowRd
 replace hS := hS.absorbQ ⟨r22.1, A24, c25⟩
 replace hS := hS.front 3 rfl
 refine Zb 1 rfl (Zg (Z3 (Zc hK19 (Ze (Za rfl rfl rfl (Xd rfl rfl) (Zb 1 rfl (Zg ?_)))))))
 exact X2 (n, l34, A36, c37, (q10 ++ [⟨r22.1, A24, c25⟩]), (IntKind.wrap .i64 (v15 + 1))) (by repeat (first | exact Sub.nil | refine Sub.cons rfl ?_)) ⟨(hS.sub (List.Sublist.cons_cons _ (List.Sublist.cons_cons _ (List.Sublist.cons _ (List.Sublist.cons _ (List.Sublist.cons_cons _ List.Sublist.slnil)))))), k38, hq39, okq40, H⟩ (Nat.lt_succ_self _)
theorem c_law23_wakes (w0 : World) {r : Bool} (H : Zdd = some r) : Calls Tryz.prog 26 #[] w0 fun e w' => e = .returned (.bool r) ∧ St0 All w0 w' [] := by
 unfold Zdd at H
 refine gw_enter0 Tryz.func26 rfl Tryz.ntmps26 rfl ?_
 have hS := St0.start All w0
 refine Zd (fun K hK1 => Ze (Zb 1 rfl (Zg (Zc hK1 (Zd (fun K hK2 => Ze (Za rfl rfl rfl (Xl (cells := [.int .i64 0, .int .i64 0, .int .i64 0, .int .i64 1, .bool false]) rfl (by kernel_rfl)) ?_)))))))
 refine Za rfl rfl rfl (Xl (cells := [.int .i64 1, .int .i64 0, .int .i64 0]) rfl (by kernel_rfl)) (Xb (ps := [(0, .tmp 11)]) [.int .i64 1, .int .i64 0, .int .i64 0] Y8 Zdh rfl rfl rfl rfl rfl (by kernel_rfl) hS (fun b3 w hS hB => Za rfl rfl rfl (Xl (cells := [.int .i64 0, .int .i64 0, .int .i64 0, .int .i64 1, .bool false, .slice (some ⟨b3, 0, none⟩) ([(⟨1, 0, 0⟩ : En)] : List En).length 1, .int .i64 1, .int .i64 1]) rfl (by kernel_rfl)) (Z5 rfl rfl Zal hS (fun b5 w hS hB => Zl rfl rfl rfl CellsOf.agg hS ps0 X0 (by kernel_rfl) rfl (fun w hS hB => Zg (Zc hK2 (Zd (fun K hK7 => ?_))))))))
 refine Ze (Za rfl rfl rfl (Zi Ya rfl (Zhr _) hS hs0 trivial Yx) ?_)
 obtain ⟨r8, hm9, H⟩ := bind_some H
 refine Zn rfl rfl rfl rfl (by kernel_rfl) rfl (c_ref20_New 1 3 2 (⟨(⟨0, 0, 0, 1, false⟩ : St), ([(⟨1, 0, 0⟩ : En)] : List En), 1, 1⟩ : Tu) (some ⟨b3, 0, none⟩) 1 _ (Zhu ⟨Nat.le_refl 1, by decide⟩ (hS.box_rd Xa) (hS.box_blk Xa)) hm9) ?_
 rintro e w ⟨A10, c11, A14, c15, A18, c19, A22, c23, A26, c27, rfl, k12, k16, k20, k24, k28, hN⟩; refine ⟨_, rfl, ?_⟩; obtain ⟨hB, hS⟩ := hS.jn hN
 refine Z5 rfl rfl Zdk hS (fun b30 w hS hB => Zl rfl rfl rfl CellsOf.agg hS ps0 Yo (by kernel_rfl) rfl (fun w hS hB => Zg (Zc hK7 (Zd (fun K hK32 => Ze (Za rfl rfl rfl (Zi Z7 rfl (Zhr _) hS hs0 trivial Zz) ?_))))))
 obtain ⟨r33, hm34, H⟩ := bind_some H
 refine Zn rfl rfl rfl rfl (by kernel_rfl) rfl (Zeo r8 2 A10 c11 A14 c15 A18 c19 A22 c23 A26 c27 _ (Zhu k12 (hS.row_rd Xa) (hS.row_blk Xa)) (Zhu k16 (hS.row_rd Xq) (hS.row_blk Xq)) (Zhu k20 (hS.row_rd hs3) (hS.row_blk hs3)) (Zhu k24 (hS.row_rd hs4) (hS.row_blk hs4)) (Zhu k28 (hS.row_rd hs5) (hS.row_blk hs5)) hm34) ?_
 rintro e w ⟨A35, c36, rfl, k37, hN⟩; refine ⟨_, rfl, ?_⟩; obtain ⟨hB, hS⟩ := hS.jn hN
 refine Zb 1 rfl (Za rfl rfl rfl (Zv rfl rfl) (Za rfl rfl rfl (Zv rfl rfl) (Z5 rfl rfl Zba hS (fun b39 w hS hB => Zl rfl rfl rfl CellsOf.agg hS ps0 Zaq (by kernel_rfl) rfl (fun w hS hB => Zb 1 rfl (Zg (Zc hK32 ?_)))))))
 refine Zd (fun K hK41 => Ze (Za rfl rfl rfl (Zf Zbj rfl) (Zl rfl rfl rfl CellsOf.int hS ps2 st2_1 (by kernel_rfl) rfl (fun w hS hB => Zg (Zc hK41 (Zd (fun K hK42 => Ze ?_)))))))
 refine Xb (ps := [(0, .const (.int .i64 1)), (1, .const (.int .i64 1)), (2, .const (.int .i64 1))]) [.int .i64 1, .int .i64 1, .int .i64 1] Xv zc_3 rfl rfl rfl rfl rfl (by kernel_rfl) hS (fun b43 w hS hB => Za rfl rfl rfl (Zf Vs rfl) (Zl rfl rfl rfl CellsOf.slice hS ps3 st19_1 (by kernel_rfl) rfl (fun w hS hB => Zg (Zc hK42 (Zd (fun K hK45 => Ze (Za rfl rfl rfl (Zi Z7 rfl (Zhr _) hS hs3 trivial Zz) ?_)))))))
 obtain ⟨r46, hm47, H⟩ := bind_some H
 refine Zn rfl rfl rfl rfl (by kernel_rfl) rfl (Zeo {r8 with role := 2, next := ([1, 1, 1] : List Int)} 2 A10 c11 A14 c15 (some ⟨b43, 0, none⟩) 3 A22 c23 A26 c27 _ (Zhu k12 (hS.row_rd hs4) (hS.row_blk hs4)) (Zhu k16 (hS.row_rd hs5) (hS.row_blk hs5)) (Zhu ⟨Nat.le_refl 3, by decide⟩ (hS.box_rd hs0) (hS.box_blk hs0)) (Zhu k24 (hS.row_rd hs7) (hS.row_blk hs7)) (Zhu k28 (hS.row_rd hs8) (hS.row_blk hs8)) hm47) ?_
 rintro e w ⟨A48, c49, rfl, k50, hN⟩; refine ⟨_, rfl, ?_⟩; obtain ⟨hB, hS⟩ := hS.jn hN
 refine Zb 1 rfl (Za rfl rfl rfl (Zv rfl rfl) (Za rfl rfl rfl (Zv rfl rfl) (Z5 rfl rfl Zba hS (fun b52 w hS hB => Zl rfl rfl rfl CellsOf.agg hS ps0 Zaq (by kernel_rfl) rfl (fun w hS hB => Zb 1 rfl (Zg (Zc hK45 ?_)))))))
 refine Zd (fun K hK54 => Yi 10 [8] (fun i b => (i = 8 → b = b52 ∨ b = b43 ∨ b = b39 ∨ b = b30 ∨ b = b5 ∨ b = b3)) ⟨by kernel_rfl, by kernel_rfl⟩ hS (fun w hS hB => Ze6 [⟨7, 7, 30, [.int .i64 0, .int .i64 0, .int .u8 0, .int .i64 0, .int .i64 0, .int .i64 0, .int .i64 0, .int .i64 0, .bool false, .slice none 0 0, .int .i64 0, .int .i64 0, .int .i64 0, .int .i64 0, .int .i64 0, .int .i64 0, .int .i64 0, .bool false, .slice none 0 0, .slice none 0 0, .slice none 0 0, .slice none 0 0]⟩] (.cons rfl Zdk rfl rfl rfl .nil) hS (fun hok => ?_)))
 dsimp only [List.cons_append, List.nil_append]
 refine Jo [Ff,Ff,Tt] [] (fun _ => True) (by decide +kernel) (fun _ h => by cases h) PFC.h (fun X Y tk ht w hS => LtK.put rfl rfl rfl (Zi Xn rfl (Zht _ _) hS hs0 trivial Y2) (Zei ht hS (by repeat (first | exact App.nil | apply App.cons)) (by repeat (first | exact App.nil | apply App.cons)) ?_))
 dsimp only [List.cons_append, List.nil_append]
 refine Ze2 [true] 0 hok ⟨by decide, by decide +kernel, by decide, by decide⟩ rfl rfl (fun _ => rfl) (fun _ => rfl) rfl (hend_of (by decide +kernel)) (fun X Y tk ht w hS => ?_)
 try dsimp only [Z0]
 obtain ⟨r55, hm56, H⟩ := bind_some H
 refine Zn rfl rfl rfl rfl (by kernel_rfl) rfl (c_ref12_First _ hm56) ?_
 rintro e w ⟨A57, c58, rfl, k59, hN⟩; refine ⟨_, rfl, ?_⟩; obtain ⟨hB, hS⟩ := hS.jn hN
 refine Zg (Ze7 ht hS hB (by repeat (first | exact App.nil | apply App.cons)) (by repeat (first | exact App.nil | apply App.cons)) ?_)
 dsimp only [List.cons_append, List.nil_append]
 refine Ze2 [Ff,Tt] 1 hok ⟨by decide, by decide +kernel, by decide, by decide⟩ rfl rfl (fun _ => rfl) (fun _ => rfl) rfl (hend_of (by decide +kernel)) (fun X Y tk ht w hS => ?_)
 try dsimp only [Z0]
 obtain ⟨r61, hm62, H⟩ := bind_some H
 refine Zn rfl rfl rfl rfl (by kernel_rfl) rfl (c_ref20_New 2 3 1 r55 A57 c58 _ (Zhu k59 (hS.rd hs0) (hS.rd_blk hs0)) hm62) ?_
 rintro e w ⟨A63, c64, A67, c68, A71, c72, A75, c76, A79, c80, rfl, k65, k69, k73, k77, k81, hN⟩; refine ⟨_, rfl, ?_⟩; obtain ⟨hB, hS⟩ := hS.jn hN
 refine Zg (Ze7 ht hS hB (by repeat (first | exact App.nil | apply App.cons)) (by repeat (first | exact App.nil | apply App.cons)) ?_)
 dsimp only [List.cons_append, List.nil_append]
 refine Ze2 [Ff,Ff,Ff,Tt] 3 hok ⟨by decide, by decide +kernel, by decide, by decide⟩ rfl rfl (fun _ => rfl) (fun _ => rfl) rfl (hend_of (by decide +kernel)) (fun X Y tk ht w hS => ?_)
 try dsimp only [Z0]
 obtain ⟨r83, hm84, H⟩ := bind_some H
 refine Zn rfl rfl rfl rfl (by kernel_rfl) rfl (c_repl_Append r61 r46.1 A63 c64 A67 c68 A71 c72 A75 c76 A79 c80 A48 c49 _ (Zhu k65 (hS.row_rd hs0) (hS.row_blk hs0)) (Zhu k69 (hS.row_rd Xa) (hS.row_blk Xa)) (Zhu k73 (hS.row_rd Xq) (hS.row_blk Xq)) (Zhu k77 (hS.row_rd hs3) (hS.row_blk hs3)) (Zhu k81 (hS.row_rd hs4) (hS.row_blk hs4)) (Zhu k50 (hS.row_rd hs7) (hS.row_blk hs7)) hm84) ?_
 rintro e w ⟨A85, c86, A89, c90, A93, c94, A97, c98, A101, c102, A105, c106, q109, rfl, k87, k91, k95, k99, k103, k107, hq110, okq111, hN⟩; refine ⟨_, rfl, ?_⟩; obtain ⟨hB, hS⟩ := hS.jn hN
 refine Zg (Ze7 ht hS hB (by repeat (first | exact App.nil | apply App.cons)) (by repeat (first | exact App.nil | apply App.cons)) ?_)
 dsimp only [List.cons_append, List.nil_append]
 refine Jo [Ff,Ff,Ff,Ff,Tt,Tt] [] (fun _ => True) (by decide +kernel) (fun _ h => by cases h) PFC.h (fun X Y tk ht w hS => LtK.put rfl rfl rfl (Zw rfl) (LtK.put rfl rfl rfl (Zv rfl rfl) (Zei ht hS (by repeat (first | exact App.nil | apply App.cons)) (by repeat (first | exact App.nil | apply App.cons)) ?_)))
 dsimp only [List.cons_append, List.nil_append]
 refine Jo [Ff,Ff,Ff,Ff,Ff,Ff,Tt] [8] (fun b => (b = b52 ∨ b = b43 ∨ b = b39 ∨ b = b30 ∨ b = b5 ∨ b = b3)) (by decide +kernel) (by intro j hj b hb; simp only [List.mem_cons, List.not_mem_nil, or_false] at hj; (try rcases hj with rfl | rfl | rfl | rfl | rfl) <;> first | (simp [hb]; done) | simp_all) PFC.h (fun X Y tk ht w hS => LtK.put rfl rfl rfl (Zv rfl rfl) (Zei ht hS (by repeat (first | exact App.nil | apply App.cons)) (by repeat (first | exact App.nil | apply App.cons)) ?_))
 dsimp only [List.cons_append, List.nil_append]
 refine Zf6 hok (by decide) (by decide +kernel) (fun _ => rfl) (fun _ => rfl) rfl (fun tk htk w hS => ?_)
 obtain ⟨b113, tkb113, rfl, htk115⟩ := tk_cons htk
 obtain rfl := tk_nil htk115
 dsimp only [tkH, tkL, List.map] at hS ⊢
 refine Yq [Ff,Ff,Ff,Ff,Ff,Ff,Ff,Ff,Tt] 8 ⟨by decide, by kernel_rfl, by kernel_rfl⟩ rfl rfl ?_
 try dsimp only [Z0]
 refine Zl rfl rfl rfl CellsOf.agg hS ps26 Yo (by kernel_rfl) rfl (fun w hS hB => Zg (Yk (hB.sub (fun b _ h => by have h0 : b = b52 ∨ b = b43 ∨ b = b39 ∨ b = b30 ∨ b = b5 ∨ b = b3 := (by simpa using h); rcases h0 with h0 | h0 | h0 | h0 | h0 | h0; (rw [h0]; exact hS.ne 13 26 rfl rfl rfl); (rw [h0]; exact hS.ne 15 26 rfl rfl rfl); (rw [h0]; exact hS.ne 16 26 rfl rfl rfl); (rw [h0]; exact hS.ne 18 26 rfl rfl rfl); (rw [h0]; exact hS.ne 24 26 rfl rfl rfl); (rw [h0]; exact hS.ne 25 26 rfl rfl rfl))) (Zq [Ff,Ff,Ff,Ff,Ff,Ff,Ff,Ff,Ff,Tt] (by decide +kernel) PFC.h (LtK.put rfl rfl rfl (Z2 rfl) (LtK.nil (Ye (by kernel_rfl) (Zc hK54 ?_)))))))
 refine Zd (fun K hK116 => Zd (fun K hK117 => Ze (Zb 1 rfl (Za rfl rfl rfl (Y0 Zbf rfl) (Za rfl rfl rfl (Xu rfl rfl) (Zg (Zc hK117 ?_)))))))
 refine Zy rfl (fun hb => ?_) (fun hb => ?_)
 ·replace H := Zp H hb
  refine Zd (fun K hK119 => Ze (Zb 1 rfl (Zg (Zc hK119 (Zk (Zj (Zm rfl (RV.tmp rfl RV.nil) rfl ?_)))))))
  obtain rfl := QJ H
  replace hS := hS.cut 0
  exact ⟨rfl, hS⟩
 replace H := Zo H hb
 refine Zr (Zc hK116 (Zd (fun K hK121 => Yi 7 [6] (fun i b => (i = 6 → b = b52 ∨ b = b43 ∨ b = b39 ∨ b = b30 ∨ b = b5 ∨ b = b3 ∨ b = b113)) ⟨by kernel_rfl, by kernel_rfl⟩ hS (fun w hS hB => Ze6 [⟨5, 9, 30, [.int .i64 0, .int .i64 0, .int .u8 0, .int .i64 0, .int .i64 0, .int .i64 0, .int .i64 0, .int .i64 0, .bool false, .slice none 0 0, .int .i64 0, .int .i64 0, .int .i64 0, .int .i64 0, .int .i64 0, .int .i64 0, .int .i64 0, .bool false, .slice none 0 0, .slice none 0 0, .slice none 0 0, .slice none 0 0]⟩] (.cons rfl Zdk rfl rfl rfl .nil) hS (fun hok => ?_)))))
 dsimp only [List.cons_append, List.nil_append]
 refine Jo [Tt,Tt,Tt,Tt] [] (fun _ => True) (by decide +kernel) (fun _ h => by cases h) PFC.h (fun X Y tk ht w hS => LtK.put rfl rfl rfl (Zi Z7 rfl (Zht _ _) hS hs18 trivial Zz) (LtK.put rfl rfl rfl (Zw rfl) ?_))
 obtain ⟨e122, hi124, H⟩ := bind_some H
 obtain ⟨j123, A125, c126, hi124a, hi124b, hi124c⟩ := idxQ (q := q109) hq110 hi124
 refine LtK.put rfl rfl rfl (Xf Zbf rfl rfl hi124a hi124c (Rd.el (hS.rd hs5) Ze5 hi124b)) (LtK.put rfl rfl rfl (Zel Xn rfl (Zht _ _) (Rd.el (hS.rd hs5) Ze5 hi124b) Y2) (Zei ht hS (by repeat (first | exact App.nil | apply App.cons)) (by repeat (first | exact App.nil | apply App.cons)) ?_))
 dsimp only [List.cons_append, List.nil_append]
 refine Ze2 [Ff,Ff,Ff,Ff,Tt] 4 hok ⟨by decide, by decide +kernel, by decide, by decide⟩ rfl rfl (fun _ => rfl) (fun _ => rfl) rfl (hend_of (by decide +kernel)) (fun X Y tk ht w hS => ?_)
 try dsimp only [Z0]
 obtain ⟨r127, hm128, H⟩ := bind_some H
 refine Zn rfl rfl rfl rfl (by kernel_rfl) rfl (c_repl_Told {r8 with role := 2, next := ([1, 1, 1] : List Int)} e122 A10 c11 A14 c15 (some ⟨b43, 0, none⟩) 3 A22 c23 A26 c27 A125 c126 _ (Zhu k12 (hS.row_rd hs19) (hS.row_blk hs19)) (Zhu k16 (hS.row_rd hs20) (hS.row_blk hs20)) (Zhu ⟨Nat.le_refl 3, by decide⟩ (hS.box_rd hs15) (hS.box_blk hs15)) (Zhu k24 (hS.row_rd hs22) (hS.row_blk hs22)) (Zhu k28 (hS.row_rd hs23) (hS.row_blk hs23)) (Zhu (okq111 _ (List.mem_of_getElem? hi124b)) (hS.rds_rd hs6 hi124b) (hS.rds_blk hs6 hi124b)) hm128) ?_
 rintro e w ⟨A129, c130, A133, c134, A137, c138, A141, c142, A145, c146, rfl, k131, k135, k139, k143, k147, hN⟩; refine ⟨_, rfl, ?_⟩; obtain ⟨hB, hS⟩ := hS.jn hN
 refine Zg (Ze7 ht hS hB (by repeat (first | exact App.nil | apply App.cons)) (by repeat (first | exact App.nil | apply App.cons)) ?_)
 dsimp only [List.cons_append, List.nil_append]
 refine Zf6 hok (by decide) (by decide +kernel) (fun _ => rfl) (fun _ => rfl) rfl (fun tk htk w hS => ?_)
 obtain ⟨b149, tkb149, rfl, htk151⟩ := tk_cons htk
 obtain rfl := tk_nil htk151
 dsimp only [tkH, tkL, List.map] at hS ⊢
 refine Yq [Ff,Ff,Ff,Ff,Ff,Ff,Tt] 6 ⟨by decide, by kernel_rfl, by kernel_rfl⟩ rfl rfl ?_
 try dsimp only [Z0]
 refine Zl rfl rfl rfl CellsOf.agg hS ps32 Yo (by kernel_rfl) rfl (fun w hS hB => Zg (Yk (hB.sub (fun b _ h => by have h0 : b = b52 ∨ b = b43 ∨ b = b39 ∨ b = b30 ∨ b = b5 ∨ b = b3 ∨ b = b113 := (by simpa using h); rcases h0 with h0 | h0 | h0 | h0 | h0 | h0 | h0; (rw [h0]; exact hS.ne 18 32 rfl rfl rfl); (rw [h0]; exact hS.ne 20 32 rfl rfl rfl); (rw [h0]; exact hS.ne 21 32 rfl rfl rfl); (rw [h0]; exact hS.ne 23 32 rfl rfl rfl); (rw [h0]; exact hS.ne 29 32 rfl rfl rfl); (rw [h0]; exact hS.ne 30 32 rfl rfl rfl); (rw [h0]; exact hS.ne 31 32 rfl rfl rfl))) (Ye (by kernel_rfl) (Zc hK121 (Zd (fun K hK152 => Zd (fun K hK153 => Ze ?_)))))))
 refine Za rfl rfl rfl (Zf Ji rfl) (Za rfl rfl rfl (Zh X3 rfl (Zhr _) hS hs32 trivial Zbo) (Za rfl rfl rfl (Y0 Xv rfl) (Za rfl rfl rfl (Xu rfl rfl) (Zb 1 rfl (Zs 48 rfl (fun hb => ?_) (fun hb => ?_))))))
 ·replace H := Zp H hb
  refine Zb 5 rfl (Zg (Zc hK153 (Zt rfl rfl (Zd (fun K hK155 => Ze (Zb 1 rfl (Zg ?_)))))))
  refine Zc hK155 (Zk (Zj (Zm rfl (RV.tmp rfl RV.nil) rfl ?_)))
  obtain rfl := QJ H
  replace hS := hS.cut 0
  exact ⟨rfl, hS⟩
 replace H := Zo H hb
 refine Za rfl rfl rfl (Zf Vs rfl) (Za rfl rfl rfl (Zh X3 rfl (Zhr _) hS hs32 trivial Zat) (Za rfl rfl rfl (Y0 Xv rfl) (Za rfl rfl rfl (Xu rfl rfl) (Zb 1 rfl (Zg (Zc hK153 (Zy rfl (fun hb => ?_) (fun hb => ?_))))))))
 ·replace H := Zp H hb
  refine Zd (fun K hK158 => Ze (Zb 1 rfl (Zg (Zc hK158 (Zk (Zj (Zm rfl (RV.tmp rfl RV.nil) rfl ?_)))))))
  obtain rfl := QJ H
  replace hS := hS.cut 0
  exact ⟨rfl, hS⟩
 replace H := Zo H hb
 refine Zr (Zc hK152 (Zd (fun K hK160 => Ze (Zb 1 rfl (Za rfl rfl rfl (Ys rfl) (Zb 1 rfl (Zs 56 rfl (fun hb => ?_) (fun hb => ?_))))))))
 rotate_left
 ·replace H := Zo H hb
  refine Zb 60 rfl (Zg (Zc hK160 (Zk (Zm rfl (RV.tmp rfl RV.nil) rfl ?_))))
  obtain rfl := QJ H
  replace hS := hS.cut 0
  exact ⟨rfl, hS⟩
 replace H := Zp H hb
 refine Zb 3 rfl (Zs 59 rfl (fun hb => ?_) (fun hb => ?_))
 rotate_left
 ·replace H := Zo H hb
  refine Zb 57 rfl (Zg (Zc hK160 (Zk (Zm rfl (RV.tmp rfl RV.nil) rfl ?_))))
  obtain rfl := QJ H
  replace hS := hS.cut 0
  exact ⟨rfl, hS⟩
 replace H := Zp H hb
 refine Za rfl rfl rfl (Zf X8 rfl) (Za rfl rfl rfl (Zh Xx rfl (Zhr _) hS hs18 trivial Zak) (Za rfl rfl rfl (Y0 Y8 rfl) (Za rfl rfl rfl (Y1 rfl rfl) (Zb 2 rfl (Zs 65 rfl (fun hb => ?_) (fun hb => ?_))))))
 rotate_left
 ·replace H := Zo H hb
  refine Zb 51 rfl (Zg (Zc hK160 (Zk (Zm rfl (RV.tmp rfl RV.nil) rfl ?_))))
  obtain rfl := QJ H
  replace hS := hS.cut 0
  exact ⟨rfl, hS⟩
 replace H := Zp H hb
 refine Za rfl rfl rfl (Zf V0 rfl) (Za rfl rfl rfl (Zh Z1 rfl (Zhr _) hS hs18 trivial Jd) (Za rfl rfl rfl (Y1 rfl rfl) (Zb 2 rfl (Zs 70 rfl (fun hb => ?_) (fun hb => ?_)))))
 rotate_left
 ·replace H := Zo H hb
  refine Zb 46 rfl (Zg (Zc hK160 (Zk (Zm rfl (RV.tmp rfl RV.nil) rfl ?_))))
  obtain rfl := QJ H
  replace hS := hS.cut 0
  exact ⟨rfl, hS⟩
 replace H := Zp H hb
 refine Za rfl rfl rfl (Zf Yy rfl) (Za rfl rfl rfl (Zf X4 rfl) (Za rfl rfl rfl (Zh Xx rfl (Zhr _) hS hs31 trivial Zak) (Za rfl rfl rfl (Y0 Y8 rfl) (Za rfl rfl rfl (Y1 rfl rfl) (Zb 2 rfl (Zs 77 rfl (fun hb => ?_) (fun hb => ?_)))))))
 rotate_left
 ·replace H := Zo H hb
  refine Zb 39 rfl (Zg (Zc hK160 (Zk (Zm rfl (RV.tmp rfl RV.nil) rfl ?_))))
  obtain rfl := QJ H
  replace hS := hS.cut 0
  exact ⟨rfl, hS⟩
 replace H := Zp H hb
 refine Za rfl rfl rfl (Zf Yy rfl) (Za rfl rfl rfl (Zf Vi rfl) (Za rfl rfl rfl (Zh Z1 rfl (Zhr _) hS hs31 trivial Zam) (Za rfl rfl rfl (Y1 rfl rfl) (Zb 2 rfl (Zs 83 rfl (fun hb => ?_) (fun hb => ?_))))))
 rotate_left
 ·replace H := Zo H hb
  refine Zb 33 rfl (Zg (Zc hK160 (Zk (Zm rfl (RV.tmp rfl RV.nil) rfl ?_))))
  obtain rfl := QJ H
  replace hS := hS.cut 0
  exact ⟨rfl, hS⟩
 replace H := Zp H hb
 refine Zb 1 rfl ?_
 obtain ⟨e167, hi169, H⟩ := bind_some H
 obtain ⟨j168, A170, c171, hi169a, hi169b, hi169c⟩ := idxQ (q := q109) hq110 hi169
 refine Za rfl rfl rfl (Xf Zbf rfl rfl hi169a hi169c (Rd.el (hS.rd Zek) Ze5 hi169b)) (Za rfl rfl rfl (Zau Zf0 rfl (Rd.el (hS.rd Zek) Ze5 hi169b)) (Za rfl rfl rfl (yx_ld sc_4 rfl (Zhr _) (Rd.el (hS.rd Zek) Ze5 hi169b) rfl) (Zb 2 rfl (Zs 89 rfl (fun hb => ?_) (fun hb => ?_)))))
 rotate_left
 ·replace H := Zo H hb
  refine Zb 27 rfl (Zg (Zc hK160 (Zk (Zm rfl (RV.tmp rfl RV.nil) rfl ?_))))
  obtain rfl := QJ H
  replace hS := hS.cut 0
  exact ⟨rfl, hS⟩
 replace H := Zp H hb
 refine Zb 1 rfl ?_
 obtain ⟨e173, hi175, H⟩ := bind_some H
 obtain ⟨j174, A176, c177, hi175a, hi175b, hi175c⟩ := idxQ (q := q109) hq110 hi175
 refine Za rfl rfl rfl (Xf Zbf rfl rfl hi175a hi175c (Rd.el (hS.rd Zek) Ze5 hi175b)) (Za rfl rfl rfl (Zau V0 rfl (Rd.el (hS.rd Zek) Ze5 hi175b)) (Za rfl rfl rfl (yx_ld Z1 rfl (Zhr _) (Rd.el (hS.rd Zek) Ze5 hi175b) rfl) (Za rfl rfl rfl (Y1 rfl rfl) (Zb 2 rfl (Zs 96 rfl (fun hb => ?_) (fun hb => ?_))))))
 rotate_left
 ·replace H := Zo H hb
  refine Zb 20 rfl (Zg (Zc hK160 (Zk (Zm rfl (RV.tmp rfl RV.nil) rfl ?_))))
  obtain rfl := QJ H
  replace hS := hS.cut 0
  exact ⟨rfl, hS⟩
 replace H := Zp H hb
 refine Za rfl rfl rfl (Zf Ji rfl) (Za rfl rfl rfl (Zh X3 rfl (Zhr _) hS hs32 trivial Zbo) ?_)
 obtain ⟨e179, hi181, H⟩ := bind_some H
 obtain ⟨j180, hi181a, hi181b, hi181c⟩ := Yt hi181
 refine Za rfl rfl rfl (Xf Xv rfl rfl hi181a hi181c (Rd.el (hS.row_rd hs3) Yh hi181b)) (Za rfl rfl rfl (Vj Z1 rfl (Zhr _) (Rd.el (hS.row_rd hs3) Yh hi181b) rfl) (Za rfl rfl rfl (Y1 rfl rfl) (Zb 2 rfl (Zs 103 rfl (fun hb => ?_) (fun hb => ?_)))))
 rotate_left
 ·replace H := Zo H hb
  refine Zb 13 rfl (Zg (Zc hK160 (Zk (Zm rfl (RV.tmp rfl RV.nil) rfl ?_))))
  obtain rfl := QJ H
  replace hS := hS.cut 0
  exact ⟨rfl, hS⟩
 replace H := Zp H hb
 refine Za rfl rfl rfl (Zf Vs rfl) (Za rfl rfl rfl (Zh X3 rfl (Zhr _) hS hs32 trivial Zat) ?_)
 obtain ⟨e183, hi185, H⟩ := bind_some H
 obtain ⟨j184, hi185a, hi185b, hi185c⟩ := Yt hi185
 refine Za rfl rfl rfl (Xf Xv rfl rfl hi185a hi185c (Rd.el (hS.row_rd Xq) Yh hi185b)) (Za rfl rfl rfl (Vj Z1 rfl (Zhr _) (Rd.el (hS.row_rd Xq) Yh hi185b) rfl) (Za rfl rfl rfl (Y1 rfl rfl) (Zb 2 rfl (Zs 110 rfl (fun hb => ?_) (fun hb => ?_)))))
 rotate_left
 ·replace H := Zo H hb
  refine Zb 6 rfl (Zg (Zc hK160 (Zk (Zm rfl (RV.tmp rfl RV.nil) rfl ?_))))
  obtain rfl := QJ H
  replace hS := hS.cut 0
  exact ⟨rfl, hS⟩
 replace H := Zp H hb
 refine Za rfl rfl rfl (Zi Z7 rfl (Zhr _) hS hs23 trivial Zz) ?_
 obtain ⟨r187, hm188, H⟩ := bind_some H
 refine Zn rfl rfl rfl rfl (by kernel_rfl) rfl (c_repl_Beat {r8 with role := 2, next := ([1, 1, 1] : List Int)} A10 c11 A14 c15 (some ⟨b43, 0, none⟩) 3 A22 c23 A26 c27 _ (Zhu k12 (hS.row_rd hs24) (hS.row_blk hs24)) (Zhu k16 (hS.row_rd hs25) (hS.row_blk hs25)) (Zhu ⟨Nat.le_refl 3, by decide⟩ (hS.box_rd hs20) (hS.box_blk hs20)) (Zhu k24 (hS.row_rd hs27) (hS.row_blk hs27)) (Zhu k28 (hS.row_rd hs28) (hS.row_blk hs28)) hm188) ?_
 rintro e w ⟨A189, c190, q193, rfl, k191, hq194, okq195, hN⟩; refine ⟨_, rfl, ?_⟩; obtain ⟨hB, hS⟩ := hS.jn hN
 refine Za rfl rfl rfl (Y0 Zbf rfl) (Za rfl rfl rfl (Y1 rfl rfl) (Zb 2 rfl (Zg (Zc hK160 (Zk (Zm rfl (RV.tmp rfl RV.nil) rfl ?_))))))
 obtain rfl := QJ H
 replace hS := hS.cut 0
 exact ⟨rfl, hS⟩
theorem c_ref23_Message (x0 : Co) (x1 : Int) (A0_ : OA) (c0_ : Nat) (A1_ : OA) (c1_ : Nat) (A2_ : OA) (c2_ : Nat) (A3_ : OA) (c3_ : Nat) (A4_ : OA) (c4_ : Nat) (w0 : World) (s0_ : SlI w0 Vv A0_ c0_ x0.tuple.log) (s1_ : SlI w0 enO A1_ c1_ x0.votes) (s2_ : SlI w0 Vh A2_ c2_ x0.next) (s3_ : SlI w0 Vh A3_ c3_ x0.mtch) (s4_ : SlI w0 Vh A4_ c4_ x0.caps) {r : Ms × Bool} (H : Vw x0 x1 = some r) : Calls Tryz.prog 28 #[.agg #[.int .i64 x0.id, .int .i64 x0.n, .int .u8 x0.role, .int .i64 x0.binary, .int .i64 x0.tuple.snap.index, .int .i64 x0.tuple.snap.term, .int .i64 x0.tuple.snap.sum, .int .i64 x0.tuple.snap.level, .bool x0.tuple.snap.final, .slice A0_ x0.tuple.log.length c0_, .int .i64 x0.tuple.term, .int .i64 x0.tuple.vote, .int .i64 x0.commit, .int .i64 x0.applied.index, .int .i64 x0.applied.term, .int .i64 x0.applied.sum, .int .i64 x0.applied.level, .bool x0.applied.final, .slice A1_ x0.votes.length c1_, .slice A2_ x0.next.length c2_, .slice A3_ x0.mtch.length c3_, .slice A4_ x0.caps.length c4_], .int .i64 x1] w0 fun e w' => ∃ (A0 : OA) (c0 : Nat), e = .returned (.tuple #[.agg #[.int .u8 r.1.kind, .int .i64 r.1.frm, .int .i64 r.1.dst, .int .i64 r.1.term, .int .i64 r.1.cap, .int .i64 r.1.last, .int .i64 r.1.lastTerm, .int .i64 r.1.commit, .bool r.1.okk, .slice A0 r.1.entries.length c0, .int .i64 r.1.snap.index, .int .i64 r.1.snap.term, .int .i64 r.1.snap.sum, .int .i64 r.1.snap.level, .bool r.1.snap.final], .bool r.2]) ∧ (r.1.entries.length ≤ c0 ∧ c0 ≤ maxLen) ∧ St0 All w0 w' [.row (.slice A0 r.1.entries.length c0) 53 3 r.1.entries.length (Yg Vv r.1.entries)] := by
 unfold Vw at H
 refine Yn Tryz.func28 rfl Tryz.ntmps28 rfl ?_
 have hS := St0.start All w0
 refine Zd (fun K hK1 => Ze (Z4 rfl rfl rfl CellsOf.agg hS (fun b2 w hS hB => Z5 rfl rfl Zba hS (fun b4 w hS hB => Zb 1 rfl (Zg (Zc hK1 (Zd (fun K hK6 => ?_))))))))
 refine Zd (fun K hK7 => Ze (Za rfl rfl rfl (Zi Z7 rfl (Zhr _) hS Xa trivial Zz) ?_))
 obtain ⟨r8, hm9, H⟩ := bind_some H
 refine Zn rfl rfl rfl rfl (by kernel_rfl) rfl (Zg5 x0 A0_ c0_ A1_ c1_ A2_ c2_ A3_ c3_ A4_ c4_ _ (Zhu s0_.k (hS.rd0 s0_.rd) (hS.blk0 s0_.blk)) (Zhu s1_.k (hS.rd0 s1_.rd) (hS.blk0 s1_.blk)) (Zhu s2_.k (hS.rd0 s2_.rd) (hS.blk0 s2_.blk)) (Zhu s3_.k (hS.rd0 s3_.rd) (hS.blk0 s3_.blk)) (Zhu s4_.k (hS.rd0 s4_.rd) (hS.blk0 s4_.blk)) hm9) ?_
 rintro e w ⟨rfl, hN⟩; refine ⟨_, rfl, ?_⟩; obtain ⟨hB, hS⟩ := hS.jn hN
 refine Za rfl rfl rfl (Ys rfl) (Zb 1 rfl (Zs 14 rfl (fun hb => ?_) (fun hb => ?_)))
 ·replace H := Zp H hb
  refine Zb 20 rfl (Zg (Zc hK7 (Zt rfl rfl (Zd (fun K hK11 => Ze (Za rfl rfl rfl (Xl (cells := [.int .u8 0, .int .i64 0, .int .i64 0, .int .i64 0, .int .i64 0, .int .i64 0, .int .i64 0, .int .i64 0, .bool false, .slice none 0 0, .int .i64 0, .int .i64 0, .int .i64 0, .int .i64 0, .bool false]) rfl (by kernel_rfl)) (Zl rfl rfl rfl CellsOf.agg hS ps0 Zaq (by kernel_rfl) rfl (fun w hS hB => ?_))))))))
  refine Zb 1 rfl (Zg (Zc hK11 (Zk (Zj (Zm rfl (RV.cell rfl (Zu Xn hS hs0 Y2) (RV.tmp rfl RV.nil)) rfl ?_)))))
  obtain rfl := QJ H
  have hS := hS.nilRow 53 3
  replace hS := hS.cut 1
  exact ⟨none, 0, rfl, ⟨Nat.le_refl _, Nat.zero_le _⟩, hS⟩
 replace H := Zo H hb
 refine Za rfl rfl rfl (Zf Zbj rfl) (Za rfl rfl rfl (Zh Zbq rfl (Zhr _) hS Xa trivial Za0) (Za rfl rfl rfl (Xu rfl rfl) (Zb 2 rfl (Zs 19 rfl (fun hb => ?_) (fun hb => ?_)))))
 ·replace H := Zp H hb
  refine Zb 15 rfl (Zg (Zc hK7 (Zt rfl rfl (Zd (fun K hK14 => Ze (Za rfl rfl rfl (Xl (cells := [.int .u8 0, .int .i64 0, .int .i64 0, .int .i64 0, .int .i64 0, .int .i64 0, .int .i64 0, .int .i64 0, .bool false, .slice none 0 0, .int .i64 0, .int .i64 0, .int .i64 0, .int .i64 0, .bool false]) rfl (by kernel_rfl)) (Zl rfl rfl rfl CellsOf.agg hS ps0 Zaq (by kernel_rfl) rfl (fun w hS hB => ?_))))))))
  refine Zb 1 rfl (Zg (Zc hK14 (Zk (Zj (Zm rfl (RV.cell rfl (Zu Xn hS hs0 Y2) (RV.tmp rfl RV.nil)) rfl ?_)))))
  obtain rfl := QJ H
  have hS := hS.nilRow 53 3
  replace hS := hS.cut 1
  exact ⟨none, 0, rfl, ⟨Nat.le_refl _, Nat.zero_le _⟩, hS⟩
 replace H := Zo H hb
 refine Zb 1 rfl (Za rfl rfl rfl (Xk rfl rfl) (Zb 2 rfl (Zs 23 rfl (fun hb => ?_) (fun hb => ?_))))
 ·replace H := Zp H hb
  refine Zb 11 rfl (Zg (Zc hK7 (Zt rfl rfl (Zd (fun K hK17 => Ze (Za rfl rfl rfl (Xl (cells := [.int .u8 0, .int .i64 0, .int .i64 0, .int .i64 0, .int .i64 0, .int .i64 0, .int .i64 0, .int .i64 0, .bool false, .slice none 0 0, .int .i64 0, .int .i64 0, .int .i64 0, .int .i64 0, .bool false]) rfl (by kernel_rfl)) (Zl rfl rfl rfl CellsOf.agg hS ps0 Zaq (by kernel_rfl) rfl (fun w hS hB => ?_))))))))
  refine Zb 1 rfl (Zg (Zc hK17 (Zk (Zj (Zm rfl (RV.cell rfl (Zu Xn hS hs0 Y2) (RV.tmp rfl RV.nil)) rfl ?_)))))
  obtain rfl := QJ H
  have hS := hS.nilRow 53 3
  replace hS := hS.cut 1
  exact ⟨none, 0, rfl, ⟨Nat.le_refl _, Nat.zero_le _⟩, hS⟩
 replace H := Zo H hb
 refine Zb 1 rfl (Za rfl rfl rfl (Zf V4 rfl) (Za rfl rfl rfl (Zh Z1 rfl (Zhr _) hS Xa trivial Vl) (Za rfl rfl rfl (Xc rfl rfl) (Zb 2 rfl (Zs 29 rfl (fun hb => ?_) (fun hb => ?_))))))
 ·replace H := Zp H hb
  refine Zb 5 rfl (Zg (Zc hK7 (Zt rfl rfl (Zd (fun K hK20 => Ze (Za rfl rfl rfl (Xl (cells := [.int .u8 0, .int .i64 0, .int .i64 0, .int .i64 0, .int .i64 0, .int .i64 0, .int .i64 0, .int .i64 0, .bool false, .slice none 0 0, .int .i64 0, .int .i64 0, .int .i64 0, .int .i64 0, .bool false]) rfl (by kernel_rfl)) (Zl rfl rfl rfl CellsOf.agg hS ps0 Zaq (by kernel_rfl) rfl (fun w hS hB => ?_))))))))
  refine Zb 1 rfl (Zg (Zc hK20 (Zk (Zj (Zm rfl (RV.cell rfl (Zu Xn hS hs0 Y2) (RV.tmp rfl RV.nil)) rfl ?_)))))
  obtain rfl := QJ H
  have hS := hS.nilRow 53 3
  replace hS := hS.cut 1
  exact ⟨none, 0, rfl, ⟨Nat.le_refl _, Nat.zero_le _⟩, hS⟩
 replace H := Zo H hb
 refine Zb 1 rfl (Za rfl rfl rfl (Zf Zai rfl) (Za rfl rfl rfl (Zh Z1 rfl (Zhr _) hS Xa trivial Y4) (Za rfl rfl rfl (Y1 rfl rfl) (Zb 1 rfl (Zg (Zc hK7 (Zy rfl (fun hb => ?_) (fun hb => ?_))))))))
 ·replace H := Zp H hb
  refine Zd (fun K hK23 => Ze (Za rfl rfl rfl (Xl (cells := [.int .u8 0, .int .i64 0, .int .i64 0, .int .i64 0, .int .i64 0, .int .i64 0, .int .i64 0, .int .i64 0, .bool false, .slice none 0 0, .int .i64 0, .int .i64 0, .int .i64 0, .int .i64 0, .bool false]) rfl (by kernel_rfl)) (Zl rfl rfl rfl CellsOf.agg hS ps0 Zaq (by kernel_rfl) rfl (fun w hS hB => Zb 1 rfl (Zg (Zc hK23 (Zk ?_)))))))
  refine Zj (Zm rfl (RV.cell rfl (Zu Xn hS hs0 Y2) (RV.tmp rfl RV.nil)) rfl ?_)
  obtain rfl := QJ H
  have hS := hS.nilRow 53 3
  replace hS := hS.cut 1
  exact ⟨none, 0, rfl, ⟨Nat.le_refl _, Nat.zero_le _⟩, hS⟩
 replace H := Zo H hb
 refine Zr (Zc hK6 (Zd (fun K hK25 => Ze (Za rfl rfl rfl (Zf Vs rfl) (Za rfl rfl rfl (Zh X3 rfl (Zhr _) hS Xa trivial Zat) (Zb 1 rfl (Za rfl rfl rfl (Ju rfl rfl) ?_)))))))
 obtain ⟨e26, hi28, H⟩ := bind_some H
 obtain ⟨j27, hi28a, hi28b, hi28c⟩ := Yt hi28
 refine Za rfl rfl rfl (Xf Xv rfl rfl hi28a hi28c (Rd.el (hS.rd0 s2_.rd) Yh hi28b)) (Za rfl rfl rfl (Vj Z1 rfl (Zhr _) (Rd.el (hS.rd0 s2_.rd) Yh hi28b) rfl) (Zb 1 rfl (Zg (Zc hK25 (Zd (fun K hK29 => Zd (fun K hK30 => Ze ?_)))))))
 refine Zb 1 rfl (Za rfl rfl rfl (Zf Yy rfl) (Za rfl rfl rfl (Zf Xj rfl) (Za rfl rfl rfl (Zf Yj rfl) (Za rfl rfl rfl (Zh Z1 rfl (Zhr _) hS Xa trivial Zfw) (Za rfl rfl rfl (Za5 rfl rfl) (Zg (Zc hK30 ?_)))))))
 refine Zy rfl (fun hb => ?_) (fun hb => ?_)
 ·replace H := Zp H hb
  refine Zd (fun K hK32 => Ze (Za rfl rfl rfl (Xl (cells := [.int .u8 0, .int .i64 0, .int .i64 0, .int .i64 0, .int .i64 0, .int .i64 0, .int .i64 0, .int .i64 0, .bool false, .slice none 0 0, .int .i64 0, .int .i64 0, .int .i64 0, .int .i64 0, .bool false]) rfl (by kernel_rfl)) (Zl rfl rfl rfl CellsOf.agg hS ps0 Zaq (by kernel_rfl) rfl (fun w hS hB => Zb 1 rfl (Zg (Zc hK32 (Zk ?_)))))))
  refine Zj (Zm rfl (RV.cell rfl (Zu Xn hS hs0 Y2) (RV.tmp rfl RV.nil)) rfl ?_)
  obtain rfl := QJ H
  have hS := hS.nilRow 53 3
  replace hS := hS.cut 1
  exact ⟨none, 0, rfl, ⟨Nat.le_refl _, Nat.zero_le _⟩, hS⟩
 replace H := Zo H hb
 refine Zr (Zc hK29 (Zd (fun K hK34 => Ze (Za rfl rfl rfl (Zf Zai rfl) (Za rfl rfl rfl (Zh Z1 rfl (Zhr _) hS Xa trivial Y4) (Zb 1 rfl (Za rfl rfl rfl (Zf Yy rfl) ?_)))))))
 refine Za rfl rfl rfl (Zf Vi rfl) (Za rfl rfl rfl (Zh Z1 rfl (Zhr _) hS Xa trivial Zam) (Za rfl rfl rfl (Zf Zdr rfl) (Za rfl rfl rfl (Zh Z1 rfl (Zhr _) hS Xa trivial J9) (Zb 1 rfl (Za rfl rfl rfl (Ju rfl rfl) (Za rfl rfl rfl (Zf V6 rfl) (Za rfl rfl rfl (Zh Z1 rfl (Zhr _) hS Xa trivial Zbw) ?_)))))))
 refine Za rfl rfl rfl (Xl (cells := [.int .u8 3, .int .i64 x0.id, .int .i64 x1, .int .i64 x0.tuple.term, .int .i64 x0.binary, .int .i64 (IntKind.wrap .i64 (e26 - 1)), .int .i64 0, .int .i64 x0.commit, .bool false, .slice none 0 0, .int .i64 0, .int .i64 0, .int .i64 0, .int .i64 0, .bool false]) rfl (by kernel_rfl)) (Z5 rfl rfl Zba hS (fun b35 w hS hB => Zl rfl rfl rfl CellsOf.agg hS ps0 Zaq (by kernel_rfl) rfl (fun w hS hB => Zg (Zc hK34 (Zd (fun K hK37 => Ze (Za rfl rfl rfl (Zf Yy rfl) ?_)))))))
 refine Za rfl rfl rfl (Zi Ya rfl (Zhr _) hS Xq trivial Jv) (Zb 1 rfl (Za rfl rfl rfl (Ju rfl rfl) ?_))
 obtain ⟨r38, hm39, H⟩ := bind_some H
 refine Zn rfl rfl rfl rfl (by kernel_rfl) rfl (Zgi x0.tuple (IntKind.wrap .i64 (e26 - 1)) A0_ c0_ _ (Zhu s0_.k (hS.rd0 s0_.rd) (hS.blk0 s0_.blk)) hm39) ?_
 rintro e w ⟨rfl, hN⟩; refine ⟨_, rfl, ?_⟩; obtain ⟨hB, hS⟩ := hS.jn hN
 refine Zb 1 rfl (Za rfl rfl rfl (Zv rfl rfl) (Za rfl rfl rfl (Zv rfl rfl) (Za rfl rfl rfl (Zf Zfe rfl) (Zl rfl rfl rfl CellsOf.int hS ps0 st6_1 (by kernel_rfl) rfl (fun w hS hB => Zg (Zc hK37 (Zd (fun K hK40 => ?_))))))))
 refine Zd (fun K hK41 => Ze (Zb 2 rfl (Zg (Zc hK41 (Yd ?_)))))
 replace hS := hS.nilRow 53 3
 refine Vq (X := Nat × Int × List En × OA × Nat) (fun x => (2, .pointer (some ⟨b2, 0, none⟩)) :: (4, .pointer (some ⟨b4, 0, none⟩)) :: (5, .bool false) :: (6, .int .i64 e26) :: (7, .pointer (some ⟨b35, 0, none⟩)) :: (8, .int .i64 x.2.1) :: []) (fun x w => St0 All w0 w (.row (.slice x.2.2.2.1 x.2.2.1.length x.2.2.2.2) 53 3 x.2.2.1.length (Yg Vv x.2.2.1) :: .box b35 [.int .u8 3, .int .i64 x0.id, .int .i64 x1, .int .i64 x0.tuple.term, .int .i64 x0.binary, .int .i64 (IntKind.wrap .i64 (e26 - 1)), .int .i64 r38.1, .int .i64 x0.commit, .bool false, .slice x.2.2.2.1 x.2.2.1.length x.2.2.2.2, .int .i64 0, .int .i64 0, .int .i64 0, .int .i64 0, .bool false] 32 :: .box b4 [.int .u8 0, .int .i64 0, .int .i64 0, .int .i64 0, .int .i64 0, .int .i64 0, .int .i64 0, .int .i64 0, .bool false, .slice none 0 0, .int .i64 0, .int .i64 0, .int .i64 0, .int .i64 0, .bool false] 32 :: .box b2 [.int .i64 x0.id, .int .i64 x0.n, .int .u8 x0.role, .int .i64 x0.binary, .int .i64 x0.tuple.snap.index, .int .i64 x0.tuple.snap.term, .int .i64 x0.tuple.snap.sum, .int .i64 x0.tuple.snap.level, .bool x0.tuple.snap.final, .slice A0_ x0.tuple.log.length c0_, .int .i64 x0.tuple.term, .int .i64 x0.tuple.vote, .int .i64 x0.commit, .int .i64 x0.applied.index, .int .i64 x0.applied.term, .int .i64 x0.applied.sum, .int .i64 x0.applied.level, .bool x0.applied.final, .slice A1_ x0.votes.length c1_, .slice A2_ x0.next.length c2_, .slice A3_ x0.mtch.length c3_, .slice A4_ x0.caps.length c4_] 30 :: []) ∧ (x.2.2.1.length ≤ x.2.2.2.2 ∧ x.2.2.2.2 ≤ maxLen) ∧ Vt x0 x1 e26 r38 x.1 x.2.1 x.2.2.1 = some r) (fun x => x.1) (Xr, e26, [], none, 0) (by repeat (first | exact Sub.nil | refine Sub.cons rfl ?_)) ⟨hS, ⟨Nat.le_refl _, Nat.zero_le _⟩, H⟩ ?_
 rintro ⟨n, v42, v43, A44, c45⟩ w ⟨hS, k46, H⟩
 dsimp only at hS k46 H ⊢
 obtain _ | n := n
 ·have H0 : none = some r := H
  cases H0
 rw [Vt] at H
 refine Zd (fun K hK48 => Zd (fun K hK49 => Ze (Zb 2 rfl (Za rfl rfl rfl (Xd rfl rfl) (Za rfl rfl rfl (Xk rfl rfl) (Zg (Zc hK49 ?_)))))))
 refine Zy rfl (fun hb => ?_) (fun hb => ?_)
 rotate_left
 ·replace H := Zo H hb
  refine X1 (Z8 (Z8 (Yz (Zc hK40 (Zd (fun K hK68 => Ze (Za rfl rfl rfl (Zi Xn rfl (Zhr _) hS Xa trivial Y2) ?_)))))))
  refine Zl rfl rfl rfl CellsOf.agg hS ps2 Zaq (by kernel_rfl) rfl (fun w hS hB => Zb 1 rfl (Zg (Zc hK68 (Zk (Zm rfl (RV.cell rfl (Zu Xn hS Xq Y2) (RV.tmp rfl RV.nil)) rfl ?_)))))
  obtain rfl := QJ H
  have hS := hS.front 0 rfl
  replace hS := hS.cut 1
  exact ⟨A44, c45, rfl, k46, hS⟩
 replace H := Zp H hb
 refine Zr (Zc hK48 (Zd (fun K hK51 => Yd (Zd (fun K hK52 => Ze (Za rfl rfl rfl (Zf Yy rfl) (Za rfl rfl rfl (Zi Ya rfl (Zhr _) hS hs3 trivial Jv) ?_)))))))
 refine Zb 1 rfl ?_
 obtain ⟨r53, hm54, H⟩ := bind_some H
 refine Zn rfl rfl rfl rfl (by kernel_rfl) rfl (c_ref12_At x0.tuple v42 A0_ c0_ _ (Zhu s0_.k (hS.rd0 s0_.rd) (hS.blk0 s0_.blk)) hm54) ?_
 rintro e w ⟨rfl, hN⟩; refine ⟨_, rfl, ?_⟩; obtain ⟨hB, hS⟩ := hS.jn hN
 refine Zb 1 rfl (Za rfl rfl rfl (Zv rfl rfl) (Za rfl rfl rfl (Zv rfl rfl) (Z5 rfl rfl Zdh hS (fun b55 w hS hB => Zl rfl rfl rfl CellsOf.agg hS ps0 st0_3 (by kernel_rfl) rfl (fun w hS hB => Zb 1 rfl (Zg (Zc hK52 ?_)))))))
 refine Zd (fun K hK57 => Ze (Zb 1 rfl (Zg (Zc hK57 (Zy rfl (fun hb => ?_) (fun hb => ?_))))))
 rotate_left
 ·replace H := Zo H hb
  refine Zr (Z3 (Zc hK51 (Ze (Zb 1 rfl (Za rfl rfl rfl (Xd rfl rfl) (Zb 1 rfl (Zg ?_)))))))
  exact X2 (n, (IntKind.wrap .i64 (v42 + 1)), v43, A44, c45) (by repeat (first | exact Sub.nil | refine Sub.cons rfl ?_)) ⟨(hS.sub (List.Sublist.cons _ (List.Sublist.cons_cons _ (List.Sublist.cons_cons _ (List.Sublist.cons_cons _ (List.Sublist.cons_cons _ List.Sublist.slnil)))))), k46, H⟩ (Nat.lt_succ_self _)
 replace H := Zp H hb
 refine Ze (Za rfl rfl rfl (Zf X8 rfl) (Za rfl rfl rfl (Zh Xx rfl (Zhr _) hS Xq trivial Zak) (Za rfl rfl rfl (Zi Jt rfl (Zhr _) hS hs0 trivial Zd3) (Xb (ps := [(0, .tmp 88)]) [.int .i64 r53.1.term, .int .i64 r53.1.kind, .int .i64 r53.1.value] Y8 Zdh rfl rfl rfl rfl rfl (by kernel_rfl) hS (fun b59 w hS hB => ?_)))))
 obtain ⟨l61, hf62, H⟩ := bind_some H
 refine Jf (ys := ([r53.1] : List En)) Xy oc_enE em_24 (by decide) rfl rfl rfl rfl hS (fun _ => ps2) (hS.box_rd hs0) hf62 (fun A63 c64 w k65 hS => ?_)
 refine Za rfl rfl rfl (Zf X8 rfl) (Zl rfl rfl rfl CellsOf.slice hS ps3 st9_1 (by kernel_rfl) rfl (fun w hS hB => Zg (Z3 (Zc hK51 (Ze (Zb 1 rfl (Za rfl rfl rfl (Xd rfl rfl) ?_)))))))
 refine Zb 1 rfl (Zg ?_)
 exact X2 (n, (IntKind.wrap .i64 (v42 + 1)), l61, A63, c64) (by repeat (first | exact Sub.nil | refine Sub.cons rfl ?_)) ⟨(hS.sub (List.Sublist.cons _ (List.Sublist.cons _ (List.Sublist.cons_cons _ (List.Sublist.cons_cons _ (List.Sublist.cons_cons _ (List.Sublist.cons_cons _ List.Sublist.slnil))))))), k65, H⟩ (Nat.lt_succ_self _)
theorem Zbi (x0 : Co) (x1 : Ms) (x2 : Bool) (x3 : Int) (A0_ : OA) (c0_ : Nat) (A1_ : OA) (c1_ : Nat) (A2_ : OA) (c2_ : Nat) (A3_ : OA) (c3_ : Nat) (A4_ : OA) (c4_ : Nat) (A5_ : OA) (c5_ : Nat) (w0 : World) (s0_ : SlI w0 Vv A0_ c0_ x0.tuple.log) (s1_ : SlI w0 enO A1_ c1_ x0.votes) (s2_ : SlI w0 Vh A2_ c2_ x0.next) (s3_ : SlI w0 Vh A3_ c3_ x0.mtch) (s4_ : SlI w0 Vh A4_ c4_ x0.caps) (s5_ : SlI w0 Vv A5_ c5_ x1.entries) {r : List Ms} (H : V1 x0 x1 x2 x3 = some r) : Calls Tryz.prog 77 #[.agg #[.int .i64 x0.id, .int .i64 x0.n, .int .u8 x0.role, .int .i64 x0.binary, .int .i64 x0.tuple.snap.index, .int .i64 x0.tuple.snap.term, .int .i64 x0.tuple.snap.sum, .int .i64 x0.tuple.snap.level, .bool x0.tuple.snap.final, .slice A0_ x0.tuple.log.length c0_, .int .i64 x0.tuple.term, .int .i64 x0.tuple.vote, .int .i64 x0.commit, .int .i64 x0.applied.index, .int .i64 x0.applied.term, .int .i64 x0.applied.sum, .int .i64 x0.applied.level, .bool x0.applied.final, .slice A1_ x0.votes.length c1_, .slice A2_ x0.next.length c2_, .slice A3_ x0.mtch.length c3_, .slice A4_ x0.caps.length c4_], .agg #[.int .u8 x1.kind, .int .i64 x1.frm, .int .i64 x1.dst, .int .i64 x1.term, .int .i64 x1.cap, .int .i64 x1.last, .int .i64 x1.lastTerm, .int .i64 x1.commit, .bool x1.okk, .slice A5_ x1.entries.length c5_, .int .i64 x1.snap.index, .int .i64 x1.snap.term, .int .i64 x1.snap.sum, .int .i64 x1.snap.level, .bool x1.snap.final], .bool x2, .int .i64 x3] w0 fun e w' => ∃ (A0 : OA) (c0 : Nat) (q0 : List Mq), e = .returned (.slice A0 r.length c0) ∧ (r.length ≤ c0 ∧ c0 ≤ maxLen) ∧ q0.map Mq.m = r ∧ (∀ y ∈ q0, okQ y) ∧ St0 All w0 w' [.rd A0 (Yg enQ q0), .rds (q0.map subQ)] := by
 unfold V1 at H
 refine Zhm Tryz.func77 rfl Tryz.ntmps77 rfl ?_
 have hS := St0.start All w0
 refine Zd (fun K hK1 => Ze (Z4 rfl rfl rfl CellsOf.agg hS (fun b2 w hS hB => Z4 rfl rfl rfl CellsOf.agg hS (fun b4 w hS hB => Zb 1 rfl (Zg (Zc hK1 (Zd (fun K hK6 => ?_))))))))
 refine Ze (Za rfl rfl rfl (Zi Z7 rfl (Zhr _) hS Xa trivial Zz) (Za rfl rfl rfl (Zi Xn rfl (Zhr _) hS hs0 trivial Y2) (Zb 2 rfl ?_)))
 obtain ⟨r7, hm8, H⟩ := bind_some H
 refine Zn rfl rfl rfl rfl (by kernel_rfl) rfl (c_ref20_Back x0 x1 4 x2 x3 A0_ c0_ A1_ c1_ A2_ c2_ A3_ c3_ A4_ c4_ A5_ c5_ _ (Zhu s0_.k (hS.rd0 s0_.rd) (hS.blk0 s0_.blk)) (Zhu s1_.k (hS.rd0 s1_.rd) (hS.blk0 s1_.blk)) (Zhu s2_.k (hS.rd0 s2_.rd) (hS.blk0 s2_.blk)) (Zhu s3_.k (hS.rd0 s3_.rd) (hS.blk0 s3_.blk)) (Zhu s4_.k (hS.rd0 s4_.rd) (hS.blk0 s4_.blk)) (Zhu s5_.k (hS.rd0 s5_.rd) (hS.blk0 s5_.blk)) hm8) ?_
 rintro e w ⟨A9, c10, rfl, k11, hN⟩; refine ⟨_, rfl, ?_⟩; obtain ⟨hB, hS⟩ := hS.jn hN
 refine Xb (ps := [(0, .tmp 13)]) [.int .u8 r7.kind, .int .i64 r7.frm, .int .i64 r7.dst, .int .i64 r7.term, .int .i64 r7.cap, .int .i64 r7.last, .int .i64 r7.lastTerm, .int .i64 r7.commit, .bool r7.okk, .slice A9 r7.entries.length c10, .int .i64 r7.snap.index, .int .i64 r7.snap.term, .int .i64 r7.snap.sum, .int .i64 r7.snap.level, .bool r7.snap.final] Zbf Zba rfl rfl rfl rfl rfl (by kernel_rfl) hS (fun b13 w hS hB => Zb 1 rfl (Zg (Zc hK6 (Zk (Zm rfl (RV.tmp rfl RV.nil) rfl ?_)))))
 obtain rfl := QJ H
 have hS := hS.nilRds
 replace hS := hS.front 2 rfl
 replace hS := hS.absorbQ ⟨r7, A9, c10⟩
 replace hS := hS.front 1 rfl
 replace hS := hS.weak Weak.boxRd
 replace hS := hS.cut 2
 exact ⟨(some ⟨b13, 0, none⟩), 1, ([⟨r7, A9, c10⟩] : List Mq), rfl, ⟨Nat.le_refl 1, by decide⟩, rfl, (Zac k11 Vy), hS⟩
theorem c_ref12_Cut (x0 : Tu) (x1 : Int) (A0_ : OA) (c0_ : Nat) (w0 : World) (s0_ : SlI w0 Vv A0_ c0_ x0.log) {r : Tu × Int} (H : Zfm x0 x1 = some r) : Calls Tryz.prog 121 #[.agg #[.int .i64 x0.snap.index, .int .i64 x0.snap.term, .int .i64 x0.snap.sum, .int .i64 x0.snap.level, .bool x0.snap.final, .slice A0_ x0.log.length c0_, .int .i64 x0.term, .int .i64 x0.vote], .int .i64 x1] w0 fun e w' => ∃ (A0 : OA) (c0 : Nat), e = .returned (.tuple #[.agg #[.int .i64 r.1.snap.index, .int .i64 r.1.snap.term, .int .i64 r.1.snap.sum, .int .i64 r.1.snap.level, .bool r.1.snap.final, .slice A0 r.1.log.length c0, .int .i64 r.1.term, .int .i64 r.1.vote], .int .i64 r.2]) ∧ (r.1.log.length ≤ c0 ∧ c0 ≤ maxLen) ∧ St0 All w0 w' [.rd A0 (Yg Vv r.1.log)] := by
 unfold Zfm at H
 refine Yn Tryz.func121 rfl Tryz.ntmps121 rfl ?_
 have hS := St0.start All w0
 refine Zd (fun K hK1 => Ze (Z4 rfl rfl rfl CellsOf.agg hS (fun b2 w hS hB => Z5 rfl rfl Zal hS (fun b4 w hS hB => Zb 1 rfl (Zg (Zc hK1 (Zd (fun K hK6 => ?_))))))))
 refine Zd (fun K hK7 => Ze (Zb 1 rfl (Za rfl rfl rfl (Zf Xj rfl) (Za rfl rfl rfl (Zf Yj rfl) (Za rfl rfl rfl (Zh Z1 rfl (Zhr _) hS Xa trivial Y4) (Za rfl rfl rfl (Za5 rfl rfl) (Zb 1 rfl ?_)))))))
 refine Zs 12 rfl (fun hb => ?_) (fun hb => ?_)
 ·replace H := Zp H hb
  refine Zb 6 rfl (Zg (Zc hK7 (Zt rfl rfl (Zd (fun K hK9 => Ze (Za rfl rfl rfl (Zi Ya rfl (Zhr _) hS Xa trivial Yx) (Za rfl rfl rfl (Zi Ya rfl (Zhr _) hS Xa trivial Yx) ?_)))))))
  refine Jy rfl rfl rfl rfl (by kernel_rfl) rfl ?_
  show Calls _ _ #[_, _, _] _ _
  refine Vx Tryz.func103 rfl Tryz.ntmps103 rfl (Zd (fun K hK10 => Ze (Z4 rfl rfl rfl CellsOf.agg hS (fun b11 w hS hB => Z4 rfl rfl rfl CellsOf.agg hS (fun b13 w hS hB => Z5 rfl rfl Zal hS (fun b15 w hS hB => Zb 1 rfl (Zg ?_)))))))
  refine Zc hK10 (Zd (fun K hK17 => Zd (fun K hK18 => Ze (Zb 1 rfl (Za rfl rfl rfl (Ys rfl) (Zb 10 rfl (Zg ?_)))))))
  refine Zc hK18 (Zt rfl rfl (Zd (fun K hK19 => Ze (Za rfl rfl rfl (Zi Ya rfl (Zhr _) hS Xq trivial Yx) ?_))))
  obtain ⟨r20, hm21, H⟩ := bind_some H
  refine Zn rfl rfl rfl rfl (by kernel_rfl) rfl (Va x0 A0_ c0_ _ (Zhu s0_.k (hS.rd0 s0_.rd) (hS.blk0 s0_.blk)) hm21) ?_
  rintro e w ⟨A22, c23, rfl, k24, hN⟩; refine ⟨_, rfl, ?_⟩; obtain ⟨hB, hS⟩ := hS.jn hN
  refine Zl rfl rfl rfl CellsOf.agg hS ps1 X0 (by kernel_rfl) rfl (fun w hS hB => Zb 1 rfl (Zg (Zc hK19 (Zk (Zj (Zm rfl (RV.cell rfl (Zu Ya hS Xa Yx) (RV.tmp rfl RV.nil)) rfl (⟨_, rfl, ?_⟩)))))))
  refine Za rfl rfl rfl (Zv rfl rfl) (Za rfl rfl rfl (Zv rfl rfl) (Zl rfl rfl rfl CellsOf.agg hS ps4 X0 (by kernel_rfl) rfl (fun w hS hB => Zb 1 rfl (Zg (Zc hK9 (Zk (Zj ?_)))))))
  refine Zm rfl (RV.cell rfl (Zu Ya hS hs4 Yx) (RV.tmp rfl RV.nil)) rfl ?_
  obtain rfl := QJ H
  have hS := hS.front 0 rfl
  replace hS := hS.weak Weak.rowRd
  replace hS := hS.cut 1
  exact ⟨A22, c23, rfl, k24, hS⟩
 replace H := Zo H hb
 refine Zb 1 rfl (Za rfl rfl rfl (Zi Ya rfl (Zhr _) hS Xa trivial Yx) ?_)
 obtain ⟨r27, hm28, H⟩ := bind_some H
 refine Zn rfl rfl rfl rfl (by kernel_rfl) rfl (Zbd x0 A0_ c0_ _ (Zhu s0_.k (hS.rd0 s0_.rd) (hS.blk0 s0_.blk)) hm28) ?_
 rintro e w ⟨rfl, hN⟩; refine ⟨_, rfl, ?_⟩; obtain ⟨hB, hS⟩ := hS.jn hN
 refine Za rfl rfl rfl (Xd rfl rfl) (Za rfl rfl rfl (Xc rfl rfl) (Zb 1 rfl (Zg (Zc hK7 (Zy rfl (fun hb => ?_) (fun hb => ?_))))))
 ·replace H := Zp H hb
  refine Zd (fun K hK30 => Ze (Za rfl rfl rfl (Zi Ya rfl (Zhr _) hS Xa trivial Yx) (Za rfl rfl rfl (Zi Ya rfl (Zhr _) hS Xa trivial Yx) (Jy rfl rfl rfl rfl (by kernel_rfl) rfl ?_))))
  show Calls _ _ #[_, _, _] _ _
  refine Vx Tryz.func103 rfl Tryz.ntmps103 rfl (Zd (fun K hK31 => Ze (Z4 rfl rfl rfl CellsOf.agg hS (fun b32 w hS hB => Z4 rfl rfl rfl CellsOf.agg hS (fun b34 w hS hB => Z5 rfl rfl Zal hS (fun b36 w hS hB => Zb 1 rfl (Zg ?_)))))))
  refine Zc hK31 (Zd (fun K hK38 => Zd (fun K hK39 => Ze (Zb 1 rfl (Za rfl rfl rfl (Ys rfl) (Zb 10 rfl (Zg ?_)))))))
  refine Zc hK39 (Zt rfl rfl (Zd (fun K hK40 => Ze (Za rfl rfl rfl (Zi Ya rfl (Zhr _) hS Xq trivial Yx) ?_))))
  obtain ⟨r41, hm42, H⟩ := bind_some H
  refine Zn rfl rfl rfl rfl (by kernel_rfl) rfl (Va x0 A0_ c0_ _ (Zhu s0_.k (hS.rd0 s0_.rd) (hS.blk0 s0_.blk)) hm42) ?_
  rintro e w ⟨A43, c44, rfl, k45, hN⟩; refine ⟨_, rfl, ?_⟩; obtain ⟨hB, hS⟩ := hS.jn hN
  refine Zl rfl rfl rfl CellsOf.agg hS ps1 X0 (by kernel_rfl) rfl (fun w hS hB => Zb 1 rfl (Zg (Zc hK40 (Zk (Zj (Zm rfl (RV.cell rfl (Zu Ya hS Xa Yx) (RV.tmp rfl RV.nil)) rfl (⟨_, rfl, ?_⟩)))))))
  refine Za rfl rfl rfl (Zv rfl rfl) (Za rfl rfl rfl (Zv rfl rfl) (Zl rfl rfl rfl CellsOf.agg hS ps4 X0 (by kernel_rfl) rfl (fun w hS hB => Zb 1 rfl (Zg (Zc hK30 (Zk (Zj ?_)))))))
  refine Zm rfl (RV.cell rfl (Zu Ya hS hs4 Yx) (RV.tmp rfl RV.nil)) rfl ?_
  obtain rfl := QJ H
  have hS := hS.front 0 rfl
  replace hS := hS.weak Weak.rowRd
  replace hS := hS.cut 1
  exact ⟨A43, c44, rfl, k45, hS⟩
 replace H := Zo H hb
 refine Zr (Zc hK6 (Zd (fun K hK48 => Ze (Za rfl rfl rfl (Zi Ya rfl (Zhr _) hS Xa trivial Yx) ?_))))
 obtain ⟨r49, hm50, H⟩ := bind_some H
 refine Zn rfl rfl rfl rfl (by kernel_rfl) rfl (Va x0 A0_ c0_ _ (Zhu s0_.k (hS.rd0 s0_.rd) (hS.blk0 s0_.blk)) hm50) ?_
 rintro e w ⟨A51, c52, rfl, k53, hN⟩; refine ⟨_, rfl, ?_⟩; obtain ⟨hB, hS⟩ := hS.jn hN
 refine Z5 rfl rfl Zal hS (fun b55 w hS hB => Zl rfl rfl rfl CellsOf.agg hS ps0 X0 (by kernel_rfl) rfl (fun w hS hB => Zg (Zc hK48 (Zd (fun K hK57 => Ze (Za rfl rfl rfl (Zf X4 rfl) (Za rfl rfl rfl (Zh Xx rfl (Zhr _) hS hs0 trivial Jd) ?_)))))))
 refine Zb 1 rfl (Za rfl rfl rfl (Zf Xj rfl) (Za rfl rfl rfl (Zf Yj rfl) (Za rfl rfl rfl (Zh Z1 rfl (Zhr _) hS hs3 trivial Y4) (Za rfl rfl rfl (Ju rfl rfl) (Za rfl rfl rfl (Ju rfl rfl) ?_)))))
 obtain ⟨l58, ht59, H⟩ := bind_some H
 refine Za rfl rfl rfl (yx_slice_h Y8 rfl rfl k53.1 ht59) (Za rfl rfl rfl (Zf X4 rfl) (Zl rfl rfl rfl CellsOf.slice hS ps0 st5_1 (by kernel_rfl) rfl (fun w hS hB => Zg (Zc hK57 (Zd (fun K hK60 => Ze (Za rfl rfl rfl (Zi Ya rfl (Zhr _) hS hs3 trivial Yx) ?_)))))))
 refine Za rfl rfl rfl (Zi Ya rfl (Zhr _) hS hs0 trivial Yx) (Jy rfl rfl rfl rfl (by kernel_rfl) rfl ?_)
 show Calls _ _ #[_, _, _] _ _
 refine Vx Tryz.func103 rfl Tryz.ntmps103 rfl (Zd (fun K hK61 => Ze (Z4 rfl rfl rfl CellsOf.agg hS (fun b62 w hS hB => Z4 rfl rfl rfl CellsOf.agg hS (fun b64 w hS hB => Z5 rfl rfl Zal hS (fun b66 w hS hB => Zb 1 rfl (Zg ?_)))))))
 refine Zc hK61 (Zd (fun K hK68 => Zd (fun K hK69 => Ze (Zb 1 rfl (Za rfl rfl rfl (Ys rfl) (Zb 1 rfl (Za rfl rfl rfl (Zi Ya rfl (Zhr _) hS Xq trivial Yx) ?_)))))))
 obtain ⟨r70, hm71, H⟩ := bind_some H
 refine Zn rfl rfl rfl rfl (by kernel_rfl) rfl (V9 x0 A0_ c0_ _ (Zhu s0_.k (hS.rd0 s0_.rd) (hS.blk0 s0_.blk)) hm71) ?_
 rintro e w ⟨rfl, hN⟩; refine ⟨_, rfl, ?_⟩; obtain ⟨hB, hS⟩ := hS.jn hN
 refine Za rfl rfl rfl (Ys rfl) (Zb 2 rfl (Zs 15 rfl (fun hb => ?_) (fun hb => ?_)))
 ·replace H := Zp H hb
  refine Zb 4 rfl (Zg (Zc hK69 (Zt rfl rfl (Zd (fun K hK73 => Ze (Za rfl rfl rfl (Zi Ya rfl (Zhr _) hS Xq trivial Yx) ?_))))))
  obtain ⟨r74, hm75, H⟩ := bind_some H
  refine Zn rfl rfl rfl rfl (by kernel_rfl) rfl (Va x0 A0_ c0_ _ (Zhu s0_.k (hS.rd0 s0_.rd) (hS.blk0 s0_.blk)) hm75) ?_
  rintro e w ⟨A76, c77, rfl, k78, hN⟩; refine ⟨_, rfl, ?_⟩; obtain ⟨hB, hS⟩ := hS.jn hN
  refine Zl rfl rfl rfl CellsOf.agg hS ps1 X0 (by kernel_rfl) rfl (fun w hS hB => Zb 1 rfl (Zg (Zc hK73 (Zk (Zj (Zm rfl (RV.cell rfl (Zu Ya hS Xa Yx) (RV.tmp rfl RV.nil)) rfl (⟨_, rfl, ?_⟩)))))))
  refine Za rfl rfl rfl (Zv rfl rfl) (Za rfl rfl rfl (Zv rfl rfl) (Zl rfl rfl rfl CellsOf.agg hS ps6 X0 (by kernel_rfl) rfl (fun w hS hB => Zb 1 rfl (Zg (Zc hK60 (Zk (Zm rfl (RV.cell rfl (Zu Ya hS hs6 Yx) (RV.tmp rfl RV.nil)) rfl ?_)))))))
  obtain rfl := QJ H
  have hS := hS.front 0 rfl
  replace hS := hS.weak Weak.rowRd
  replace hS := hS.cut 1
  exact ⟨A76, c77, rfl, k78, hS⟩
 replace H := Zo H hb
 refine Za rfl rfl rfl (Zi Ya rfl (Zhr _) hS Xa trivial Yx) ?_
 obtain ⟨r81, hm82, H⟩ := bind_some H
 refine Zn rfl rfl rfl rfl (by kernel_rfl) rfl (V9 {r49 with log := l58} A51 c52 _ (Zhu (k_take k53 ht59) (Rd.takeI Xy (hS.row_rd hs4) ht59) (hS.row_blk hs4)) hm82) ?_
 rintro e w ⟨rfl, hN⟩; refine ⟨_, rfl, ?_⟩; obtain ⟨hB, hS⟩ := hS.jn hN
 refine Za rfl rfl rfl (Ys rfl) (Zb 1 rfl (Zg (Zc hK69 (Zy rfl (fun hb => ?_) (fun hb => ?_)))))
 rotate_left
 ·replace H := Zo H hb
  refine Zr (Zc hK68 (Zd (fun K hK92 => Ze (Za rfl rfl rfl (Zi Ya rfl (Zhr _) hS Xa trivial Yx) (Zl rfl rfl rfl CellsOf.agg hS ps0 X0 (by kernel_rfl) rfl (fun w hS hB => Zb 1 rfl (Zg ?_)))))))
  refine Zc hK92 (Zk (Zm rfl (RV.cell rfl (Zu Ya hS hs0 Yx) (RV.tmp rfl RV.nil)) rfl (⟨_, rfl, ?_⟩)))
  refine Za rfl rfl rfl (Zv rfl rfl) (Za rfl rfl rfl (Zv rfl rfl) (Zl rfl rfl rfl CellsOf.agg hS ps5 X0 (by kernel_rfl) rfl (fun w hS hB => Zb 1 rfl (Zg (Zc hK60 (Zk (Zm rfl (RV.cell rfl (Zu Ya hS hs5 Yx) (RV.tmp rfl RV.nil)) rfl ?_)))))))
  obtain rfl := QJ H
  have hS := hS.front 4 rfl
  replace hS := hS.weak Weak.rowRd
  replace hS := hS.weak (Weak.rdTake Xy ht59)
  replace hS := hS.cut 1
  exact ⟨A51, c52, rfl, (k_take k53 ht59), hS⟩
 replace H := Zp H hb
 refine Zd (fun K hK84 => Ze (Za rfl rfl rfl (Zi Ya rfl (Zhr _) hS Xq trivial Yx) ?_))
 obtain ⟨r85, hm86, H⟩ := bind_some H
 refine Zn rfl rfl rfl rfl (by kernel_rfl) rfl (Va x0 A0_ c0_ _ (Zhu s0_.k (hS.rd0 s0_.rd) (hS.blk0 s0_.blk)) hm86) ?_
 rintro e w ⟨A87, c88, rfl, k89, hN⟩; refine ⟨_, rfl, ?_⟩; obtain ⟨hB, hS⟩ := hS.jn hN
 refine Zl rfl rfl rfl CellsOf.agg hS ps1 X0 (by kernel_rfl) rfl (fun w hS hB => Zb 1 rfl (Zg (Zc hK84 (Zk (Zj (Zm rfl (RV.cell rfl (Zu Ya hS Xa Yx) (RV.tmp rfl RV.nil)) rfl (⟨_, rfl, ?_⟩)))))))
 refine Za rfl rfl rfl (Zv rfl rfl) (Za rfl rfl rfl (Zv rfl rfl) (Zl rfl rfl rfl CellsOf.agg hS ps6 X0 (by kernel_rfl) rfl (fun w hS hB => Zb 1 rfl (Zg (Zc hK60 (Zk (Zm rfl (RV.cell rfl (Zu Ya hS hs6 Yx) (RV.tmp rfl RV.nil)) rfl ?_)))))))
 obtain rfl := QJ H
 have hS := hS.front 0 rfl
 replace hS := hS.weak Weak.rowRd
 replace hS := hS.cut 1
 exact ⟨A87, c88, rfl, k89, hS⟩
theorem Zgz (x0 : Co) (A0_ : OA) (c0_ : Nat) (A1_ : OA) (c1_ : Nat) (A2_ : OA) (c2_ : Nat) (A3_ : OA) (c3_ : Nat) (A4_ : OA) (c4_ : Nat) (w0 : World) (s0_ : SlI w0 Vv A0_ c0_ x0.tuple.log) (s1_ : SlI w0 enO A1_ c1_ x0.votes) (s2_ : SlI w0 Vh A2_ c2_ x0.next) (s3_ : SlI w0 Vh A3_ c3_ x0.mtch) (s4_ : SlI w0 Vh A4_ c4_ x0.caps) {r : Co} (H : Zay x0 = some r) : Calls Tryz.prog 37 #[.agg #[.int .i64 x0.id, .int .i64 x0.n, .int .u8 x0.role, .int .i64 x0.binary, .int .i64 x0.tuple.snap.index, .int .i64 x0.tuple.snap.term, .int .i64 x0.tuple.snap.sum, .int .i64 x0.tuple.snap.level, .bool x0.tuple.snap.final, .slice A0_ x0.tuple.log.length c0_, .int .i64 x0.tuple.term, .int .i64 x0.tuple.vote, .int .i64 x0.commit, .int .i64 x0.applied.index, .int .i64 x0.applied.term, .int .i64 x0.applied.sum, .int .i64 x0.applied.level, .bool x0.applied.final, .slice A1_ x0.votes.length c1_, .slice A2_ x0.next.length c2_, .slice A3_ x0.mtch.length c3_, .slice A4_ x0.caps.length c4_]] w0 fun e w' => ∃ (A0 : OA) (c0 : Nat) (A1 : OA) (c1 : Nat) (A2 : OA) (c2 : Nat) (A3 : OA) (c3 : Nat) (A4 : OA) (c4 : Nat), e = .returned (.agg #[.int .i64 r.id, .int .i64 r.n, .int .u8 r.role, .int .i64 r.binary, .int .i64 r.tuple.snap.index, .int .i64 r.tuple.snap.term, .int .i64 r.tuple.snap.sum, .int .i64 r.tuple.snap.level, .bool r.tuple.snap.final, .slice A0 r.tuple.log.length c0, .int .i64 r.tuple.term, .int .i64 r.tuple.vote, .int .i64 r.commit, .int .i64 r.applied.index, .int .i64 r.applied.term, .int .i64 r.applied.sum, .int .i64 r.applied.level, .bool r.applied.final, .slice A1 r.votes.length c1, .slice A2 r.next.length c2, .slice A3 r.mtch.length c3, .slice A4 r.caps.length c4]) ∧ (r.tuple.log.length ≤ c0 ∧ c0 ≤ maxLen) ∧ (r.votes.length ≤ c1 ∧ c1 ≤ maxLen) ∧ (r.next.length ≤ c2 ∧ c2 ≤ maxLen) ∧ (r.mtch.length ≤ c3 ∧ c3 ≤ maxLen) ∧ (r.caps.length ≤ c4 ∧ c4 ≤ maxLen) ∧ St0 All w0 w' [.row (.slice A0 r.tuple.log.length c0) 53 3 r.tuple.log.length (Yg Vv r.tuple.log), .row (.slice A1 r.votes.length c1) 4 1 r.votes.length (Yg enO r.votes), .row (.slice A2 r.next.length c2) 3 1 r.next.length (Yg Vh r.next), .row (.slice A3 r.mtch.length c3) 3 1 r.mtch.length (Yg Vh r.mtch), .row (.slice A4 r.caps.length c4) 3 1 r.caps.length (Yg Vh r.caps)] := by
 unfold Zay at H
 refine Yp Tryz.func37 rfl Tryz.ntmps37 rfl ?_
 have hS := St0.start All w0
 refine Zd (fun K hK1 => Ze (Z4 rfl rfl rfl CellsOf.agg hS (fun b2 w hS hB => Z5 rfl rfl Zdk hS (fun b4 w hS hB => Zg (Zc hK1 (Zd (fun K hK6 => Ze ?_)))))))
 refine Za rfl rfl rfl (Zi Z7 rfl (Zhr _) hS Xa trivial Zz) ?_
 obtain ⟨r7, hm8, H⟩ := bind_some H
 refine Zn rfl rfl rfl rfl (by kernel_rfl) rfl (Zcw x0 A0_ c0_ A1_ c1_ A2_ c2_ A3_ c3_ A4_ c4_ _ (Zhu s0_.k (hS.rd0 s0_.rd) (hS.blk0 s0_.blk)) (Zhu s1_.k (hS.rd0 s1_.rd) (hS.blk0 s1_.blk)) (Zhu s2_.k (hS.rd0 s2_.rd) (hS.blk0 s2_.blk)) (Zhu s3_.k (hS.rd0 s3_.rd) (hS.blk0 s3_.blk)) (Zhu s4_.k (hS.rd0 s4_.rd) (hS.blk0 s4_.blk)) hm8) ?_
 rintro e w ⟨A9, c10, A13, c14, A17, c18, A21, c22, A25, c26, rfl, k11, k15, k19, k23, k27, hN⟩; refine ⟨_, rfl, ?_⟩; obtain ⟨hB, hS⟩ := hS.jn hN
 refine Zl rfl rfl rfl CellsOf.agg hS ps6 Yo (by kernel_rfl) rfl (fun w hS hB => Zg (Zc hK6 (Zd (fun K hK29 => Ze (Za rfl rfl rfl (Zf Yy rfl) (Za rfl rfl rfl (Zi Ya rfl (Zhr _) hS hs6 trivial Jv) ?_))))))
 obtain ⟨r30, hm31, H⟩ := bind_some H
 refine Zn rfl rfl rfl rfl (by kernel_rfl) rfl (Zbd r7.tuple A9 c10 _ (Zhu k11 (hS.row_rd hs0) (hS.row_blk hs0)) hm31) ?_
 rintro e w ⟨rfl, hN⟩; refine ⟨_, rfl, ?_⟩; obtain ⟨hB, hS⟩ := hS.jn hN
 refine Zb 1 rfl (Zg (Zc hK29 (Zd (fun K hK32 => Zd (fun K hK33 => Ze (Zb 1 rfl (Zg ?_)))))))
 refine Zc hK33 (Yd (Vq (X := Nat × Int × List Int) (fun x => (1, .pointer (some ⟨b2, 0, none⟩)) :: (2, .pointer (some ⟨b4, 0, none⟩)) :: (3, .int .i64 r30) :: (4, .int .i64 x.2.1) :: []) (fun x w => St0 All w0 w (.row (.slice A9 r7.tuple.log.length c10) 53 3 r7.tuple.log.length (Yg Vv r7.tuple.log) :: .row (.slice A13 r7.votes.length c14) 4 1 r7.votes.length (Yg enO r7.votes) :: .row (.slice A17 r7.next.length c18) 3 1 r7.next.length (Yg Vh x.2.2) :: .row (.slice A21 r7.mtch.length c22) 3 1 r7.mtch.length (Yg Vh r7.mtch) :: .row (.slice A25 r7.caps.length c26) 3 1 r7.caps.length (Yg Vh r7.caps) :: .box b4 [.int .i64 0, .int .i64 0, .int .u8 0, .int .i64 0, .int .i64 0, .int .i64 0, .int .i64 0, .int .i64 0, .bool false, .slice none 0 0, .int .i64 0, .int .i64 0, .int .i64 0, .int .i64 0, .int .i64 0, .int .i64 0, .int .i64 0, .bool false, .slice none 0 0, .slice none 0 0, .slice none 0 0, .slice none 0 0] 30 :: .box b2 [.int .i64 r7.id, .int .i64 r7.n, .int .u8 r7.role, .int .i64 r7.binary, .int .i64 r7.tuple.snap.index, .int .i64 r7.tuple.snap.term, .int .i64 r7.tuple.snap.sum, .int .i64 r7.tuple.snap.level, .bool r7.tuple.snap.final, .slice A9 r7.tuple.log.length c10, .int .i64 r7.tuple.term, .int .i64 r7.tuple.vote, .int .i64 r7.commit, .int .i64 r7.applied.index, .int .i64 r7.applied.term, .int .i64 r7.applied.sum, .int .i64 r7.applied.level, .bool r7.applied.final, .slice A13 r7.votes.length c14, .slice A17 r7.next.length c18, .slice A21 r7.mtch.length c22, .slice A25 r7.caps.length c26] 30 :: []) ∧ (x.2.2.length ≤ c18 ∧ c18 ≤ maxLen) ∧ (x.2.2.length = r7.next.length) ∧ Zb0 r7 r30 x.1 x.2.1 x.2.2 = some r) (fun x => x.1) (Xr, 0, r7.next) (by repeat (first | exact Sub.nil | refine Sub.cons rfl ?_)) ⟨hS, k19, rfl, H⟩ ?_))
 rintro ⟨n, v34, v35⟩ w ⟨hS, k36, hl37, H⟩
 dsimp only at hS k36 hl37 H ⊢
 obtain _ | n := n
 ·have H0 : none = some r := H
  cases H0
 rw [Zb0] at H
 refine Zd (fun K hK38 => Zd (fun K hK39 => Ze (Zb 1 rfl (Za rfl rfl rfl (Zf Vs rfl) (Za rfl rfl rfl (Zh X3 rfl (Zhr _) hS hs6 trivial Zat) (Za rfl rfl rfl (Y0 Xv rfl) (Za rfl rfl rfl (Xk rfl rfl) ?_)))))))
 refine Zg (Zc hK39 (Zy rfl (fun hb => ?_) (fun hb => ?_)))
 ·replace H := Zp H hb
  refine Zr (Zc hK38 (Zd (fun K hK41 => Yd (Yi 13 [12] (fun i b => (i = 12 → b = b4 ∨ b = b2)) ⟨by kernel_rfl, by kernel_rfl⟩ hS (fun w hS hB => Zq [Tt,Tt,Tt,Tt,Tt,Tt,Tt,Tt,Tt,Tt,Tt,Tt] (by decide +kernel) PFC.h (LtK.put rfl rfl rfl (Zf Vs rfl) (LtK.put rfl rfl rfl (Zh X3 rfl (Zhs _) hS hs6 trivial Zat) ?_)))))))
  refine LtK.put rfl rfl rfl (Zw rfl) (LtK.put rfl rfl rfl (Zf Vs rfl) (LtK.put rfl rfl rfl (Zh X3 rfl (Zhs _) hS hs6 trivial Zat) (LtK.put rfl rfl rfl (Zw rfl) ?_)))
  obtain ⟨e42, hi44, H⟩ := bind_some H
  obtain ⟨j43, hi44a, hi44b, hi44c⟩ := Yt hi44
  refine LtK.put rfl rfl rfl (Xf Xv rfl rfl hi44a (Nat.lt_of_lt_of_eq hi44c hl37) (Rd.el (hS.row_rd Xq) Yh hi44b)) (LtK.put rfl rfl rfl (Vj Z1 rfl (Zhs _) (Rd.el (hS.row_rd Xq) Yh hi44b) rfl) (LtK.put rfl rfl rfl (Zw rfl) (LtK.put rfl rfl rfl (Xd rfl rfl) (LtK.put rfl rfl rfl (Zdy rfl rfl) ?_))))
  obtain ⟨e45, hi47, H⟩ := bind_some H
  obtain ⟨j46, hi47a, hi47b, hi47c⟩ := Yt hi47
  refine LtK.put rfl rfl rfl (Xf Xv rfl rfl hi47a (Nat.lt_of_lt_of_eq hi47c hl37) (Rd.el (hS.row_rd Xq) Yh hi47b)) (LtK.nil (Yq [Ff,Ff,Ff,Ff,Ff,Ff,Ff,Ff,Ff,Ff,Ff,Ff,Tt] 12 ⟨by decide, by kernel_rfl, by kernel_rfl⟩ rfl rfl ?_))
  try dsimp only [Z0]
  refine Zbk (a' := (min e42 (IntKind.wrap .i64 (r30 + 1)))) (zs := (Zbe v35 v34 (min e42 (IntKind.wrap .i64 (r30 + 1))))) Yh rfl rfl rfl CellsOf.int hS ps2 (Rd.el (hS.row_rd Xq) Yh hi47b) hi47a hi47b rfl Zfp (by kernel_rfl) rfl (fun w hS hB => ?_)
  have hi48b := Zc8 (a := (min e42 (IntKind.wrap .i64 (r30 + 1)))) hi47a hi47b
  have hi48a := hi47a
  refine Zg (Yk (hB.sub (fun b _ h => by have h0 : b = b4 ∨ b = b2 := (by simpa using h); rcases h0 with h0 | h0; (rw [h0]; exact hS.neRow 5 2 rfl rfl); (rw [h0]; exact hS.neRow 6 2 rfl rfl))) ?_)
  refine Ye (by kernel_rfl) (Z3 (Zc hK41 (Ze (Zb 1 rfl (Za rfl rfl rfl (Xd rfl rfl) (Zb 1 rfl (Zg ?_)))))))
  exact X2 (n, (IntKind.wrap .i64 (v34 + 1)), (Zbe v35 v34 (min e42 (IntKind.wrap .i64 (r30 + 1))))) (by repeat (first | exact Sub.nil | refine Sub.cons rfl ?_)) ⟨hS, (Zhd k36), (Jg hl37), H⟩ (Nat.lt_succ_self _)
 replace H := Zo H hb
 refine X1 (Z8 (Z8 (Yz (Zc hK32 (Zd (fun K hK50 => Zd (fun K hK51 => Ze ?_)))))))
 refine Zb 1 rfl (Zg (Zc hK51 (Yd (Vq (X := Nat × Int × List Int) (fun x => (1, .pointer (some ⟨b2, 0, none⟩)) :: (2, .pointer (some ⟨b4, 0, none⟩)) :: (3, .int .i64 r30) :: (5, .int .i64 x.2.1) :: []) (fun x w => St0 All w0 w (.row (.slice A9 r7.tuple.log.length c10) 53 3 r7.tuple.log.length (Yg Vv r7.tuple.log) :: .row (.slice A13 r7.votes.length c14) 4 1 r7.votes.length (Yg enO r7.votes) :: .row (.slice A17 r7.next.length c18) 3 1 r7.next.length (Yg Vh v35) :: .row (.slice A21 r7.mtch.length c22) 3 1 r7.mtch.length (Yg Vh x.2.2) :: .row (.slice A25 r7.caps.length c26) 3 1 r7.caps.length (Yg Vh r7.caps) :: .box b4 [.int .i64 0, .int .i64 0, .int .u8 0, .int .i64 0, .int .i64 0, .int .i64 0, .int .i64 0, .int .i64 0, .bool false, .slice none 0 0, .int .i64 0, .int .i64 0, .int .i64 0, .int .i64 0, .int .i64 0, .int .i64 0, .int .i64 0, .bool false, .slice none 0 0, .slice none 0 0, .slice none 0 0, .slice none 0 0] 30 :: .box b2 [.int .i64 r7.id, .int .i64 r7.n, .int .u8 r7.role, .int .i64 r7.binary, .int .i64 r7.tuple.snap.index, .int .i64 r7.tuple.snap.term, .int .i64 r7.tuple.snap.sum, .int .i64 r7.tuple.snap.level, .bool r7.tuple.snap.final, .slice A9 r7.tuple.log.length c10, .int .i64 r7.tuple.term, .int .i64 r7.tuple.vote, .int .i64 r7.commit, .int .i64 r7.applied.index, .int .i64 r7.applied.term, .int .i64 r7.applied.sum, .int .i64 r7.applied.level, .bool r7.applied.final, .slice A13 r7.votes.length c14, .slice A17 r7.next.length c18, .slice A21 r7.mtch.length c22, .slice A25 r7.caps.length c26] 30 :: []) ∧ (x.2.2.length ≤ c22 ∧ c22 ≤ maxLen) ∧ (x.2.2.length = r7.mtch.length) ∧ Zbx r7 r30 v35 x.1 x.2.1 x.2.2 = some r) (fun x => x.1) (Xr, 0, r7.mtch) (by repeat (first | exact Sub.nil | refine Sub.cons rfl ?_)) ⟨hS, k23, rfl, H⟩ ?_))))
 rintro ⟨n, v52, v53⟩ w ⟨hS, k54, hl55, H⟩
 dsimp only at hS k54 hl55 H ⊢
 obtain _ | n := n
 ·have H0 : none = some r := H
  cases H0
 rw [Zbx] at H
 refine Zd (fun K hK56 => Zd (fun K hK57 => Ze (Zb 1 rfl (Za rfl rfl rfl (Zf Ji rfl) (Za rfl rfl rfl (Zh X3 rfl (Zhr _) hS hs6 trivial Zbo) (Za rfl rfl rfl (Y0 Xv rfl) (Za rfl rfl rfl (Xk rfl rfl) ?_)))))))
 refine Zg (Zc hK57 (Zy rfl (fun hb => ?_) (fun hb => ?_)))
 rotate_left
 ·replace H := Zo H hb
  refine X1 (Z8 (Z8 (Yz (Zc hK50 (Zd (fun K hK68 => Ze (Za rfl rfl rfl (Zi Z7 rfl (Zhr _) hS hs6 trivial Zz) ?_)))))))
  refine Zl rfl rfl rfl CellsOf.agg hS ps5 Yo (by kernel_rfl) rfl (fun w hS hB => Zg (Zc hK68 (Zk (Zm rfl (RV.cell rfl (Zu Z7 hS hs5 Zz) RV.nil) rfl ?_))))
  obtain rfl := QJ H
  have hS := hS.front 4 rfl
  have hS := hS.front 4 rfl
  have hS := hS.front 4 rfl
  have hS := hS.front 4 rfl
  have hS := hS.front 4 rfl
  replace hS := hS.cut 5
  exact ⟨A9, c10, A13, c14, A17, c18, A21, c22, A25, c26, by rw [hl37, hl55]; rfl, k11, k15, k36, k54, k27, hS.eqv (by rw [hl37, hl55]; rfl)⟩
 replace H := Zp H hb
 refine Zr (Zc hK56 (Zd (fun K hK59 => Yd (Yi 12 [11] (fun i b => (i = 11 → b = b4 ∨ b = b2)) ⟨by kernel_rfl, by kernel_rfl⟩ hS (fun w hS hB => Zq [Tt,Tt,Tt,Tt,Tt,Tt,Tt,Tt,Tt,Tt,Tt] (by decide +kernel) PFC.h (LtK.put rfl rfl rfl (Zf Ji rfl) (LtK.put rfl rfl rfl (Zh X3 rfl (Zhs _) hS hs6 trivial Zbo) ?_)))))))
 refine LtK.put rfl rfl rfl (Zw rfl) (LtK.put rfl rfl rfl (Zf Ji rfl) (LtK.put rfl rfl rfl (Zh X3 rfl (Zhs _) hS hs6 trivial Zbo) (LtK.put rfl rfl rfl (Zw rfl) ?_)))
 obtain ⟨e60, hi62, H⟩ := bind_some H
 obtain ⟨j61, hi62a, hi62b, hi62c⟩ := Yt hi62
 refine LtK.put rfl rfl rfl (Xf Xv rfl rfl hi62a (Nat.lt_of_lt_of_eq hi62c hl55) (Rd.el (hS.row_rd hs3) Yh hi62b)) (LtK.put rfl rfl rfl (Vj Z1 rfl (Zhs _) (Rd.el (hS.row_rd hs3) Yh hi62b) rfl) (LtK.put rfl rfl rfl (Zw rfl) (LtK.put rfl rfl rfl (Zdy rfl rfl) ?_)))
 obtain ⟨e63, hi65, H⟩ := bind_some H
 obtain ⟨j64, hi65a, hi65b, hi65c⟩ := Yt hi65
 refine LtK.put rfl rfl rfl (Xf Xv rfl rfl hi65a (Nat.lt_of_lt_of_eq hi65c hl55) (Rd.el (hS.row_rd hs3) Yh hi65b)) (LtK.nil (Yq [Ff,Ff,Ff,Ff,Ff,Ff,Ff,Ff,Ff,Ff,Ff,Tt] 11 ⟨by decide, by kernel_rfl, by kernel_rfl⟩ rfl rfl ?_))
 try dsimp only [Z0]
 refine Zbk (a' := (min e60 r30)) (zs := (Zbe v53 v52 (min e60 r30))) Yh rfl rfl rfl CellsOf.int hS ps3 (Rd.el (hS.row_rd hs3) Yh hi65b) hi65a hi65b rfl Zfp (by kernel_rfl) rfl (fun w hS hB => ?_)
 have hi66b := Zc8 (a := (min e60 r30)) hi65a hi65b
 have hi66a := hi65a
 refine Zg (Yk (hB.sub (fun b _ h => by have h0 : b = b4 ∨ b = b2 := (by simpa using h); rcases h0 with h0 | h0; (rw [h0]; exact hS.neRow 5 3 rfl rfl); (rw [h0]; exact hS.neRow 6 3 rfl rfl))) ?_)
 refine Ye (by kernel_rfl) (Z3 (Zc hK59 (Ze (Zb 1 rfl (Za rfl rfl rfl (Xd rfl rfl) (Zb 1 rfl (Zg ?_)))))))
 exact X2 (n, (IntKind.wrap .i64 (v52 + 1)), (Zbe v53 v52 (min e60 r30))) (by repeat (first | exact Sub.nil | refine Sub.cons rfl ?_)) ⟨hS, (Zhd k54), (Jg hl55), H⟩ (Nat.lt_succ_self _)
theorem c_ref23_Append (x0 : Co) (x1 : Ms) (A0_ : OA) (c0_ : Nat) (A1_ : OA) (c1_ : Nat) (A2_ : OA) (c2_ : Nat) (A3_ : OA) (c3_ : Nat) (A4_ : OA) (c4_ : Nat) (A5_ : OA) (c5_ : Nat) (w0 : World) (s0_ : SlI w0 Vv A0_ c0_ x0.tuple.log) (s1_ : SlI w0 enO A1_ c1_ x0.votes) (s2_ : SlI w0 Vh A2_ c2_ x0.next) (s3_ : SlI w0 Vh A3_ c3_ x0.mtch) (s4_ : SlI w0 Vh A4_ c4_ x0.caps) (s5_ : SlI w0 Vv A5_ c5_ x1.entries) {r : Co × List Ms} (H : Za4 x0 x1 = some r) : Calls Tryz.prog 30 #[.agg #[.int .i64 x0.id, .int .i64 x0.n, .int .u8 x0.role, .int .i64 x0.binary, .int .i64 x0.tuple.snap.index, .int .i64 x0.tuple.snap.term, .int .i64 x0.tuple.snap.sum, .int .i64 x0.tuple.snap.level, .bool x0.tuple.snap.final, .slice A0_ x0.tuple.log.length c0_, .int .i64 x0.tuple.term, .int .i64 x0.tuple.vote, .int .i64 x0.commit, .int .i64 x0.applied.index, .int .i64 x0.applied.term, .int .i64 x0.applied.sum, .int .i64 x0.applied.level, .bool x0.applied.final, .slice A1_ x0.votes.length c1_, .slice A2_ x0.next.length c2_, .slice A3_ x0.mtch.length c3_, .slice A4_ x0.caps.length c4_], .agg #[.int .u8 x1.kind, .int .i64 x1.frm, .int .i64 x1.dst, .int .i64 x1.term, .int .i64 x1.cap, .int .i64 x1.last, .int .i64 x1.lastTerm, .int .i64 x1.commit, .bool x1.okk, .slice A5_ x1.entries.length c5_, .int .i64 x1.snap.index, .int .i64 x1.snap.term, .int .i64 x1.snap.sum, .int .i64 x1.snap.level, .bool x1.snap.final]] w0 fun e w' => ∃ (A0 : OA) (c0 : Nat) (A1 : OA) (c1 : Nat) (A2 : OA) (c2 : Nat) (A3 : OA) (c3 : Nat) (A4 : OA) (c4 : Nat) (A5 : OA) (c5 : Nat) (q5 : List Mq), e = .returned (.tuple #[.agg #[.int .i64 r.1.id, .int .i64 r.1.n, .int .u8 r.1.role, .int .i64 r.1.binary, .int .i64 r.1.tuple.snap.index, .int .i64 r.1.tuple.snap.term, .int .i64 r.1.tuple.snap.sum, .int .i64 r.1.tuple.snap.level, .bool r.1.tuple.snap.final, .slice A0 r.1.tuple.log.length c0, .int .i64 r.1.tuple.term, .int .i64 r.1.tuple.vote, .int .i64 r.1.commit, .int .i64 r.1.applied.index, .int .i64 r.1.applied.term, .int .i64 r.1.applied.sum, .int .i64 r.1.applied.level, .bool r.1.applied.final, .slice A1 r.1.votes.length c1, .slice A2 r.1.next.length c2, .slice A3 r.1.mtch.length c3, .slice A4 r.1.caps.length c4], .slice A5 r.2.length c5]) ∧ (r.1.tuple.log.length ≤ c0 ∧ c0 ≤ maxLen) ∧ (r.1.votes.length ≤ c1 ∧ c1 ≤ maxLen) ∧ (r.1.next.length ≤ c2 ∧ c2 ≤ maxLen) ∧ (r.1.mtch.length ≤ c3 ∧ c3 ≤ maxLen) ∧ (r.1.caps.length ≤ c4 ∧ c4 ≤ maxLen) ∧ (r.2.length ≤ c5 ∧ c5 ≤ maxLen) ∧ q5.map Mq.m = r.2 ∧ (∀ y ∈ q5, okQ y) ∧ St0 All w0 w' [.row (.slice A0 r.1.tuple.log.length c0) 53 3 r.1.tuple.log.length (Yg Vv r.1.tuple.log), .row (.slice A1 r.1.votes.length c1) 4 1 r.1.votes.length (Yg enO r.1.votes), .row (.slice A2 r.1.next.length c2) 3 1 r.1.next.length (Yg Vh r.1.next), .row (.slice A3 r.1.mtch.length c3) 3 1 r.1.mtch.length (Yg Vh r.1.mtch), .row (.slice A4 r.1.caps.length c4) 3 1 r.1.caps.length (Yg Vh r.1.caps), .rd A5 (Yg enQ q5), .rds (q5.map subQ)] := by
 unfold Za4 at H
 refine Yn Tryz.func30 rfl Tryz.ntmps30 rfl ?_
 have hS := St0.start All w0
 refine Zd (fun K hK1 => Ze (Z4 rfl rfl rfl CellsOf.agg hS (fun b2 w hS hB => Z4 rfl rfl rfl CellsOf.agg hS (fun b4 w hS hB => Z5 rfl rfl Zdk hS (fun b6 w hS hB => Zb 1 rfl (Zg (Zc hK1 ?_)))))))
 refine Zd (fun K hK8 => Zd (fun K hK9 => Ze (Za rfl rfl rfl (Zi Z7 rfl (Zhr _) hS Xq trivial Zz) (Za rfl rfl rfl (Zi Xn rfl (Zhr _) hS Xa trivial Y2) ?_))))
 obtain ⟨r10, hm11, H⟩ := bind_some H
 refine Zn rfl rfl rfl rfl (by kernel_rfl) rfl (c_ref21_To x0 x1 A0_ c0_ A1_ c1_ A2_ c2_ A3_ c3_ A4_ c4_ A5_ c5_ _ (Zhu s0_.k (hS.rd0 s0_.rd) (hS.blk0 s0_.blk)) (Zhu s1_.k (hS.rd0 s1_.rd) (hS.blk0 s1_.blk)) (Zhu s2_.k (hS.rd0 s2_.rd) (hS.blk0 s2_.blk)) (Zhu s3_.k (hS.rd0 s3_.rd) (hS.blk0 s3_.blk)) (Zhu s4_.k (hS.rd0 s4_.rd) (hS.blk0 s4_.blk)) (Zhu s5_.k (hS.rd0 s5_.rd) (hS.blk0 s5_.blk)) hm11) ?_
 rintro e w ⟨rfl, hN⟩; refine ⟨_, rfl, ?_⟩; obtain ⟨hB, hS⟩ := hS.jn hN
 refine Za rfl rfl rfl (Ys rfl) (Zb 1 rfl (Zs 16 rfl (fun hb => ?_) (fun hb => ?_)))
 ·replace H := Zp H hb
  refine Zb 4 rfl (Zg (Zc hK9 (Zt rfl rfl (Zd (fun K hK13 => Ze (Za rfl rfl rfl (Zi Z7 rfl (Zhr _) hS Xq trivial Zz) ?_))))))
  obtain ⟨r14, hm15, H⟩ := bind_some H
  refine Zn rfl rfl rfl rfl (by kernel_rfl) rfl (Zcw x0 A0_ c0_ A1_ c1_ A2_ c2_ A3_ c3_ A4_ c4_ _ (Zhu s0_.k (hS.rd0 s0_.rd) (hS.blk0 s0_.blk)) (Zhu s1_.k (hS.rd0 s1_.rd) (hS.blk0 s1_.blk)) (Zhu s2_.k (hS.rd0 s2_.rd) (hS.blk0 s2_.blk)) (Zhu s3_.k (hS.rd0 s3_.rd) (hS.blk0 s3_.blk)) (Zhu s4_.k (hS.rd0 s4_.rd) (hS.blk0 s4_.blk)) hm15) ?_
  rintro e w ⟨A16, c17, A20, c21, A24, c25, A28, c29, A32, c33, rfl, k18, k22, k26, k30, k34, hN⟩; refine ⟨_, rfl, ?_⟩; obtain ⟨hB, hS⟩ := hS.jn hN
  refine Zl rfl rfl rfl CellsOf.agg hS ps5 Yo (by kernel_rfl) rfl (fun w hS hB => Zb 1 rfl (Zg (Zc hK13 (Zk (Zj (Zm rfl (RV.cell rfl (Zu Z7 hS hs5 Zz) (RV.tmp rfl RV.nil)) rfl ?_))))))
  obtain rfl := QJ H
  have hS := hS.nilRds
  replace hS := hS.nilRd
  have hS := hS.front 6 rfl
  have hS := hS.front 6 rfl
  have hS := hS.front 6 rfl
  have hS := hS.front 6 rfl
  have hS := hS.front 6 rfl
  replace hS := hS.cut 7
  exact ⟨A16, c17, A20, c21, A24, c25, A28, c29, A32, c33, none, 0, ([] : List Mq), rfl, k18, k22, k26, k30, k34, ⟨Nat.le_refl _, Nat.zero_le _⟩, rfl, Vy, hS⟩
 replace H := Zo H hb
 refine Za rfl rfl rfl (Zf Vo rfl) (Za rfl rfl rfl (Zh Zbq rfl (Zhr _) hS Xa trivial Y4) (Za rfl rfl rfl (Xu rfl rfl) (Zb 1 rfl (Zg (Zc hK9 (Zy rfl (fun hb => ?_) (fun hb => ?_)))))))
 ·replace H := Zp H hb
  refine Zd (fun K hK38 => Ze (Za rfl rfl rfl (Zi Z7 rfl (Zhr _) hS Xq trivial Zz) ?_))
  obtain ⟨r39, hm40, H⟩ := bind_some H
  refine Zn rfl rfl rfl rfl (by kernel_rfl) rfl (Zcw x0 A0_ c0_ A1_ c1_ A2_ c2_ A3_ c3_ A4_ c4_ _ (Zhu s0_.k (hS.rd0 s0_.rd) (hS.blk0 s0_.blk)) (Zhu s1_.k (hS.rd0 s1_.rd) (hS.blk0 s1_.blk)) (Zhu s2_.k (hS.rd0 s2_.rd) (hS.blk0 s2_.blk)) (Zhu s3_.k (hS.rd0 s3_.rd) (hS.blk0 s3_.blk)) (Zhu s4_.k (hS.rd0 s4_.rd) (hS.blk0 s4_.blk)) hm40) ?_
  rintro e w ⟨A41, c42, A45, c46, A49, c50, A53, c54, A57, c58, rfl, k43, k47, k51, k55, k59, hN⟩; refine ⟨_, rfl, ?_⟩; obtain ⟨hB, hS⟩ := hS.jn hN
  refine Zl rfl rfl rfl CellsOf.agg hS ps5 Yo (by kernel_rfl) rfl (fun w hS hB => Zb 1 rfl (Zg (Zc hK38 (Zk (Zj (Zm rfl (RV.cell rfl (Zu Z7 hS hs5 Zz) (RV.tmp rfl RV.nil)) rfl ?_))))))
  obtain rfl := QJ H
  have hS := hS.nilRds
  replace hS := hS.nilRd
  have hS := hS.front 6 rfl
  have hS := hS.front 6 rfl
  have hS := hS.front 6 rfl
  have hS := hS.front 6 rfl
  have hS := hS.front 6 rfl
  replace hS := hS.cut 7
  exact ⟨A41, c42, A45, c46, A49, c50, A53, c54, A57, c58, none, 0, ([] : List Mq), rfl, k43, k47, k51, k55, k59, ⟨Nat.le_refl _, Nat.zero_le _⟩, rfl, Vy, hS⟩
 replace H := Zo H hb
 refine Zr (Zc hK8 (Zd (fun K hK62 => Ze (Za rfl rfl rfl (Zi Z7 rfl (Zhr _) hS Xq trivial Zz) (Za rfl rfl rfl (Zi Xn rfl (Zhr _) hS Xa trivial Y2) ?_)))))
 obtain ⟨r63, hm64, H⟩ := bind_some H
 refine Zn rfl rfl rfl rfl (by kernel_rfl) rfl (c_ref22_Meet x0 x1 A0_ c0_ A1_ c1_ A2_ c2_ A3_ c3_ A4_ c4_ A5_ c5_ _ (Zhu s0_.k (hS.rd0 s0_.rd) (hS.blk0 s0_.blk)) (Zhu s1_.k (hS.rd0 s1_.rd) (hS.blk0 s1_.blk)) (Zhu s2_.k (hS.rd0 s2_.rd) (hS.blk0 s2_.blk)) (Zhu s3_.k (hS.rd0 s3_.rd) (hS.blk0 s3_.blk)) (Zhu s4_.k (hS.rd0 s4_.rd) (hS.blk0 s4_.blk)) (Zhu s5_.k (hS.rd0 s5_.rd) (hS.blk0 s5_.blk)) hm64) ?_
 rintro e w ⟨A65, c66, A69, c70, A73, c74, A77, c78, A81, c82, rfl, k67, k71, k75, k79, k83, hN⟩; refine ⟨_, rfl, ?_⟩; obtain ⟨hB, hS⟩ := hS.jn hN
 refine Zl rfl rfl rfl CellsOf.agg hS ps7 Yo (by kernel_rfl) rfl (fun w hS hB => Zg (Zc hK62 (Zd (fun K hK85 => Ze (Za rfl rfl rfl (Zf Yy rfl) (Za rfl rfl rfl (Zi Ya rfl (Zhr _) hS hs7 trivial Jv) ?_))))))
 obtain ⟨r86, hm87, H⟩ := bind_some H
 refine Zn rfl rfl rfl rfl (by kernel_rfl) rfl (Zbd r63.tuple A65 c66 _ (Zhu k67 (hS.row_rd hs0) (hS.row_blk hs0)) hm87) ?_
 rintro e w ⟨rfl, hN⟩; refine ⟨_, rfl, ?_⟩; obtain ⟨hB, hS⟩ := hS.jn hN
 refine Zb 1 rfl (Zg (Zc hK85 (Zd (fun K hK88 => Zd (fun K hK89 => Ze (Za rfl rfl rfl (Zf Zca rfl) (Za rfl rfl rfl (Zh Z1 rfl (Zhr _) hS hs6 trivial J9) ?_)))))))
 refine Za rfl rfl rfl (Zf Yy rfl) (Za rfl rfl rfl (Zf Vi rfl) (Za rfl rfl rfl (Zh Z1 rfl (Zhr _) hS hs7 trivial Zam) (Za rfl rfl rfl (Xk rfl rfl) (Zg (Zc hK89 (Zy rfl (fun hb => ?_) (fun hb => ?_)))))))
 ·replace H := Zp H hb
  refine Zd (fun K hK91 => Yi 7 [5] (fun i b => (i = 5 → b ≠ b6)) ⟨by kernel_rfl, by kernel_rfl⟩ hS (fun w hS hB => Zq [true] (by decide +kernel) PFC.h (LtK.put rfl rfl rfl (Zi Z7 rfl (Zhs _) hS hs7 trivial Zz) (LtK.nil (Y7 [Ff,Tt,Tt,Tt] [5] (fun b => b ≠ b6) (by decide +kernel) (by intro j hj b hb; simp only [List.mem_cons, List.not_mem_nil, or_false] at hj; (try rcases hj with rfl | rfl | rfl | rfl | rfl) <;> first | (simp [hb]; done) | simp_all) PFC.h (LtK.put rfl rfl rfl (Zi Z7 rfl (Zht _ _) hS hs7 (hS.ne 7 5 rfl rfl rfl) Zz) (LtK.put rfl rfl rfl (Zi Xn rfl (Zht _ _) hS hs6 (hS.ne 6 5 rfl rfl rfl) Y2) ?_)))))))
  refine LtK.put rfl rfl rfl (Zw rfl) (LtK.nil (Z6 [Ff,Ff,Ff,Ff,Tt] 4 ⟨by decide, by kernel_rfl, by kernel_rfl⟩ rfl rfl ?_))
  try dsimp only [Z0]
  obtain ⟨r92, hm93, H⟩ := bind_some H
  refine Zn rfl rfl rfl rfl (by kernel_rfl) rfl (Zbi r63 x1 false r86 A65 c66 A69 c70 A73 c74 A77 c78 A81 c82 A5_ c5_ _ (Zhu k67 (hS.row_rd hs0) (hS.row_blk hs0)) (Zhu k71 (hS.row_rd Xa) (hS.row_blk Xa)) (Zhu k75 (hS.row_rd Xq) (hS.row_blk Xq)) (Zhu k79 (hS.row_rd hs3) (hS.row_blk hs3)) (Zhu k83 (hS.row_rd hs4) (hS.row_blk hs4)) (Zhu s5_.k (hS.rd0 s5_.rd) (hS.blk0 s5_.blk)) hm93) ?_
  rintro e w ⟨A94, c95, q98, rfl, k96, hq99, okq100, hN⟩; refine ⟨_, rfl, ?_⟩; obtain ⟨hB, hS⟩ := hS.jn hN
  refine Zg (Z9 hB (Yq [Ff,Ff,Ff,Ff,Ff,Tt] 5 ⟨by decide, by kernel_rfl, by kernel_rfl⟩ rfl rfl ?_))
  try dsimp only [Z0]
  refine Zl rfl rfl rfl CellsOf.agg hS ps7 Yo (by kernel_rfl) rfl (fun w hS hB => Zg (Yk (hB.sub (fun _ _ h => by simpa using h)) (Zq [Ff,Ff,Ff,Ff,Ff,Ff,Tt] (by decide +kernel) PFC.h (LtK.put rfl rfl rfl (Z2 rfl) (LtK.nil (Ye (by kernel_rfl) (Zc hK91 ?_)))))))
  refine Zk (Zj (Zm rfl (RV.cell rfl (Zu Z7 hS hs7 Zz) (RV.tmp rfl RV.nil)) rfl ?_))
  obtain rfl := QJ H
  have hS := hS.front 1 rfl
  replace hS := hS.front 1 rfl
  have hS := hS.front 6 rfl
  have hS := hS.front 6 rfl
  have hS := hS.front 6 rfl
  have hS := hS.front 6 rfl
  have hS := hS.front 6 rfl
  replace hS := hS.cut 7
  exact ⟨A65, c66, A69, c70, A73, c74, A77, c78, A81, c82, A94, c95, q98, rfl, k67, k71, k75, k79, k83, k96, hq99, okq100, hS⟩
 replace H := Zo H hb
 refine Zr (Zc hK88 (Zd (fun K hK103 => Zd (fun K hK104 => Ze (Za rfl rfl rfl (Zf Zbj rfl) (Za rfl rfl rfl (Zh Zbq rfl (Zhr _) hS hs7 trivial Za0) (Za rfl rfl rfl (Y1 rfl rfl) ?_)))))))
 refine Zg (Zc hK104 (Zy rfl (fun hb => ?_) (fun hb => ?_)))
 ·replace H := Zp H hb
  refine Zd (fun K hK106 => Ze (Za rfl rfl rfl (Zi Z7 rfl (Zhr _) hS hs7 trivial Zz) (Zl rfl rfl rfl CellsOf.agg hS ps5 Yo (by kernel_rfl) rfl (fun w hS hB => Zb 1 rfl (Zg (Zc hK106 (Zk ?_)))))))
  refine Zj (Zm rfl (RV.cell rfl (Zu Z7 hS hs5 Zz) (RV.tmp rfl RV.nil)) rfl ?_)
  obtain rfl := QJ H
  have hS := hS.nilRds
  replace hS := hS.nilRd
  have hS := hS.front 6 rfl
  have hS := hS.front 6 rfl
  have hS := hS.front 6 rfl
  have hS := hS.front 6 rfl
  have hS := hS.front 6 rfl
  replace hS := hS.cut 7
  exact ⟨A65, c66, A69, c70, A73, c74, A77, c78, A81, c82, none, 0, ([] : List Mq), rfl, k67, k71, k75, k79, k83, ⟨Nat.le_refl _, Nat.zero_le _⟩, rfl, Vy, hS⟩
 replace H := Zo H hb
 refine Zr (Zc hK103 (Zd (fun K hK108 => Ze (Za rfl rfl rfl (Zf Zbj rfl) (Zl rfl rfl rfl CellsOf.int hS ps7 st2_1 (by kernel_rfl) rfl (fun w hS hB => Zg (Zc hK108 ?_)))))))
 refine Zd (fun K hK109 => Zd (fun K hK110 => Ze (Za rfl rfl rfl (Zf V0 rfl) (Za rfl rfl rfl (Zh Z1 rfl (Zhr _) hS hs6 trivial Jd) (Zb 1 rfl (Za rfl rfl rfl (Xc rfl rfl) (Zg ?_)))))))
 refine Zc hK110 (Zy rfl (fun hb => ?_) (fun hb => ?_))
 ·replace H := Zp H hb
  refine Zd (fun K hK112 => Yi 7 [5] (fun i b => (i = 5 → b ≠ b6)) ⟨by kernel_rfl, by kernel_rfl⟩ hS (fun w hS hB => Zq [true] (by decide +kernel) PFC.h (LtK.put rfl rfl rfl (Zi Z7 rfl (Zhs _) hS hs7 trivial Zz) (LtK.nil (Y7 [Ff,Tt,Tt,Tt] [5] (fun b => b ≠ b6) (by decide +kernel) (by intro j hj b hb; simp only [List.mem_cons, List.not_mem_nil, or_false] at hj; (try rcases hj with rfl | rfl | rfl | rfl | rfl) <;> first | (simp [hb]; done) | simp_all) PFC.h (LtK.put rfl rfl rfl (Zi Z7 rfl (Zht _ _) hS hs7 (hS.ne 7 5 rfl rfl rfl) Zz) (LtK.put rfl rfl rfl (Zi Xn rfl (Zht _ _) hS hs6 (hS.ne 6 5 rfl rfl rfl) Y2) ?_)))))))
  refine LtK.put rfl rfl rfl (Zw rfl) (LtK.nil (Z6 [Ff,Ff,Ff,Ff,Tt] 4 ⟨by decide, by kernel_rfl, by kernel_rfl⟩ rfl rfl ?_))
  try dsimp only [Z0]
  obtain ⟨r113, hm114, H⟩ := bind_some H
  refine Zn rfl rfl rfl rfl (by kernel_rfl) rfl (Zbi {r63 with role := 0} x1 false r86 A65 c66 A69 c70 A73 c74 A77 c78 A81 c82 A5_ c5_ _ (Zhu k67 (hS.row_rd hs0) (hS.row_blk hs0)) (Zhu k71 (hS.row_rd Xa) (hS.row_blk Xa)) (Zhu k75 (hS.row_rd Xq) (hS.row_blk Xq)) (Zhu k79 (hS.row_rd hs3) (hS.row_blk hs3)) (Zhu k83 (hS.row_rd hs4) (hS.row_blk hs4)) (Zhu s5_.k (hS.rd0 s5_.rd) (hS.blk0 s5_.blk)) hm114) ?_
  rintro e w ⟨A115, c116, q119, rfl, k117, hq120, okq121, hN⟩; refine ⟨_, rfl, ?_⟩; obtain ⟨hB, hS⟩ := hS.jn hN
  refine Zg (Z9 hB (Yq [Ff,Ff,Ff,Ff,Ff,Tt] 5 ⟨by decide, by kernel_rfl, by kernel_rfl⟩ rfl rfl ?_))
  try dsimp only [Z0]
  refine Zl rfl rfl rfl CellsOf.agg hS ps7 Yo (by kernel_rfl) rfl (fun w hS hB => Zg (Yk (hB.sub (fun _ _ h => by simpa using h)) (Zq [Ff,Ff,Ff,Ff,Ff,Ff,Tt] (by decide +kernel) PFC.h (LtK.put rfl rfl rfl (Z2 rfl) (LtK.nil (Ye (by kernel_rfl) (Zc hK112 ?_)))))))
  refine Zk (Zj (Zm rfl (RV.cell rfl (Zu Z7 hS hs7 Zz) (RV.tmp rfl RV.nil)) rfl ?_))
  obtain rfl := QJ H
  have hS := hS.front 1 rfl
  replace hS := hS.front 1 rfl
  have hS := hS.front 6 rfl
  have hS := hS.front 6 rfl
  have hS := hS.front 6 rfl
  have hS := hS.front 6 rfl
  have hS := hS.front 6 rfl
  replace hS := hS.cut 7
  exact ⟨A65, c66, A69, c70, A73, c74, A77, c78, A81, c82, A115, c116, q119, rfl, k67, k71, k75, k79, k83, k117, hq120, okq121, hS⟩
 replace H := Zo H hb
 refine Zr (Zc hK109 (Zd (fun K hK124 => Ze (Za rfl rfl rfl (Zf Yy rfl) (Za rfl rfl rfl (Zi Ya rfl (Zhr _) hS hs7 trivial Jv) (Za rfl rfl rfl (Zf V0 rfl) (Za rfl rfl rfl (Zh Z1 rfl (Zhr _) hS hs6 trivial Jd) ?_)))))))
 obtain ⟨r125, hm126, H⟩ := bind_some H
 refine Zn rfl rfl rfl rfl (by kernel_rfl) rfl (Zgi r63.tuple x1.last A65 c66 _ (Zhu k67 (hS.row_rd hs0) (hS.row_blk hs0)) hm126) ?_
 rintro e w ⟨rfl, hN⟩; refine ⟨_, rfl, ?_⟩; obtain ⟨hB, hS⟩ := hS.jn hN
 refine Zb 1 rfl (Za rfl rfl rfl (Zv rfl rfl) (Za rfl rfl rfl (Zv rfl rfl) (Zb 2 rfl (Zg (Zc hK124 (Zd (fun K hK127 => wpC_join ((2, .pointer (some ⟨b2, 0, none⟩)) :: (3, .pointer (some ⟨b4, 0, none⟩)) :: (4, .pointer (some ⟨b6, 0, none⟩)) :: (5, .slice none 0 0) :: (6, .int .i64 r86) :: (68, .bool (r125.2 && (decide (r125.1 ≠ x1.lastTerm)))) :: []) (fun K hK128 => ?_) ?_)))))))
 ·refine Ze (Zb 2 rfl (Zs 63 rfl (fun hb => ?_) (fun hb => ?_)))
  rotate_left
  ·refine Zb 5 rfl (Zg ?_)
   exact QH_join hK128 (by rw [hb]; repeat (first | exact Sub.nil | refine Sub.cons rfl ?_))
  refine Zb 1 rfl (Za rfl rfl rfl (Zf Zfe rfl) (Za rfl rfl rfl (Zh Z1 rfl (Zhr _) hS hs6 trivial Zgj) (Za rfl rfl rfl (Xu rfl rfl) (Zb 1 rfl (Zg ?_)))))
  exact QH_join hK128 (by rw [hb]; repeat (first | exact Sub.nil | refine Sub.cons rfl ?_))
 refine Zy rfl (fun hb => ?_) (fun hb => ?_)
 ·replace H := Zp H hb
  refine Zd (fun K hK130 => Yi 10 [8] (fun i b => (i = 8 → b ≠ b6)) ⟨by kernel_rfl, by kernel_rfl⟩ hS (fun w hS hB => Zq [true] (by decide +kernel) PFC.h (LtK.put rfl rfl rfl (Zi Z7 rfl (Zhs _) hS hs7 trivial Zz) (LtK.nil (Y7 [Ff,Tt,Tt,Tt,Tt,Tt,Tt] [8] (fun b => b ≠ b6) (by decide +kernel) (by intro j hj b hb; simp only [List.mem_cons, List.not_mem_nil, or_false] at hj; (try rcases hj with rfl | rfl | rfl | rfl | rfl) <;> first | (simp [hb]; done) | simp_all) PFC.h (LtK.put rfl rfl rfl (Zi Z7 rfl (Zht _ _) hS hs7 (hS.ne 7 5 rfl rfl rfl) Zz) (LtK.put rfl rfl rfl (Zi Xn rfl (Zht _ _) hS hs6 (hS.ne 6 5 rfl rfl rfl) Y2) ?_)))))))
  refine LtK.put rfl rfl rfl (Zf V0 rfl) (LtK.put rfl rfl rfl (Zh Z1 rfl (Zht _ _) hS hs6 (hS.ne 6 5 rfl rfl rfl) Jd) (LtK.put rfl rfl rfl (Ju rfl rfl) (LtK.put rfl rfl rfl (Zdw rfl rfl) (LtK.nil (Z6 [Ff,Ff,Ff,Ff,Ff,Ff,Ff,Tt] 7 ⟨by decide, by kernel_rfl, by kernel_rfl⟩ rfl rfl ?_)))))
  try dsimp only [Z0]
  obtain ⟨r131, hm132, H⟩ := bind_some H
  refine Zn rfl rfl rfl rfl (by kernel_rfl) rfl (Zbi {r63 with role := 0} x1 false (max (IntKind.wrap .i64 (x1.last - 1)) 0) A65 c66 A69 c70 A73 c74 A77 c78 A81 c82 A5_ c5_ _ (Zhu k67 (hS.row_rd hs0) (hS.row_blk hs0)) (Zhu k71 (hS.row_rd Xa) (hS.row_blk Xa)) (Zhu k75 (hS.row_rd Xq) (hS.row_blk Xq)) (Zhu k79 (hS.row_rd hs3) (hS.row_blk hs3)) (Zhu k83 (hS.row_rd hs4) (hS.row_blk hs4)) (Zhu s5_.k (hS.rd0 s5_.rd) (hS.blk0 s5_.blk)) hm132) ?_
  rintro e w ⟨A133, c134, q137, rfl, k135, hq138, okq139, hN⟩; refine ⟨_, rfl, ?_⟩; obtain ⟨hB, hS⟩ := hS.jn hN
  refine Zg (Z9 hB (Yq [Ff,Ff,Ff,Ff,Ff,Ff,Ff,Ff,Tt] 8 ⟨by decide, by kernel_rfl, by kernel_rfl⟩ rfl rfl ?_))
  try dsimp only [Z0]
  refine Zl rfl rfl rfl CellsOf.agg hS ps7 Yo (by kernel_rfl) rfl (fun w hS hB => Zg (Yk (hB.sub (fun _ _ h => by simpa using h)) (Zq [Ff,Ff,Ff,Ff,Ff,Ff,Ff,Ff,Ff,Tt] (by decide +kernel) PFC.h (LtK.put rfl rfl rfl (Z2 rfl) (LtK.nil (Ye (by kernel_rfl) (Zc hK130 ?_)))))))
  refine Zk (Zj (Zm rfl (RV.cell rfl (Zu Z7 hS hs7 Zz) (RV.tmp rfl RV.nil)) rfl ?_))
  obtain rfl := QJ H
  have hS := hS.front 1 rfl
  replace hS := hS.front 1 rfl
  have hS := hS.front 6 rfl
  have hS := hS.front 6 rfl
  have hS := hS.front 6 rfl
  have hS := hS.front 6 rfl
  have hS := hS.front 6 rfl
  replace hS := hS.cut 7
  exact ⟨A65, c66, A69, c70, A73, c74, A77, c78, A81, c82, A133, c134, q137, rfl, k67, k71, k75, k79, k83, k135, hq138, okq139, hS⟩
 replace H := Zo H hb
 refine Zr (Zc hK127 (Zd (fun K hK142 => Ze (Za rfl rfl rfl (Zi Z7 rfl (Zhr _) hS hs7 trivial Zz) (Za rfl rfl rfl (Zi Xn rfl (Zhr _) hS hs6 trivial Y2) (Jy rfl rfl rfl rfl (by kernel_rfl) rfl ?_))))))
 show Calls _ _ #[_, _] _ _
 refine Yn Tryz.func78 rfl Tryz.ntmps78 rfl (Zd (fun K hK143 => Ze (Z4 rfl rfl rfl CellsOf.agg hS (fun b144 w hS hB => Z4 rfl rfl rfl CellsOf.agg hS (fun b146 w hS hB => Z5 rfl rfl Zal hS (fun b148 w hS hB => Zb 1 rfl (Zg ?_)))))))
 refine Zc hK143 (Zd (fun K hK150 => Ze (Za rfl rfl rfl (Zf Yy rfl) (Za rfl rfl rfl (Zi Ya rfl (Zhr _) hS Xq trivial Jv) (Z5 rfl rfl Zal hS (fun b151 w hS hB => Zl rfl rfl rfl CellsOf.agg hS ps0 X0 (by kernel_rfl) rfl (fun w hS hB => Zg ?_)))))))
 refine Zc hK150 (Zd (fun K hK153 => Zd (fun K hK154 => Ze (Zb 1 rfl (Zg (Zc hK154 (Yd ?_)))))))
 refine Vq (X := Nat × Int × Int) (fun x => (2, .pointer (some ⟨b144, 0, none⟩)) :: (3, .pointer (some ⟨b146, 0, none⟩)) :: (4, .pointer (some ⟨b148, 0, none⟩)) :: (5, .int .i64 x.2.1) :: (6, .pointer (some ⟨b151, 0, none⟩)) :: (7, .int .i64 x.2.2) :: []) (fun x w => St0 All w0 w (.box b151 [.int .i64 r63.tuple.snap.index, .int .i64 r63.tuple.snap.term, .int .i64 r63.tuple.snap.sum, .int .i64 r63.tuple.snap.level, .bool r63.tuple.snap.final, .slice A65 r63.tuple.log.length c66, .int .i64 r63.tuple.term, .int .i64 r63.tuple.vote] 26 :: .box b148 [.int .i64 0, .int .i64 0, .int .i64 0, .int .i64 0, .bool false, .slice none 0 0, .int .i64 0, .int .i64 0] 26 :: .box b146 [.int .u8 x1.kind, .int .i64 x1.frm, .int .i64 x1.dst, .int .i64 x1.term, .int .i64 x1.cap, .int .i64 x1.last, .int .i64 x1.lastTerm, .int .i64 x1.commit, .bool x1.okk, .slice A5_ x1.entries.length c5_, .int .i64 x1.snap.index, .int .i64 x1.snap.term, .int .i64 x1.snap.sum, .int .i64 x1.snap.level, .bool x1.snap.final] 32 :: .box b144 [.int .i64 r63.id, .int .i64 r63.n, .int .u8 0, .int .i64 r63.binary, .int .i64 r63.tuple.snap.index, .int .i64 r63.tuple.snap.term, .int .i64 r63.tuple.snap.sum, .int .i64 r63.tuple.snap.level, .bool r63.tuple.snap.final, .slice A65 r63.tuple.log.length c66, .int .i64 r63.tuple.term, .int .i64 r63.tuple.vote, .int .i64 r63.commit, .int .i64 r63.applied.index, .int .i64 r63.applied.term, .int .i64 r63.applied.sum, .int .i64 r63.applied.level, .bool r63.applied.final, .slice A69 r63.votes.length c70, .slice A73 r63.next.length c74, .slice A77 r63.mtch.length c78, .slice A81 r63.caps.length c82] 30 :: .row (.slice A65 r63.tuple.log.length c66) 53 3 r63.tuple.log.length (Yg Vv r63.tuple.log) :: .row (.slice A69 r63.votes.length c70) 4 1 r63.votes.length (Yg enO r63.votes) :: .row (.slice A73 r63.next.length c74) 3 1 r63.next.length (Yg Vh r63.next) :: .row (.slice A77 r63.mtch.length c78) 3 1 r63.mtch.length (Yg Vh r63.mtch) :: .row (.slice A81 r63.caps.length c82) 3 1 r63.caps.length (Yg Vh r63.caps) :: .box b6 [.int .i64 0, .int .i64 0, .int .u8 0, .int .i64 0, .int .i64 0, .int .i64 0, .int .i64 0, .int .i64 0, .bool false, .slice none 0 0, .int .i64 0, .int .i64 0, .int .i64 0, .int .i64 0, .int .i64 0, .int .i64 0, .int .i64 0, .bool false, .slice none 0 0, .slice none 0 0, .slice none 0 0, .slice none 0 0] 30 :: .box b4 [.int .u8 x1.kind, .int .i64 x1.frm, .int .i64 x1.dst, .int .i64 x1.term, .int .i64 x1.cap, .int .i64 x1.last, .int .i64 x1.lastTerm, .int .i64 x1.commit, .bool x1.okk, .slice A5_ x1.entries.length c5_, .int .i64 x1.snap.index, .int .i64 x1.snap.term, .int .i64 x1.snap.sum, .int .i64 x1.snap.level, .bool x1.snap.final] 32 :: .box b2 [.int .i64 r63.id, .int .i64 r63.n, .int .u8 0, .int .i64 r63.binary, .int .i64 r63.tuple.snap.index, .int .i64 r63.tuple.snap.term, .int .i64 r63.tuple.snap.sum, .int .i64 r63.tuple.snap.level, .bool r63.tuple.snap.final, .slice A65 r63.tuple.log.length c66, .int .i64 r63.tuple.term, .int .i64 r63.tuple.vote, .int .i64 r63.commit, .int .i64 r63.applied.index, .int .i64 r63.applied.term, .int .i64 r63.applied.sum, .int .i64 r63.applied.level, .bool r63.applied.final, .slice A69 r63.votes.length c70, .slice A73 r63.next.length c74, .slice A77 r63.mtch.length c78, .slice A81 r63.caps.length c82] 30 :: []) ∧ Vm x1 r63 r86 x.1 x.2.1 x.2.2 = some r) (fun x => x.1) (Xr, 0, 0) (by repeat (first | exact Sub.nil | refine Sub.cons rfl ?_)) ⟨hS, H⟩ ?_
 rintro ⟨n, v155, v156⟩ w ⟨hS, H⟩
 dsimp only at hS H ⊢
 obtain _ | n := n
 ·have H0 : none = some r := H
  cases H0
 rw [Vm] at H
 refine Zd (fun K hK157 => Zd (fun K hK158 => Ze (Zb 1 rfl (Za rfl rfl rfl (Zf X8 rfl) (Za rfl rfl rfl (Zh Xx rfl (Zhr _) hS Xq trivial Zak) (Za rfl rfl rfl (Y0 Y8 rfl) (Za rfl rfl rfl (Xk rfl rfl) ?_)))))))
 refine Zg (Zc hK158 (Zy rfl (fun hb => ?_) (fun hb => ?_)))
 rotate_left
 ·replace H := Zo H hb
  refine X1 (Z8 (Z8 (Yz (Zc hK153 (Zd (fun K hK363 => Ze (Za rfl rfl rfl (Zi Ya rfl (Zhr _) hS hs0 trivial Yx) ?_)))))))
  refine Zl rfl rfl rfl CellsOf.agg hS ps1 X0 (by kernel_rfl) rfl (fun w hS hB => Zb 1 rfl (Zg (Zc hK363 (Zk (Zm rfl (RV.cell rfl (Zu Ya hS Xa Yx) (RV.tmp rfl RV.nil)) rfl (⟨_, rfl, ?_⟩))))))
  refine Zb 1 rfl (Za rfl rfl rfl (Zv rfl rfl) (Za rfl rfl rfl (Zv rfl rfl) (Z5 rfl rfl Zal hS (fun b364 w hS hB => Zl rfl rfl rfl CellsOf.agg hS ps0 X0 (by kernel_rfl) rfl (fun w hS hB => Zb 1 rfl (Zg (Zc hK142 ?_)))))))
  refine Zd (fun K hK366 => Zd (fun K hK367 => Ze (Zb 1 rfl (Za rfl rfl rfl (Y1 rfl rfl) (Zg (Zc hK367 (Yl rfl rfl ?_)))))))
  refine Zr (Zc hK366 (Zd (fun K hK368 => Zd (fun K hK369 => Ze (Zb 1 rfl (Za rfl rfl rfl (Y1 rfl rfl) (Zg ?_)))))))
  refine Zc hK369 (Yl rfl rfl (Zr (Zc hK368 (Zd (fun K hK370 => Ze (Za rfl rfl rfl (Zi Ya rfl (Zhr _) hS hs0 trivial Yx) (Za rfl rfl rfl (Zf Yy rfl) ?_)))))))
  refine Zl rfl rfl rfl CellsOf.agg hS ps12 st4_8 (by kernel_rfl) rfl (fun w hS hB => Zg (Zc hK370 (Zd (fun K hK371 => Ze (Za rfl rfl rfl (Zi Z7 rfl (Zhr _) hS hs12 trivial Zz) ?_)))))
  obtain ⟨r372, hm373, H⟩ := bind_some H
  refine Zn rfl rfl rfl rfl (by kernel_rfl) rfl (Zgz {r63 with role := 0} A65 c66 A69 c70 A73 c74 A77 c78 A81 c82 _ (Zhu k67 (hS.row_rd hs5) (hS.row_blk hs5)) (Zhu k71 (hS.row_rd hs6) (hS.row_blk hs6)) (Zhu k75 (hS.row_rd hs7) (hS.row_blk hs7)) (Zhu k79 (hS.row_rd hs8) (hS.row_blk hs8)) (Zhu k83 (hS.row_rd hs9) (hS.row_blk hs9)) hm373) ?_
  rintro e w ⟨A374, c375, A378, c379, A382, c383, A386, c387, A390, c391, rfl, k376, k380, k384, k388, k392, hN⟩; refine ⟨_, rfl, ?_⟩; obtain ⟨hB, hS⟩ := hS.jn hN
  refine Zl rfl rfl rfl CellsOf.agg hS ps17 Yo (by kernel_rfl) rfl (fun w hS hB => Zg (Zc hK371 (Zd (fun K hK394 => Ze (Za rfl rfl rfl (Zf V0 rfl) (Za rfl rfl rfl (Zh Z1 rfl (Zhr _) hS hs16 trivial Jd) (Za rfl rfl rfl (Zf X8 rfl) ?_)))))))
  refine Za rfl rfl rfl (Zh Xx rfl (Zhr _) hS hs16 trivial Zak) (Za rfl rfl rfl (Y0 Y8 rfl) (Za rfl rfl rfl (Xd rfl rfl) (Zb 1 rfl (Zg (Zc hK394 (Zd (fun K hK395 => Ze ?_)))))))
  refine Za rfl rfl rfl (Zf V6 rfl) (Za rfl rfl rfl (Zh Z1 rfl (Zhr _) hS hs17 trivial Zbw) (Za rfl rfl rfl (Zf Zdu rfl) (Za rfl rfl rfl (Zh Z1 rfl (Zhr _) hS hs16 trivial Zey) (Zb 1 rfl (Za rfl rfl rfl (Zdy rfl rfl) (Za rfl rfl rfl (Zdw rfl rfl) (Za rfl rfl rfl (Zf V6 rfl) ?_)))))))
  refine Zl rfl rfl rfl CellsOf.int hS ps17 st12_1 (by kernel_rfl) rfl (fun w hS hB => Zg (Zc hK395 (Zd (fun K hK396 => Ze (Za rfl rfl rfl (Zf Yy rfl) (Za rfl rfl rfl (Zi Ya rfl (Zhr _) hS hs17 trivial Jv) (Za rfl rfl rfl (Zf V6 rfl) ?_)))))))
  refine Za rfl rfl rfl (Zh Z1 rfl (Zhr _) hS hs17 trivial Zbw) ?_
  obtain ⟨r397, hm398, H⟩ := bind_some H
  refine Zn rfl rfl rfl rfl (by kernel_rfl) rfl (Zfi r372.tuple (max r372.commit (min x1.commit (IntKind.wrap .i64 (x1.last + (x1.entries.length : Int))))) A374 c375 _ (Zhu k376 (hS.row_rd hs0) (hS.row_blk hs0)) hm398) ?_
  rintro e w ⟨rfl, hN⟩; refine ⟨_, rfl, ?_⟩; obtain ⟨hB, hS⟩ := hS.jn hN
  refine Zb 1 rfl (Za rfl rfl rfl (Zv rfl rfl) (Za rfl rfl rfl (Zv rfl rfl) (Za rfl rfl rfl (Zf Zfg rfl) (Zl rfl rfl rfl CellsOf.agg hS ps17 st13_5 (by kernel_rfl) rfl (fun w hS hB => Zg (Zc hK396 (Zd (fun K hK399 => ?_))))))))
  refine Yi 7 [5] (fun i b => (i = 5 → b ≠ b6)) ⟨by kernel_rfl, by kernel_rfl⟩ hS (fun w hS hB => Zq [true] (by decide +kernel) PFC.h (LtK.put rfl rfl rfl (Zi Z7 rfl (Zhs _) hS hs17 trivial Zz) (LtK.nil (Y7 [Ff,Tt,Tt,Tt] [5] (fun b => b ≠ b6) (by decide +kernel) (by intro j hj b hb; simp only [List.mem_cons, List.not_mem_nil, or_false] at hj; (try rcases hj with rfl | rfl | rfl | rfl | rfl) <;> first | (simp [hb]; done) | simp_all) PFC.h (LtK.put rfl rfl rfl (Zi Z7 rfl (Zht _ _) hS hs17 (hS.ne 17 15 rfl rfl rfl) Zz) (LtK.put rfl rfl rfl (Zi Xn rfl (Zht _ _) hS hs16 (hS.ne 16 15 rfl rfl rfl) Y2) (LtK.put rfl rfl rfl (Zw rfl) ?_)))))))
  refine LtK.nil (Z6 [Ff,Ff,Ff,Ff,Tt] 4 ⟨by decide, by kernel_rfl, by kernel_rfl⟩ rfl rfl ?_)
  try dsimp only [Z0]
  obtain ⟨r400, hm401, H⟩ := bind_some H
  refine Zn rfl rfl rfl rfl (by kernel_rfl) rfl (Zbi {r372 with commit := (max r372.commit (min x1.commit (IntKind.wrap .i64 (x1.last + (x1.entries.length : Int))))), applied := r397.1} x1 true (IntKind.wrap .i64 (x1.last + (x1.entries.length : Int))) A374 c375 A378 c379 A382 c383 A386 c387 A390 c391 A5_ c5_ _ (Zhu k376 (hS.row_rd hs0) (hS.row_blk hs0)) (Zhu k380 (hS.row_rd Xa) (hS.row_blk Xa)) (Zhu k384 (hS.row_rd Xq) (hS.row_blk Xq)) (Zhu k388 (hS.row_rd hs3) (hS.row_blk hs3)) (Zhu k392 (hS.row_rd hs4) (hS.row_blk hs4)) (Zhu s5_.k (hS.rd0 s5_.rd) (hS.blk0 s5_.blk)) hm401) ?_
  rintro e w ⟨A402, c403, q406, rfl, k404, hq407, okq408, hN⟩; refine ⟨_, rfl, ?_⟩; obtain ⟨hB, hS⟩ := hS.jn hN
  refine Zg (Z9 hB (Yq [Ff,Ff,Ff,Ff,Ff,Tt] 5 ⟨by decide, by kernel_rfl, by kernel_rfl⟩ rfl rfl ?_))
  try dsimp only [Z0]
  refine Zl rfl rfl rfl CellsOf.agg hS ps17 Yo (by kernel_rfl) rfl (fun w hS hB => Zg (Yk (hB.sub (fun _ _ h => by simpa using h)) (Zq [Ff,Ff,Ff,Ff,Ff,Ff,Tt] (by decide +kernel) PFC.h (LtK.put rfl rfl rfl (Z2 rfl) (LtK.nil (Ye (by kernel_rfl) (Zc hK399 ?_)))))))
  refine Zk (Zm rfl (RV.cell rfl (Zu Z7 hS hs17 Zz) (RV.tmp rfl RV.nil)) rfl ?_)
  obtain rfl := QJ H
  have hS := hS.front 1 rfl
  replace hS := hS.front 1 rfl
  have hS := hS.front 6 rfl
  have hS := hS.front 6 rfl
  have hS := hS.front 6 rfl
  have hS := hS.front 6 rfl
  have hS := hS.front 6 rfl
  replace hS := hS.cut 7
  exact ⟨A374, c375, A378, c379, A382, c383, A386, c387, A390, c391, A402, c403, q406, rfl, k376, k380, k384, k388, k392, k404, hq407, okq408, hS⟩
 replace H := Zp H hb
 refine Zr (Zc hK157 (Zd (fun K hK160 => Yd (Zd (fun K hK161 => Ze (Za rfl rfl rfl (Zf V0 rfl) (Za rfl rfl rfl (Zh Z1 rfl (Zhr _) hS Xq trivial Jd) ?_)))))))
 refine Za rfl rfl rfl (Xd rfl rfl) (Zb 1 rfl (Za rfl rfl rfl (Xd rfl rfl) (Zb 1 rfl (Zg (Zc hK161 (Zd (fun K hK162 => Zd (fun K hK163 => ?_))))))))
 refine Ze (Zb 1 rfl (Za rfl rfl rfl (Zf Xj rfl) (Za rfl rfl rfl (Zf Yj rfl) (Za rfl rfl rfl (Zh Z1 rfl (Zhr _) hS hs0 trivial Y4) (Za rfl rfl rfl (Za5 rfl rfl) (Zg (Zc hK163 ?_)))))))
 refine Zy rfl (fun hb => ?_) (fun hb => ?_)
 ·replace H := Zp H hb
  refine X1 (Z8 (Yz (Zc hK160 (Ze (Zb 1 rfl (Za rfl rfl rfl (Xd rfl rfl) (Zb 1 rfl ?_)))))))
  refine Zg ?_
  exact X2 (n, v155, (IntKind.wrap .i64 (v156 + 1))) (by repeat (first | exact Sub.nil | refine Sub.cons rfl ?_)) ⟨hS, H⟩ (Nat.lt_succ_self _)
 replace H := Zo H hb
 refine Zr (Zc hK162 (Zd (fun K hK166 => Ze (Za rfl rfl rfl (Zi Ya rfl (Zhr _) hS hs0 trivial Yx) (Zb 1 rfl ?_)))))
 obtain ⟨r167, hm168, H⟩ := bind_some H
 refine Zn rfl rfl rfl rfl (by kernel_rfl) rfl (Zgi r63.tuple (IntKind.wrap .i64 ((IntKind.wrap .i64 (x1.last + 1)) + v156)) A65 c66 _ (Zhu k67 (hS.row_rd hs4) (hS.row_blk hs4)) hm168) ?_
 rintro e w ⟨rfl, hN⟩; refine ⟨_, rfl, ?_⟩; obtain ⟨hB, hS⟩ := hS.jn hN
 refine Zb 1 rfl (Za rfl rfl rfl (Zv rfl rfl) (Za rfl rfl rfl (Zv rfl rfl) (Zb 2 rfl (Zg (Zc hK166 (Zd (fun K hK169 => Zd (fun K hK170 => ?_))))))))
 refine Ze (Zb 2 rfl (Zs 39 rfl (fun hb => ?_) (fun hb => ?_)))
 rotate_left
 ·replace H := Zo H hb
  have hw276 := hb
  refine Zb 9 rfl (Zg (Zc hK170 (Yl rfl rfl (Zr (Zc hK169 (Zd (fun K hK277 => Zd (fun K hK278 => ?_))))))))
  refine Ze (Zb 2 rfl (Zs 50 rfl (fun hb => ?_) (fun hb => ?_)))
  ·cases hw276.symm.trans hb
  refine Zb 5 rfl (Zg (Zc hK278 (Yl rfl rfl (Zr (Zc hK277 (Zd (fun K hK279 => Zd (fun K hK280 => ?_))))))))
  refine Ze (Zb 1 rfl (Zg (Zc hK280 (Zy rfl (fun hb => ?_) (fun hb => ?_)))))
  ·cases hw276.symm.trans hb
  refine Zr (Zc hK279 (Zd (fun K hK281 => Yi 12 [10] (fun i b => (i = 10 → b = b151 ∨ b = b148 ∨ b = b146 ∨ b = b144 ∨ b = b6 ∨ b = b4 ∨ b = b2)) ⟨by kernel_rfl, by kernel_rfl⟩ hS (fun w hS hB => Ze6 [⟨9, 11, 26, [.int .i64 0, .int .i64 0, .int .i64 0, .int .i64 0, .bool false, .slice none 0 0, .int .i64 0, .int .i64 0]⟩] (.cons rfl Zal rfl rfl rfl .nil) hS (fun hok => ?_)))))
  dsimp only [List.cons_append, List.nil_append]
  refine Jo [Tt,Tt,Tt,Tt,Tt] [] (fun _ => True) (by decide +kernel) (fun _ h => by cases h) PFC.h (fun X Y tk ht w hS => LtK.put rfl rfl rfl (Zi Ya rfl (Zht _ _) hS hs0 trivial Yx) (LtK.put rfl rfl rfl (Zf X8 rfl) (LtK.put rfl rfl rfl (Zh Xx rfl (Zht _ _) hS Xq trivial Zak) (LtK.put rfl rfl rfl (Zw rfl) ?_))))
  obtain ⟨l282, hd283, H⟩ := bind_some H
  refine LtK.put rfl rfl rfl (yx_slice_l Y8 rfl rfl hd283) (Zei ht hS (by repeat (first | exact App.nil | apply App.cons)) (by repeat (first | exact App.nil | apply App.cons)) ?_)
  dsimp only [List.cons_append, List.nil_append]
  refine Ze2 [Ff,Ff,Ff,Ff,Ff,Tt] 5 hok ⟨by decide, by decide +kernel, by decide, by decide⟩ rfl rfl (fun _ => rfl) (fun _ => rfl) rfl (hend_of (by decide +kernel)) (fun X Y tk ht w hS => ?_)
  try dsimp only [Z0]
  obtain ⟨r284, hm285, H⟩ := bind_some H
  refine Zn rfl rfl rfl rfl (by kernel_rfl) rfl (c_ref12_Append r63.tuple l282 A65 c66 (cutA A5_ c5_ (Int.toNat v156) 3) (c5_ - Int.toNat v156) _ (Zhu k67 (hS.row_rd hs4) (hS.row_blk hs4)) (Zhu (k_drop s5_.k hd283) (Rd.dropI Xy (hS.rd0 s5_.rd) s5_.k.1 hd283) (cutA_blk (hS.blk0 s5_.blk))) hm285) ?_
  rintro e w ⟨A286, c287, rfl, k288, hN⟩; refine ⟨_, rfl, ?_⟩; obtain ⟨hB, hS⟩ := hS.jn hN
  refine Zg (Ze7 ht hS hB (by repeat (first | exact App.nil | apply App.cons)) (by repeat (first | exact App.nil | apply App.cons)) ?_)
  dsimp only [List.cons_append, List.nil_append]
  refine Jo [Ff,Ff,Ff,Ff,Ff,Ff,Tt,Tt] [] (fun _ => True) (by decide +kernel) (fun _ h => by cases h) PFC.h (fun X Y tk ht w hS => LtK.put rfl rfl rfl (Zw rfl) (LtK.put rfl rfl rfl (Zv rfl rfl) (Zei ht hS (by repeat (first | exact App.nil | apply App.cons)) (by repeat (first | exact App.nil | apply App.cons)) ?_)))
  dsimp only [List.cons_append, List.nil_append]
  refine Jo [Ff,Ff,Ff,Ff,Ff,Ff,Ff,Ff,Tt] [10] (fun b => (b = b151 ∨ b = b148 ∨ b = b146 ∨ b = b144 ∨ b = b6 ∨ b = b4 ∨ b = b2)) (by decide +kernel) (by intro j hj b hb; simp only [List.mem_cons, List.not_mem_nil, or_false] at hj; (try rcases hj with rfl | rfl | rfl | rfl | rfl) <;> first | (simp [hb]; done) | simp_all) PFC.h (fun X Y tk ht w hS => LtK.put rfl rfl rfl (Zv rfl rfl) (Zei ht hS (by repeat (first | exact App.nil | apply App.cons)) (by repeat (first | exact App.nil | apply App.cons)) ?_))
  dsimp only [List.cons_append, List.nil_append]
  refine Zf6 hok (by decide) (by decide +kernel) (fun _ => rfl) (fun _ => rfl) rfl (fun tk htk w hS => ?_)
  obtain ⟨b290, tkb290, rfl, htk292⟩ := tk_cons htk
  obtain rfl := tk_nil htk292
  dsimp only [tkH, tkL, List.map] at hS ⊢
  refine Yq [Ff,Ff,Ff,Ff,Ff,Ff,Ff,Ff,Ff,Ff,Tt] 10 ⟨by decide, by kernel_rfl, by kernel_rfl⟩ rfl rfl ?_
  try dsimp only [Z0]
  refine Zl rfl rfl rfl CellsOf.agg hS ps13 X0 (by kernel_rfl) rfl (fun w hS hB => Zg (Yk (hB.sub (fun b _ h => by have h0 : b = b151 ∨ b = b148 ∨ b = b146 ∨ b = b144 ∨ b = b6 ∨ b = b4 ∨ b = b2 := (by simpa using h); rcases h0 with h0 | h0 | h0 | h0 | h0 | h0 | h0; (rw [h0]; exact hS.ne 1 13 rfl rfl rfl); (rw [h0]; exact hS.ne 2 13 rfl rfl rfl); (rw [h0]; exact hS.ne 3 13 rfl rfl rfl); (rw [h0]; exact hS.ne 4 13 rfl rfl rfl); (rw [h0]; exact hS.ne 10 13 rfl rfl rfl); (rw [h0]; exact hS.ne 11 13 rfl rfl rfl); (rw [h0]; exact hS.ne 12 13 rfl rfl rfl))) (Zq [Ff,Ff,Ff,Ff,Ff,Ff,Ff,Ff,Ff,Ff,Ff,Tt] (by decide +kernel) PFC.h (LtK.put rfl rfl rfl (Z2 rfl) (LtK.nil (Ye (by kernel_rfl) (Zc hK281 ?_)))))))
  refine Zd (fun K hK293 => Zd (fun K hK294 => Ze (Zb 1 rfl (Za rfl rfl rfl (Xu rfl rfl) (Zg (Zc hK294 (Zy rfl (fun hb => ?_) (fun hb => ?_))))))))
  ·replace H := Zp H hb
   refine Zd (fun K hK296 => Ze (Za rfl rfl rfl (Zf Yy rfl) (Za rfl rfl rfl (Zi Ya rfl (Zhr _) hS hs4 trivial Jv) (Zl rfl rfl rfl CellsOf.agg hS ps2 X0 (by kernel_rfl) rfl (fun w hS hB => Zb 1 rfl (Zg (Zc hK296 ?_)))))))
   refine Zk (Zj (Zx (Zj (Zj (Zx (Zj (Zm rfl (RV.cell rfl (Zu Ya hS Xq Yx) (RV.tmp rfl RV.nil)) rfl ?_)))))))
   refine ⟨_, rfl, ?_⟩
   refine Zb 1 rfl (Za rfl rfl rfl (Zv rfl rfl) (Za rfl rfl rfl (Zv rfl rfl) (Z5 rfl rfl Zal hS (fun b297 w hS hB => Zl rfl rfl rfl CellsOf.agg hS ps0 X0 (by kernel_rfl) rfl (fun w hS hB => Zb 1 rfl (Zg (Zc hK142 ?_)))))))
   refine Zd (fun K hK299 => Zd (fun K hK300 => Ze (Zb 1 rfl (Za rfl rfl rfl (Y1 rfl rfl) (Zg (Zc hK300 (Yl rfl rfl ?_)))))))
   refine Zr (Zc hK299 (Zd (fun K hK301 => Zd (fun K hK302 => Ze (Zb 1 rfl (Za rfl rfl rfl (Y1 rfl rfl) (Zg ?_)))))))
   refine Zc hK302 (Zt rfl rfl (Zd (fun K hK303 => Yi 7 [5] (fun i b => (i = 5 → b ≠ b6)) ⟨by kernel_rfl, by kernel_rfl⟩ hS (fun w hS hB => Zq [true] (by decide +kernel) PFC.h (LtK.put rfl rfl rfl (Zi Z7 rfl (Zhs _) hS Zg4 trivial Zz) (LtK.nil (Y7 [Ff,Tt,Tt,Tt] [5] (fun b => b ≠ b6) (by decide +kernel) (by intro j hj b hb; simp only [List.mem_cons, List.not_mem_nil, or_false] at hj; (try rcases hj with rfl | rfl | rfl | rfl | rfl) <;> first | (simp [hb]; done) | simp_all) PFC.h ?_)))))))
   refine LtK.put rfl rfl rfl (Zi Z7 rfl (Zht _ _) hS Zg4 (hS.ne 13 11 rfl rfl rfl) Zz) (LtK.put rfl rfl rfl (Zi Xn rfl (Zht _ _) hS hs12 (hS.ne 12 11 rfl rfl rfl) Y2) (LtK.put rfl rfl rfl (Zw rfl) (LtK.nil (Z6 [Ff,Ff,Ff,Ff,Tt] 4 ⟨by decide, by kernel_rfl, by kernel_rfl⟩ rfl rfl ?_))))
   try dsimp only [Z0]
   obtain ⟨r304, hm305, H⟩ := bind_some H
   refine Zn rfl rfl rfl rfl (by kernel_rfl) rfl (Zbi {r63 with role := 0} x1 false r86 A65 c66 A69 c70 A73 c74 A77 c78 A81 c82 A5_ c5_ _ (Zhu k67 (hS.row_rd hs6) (hS.row_blk hs6)) (Zhu k71 (hS.row_rd hs7) (hS.row_blk hs7)) (Zhu k75 (hS.row_rd hs8) (hS.row_blk hs8)) (Zhu k79 (hS.row_rd hs9) (hS.row_blk hs9)) (Zhu k83 (hS.row_rd Zek) (hS.row_blk Zek)) (Zhu s5_.k (hS.rd0 s5_.rd) (hS.blk0 s5_.blk)) hm305) ?_
   rintro e w ⟨A306, c307, q310, rfl, k308, hq311, okq312, hN⟩; refine ⟨_, rfl, ?_⟩; obtain ⟨hB, hS⟩ := hS.jn hN
   refine Zg (Z9 hB (Yq [Ff,Ff,Ff,Ff,Ff,Tt] 5 ⟨by decide, by kernel_rfl, by kernel_rfl⟩ rfl rfl ?_))
   try dsimp only [Z0]
   refine Zl rfl rfl rfl CellsOf.agg hS ps13 Yo (by kernel_rfl) rfl (fun w hS hB => Zg (Yk (hB.sub (fun _ _ h => by simpa using h)) (Zq [Ff,Ff,Ff,Ff,Ff,Ff,Tt] (by decide +kernel) PFC.h (LtK.put rfl rfl rfl (Z2 rfl) (LtK.nil (Ye (by kernel_rfl) (Zc hK303 ?_)))))))
   refine Zk (Zj (Zm rfl (RV.cell rfl (Zu Z7 hS Zg4 Zz) (RV.tmp rfl RV.nil)) rfl ?_))
   obtain rfl := QJ H
   have hS := hS.front 1 rfl
   replace hS := hS.front 1 rfl
   have hS := hS.front 12 rfl
   have hS := hS.front 12 rfl
   have hS := hS.front 12 rfl
   have hS := hS.front 12 rfl
   have hS := hS.front 12 rfl
   replace hS := hS.cut 7
   exact ⟨A65, c66, A69, c70, A73, c74, A77, c78, A81, c82, A306, c307, q310, rfl, k67, k71, k75, k79, k83, k308, hq311, okq312, hS⟩
  replace H := Zo H hb
  refine Zr (Zc hK293 (Zd (fun K hK315 => Ze (Za rfl rfl rfl (Zi Ya rfl (Zhr _) hS Zg4 trivial Yx) (Zl rfl rfl rfl CellsOf.agg hS ps2 X0 (by kernel_rfl) rfl (fun w hS hB => Zb 1 rfl (Zg ?_)))))))
  refine Zc hK315 (Zk (Zx (Zj (Zj (Zx (Zj (Zm rfl (RV.cell rfl (Zu Ya hS Xq Yx) (RV.tmp rfl RV.nil)) rfl ?_)))))))
  refine ⟨_, rfl, ?_⟩
  refine Zb 1 rfl (Za rfl rfl rfl (Zv rfl rfl) (Za rfl rfl rfl (Zv rfl rfl) (Z5 rfl rfl Zal hS (fun b316 w hS hB => Zl rfl rfl rfl CellsOf.agg hS ps0 X0 (by kernel_rfl) rfl (fun w hS hB => Zb 1 rfl (Zg (Zc hK142 ?_)))))))
  refine Zd (fun K hK318 => Zd (fun K hK319 => Ze (Zb 1 rfl (Za rfl rfl rfl (Y1 rfl rfl) (Zg (Zc hK319 (Yl rfl rfl ?_)))))))
  refine Zr (Zc hK318 (Zd (fun K hK320 => Zd (fun K hK321 => Ze (Zb 1 rfl (Za rfl rfl rfl (Y1 rfl rfl) (Zg ?_)))))))
  refine Zc hK321 (Yl rfl rfl (Zr (Zc hK320 (Zd (fun K hK322 => Ze (Za rfl rfl rfl (Zi Ya rfl (Zhr _) hS hs0 trivial Yx) (Za rfl rfl rfl (Zf Yy rfl) ?_)))))))
  refine Zl rfl rfl rfl CellsOf.agg hS ps13 st4_8 (by kernel_rfl) rfl (fun w hS hB => Zg (Zc hK322 (Zd (fun K hK323 => Ze (Za rfl rfl rfl (Zi Z7 rfl (Zhr _) hS Zg4 trivial Zz) ?_)))))
  obtain ⟨r324, hm325, H⟩ := bind_some H
  refine Zn rfl rfl rfl rfl (by kernel_rfl) rfl (Zgz {r63 with role := 0, tuple := r284.1} A286 c287 A69 c70 A73 c74 A77 c78 A81 c82 _ (Zhu k288 (hS.row_rd Xa) (hS.row_blk Xa)) (Zhu k71 (hS.row_rd hs7) (hS.row_blk hs7)) (Zhu k75 (hS.row_rd hs8) (hS.row_blk hs8)) (Zhu k79 (hS.row_rd hs9) (hS.row_blk hs9)) (Zhu k83 (hS.row_rd Zek) (hS.row_blk Zek)) hm325) ?_
  rintro e w ⟨A326, c327, A330, c331, A334, c335, A338, c339, A342, c343, rfl, k328, k332, k336, k340, k344, hN⟩; refine ⟨_, rfl, ?_⟩; obtain ⟨hB, hS⟩ := hS.jn hN
  refine Zl rfl rfl rfl CellsOf.agg hS ps18 Yo (by kernel_rfl) rfl (fun w hS hB => Zg (Zc hK323 (Zd (fun K hK346 => Ze (Za rfl rfl rfl (Zf V0 rfl) (Za rfl rfl rfl (Zh Z1 rfl (Zhr _) hS hs17 trivial Jd) (Za rfl rfl rfl (Zf X8 rfl) ?_)))))))
  refine Za rfl rfl rfl (Zh Xx rfl (Zhr _) hS hs17 trivial Zak) (Za rfl rfl rfl (Y0 Y8 rfl) (Za rfl rfl rfl (Xd rfl rfl) (Zb 1 rfl (Zg (Zc hK346 (Zd (fun K hK347 => Ze ?_)))))))
  refine Za rfl rfl rfl (Zf V6 rfl) (Za rfl rfl rfl (Zh Z1 rfl (Zhr _) hS hs18 trivial Zbw) (Za rfl rfl rfl (Zf Zdu rfl) (Za rfl rfl rfl (Zh Z1 rfl (Zhr _) hS hs17 trivial Zey) (Zb 1 rfl (Za rfl rfl rfl (Zdy rfl rfl) (Za rfl rfl rfl (Zdw rfl rfl) (Za rfl rfl rfl (Zf V6 rfl) ?_)))))))
  refine Zl rfl rfl rfl CellsOf.int hS ps18 st12_1 (by kernel_rfl) rfl (fun w hS hB => Zg (Zc hK347 (Zd (fun K hK348 => Ze (Za rfl rfl rfl (Zf Yy rfl) (Za rfl rfl rfl (Zi Ya rfl (Zhr _) hS hs18 trivial Jv) (Za rfl rfl rfl (Zf V6 rfl) ?_)))))))
  refine Za rfl rfl rfl (Zh Z1 rfl (Zhr _) hS hs18 trivial Zbw) ?_
  obtain ⟨r349, hm350, H⟩ := bind_some H
  refine Zn rfl rfl rfl rfl (by kernel_rfl) rfl (Zfi r324.tuple (max r324.commit (min x1.commit (IntKind.wrap .i64 (x1.last + (x1.entries.length : Int))))) A326 c327 _ (Zhu k328 (hS.row_rd hs0) (hS.row_blk hs0)) hm350) ?_
  rintro e w ⟨rfl, hN⟩; refine ⟨_, rfl, ?_⟩; obtain ⟨hB, hS⟩ := hS.jn hN
  refine Zb 1 rfl (Za rfl rfl rfl (Zv rfl rfl) (Za rfl rfl rfl (Zv rfl rfl) (Za rfl rfl rfl (Zf Zfg rfl) (Zl rfl rfl rfl CellsOf.agg hS ps18 st13_5 (by kernel_rfl) rfl (fun w hS hB => Zg (Zc hK348 (Zd (fun K hK351 => ?_))))))))
  refine Yi 7 [5] (fun i b => (i = 5 → b ≠ b6)) ⟨by kernel_rfl, by kernel_rfl⟩ hS (fun w hS hB => Zq [true] (by decide +kernel) PFC.h (LtK.put rfl rfl rfl (Zi Z7 rfl (Zhs _) hS hs18 trivial Zz) (LtK.nil (Y7 [Ff,Tt,Tt,Tt] [5] (fun b => b ≠ b6) (by decide +kernel) (by intro j hj b hb; simp only [List.mem_cons, List.not_mem_nil, or_false] at hj; (try rcases hj with rfl | rfl | rfl | rfl | rfl) <;> first | (simp [hb]; done) | simp_all) PFC.h (LtK.put rfl rfl rfl (Zi Z7 rfl (Zht _ _) hS hs18 (hS.ne 18 16 rfl rfl rfl) Zz) (LtK.put rfl rfl rfl (Zi Xn rfl (Zht _ _) hS hs17 (hS.ne 17 16 rfl rfl rfl) Y2) (LtK.put rfl rfl rfl (Zw rfl) ?_)))))))
  refine LtK.nil (Z6 [Ff,Ff,Ff,Ff,Tt] 4 ⟨by decide, by kernel_rfl, by kernel_rfl⟩ rfl rfl ?_)
  try dsimp only [Z0]
  obtain ⟨r352, hm353, H⟩ := bind_some H
  refine Zn rfl rfl rfl rfl (by kernel_rfl) rfl (Zbi {r324 with commit := (max r324.commit (min x1.commit (IntKind.wrap .i64 (x1.last + (x1.entries.length : Int))))), applied := r349.1} x1 true (IntKind.wrap .i64 (x1.last + (x1.entries.length : Int))) A326 c327 A330 c331 A334 c335 A338 c339 A342 c343 A5_ c5_ _ (Zhu k328 (hS.row_rd hs0) (hS.row_blk hs0)) (Zhu k332 (hS.row_rd Xa) (hS.row_blk Xa)) (Zhu k336 (hS.row_rd Xq) (hS.row_blk Xq)) (Zhu k340 (hS.row_rd hs3) (hS.row_blk hs3)) (Zhu k344 (hS.row_rd hs4) (hS.row_blk hs4)) (Zhu s5_.k (hS.rd0 s5_.rd) (hS.blk0 s5_.blk)) hm353) ?_
  rintro e w ⟨A354, c355, q358, rfl, k356, hq359, okq360, hN⟩; refine ⟨_, rfl, ?_⟩; obtain ⟨hB, hS⟩ := hS.jn hN
  refine Zg (Z9 hB (Yq [Ff,Ff,Ff,Ff,Ff,Tt] 5 ⟨by decide, by kernel_rfl, by kernel_rfl⟩ rfl rfl ?_))
  try dsimp only [Z0]
  refine Zl rfl rfl rfl CellsOf.agg hS ps18 Yo (by kernel_rfl) rfl (fun w hS hB => Zg (Yk (hB.sub (fun _ _ h => by simpa using h)) (Zq [Ff,Ff,Ff,Ff,Ff,Ff,Tt] (by decide +kernel) PFC.h (LtK.put rfl rfl rfl (Z2 rfl) (LtK.nil (Ye (by kernel_rfl) (Zc hK351 ?_)))))))
  refine Zk (Zm rfl (RV.cell rfl (Zu Z7 hS hs18 Zz) (RV.tmp rfl RV.nil)) rfl ?_)
  obtain rfl := QJ H
  have hS := hS.front 1 rfl
  replace hS := hS.front 1 rfl
  have hS := hS.front 6 rfl
  have hS := hS.front 6 rfl
  have hS := hS.front 6 rfl
  have hS := hS.front 6 rfl
  have hS := hS.front 6 rfl
  replace hS := hS.cut 7
  exact ⟨A326, c327, A330, c331, A334, c335, A338, c339, A342, c343, A354, c355, q358, rfl, k328, k332, k336, k340, k344, k356, hq359, okq360, hS⟩
 replace H := Zp H hb
 have hw171 := hb
 refine Zb 1 rfl (Za rfl rfl rfl (Zf X8 rfl) (Za rfl rfl rfl (Zh Xx rfl (Zhr _) hS Xq trivial Zak) (Zb 1 rfl ?_)))
 obtain ⟨e172, hi174, H⟩ := bind_some H
 obtain ⟨j173, hi174a, hi174b, hi174c⟩ := Yt hi174
 refine Za rfl rfl rfl (Xf Y8 rfl rfl hi174a hi174c (Rd.el (hS.rd0 s5_.rd) Xy hi174b)) (Za rfl rfl rfl (Zau Zbt rfl (Rd.el (hS.rd0 s5_.rd) Xy hi174b)) (Za rfl rfl rfl (Vj Z1 rfl (Zhr _) (Rd.el (hS.rd0 s5_.rd) Xy hi174b) rfl) (Za rfl rfl rfl (Y1 rfl rfl) (Zb 1 rfl (Zg (Zc hK170 (Zy rfl (fun hb => ?_) (fun hb => ?_))))))))
 ·replace H := Zp H hb
  refine X1 (Z8 (Yz (Zc hK160 (Ze (Zb 1 rfl (Za rfl rfl rfl (Xd rfl rfl) (Zb 1 rfl ?_)))))))
  refine Zg ?_
  exact X2 (n, v155, (IntKind.wrap .i64 (v156 + 1))) (by repeat (first | exact Sub.nil | refine Sub.cons rfl ?_)) ⟨hS, H⟩ (Nat.lt_succ_self _)
 replace H := Zo H hb
 refine Zr (Zc hK169 (Zd (fun K hK177 => Zd (fun K hK178 => Ze (Zb 2 rfl (Zs 50 rfl (fun hb => ?_) (fun hb => ?_)))))))
 rotate_left
 ·cases hw171.symm.trans hb
 refine Zb 1 rfl (Za rfl rfl rfl (Zf V6 rfl) (Za rfl rfl rfl (Zh Z1 rfl (Zhr _) hS hs3 trivial Zbw) (Za rfl rfl rfl (Za5 rfl rfl) (Zb 1 rfl (Zg (Zc hK178 (Zy rfl (fun hb => ?_) (fun hb => ?_))))))))
 ·replace H := Zp H hb
  refine Zd (fun K hK180 => Ze (Za rfl rfl rfl (Zf Yy rfl) (Za rfl rfl rfl (Zi Ya rfl (Zhr _) hS hs3 trivial Jv) (Zl rfl rfl rfl CellsOf.agg hS ps1 X0 (by kernel_rfl) rfl (fun w hS hB => Zb 1 rfl (Zg (Zc hK180 ?_)))))))
  refine Zk (Zj (Zx (Zj (Zj (Zx (Zj (Zm rfl (RV.cell rfl (Zu Ya hS Xa Yx) (RV.tmp rfl RV.nil)) rfl ?_)))))))
  refine ⟨_, rfl, ?_⟩
  refine Zb 1 rfl (Za rfl rfl rfl (Zv rfl rfl) (Za rfl rfl rfl (Zv rfl rfl) (Z5 rfl rfl Zal hS (fun b181 w hS hB => Zl rfl rfl rfl CellsOf.agg hS ps0 X0 (by kernel_rfl) rfl (fun w hS hB => Zb 1 rfl (Zg (Zc hK142 ?_)))))))
  refine Zd (fun K hK183 => Zd (fun K hK184 => Ze (Zb 1 rfl (Za rfl rfl rfl (Y1 rfl rfl) (Zg (Zc hK184 (Zt rfl rfl ?_)))))))
  refine Zd (fun K hK185 => Ze (Za rfl rfl rfl (Zi Z7 rfl (Zhr _) hS hs12 trivial Zz) (Zl rfl rfl rfl CellsOf.agg hS ps10 Yo (by kernel_rfl) rfl (fun w hS hB => Zb 1 rfl (Zg (Zc hK185 (Zk ?_)))))))
  refine Zj (Zm rfl (RV.cell rfl (Zu Z7 hS Zek Zz) (RV.tmp rfl RV.nil)) rfl ?_)
  obtain rfl := QJ H
  have hS := hS.nilRds
  replace hS := hS.nilRd
  have hS := hS.front 11 rfl
  have hS := hS.front 11 rfl
  have hS := hS.front 11 rfl
  have hS := hS.front 11 rfl
  have hS := hS.front 11 rfl
  replace hS := hS.cut 7
  exact ⟨A65, c66, A69, c70, A73, c74, A77, c78, A81, c82, none, 0, ([] : List Mq), rfl, k67, k71, k75, k79, k83, ⟨Nat.le_refl _, Nat.zero_le _⟩, rfl, Vy, hS⟩
 replace H := Zo H hb
 refine Zr (Zc hK177 (Zd (fun K hK187 => Zd (fun K hK188 => Ze (Zb 1 rfl (Zg (Zc hK188 ?_)))))))
 refine Zy rfl (fun hb => ?_) (fun hb => ?_)
 rotate_left
 ·cases hw171.symm.trans hb
 refine Ze (Za rfl rfl rfl (Zi Ya rfl (Zhr _) hS hs0 trivial Yx) (Zb 1 rfl ?_))
 obtain ⟨r189, hm190, H⟩ := bind_some H
 refine Zn rfl rfl rfl rfl (by kernel_rfl) rfl (c_ref12_Cut r63.tuple (IntKind.wrap .i64 ((IntKind.wrap .i64 (x1.last + 1)) + v156)) A65 c66 _ (Zhu k67 (hS.row_rd hs4) (hS.row_blk hs4)) hm190) ?_
 rintro e w ⟨A191, c192, rfl, k193, hN⟩; refine ⟨_, rfl, ?_⟩; obtain ⟨hB, hS⟩ := hS.jn hN
 refine Zb 1 rfl (Za rfl rfl rfl (Zv rfl rfl) (Za rfl rfl rfl (Zv rfl rfl) (Zl rfl rfl rfl CellsOf.agg hS ps1 X0 (by kernel_rfl) rfl (fun w hS hB => Zg (Zc hK187 (Zd (fun K hK195 => Yi 12 [10] (fun i b => (i = 10 → b = b151 ∨ b = b148 ∨ b = b146 ∨ b = b144 ∨ b = b6 ∨ b = b4 ∨ b = b2)) ⟨by kernel_rfl, by kernel_rfl⟩ hS (fun w hS hB => ?_))))))))
 refine Ze6 [⟨9, 11, 26, [.int .i64 0, .int .i64 0, .int .i64 0, .int .i64 0, .bool false, .slice none 0 0, .int .i64 0, .int .i64 0]⟩] (.cons rfl Zal rfl rfl rfl .nil) hS (fun hok => ?_)
 dsimp only [List.cons_append, List.nil_append]
 refine Jo [Tt,Tt,Tt,Tt,Tt] [] (fun _ => True) (by decide +kernel) (fun _ h => by cases h) PFC.h (fun X Y tk ht w hS => LtK.put rfl rfl rfl (Zi Ya rfl (Zht _ _) hS Xa trivial Yx) (LtK.put rfl rfl rfl (Zf X8 rfl) (LtK.put rfl rfl rfl (Zh Xx rfl (Zht _ _) hS hs3 trivial Zak) (LtK.put rfl rfl rfl (Zw rfl) ?_))))
 obtain ⟨l196, hd197, H⟩ := bind_some H
 refine LtK.put rfl rfl rfl (yx_slice_l Y8 rfl rfl hd197) (Zei ht hS (by repeat (first | exact App.nil | apply App.cons)) (by repeat (first | exact App.nil | apply App.cons)) ?_)
 dsimp only [List.cons_append, List.nil_append]
 refine Ze2 [Ff,Ff,Ff,Ff,Ff,Tt] 5 hok ⟨by decide, by decide +kernel, by decide, by decide⟩ rfl rfl (fun _ => rfl) (fun _ => rfl) rfl (hend_of (by decide +kernel)) (fun X Y tk ht w hS => ?_)
 try dsimp only [Z0]
 obtain ⟨r198, hm199, H⟩ := bind_some H
 refine Zn rfl rfl rfl rfl (by kernel_rfl) rfl (c_ref12_Append r189.1 l196 A191 c192 (cutA A5_ c5_ (Int.toNat v156) 3) (c5_ - Int.toNat v156) _ (Zhu k193 (hS.rd hs0) (hS.rd_blk hs0)) (Zhu (k_drop s5_.k hd197) (Rd.dropI Xy (hS.rd0 s5_.rd) s5_.k.1 hd197) (cutA_blk (hS.blk0 s5_.blk))) hm199) ?_
 rintro e w ⟨A200, c201, rfl, k202, hN⟩; refine ⟨_, rfl, ?_⟩; obtain ⟨hB, hS⟩ := hS.jn hN
 refine Zg (Ze7 ht hS hB (by repeat (first | exact App.nil | apply App.cons)) (by repeat (first | exact App.nil | apply App.cons)) ?_)
 dsimp only [List.cons_append, List.nil_append]
 refine Jo [Ff,Ff,Ff,Ff,Ff,Ff,Tt,Tt] [] (fun _ => True) (by decide +kernel) (fun _ h => by cases h) PFC.h (fun X Y tk ht w hS => LtK.put rfl rfl rfl (Zw rfl) (LtK.put rfl rfl rfl (Zv rfl rfl) (Zei ht hS (by repeat (first | exact App.nil | apply App.cons)) (by repeat (first | exact App.nil | apply App.cons)) ?_)))
 dsimp only [List.cons_append, List.nil_append]
 refine Jo [Ff,Ff,Ff,Ff,Ff,Ff,Ff,Ff,Tt] [10] (fun b => (b = b151 ∨ b = b148 ∨ b = b146 ∨ b = b144 ∨ b = b6 ∨ b = b4 ∨ b = b2)) (by decide +kernel) (by intro j hj b hb; simp only [List.mem_cons, List.not_mem_nil, or_false] at hj; (try rcases hj with rfl | rfl | rfl | rfl | rfl) <;> first | (simp [hb]; done) | simp_all) PFC.h (fun X Y tk ht w hS => LtK.put rfl rfl rfl (Zv rfl rfl) (Zei ht hS (by repeat (first | exact App.nil | apply App.cons)) (by repeat (first | exact App.nil | apply App.cons)) ?_))
 dsimp only [List.cons_append, List.nil_append]
 refine Zf6 hok (by decide) (by decide +kernel) (fun _ => rfl) (fun _ => rfl) rfl (fun tk htk w hS => ?_)
 obtain ⟨b204, tkb204, rfl, htk206⟩ := tk_cons htk
 obtain rfl := tk_nil htk206
 dsimp only [tkH, tkL, List.map] at hS ⊢
 refine Yq [Ff,Ff,Ff,Ff,Ff,Ff,Ff,Ff,Ff,Ff,Tt] 10 ⟨by decide, by kernel_rfl, by kernel_rfl⟩ rfl rfl ?_
 try dsimp only [Z0]
 refine Zl rfl rfl rfl CellsOf.agg hS ps14 X0 (by kernel_rfl) rfl (fun w hS hB => Zg (Yk (hB.sub (fun b _ h => by have h0 : b = b151 ∨ b = b148 ∨ b = b146 ∨ b = b144 ∨ b = b6 ∨ b = b4 ∨ b = b2 := (by simpa using h); rcases h0 with h0 | h0 | h0 | h0 | h0 | h0 | h0; (rw [h0]; exact hS.ne 2 14 rfl rfl rfl); (rw [h0]; exact hS.ne 3 14 rfl rfl rfl); (rw [h0]; exact hS.ne 4 14 rfl rfl rfl); (rw [h0]; exact hS.ne 5 14 rfl rfl rfl); (rw [h0]; exact hS.ne 11 14 rfl rfl rfl); (rw [h0]; exact hS.ne 12 14 rfl rfl rfl); (rw [h0]; exact hS.ne 13 14 rfl rfl rfl))) (Zq [Ff,Ff,Ff,Ff,Ff,Ff,Ff,Ff,Ff,Ff,Ff,Tt] (by decide +kernel) PFC.h (LtK.put rfl rfl rfl (Z2 rfl) (LtK.nil (Ye (by kernel_rfl) (Zc hK195 ?_)))))))
 refine Zd (fun K hK207 => Zd (fun K hK208 => Ze (Zb 1 rfl (Za rfl rfl rfl (Xu rfl rfl) (Zg (Zc hK208 (Zy rfl (fun hb => ?_) (fun hb => ?_))))))))
 ·replace H := Zp H hb
  refine Zd (fun K hK210 => Ze (Za rfl rfl rfl (Zf Yy rfl) (Za rfl rfl rfl (Zi Ya rfl (Zhr _) hS hs5 trivial Jv) (Zl rfl rfl rfl CellsOf.agg hS ps3 X0 (by kernel_rfl) rfl (fun w hS hB => Zb 1 rfl (Zg (Zc hK210 ?_)))))))
  refine Zk (Zj (Zx (Zj (Zj (Zx (Zj (Zm rfl (RV.cell rfl (Zu Ya hS hs3 Yx) (RV.tmp rfl RV.nil)) rfl ?_)))))))
  refine ⟨_, rfl, ?_⟩
  refine Zb 1 rfl (Za rfl rfl rfl (Zv rfl rfl) (Za rfl rfl rfl (Zv rfl rfl) (Z5 rfl rfl Zal hS (fun b211 w hS hB => Zl rfl rfl rfl CellsOf.agg hS ps0 X0 (by kernel_rfl) rfl (fun w hS hB => Zb 1 rfl (Zg (Zc hK142 ?_)))))))
  refine Zd (fun K hK213 => Zd (fun K hK214 => Ze (Zb 1 rfl (Za rfl rfl rfl (Y1 rfl rfl) (Zg (Zc hK214 (Yl rfl rfl ?_)))))))
  refine Zr (Zc hK213 (Zd (fun K hK215 => Zd (fun K hK216 => Ze (Zb 1 rfl (Za rfl rfl rfl (Y1 rfl rfl) (Zg ?_)))))))
  refine Zc hK216 (Zt rfl rfl (Zd (fun K hK217 => Yi 7 [5] (fun i b => (i = 5 → b ≠ b6)) ⟨by kernel_rfl, by kernel_rfl⟩ hS (fun w hS hB => Zq [true] (by decide +kernel) PFC.h (LtK.put rfl rfl rfl (Zi Z7 rfl (Zhs _) hS Zg8 trivial Zz) (LtK.nil (Y7 [Ff,Tt,Tt,Tt] [5] (fun b => b ≠ b6) (by decide +kernel) (by intro j hj b hb; simp only [List.mem_cons, List.not_mem_nil, or_false] at hj; (try rcases hj with rfl | rfl | rfl | rfl | rfl) <;> first | (simp [hb]; done) | simp_all) PFC.h ?_)))))))
  refine LtK.put rfl rfl rfl (Zi Z7 rfl (Zht _ _) hS Zg8 (hS.ne 14 12 rfl rfl rfl) Zz) (LtK.put rfl rfl rfl (Zi Xn rfl (Zht _ _) hS Zg4 (hS.ne 13 12 rfl rfl rfl) Y2) (LtK.put rfl rfl rfl (Zw rfl) (LtK.nil (Z6 [Ff,Ff,Ff,Ff,Tt] 4 ⟨by decide, by kernel_rfl, by kernel_rfl⟩ rfl rfl ?_))))
  try dsimp only [Z0]
  obtain ⟨r218, hm219, H⟩ := bind_some H
  refine Zn rfl rfl rfl rfl (by kernel_rfl) rfl (Zbi {r63 with role := 0} x1 false r86 A65 c66 A69 c70 A73 c74 A77 c78 A81 c82 A5_ c5_ _ (Zhu k67 (hS.row_rd hs7) (hS.row_blk hs7)) (Zhu k71 (hS.row_rd hs8) (hS.row_blk hs8)) (Zhu k75 (hS.row_rd hs9) (hS.row_blk hs9)) (Zhu k79 (hS.row_rd Zek) (hS.row_blk Zek)) (Zhu k83 (hS.row_rd hs11) (hS.row_blk hs11)) (Zhu s5_.k (hS.rd0 s5_.rd) (hS.blk0 s5_.blk)) hm219) ?_
  rintro e w ⟨A220, c221, q224, rfl, k222, hq225, okq226, hN⟩; refine ⟨_, rfl, ?_⟩; obtain ⟨hB, hS⟩ := hS.jn hN
  refine Zg (Z9 hB (Yq [Ff,Ff,Ff,Ff,Ff,Tt] 5 ⟨by decide, by kernel_rfl, by kernel_rfl⟩ rfl rfl ?_))
  try dsimp only [Z0]
  refine Zl rfl rfl rfl CellsOf.agg hS ps14 Yo (by kernel_rfl) rfl (fun w hS hB => Zg (Yk (hB.sub (fun _ _ h => by simpa using h)) (Zq [Ff,Ff,Ff,Ff,Ff,Ff,Tt] (by decide +kernel) PFC.h (LtK.put rfl rfl rfl (Z2 rfl) (LtK.nil (Ye (by kernel_rfl) (Zc hK217 ?_)))))))
  refine Zk (Zj (Zm rfl (RV.cell rfl (Zu Z7 hS Zg8 Zz) (RV.tmp rfl RV.nil)) rfl ?_))
  obtain rfl := QJ H
  have hS := hS.front 1 rfl
  replace hS := hS.front 1 rfl
  have hS := hS.front 13 rfl
  have hS := hS.front 13 rfl
  have hS := hS.front 13 rfl
  have hS := hS.front 13 rfl
  have hS := hS.front 13 rfl
  replace hS := hS.cut 7
  exact ⟨A65, c66, A69, c70, A73, c74, A77, c78, A81, c82, A220, c221, q224, rfl, k67, k71, k75, k79, k83, k222, hq225, okq226, hS⟩
 replace H := Zo H hb
 refine Zr (Zc hK207 (Zd (fun K hK229 => Ze (Za rfl rfl rfl (Zi Ya rfl (Zhr _) hS Zg8 trivial Yx) (Zl rfl rfl rfl CellsOf.agg hS ps3 X0 (by kernel_rfl) rfl (fun w hS hB => Zb 1 rfl (Zg ?_)))))))
 refine Zc hK229 (Zk (Zx (Zj (Zj (Zx (Zj (Zm rfl (RV.cell rfl (Zu Ya hS hs3 Yx) (RV.tmp rfl RV.nil)) rfl ?_)))))))
 refine ⟨_, rfl, ?_⟩
 refine Zb 1 rfl (Za rfl rfl rfl (Zv rfl rfl) (Za rfl rfl rfl (Zv rfl rfl) (Z5 rfl rfl Zal hS (fun b230 w hS hB => Zl rfl rfl rfl CellsOf.agg hS ps0 X0 (by kernel_rfl) rfl (fun w hS hB => Zb 1 rfl (Zg (Zc hK142 ?_)))))))
 refine Zd (fun K hK232 => Zd (fun K hK233 => Ze (Zb 1 rfl (Za rfl rfl rfl (Y1 rfl rfl) (Zg (Zc hK233 (Yl rfl rfl ?_)))))))
 refine Zr (Zc hK232 (Zd (fun K hK234 => Zd (fun K hK235 => Ze (Zb 1 rfl (Za rfl rfl rfl (Y1 rfl rfl) (Zg ?_)))))))
 refine Zc hK235 (Yl rfl rfl (Zr (Zc hK234 (Zd (fun K hK236 => Ze (Za rfl rfl rfl (Zi Ya rfl (Zhr _) hS hs0 trivial Yx) (Za rfl rfl rfl (Zf Yy rfl) ?_)))))))
 refine Zl rfl rfl rfl CellsOf.agg hS ps14 st4_8 (by kernel_rfl) rfl (fun w hS hB => Zg (Zc hK236 (Zd (fun K hK237 => Ze (Za rfl rfl rfl (Zi Z7 rfl (Zhr _) hS Zg8 trivial Zz) ?_)))))
 obtain ⟨r238, hm239, H⟩ := bind_some H
 refine Zn rfl rfl rfl rfl (by kernel_rfl) rfl (Zgz {r63 with role := 0, tuple := r198.1} A200 c201 A69 c70 A73 c74 A77 c78 A81 c82 _ (Zhu k202 (hS.row_rd Xa) (hS.row_blk Xa)) (Zhu k71 (hS.row_rd hs8) (hS.row_blk hs8)) (Zhu k75 (hS.row_rd hs9) (hS.row_blk hs9)) (Zhu k79 (hS.row_rd Zek) (hS.row_blk Zek)) (Zhu k83 (hS.row_rd hs11) (hS.row_blk hs11)) hm239) ?_
 rintro e w ⟨A240, c241, A244, c245, A248, c249, A252, c253, A256, c257, rfl, k242, k246, k250, k254, k258, hN⟩; refine ⟨_, rfl, ?_⟩; obtain ⟨hB, hS⟩ := hS.jn hN
 refine Zl rfl rfl rfl CellsOf.agg hS ps19 Yo (by kernel_rfl) rfl (fun w hS hB => Zg (Zc hK237 (Zd (fun K hK260 => Ze (Za rfl rfl rfl (Zf V0 rfl) (Za rfl rfl rfl (Zh Z1 rfl (Zhr _) hS hs18 trivial Jd) (Za rfl rfl rfl (Zf X8 rfl) ?_)))))))
 refine Za rfl rfl rfl (Zh Xx rfl (Zhr _) hS hs18 trivial Zak) (Za rfl rfl rfl (Y0 Y8 rfl) (Za rfl rfl rfl (Xd rfl rfl) (Zb 1 rfl (Zg (Zc hK260 (Zd (fun K hK261 => Ze ?_)))))))
 refine Za rfl rfl rfl (Zf V6 rfl) (Za rfl rfl rfl (Zh Z1 rfl (Zhr _) hS hs19 trivial Zbw) (Za rfl rfl rfl (Zf Zdu rfl) (Za rfl rfl rfl (Zh Z1 rfl (Zhr _) hS hs18 trivial Zey) (Zb 1 rfl (Za rfl rfl rfl (Zdy rfl rfl) (Za rfl rfl rfl (Zdw rfl rfl) (Za rfl rfl rfl (Zf V6 rfl) ?_)))))))
 refine Zl rfl rfl rfl CellsOf.int hS ps19 st12_1 (by kernel_rfl) rfl (fun w hS hB => Zg (Zc hK261 (Zd (fun K hK262 => Ze (Za rfl rfl rfl (Zf Yy rfl) (Za rfl rfl rfl (Zi Ya rfl (Zhr _) hS hs19 trivial Jv) (Za rfl rfl rfl (Zf V6 rfl) ?_)))))))
 refine Za rfl rfl rfl (Zh Z1 rfl (Zhr _) hS hs19 trivial Zbw) ?_
 obtain ⟨r263, hm264, H⟩ := bind_some H
 refine Zn rfl rfl rfl rfl (by kernel_rfl) rfl (Zfi r238.tuple (max r238.commit (min x1.commit (IntKind.wrap .i64 (x1.last + (x1.entries.length : Int))))) A240 c241 _ (Zhu k242 (hS.row_rd hs0) (hS.row_blk hs0)) hm264) ?_
 rintro e w ⟨rfl, hN⟩; refine ⟨_, rfl, ?_⟩; obtain ⟨hB, hS⟩ := hS.jn hN
 refine Zb 1 rfl (Za rfl rfl rfl (Zv rfl rfl) (Za rfl rfl rfl (Zv rfl rfl) (Za rfl rfl rfl (Zf Zfg rfl) (Zl rfl rfl rfl CellsOf.agg hS ps19 st13_5 (by kernel_rfl) rfl (fun w hS hB => Zg (Zc hK262 (Zd (fun K hK265 => ?_))))))))
 refine Yi 7 [5] (fun i b => (i = 5 → b ≠ b6)) ⟨by kernel_rfl, by kernel_rfl⟩ hS (fun w hS hB => Zq [true] (by decide +kernel) PFC.h (LtK.put rfl rfl rfl (Zi Z7 rfl (Zhs _) hS hs19 trivial Zz) (LtK.nil (Y7 [Ff,Tt,Tt,Tt] [5] (fun b => b ≠ b6) (by decide +kernel) (by intro j hj b hb; simp only [List.mem_cons, List.not_mem_nil, or_false] at hj; (try rcases hj with rfl | rfl | rfl | rfl | rfl) <;> first | (simp [hb]; done) | simp_all) PFC.h (LtK.put rfl rfl rfl (Zi Z7 rfl (Zht _ _) hS hs19 (hS.ne 19 17 rfl rfl rfl) Zz) (LtK.put rfl rfl rfl (Zi Xn rfl (Zht _ _) hS hs18 (hS.ne 18 17 rfl rfl rfl) Y2) (LtK.put rfl rfl rfl (Zw rfl) ?_)))))))
 refine LtK.nil (Z6 [Ff,Ff,Ff,Ff,Tt] 4 ⟨by decide, by kernel_rfl, by kernel_rfl⟩ rfl rfl ?_)
 try dsimp only [Z0]
 obtain ⟨r266, hm267, H⟩ := bind_some H
 refine Zn rfl rfl rfl rfl (by kernel_rfl) rfl (Zbi {r238 with commit := (max r238.commit (min x1.commit (IntKind.wrap .i64 (x1.last + (x1.entries.length : Int))))), applied := r263.1} x1 true (IntKind.wrap .i64 (x1.last + (x1.entries.length : Int))) A240 c241 A244 c245 A248 c249 A252 c253 A256 c257 A5_ c5_ _ (Zhu k242 (hS.row_rd hs0) (hS.row_blk hs0)) (Zhu k246 (hS.row_rd Xa) (hS.row_blk Xa)) (Zhu k250 (hS.row_rd Xq) (hS.row_blk Xq)) (Zhu k254 (hS.row_rd hs3) (hS.row_blk hs3)) (Zhu k258 (hS.row_rd hs4) (hS.row_blk hs4)) (Zhu s5_.k (hS.rd0 s5_.rd) (hS.blk0 s5_.blk)) hm267) ?_
 rintro e w ⟨A268, c269, q272, rfl, k270, hq273, okq274, hN⟩; refine ⟨_, rfl, ?_⟩; obtain ⟨hB, hS⟩ := hS.jn hN
 refine Zg (Z9 hB (Yq [Ff,Ff,Ff,Ff,Ff,Tt] 5 ⟨by decide, by kernel_rfl, by kernel_rfl⟩ rfl rfl ?_))
 try dsimp only [Z0]
 refine Zl rfl rfl rfl CellsOf.agg hS ps19 Yo (by kernel_rfl) rfl (fun w hS hB => Zg (Yk (hB.sub (fun _ _ h => by simpa using h)) (Zq [Ff,Ff,Ff,Ff,Ff,Ff,Tt] (by decide +kernel) PFC.h (LtK.put rfl rfl rfl (Z2 rfl) (LtK.nil (Ye (by kernel_rfl) (Zc hK265 ?_)))))))
 refine Zk (Zm rfl (RV.cell rfl (Zu Z7 hS hs19 Zz) (RV.tmp rfl RV.nil)) rfl ?_)
 obtain rfl := QJ H
 have hS := hS.front 1 rfl
 replace hS := hS.front 1 rfl
 have hS := hS.front 6 rfl
 have hS := hS.front 6 rfl
 have hS := hS.front 6 rfl
 have hS := hS.front 6 rfl
 have hS := hS.front 6 rfl
 replace hS := hS.cut 7
 exact ⟨A240, c241, A244, c245, A248, c249, A252, c253, A256, c257, A268, c269, q272, rfl, k242, k246, k250, k254, k258, k270, hq273, okq274, hS⟩
theorem c_ref23_Beat (x0 : Co) (A0_ : OA) (c0_ : Nat) (A1_ : OA) (c1_ : Nat) (A2_ : OA) (c2_ : Nat) (A3_ : OA) (c3_ : Nat) (A4_ : OA) (c4_ : Nat) (w0 : World) (s0_ : SlI w0 Vv A0_ c0_ x0.tuple.log) (s1_ : SlI w0 enO A1_ c1_ x0.votes) (s2_ : SlI w0 Vh A2_ c2_ x0.next) (s3_ : SlI w0 Vh A3_ c3_ x0.mtch) (s4_ : SlI w0 Vh A4_ c4_ x0.caps) {r : List Ms} (H : Zf1 x0 = some r) : Calls Tryz.prog 33 #[.agg #[.int .i64 x0.id, .int .i64 x0.n, .int .u8 x0.role, .int .i64 x0.binary, .int .i64 x0.tuple.snap.index, .int .i64 x0.tuple.snap.term, .int .i64 x0.tuple.snap.sum, .int .i64 x0.tuple.snap.level, .bool x0.tuple.snap.final, .slice A0_ x0.tuple.log.length c0_, .int .i64 x0.tuple.term, .int .i64 x0.tuple.vote, .int .i64 x0.commit, .int .i64 x0.applied.index, .int .i64 x0.applied.term, .int .i64 x0.applied.sum, .int .i64 x0.applied.level, .bool x0.applied.final, .slice A1_ x0.votes.length c1_, .slice A2_ x0.next.length c2_, .slice A3_ x0.mtch.length c3_, .slice A4_ x0.caps.length c4_]] w0 fun e w' => ∃ (A0 : OA) (c0 : Nat) (q0 : List Mq), e = .returned (.slice A0 r.length c0) ∧ (r.length ≤ c0 ∧ c0 ≤ maxLen) ∧ q0.map Mq.m = r ∧ (∀ y ∈ q0, okQ y) ∧ St0 All w0 w' [.rd A0 (Yg enQ q0), .rds (q0.map subQ)] := by
 unfold Zf1 at H
 refine Yp Tryz.func33 rfl Tryz.ntmps33 rfl ?_
 have hS := St0.start All w0
 refine Zd (fun K hK1 => Ze (Z4 rfl rfl rfl CellsOf.agg hS (fun b2 w hS hB => Zb 1 rfl (Zg (Zc hK1 (Zd (fun K hK4 => Ze ?_)))))))
 refine Zb 1 rfl (Zg (Zc hK4 (Zd (fun K hK5 => Zd (fun K hK6 => Ze (Zb 1 rfl (Zg ?_)))))))
 refine Zc hK6 (Yd ?_)
 replace hS := hS.nilRds
 replace hS := hS.nilRow 32 15
 refine Vq (X := Nat × List Ms × OA × Nat × List Mq × Int) (fun x => (1, .pointer (some ⟨b2, 0, none⟩)) :: (2, .slice none 0 0) :: (3, .slice x.2.2.1 x.2.1.length x.2.2.2.1) :: (4, .int .i64 x.2.2.2.2.2) :: []) (fun x w => St0 All w0 w (.row (.slice x.2.2.1 x.2.1.length x.2.2.2.1) 32 15 x.2.1.length (Yg enQ x.2.2.2.2.1) :: .rds (x.2.2.2.2.1.map subQ) :: .box b2 [.int .i64 x0.id, .int .i64 x0.n, .int .u8 x0.role, .int .i64 x0.binary, .int .i64 x0.tuple.snap.index, .int .i64 x0.tuple.snap.term, .int .i64 x0.tuple.snap.sum, .int .i64 x0.tuple.snap.level, .bool x0.tuple.snap.final, .slice A0_ x0.tuple.log.length c0_, .int .i64 x0.tuple.term, .int .i64 x0.tuple.vote, .int .i64 x0.commit, .int .i64 x0.applied.index, .int .i64 x0.applied.term, .int .i64 x0.applied.sum, .int .i64 x0.applied.level, .bool x0.applied.final, .slice A1_ x0.votes.length c1_, .slice A2_ x0.next.length c2_, .slice A3_ x0.mtch.length c3_, .slice A4_ x0.caps.length c4_] 30 :: []) ∧ (x.2.1.length ≤ x.2.2.2.1 ∧ x.2.2.2.1 ≤ maxLen) ∧ (x.2.2.2.2.1.map Mq.m = x.2.1) ∧ (∀ y ∈ x.2.2.2.2.1, okQ y) ∧ Js x0 x.1 x.2.1 x.2.2.2.2.2 = some r) (fun x => x.1) (Xr, [], none, 0, ([] : List Mq), 1) (by repeat (first | exact Sub.nil | refine Sub.cons rfl ?_)) ⟨hS, ⟨Nat.le_refl _, Nat.zero_le _⟩, rfl, Vy, H⟩ ?_
 rintro ⟨n, v7, A8, c9, q11, v16⟩ w ⟨hS, k10, hq12, okq13, H⟩
 dsimp only at hS k10 hq12 okq13 H ⊢
 obtain _ | n := n
 ·have H0 : none = some r := H
  cases H0
 rw [Js] at H
 refine Zd (fun K hK17 => Zd (fun K hK18 => Ze (Zb 1 rfl (Za rfl rfl rfl (Zf V4 rfl) (Za rfl rfl rfl (Zh Z1 rfl (Zhr _) hS Xq trivial Vl) (Za rfl rfl rfl (Za5 rfl rfl) (Zb 1 rfl ?_)))))))
 refine Zs 11 rfl (fun hb => ?_) (fun hb => ?_)
 rotate_left
 ·replace H := Zo H hb
  refine Zb 3 rfl (Zg (Zc hK18 (Yl rfl rfl (X1 (Z8 (Z8 (Yz ?_)))))))
  refine Zc hK5 (Zd (fun K hK46 => Ze (Zb 2 rfl (Zg (Zc hK46 (Zk (Zm rfl (RV.tmp rfl RV.nil) rfl ?_)))))))
  obtain rfl := QJ H
  have hS := hS.front 1 rfl
  replace hS := hS.front 1 rfl
  replace hS := hS.weak Weak.rowRd
  replace hS := hS.cut 2
  exact ⟨A8, c9, q11, rfl, k10, hq12, okq13, hS⟩
 replace H := Zp H hb
 refine Zb 1 rfl (Za rfl rfl rfl (Za5 rfl rfl) (Zb 1 rfl (Zg (Zc hK18 (Zy rfl (fun hb => ?_) (fun hb => ?_))))))
 rotate_left
 ·replace H := Zo H hb
  refine X1 (Z8 (Z8 (Yz (Zc hK5 (Zd (fun K hK44 => Ze (Zb 2 rfl ?_)))))))
  refine Zg (Zc hK44 (Zk (Zm rfl (RV.tmp rfl RV.nil) rfl ?_)))
  obtain rfl := QJ H
  have hS := hS.front 1 rfl
  replace hS := hS.front 1 rfl
  replace hS := hS.weak Weak.rowRd
  replace hS := hS.cut 2
  exact ⟨A8, c9, q11, rfl, k10, hq12, okq13, hS⟩
 replace H := Zp H hb
 refine Zr (Zc hK17 (Zd (fun K hK21 => Yd (Zd (fun K hK22 => Ze (Za rfl rfl rfl (Zi Z7 rfl (Zhr _) hS Xq trivial Zz) (Zb 1 rfl ?_)))))))
 obtain ⟨r23, hm24, H⟩ := bind_some H
 refine Zn rfl rfl rfl rfl (by kernel_rfl) rfl (c_ref23_Message x0 v16 A0_ c0_ A1_ c1_ A2_ c2_ A3_ c3_ A4_ c4_ _ (Zhu s0_.k (hS.rd0 s0_.rd) (hS.blk0 s0_.blk)) (Zhu s1_.k (hS.rd0 s1_.rd) (hS.blk0 s1_.blk)) (Zhu s2_.k (hS.rd0 s2_.rd) (hS.blk0 s2_.blk)) (Zhu s3_.k (hS.rd0 s3_.rd) (hS.blk0 s3_.blk)) (Zhu s4_.k (hS.rd0 s4_.rd) (hS.blk0 s4_.blk)) hm24) ?_
 rintro e w ⟨A25, c26, rfl, k27, hN⟩; refine ⟨_, rfl, ?_⟩; obtain ⟨hB, hS⟩ := hS.jn hN
 refine Zb 1 rfl (Za rfl rfl rfl (Zv rfl rfl) (Za rfl rfl rfl (Zv rfl rfl) (Z5 rfl rfl Zba hS (fun b29 w hS hB => Zl rfl rfl rfl CellsOf.agg hS ps0 Zaq (by kernel_rfl) rfl (fun w hS hB => Zb 1 rfl (Zg (Zc hK22 ?_)))))))
 refine Zd (fun K hK31 => Ze (Zb 1 rfl (Zg (Zc hK31 (Zy rfl (fun hb => ?_) (fun hb => ?_))))))
 rotate_left
 ·replace H := Zo H hb
  refine Zr (Z3 (Zc hK21 (Ze (Zb 1 rfl (Za rfl rfl rfl (Xd rfl rfl) (Zb 1 rfl (Zg ?_)))))))
  exact X2 (n, v7, A8, c9, q11, (IntKind.wrap .i64 (v16 + 1))) (by repeat (first | exact Sub.nil | refine Sub.cons rfl ?_)) ⟨(hS.sub (List.Sublist.cons _ (List.Sublist.cons _ (List.Sublist.cons_cons _ (List.Sublist.cons_cons _ (List.Sublist.cons_cons _ List.Sublist.slnil)))))), k10, hq12, okq13, H⟩ (Nat.lt_succ_self _)
 replace H := Zp H hb
 refine Ze (Zb 1 rfl (Za rfl rfl rfl (Zi Xn rfl (Zhr _) hS hs0 trivial Y2) (Xb (ps := [(0, .tmp 25)]) [.int .u8 r23.1.kind, .int .i64 r23.1.frm, .int .i64 r23.1.dst, .int .i64 r23.1.term, .int .i64 r23.1.cap, .int .i64 r23.1.last, .int .i64 r23.1.lastTerm, .int .i64 r23.1.commit, .bool r23.1.okk, .slice A25 r23.1.entries.length c26, .int .i64 r23.1.snap.index, .int .i64 r23.1.snap.term, .int .i64 r23.1.snap.sum, .int .i64 r23.1.snap.level, .bool r23.1.snap.final] Zbf Zba rfl rfl rfl rfl rfl (by kernel_rfl) hS (fun b33 w hS hB => ?_))))
 obtain ⟨l35, hf36, H⟩ := bind_some H
 refine wpX_appendQ (l := v7) (q := q11) (y := ⟨r23.1, A25, c26⟩) em_35 (by decide) rfl rfl rfl rfl hS hq12 (fun _ => ps3) (hS.box_rd hs0) hf36 (fun A37 c38 w k39 hS hq40 hB => ?_)
 have okq41 := okq_snoc okq13 (show okQ ⟨r23.1, A25, c26⟩ from k27)
 replace hS := hS.front 4 rfl
 replace hS := hS.front 3 rfl
 replace hS := hS.weak Weak.rowRd
 replace hS := hS.absorbQ ⟨r23.1, A25, c26⟩
 replace hS := hS.front 3 rfl
 refine Zb 1 rfl (Zg (Z3 (Zc hK21 (Ze (Zb 1 rfl (Za rfl rfl rfl (Xd rfl rfl) (Zb 1 rfl ?_)))))))
 refine Zg ?_
 exact X2 (n, l35, A37, c38, (q11 ++ [⟨r23.1, A25, c26⟩]), (IntKind.wrap .i64 (v16 + 1))) (by repeat (first | exact Sub.nil | refine Sub.cons rfl ?_)) ⟨(hS.sub (List.Sublist.cons_cons _ (List.Sublist.cons_cons _ (List.Sublist.cons _ (List.Sublist.cons _ (List.Sublist.cons_cons _ List.Sublist.slnil)))))), k39, hq40, okq41, H⟩ (Nat.lt_succ_self _)
end
section
open Go Go.RowKit
set_option maxRecDepth 100000
set_option maxHeartbeats 4000000
theorem c_ref23_Told (x0 : Co) (x1 : Ms) (A0_ : OA) (c0_ : Nat) (A1_ : OA) (c1_ : Nat) (A2_ : OA) (c2_ : Nat) (A3_ : OA) (c3_ : Nat) (A4_ : OA) (c4_ : Nat) (A5_ : OA) (c5_ : Nat) (w0 : World) (s0_ : SlI w0 Vv A0_ c0_ x0.tuple.log) (s1_ : SlI w0 enO A1_ c1_ x0.votes) (s2_ : SlI w0 Vh A2_ c2_ x0.next) (s3_ : SlI w0 Vh A3_ c3_ x0.mtch) (s4_ : SlI w0 Vh A4_ c4_ x0.caps) (s5_ : SlI w0 Vv A5_ c5_ x1.entries) {r : Co} (H : Zb8 x0 x1 = some r) : Calls Tryz.prog 35 #[.agg #[.int .i64 x0.id, .int .i64 x0.n, .int .u8 x0.role, .int .i64 x0.binary, .int .i64 x0.tuple.snap.index, .int .i64 x0.tuple.snap.term, .int .i64 x0.tuple.snap.sum, .int .i64 x0.tuple.snap.level, .bool x0.tuple.snap.final, .slice A0_ x0.tuple.log.length c0_, .int .i64 x0.tuple.term, .int .i64 x0.tuple.vote, .int .i64 x0.commit, .int .i64 x0.applied.index, .int .i64 x0.applied.term, .int .i64 x0.applied.sum, .int .i64 x0.applied.level, .bool x0.applied.final, .slice A1_ x0.votes.length c1_, .slice A2_ x0.next.length c2_, .slice A3_ x0.mtch.length c3_, .slice A4_ x0.caps.length c4_], .agg #[.int .u8 x1.kind, .int .i64 x1.frm, .int .i64 x1.dst, .int .i64 x1.term, .int .i64 x1.cap, .int .i64 x1.last, .int .i64 x1.lastTerm, .int .i64 x1.commit, .bool x1.okk, .slice A5_ x1.entries.length c5_, .int .i64 x1.snap.index, .int .i64 x1.snap.term, .int .i64 x1.snap.sum, .int .i64 x1.snap.level, .bool x1.snap.final]] w0 fun e w' => ∃ (A0 : OA) (c0 : Nat) (A1 : OA) (c1 : Nat) (A2 : OA) (c2 : Nat) (A3 : OA) (c3 : Nat) (A4 : OA) (c4 : Nat), e = .returned (.agg #[.int .i64 r.id, .int .i64 r.n, .int .u8 r.role, .int .i64 r.binary, .int .i64 r.tuple.snap.index, .int .i64 r.tuple.snap.term, .int .i64 r.tuple.snap.sum, .int .i64 r.tuple.snap.level, .bool r.tuple.snap.final, .slice A0 r.tuple.log.length c0, .int .i64 r.tuple.term, .int .i64 r.tuple.vote, .int .i64 r.commit, .int .i64 r.applied.index, .int .i64 r.applied.term, .int .i64 r.applied.sum, .int .i64 r.applied.level, .bool r.applied.final, .slice A1 r.votes.length c1, .slice A2 r.next.length c2, .slice A3 r.mtch.length c3, .slice A4 r.caps.length c4]) ∧ (r.tuple.log.length ≤ c0 ∧ c0 ≤ maxLen) ∧ (r.votes.length ≤ c1 ∧ c1 ≤ maxLen) ∧ (r.next.length ≤ c2 ∧ c2 ≤ maxLen) ∧ (r.mtch.length ≤ c3 ∧ c3 ≤ maxLen) ∧ (r.caps.length ≤ c4 ∧ c4 ≤ maxLen) ∧ St0 All w0 w' [.row (.slice A0 r.tuple.log.length c0) 53 3 r.tuple.log.length (Yg Vv r.tuple.log), .row (.slice A1 r.votes.length c1) 4 1 r.votes.length (Yg enO r.votes), .row (.slice A2 r.next.length c2) 3 1 r.next.length (Yg Vh r.next), .row (.slice A3 r.mtch.length c3) 3 1 r.mtch.length (Yg Vh r.mtch), .row (.slice A4 r.caps.length c4) 3 1 r.caps.length (Yg Vh r.caps)] := by
 unfold Zb8 at H
 refine Yn Tryz.func35 rfl Tryz.ntmps35 rfl ?_
 have hS := St0.start All w0
 refine Zd (fun K hK1 => Ze (Z4 rfl rfl rfl CellsOf.agg hS (fun b2 w hS hB => Z4 rfl rfl rfl CellsOf.agg hS (fun b4 w hS hB => Z5 rfl rfl Zdk hS (fun b6 w hS hB => Zg (Zc hK1 (Zd (fun K hK8 => ?_))))))))
 refine Zd (fun K hK9 => Ze (Za rfl rfl rfl (Zi Z7 rfl (Zhr _) hS Xq trivial Zz) (Za rfl rfl rfl (Zi Xn rfl (Zhr _) hS Xa trivial Y2) ?_)))
 obtain ⟨r10, hm11, H⟩ := bind_some H
 refine Zn rfl rfl rfl rfl (by kernel_rfl) rfl (c_ref21_To x0 x1 A0_ c0_ A1_ c1_ A2_ c2_ A3_ c3_ A4_ c4_ A5_ c5_ _ (Zhu s0_.k (hS.rd0 s0_.rd) (hS.blk0 s0_.blk)) (Zhu s1_.k (hS.rd0 s1_.rd) (hS.blk0 s1_.blk)) (Zhu s2_.k (hS.rd0 s2_.rd) (hS.blk0 s2_.blk)) (Zhu s3_.k (hS.rd0 s3_.rd) (hS.blk0 s3_.blk)) (Zhu s4_.k (hS.rd0 s4_.rd) (hS.blk0 s4_.blk)) (Zhu s5_.k (hS.rd0 s5_.rd) (hS.blk0 s5_.blk)) hm11) ?_
 rintro e w ⟨rfl, hN⟩; refine ⟨_, rfl, ?_⟩; obtain ⟨hB, hS⟩ := hS.jn hN
 refine Za rfl rfl rfl (Ys rfl) (Zb 1 rfl (Zs 10 rfl (fun hb => ?_) (fun hb => ?_)))
 ·replace H := Zp H hb
  refine Zb 4 rfl (Zg (Zc hK9 (Zt rfl rfl (Zd (fun K hK13 => Ze (Za rfl rfl rfl (Zi Z7 rfl (Zhr _) hS Xq trivial Zz) ?_))))))
  obtain ⟨r14, hm15, H⟩ := bind_some H
  refine Zn rfl rfl rfl rfl (by kernel_rfl) rfl (Zcw x0 A0_ c0_ A1_ c1_ A2_ c2_ A3_ c3_ A4_ c4_ _ (Zhu s0_.k (hS.rd0 s0_.rd) (hS.blk0 s0_.blk)) (Zhu s1_.k (hS.rd0 s1_.rd) (hS.blk0 s1_.blk)) (Zhu s2_.k (hS.rd0 s2_.rd) (hS.blk0 s2_.blk)) (Zhu s3_.k (hS.rd0 s3_.rd) (hS.blk0 s3_.blk)) (Zhu s4_.k (hS.rd0 s4_.rd) (hS.blk0 s4_.blk)) hm15) ?_
  rintro e w ⟨A16, c17, A20, c21, A24, c25, A28, c29, A32, c33, rfl, k18, k22, k26, k30, k34, hN⟩; refine ⟨_, rfl, ?_⟩; obtain ⟨hB, hS⟩ := hS.jn hN
  refine Zl rfl rfl rfl CellsOf.agg hS ps5 Yo (by kernel_rfl) rfl (fun w hS hB => Zg (Zc hK13 (Zk (Zj (Zm rfl (RV.cell rfl (Zu Z7 hS hs5 Zz) RV.nil) rfl ?_)))))
  obtain rfl := QJ H
  have hS := hS.front 4 rfl
  have hS := hS.front 4 rfl
  have hS := hS.front 4 rfl
  have hS := hS.front 4 rfl
  have hS := hS.front 4 rfl
  replace hS := hS.cut 5
  exact ⟨A16, c17, A20, c21, A24, c25, A28, c29, A32, c33, rfl, k18, k22, k26, k30, k34, hS⟩
 replace H := Zo H hb
 refine Za rfl rfl rfl (Zf Vo rfl) (Za rfl rfl rfl (Zh Zbq rfl (Zhr _) hS Xa trivial Y4) (Za rfl rfl rfl (Xu rfl rfl) (Zb 1 rfl (Zg (Zc hK9 (Zy rfl (fun hb => ?_) (fun hb => ?_)))))))
 ·replace H := Zp H hb
  refine Zd (fun K hK38 => Ze (Za rfl rfl rfl (Zi Z7 rfl (Zhr _) hS Xq trivial Zz) ?_))
  obtain ⟨r39, hm40, H⟩ := bind_some H
  refine Zn rfl rfl rfl rfl (by kernel_rfl) rfl (Zcw x0 A0_ c0_ A1_ c1_ A2_ c2_ A3_ c3_ A4_ c4_ _ (Zhu s0_.k (hS.rd0 s0_.rd) (hS.blk0 s0_.blk)) (Zhu s1_.k (hS.rd0 s1_.rd) (hS.blk0 s1_.blk)) (Zhu s2_.k (hS.rd0 s2_.rd) (hS.blk0 s2_.blk)) (Zhu s3_.k (hS.rd0 s3_.rd) (hS.blk0 s3_.blk)) (Zhu s4_.k (hS.rd0 s4_.rd) (hS.blk0 s4_.blk)) hm40) ?_
  rintro e w ⟨A41, c42, A45, c46, A49, c50, A53, c54, A57, c58, rfl, k43, k47, k51, k55, k59, hN⟩; refine ⟨_, rfl, ?_⟩; obtain ⟨hB, hS⟩ := hS.jn hN
  refine Zl rfl rfl rfl CellsOf.agg hS ps5 Yo (by kernel_rfl) rfl (fun w hS hB => Zg (Zc hK38 (Zk (Zj (Zm rfl (RV.cell rfl (Zu Z7 hS hs5 Zz) RV.nil) rfl ?_)))))
  obtain rfl := QJ H
  have hS := hS.front 4 rfl
  have hS := hS.front 4 rfl
  have hS := hS.front 4 rfl
  have hS := hS.front 4 rfl
  have hS := hS.front 4 rfl
  replace hS := hS.cut 5
  exact ⟨A41, c42, A45, c46, A49, c50, A53, c54, A57, c58, rfl, k43, k47, k51, k55, k59, hS⟩
 replace H := Zo H hb
 refine Zr (Zc hK8 (Zd (fun K hK62 => Ze (Za rfl rfl rfl (Zi Z7 rfl (Zhr _) hS Xq trivial Zz) (Za rfl rfl rfl (Zi Xn rfl (Zhr _) hS Xa trivial Y2) ?_)))))
 obtain ⟨r63, hm64, H⟩ := bind_some H
 refine Zn rfl rfl rfl rfl (by kernel_rfl) rfl (c_ref22_Meet x0 x1 A0_ c0_ A1_ c1_ A2_ c2_ A3_ c3_ A4_ c4_ A5_ c5_ _ (Zhu s0_.k (hS.rd0 s0_.rd) (hS.blk0 s0_.blk)) (Zhu s1_.k (hS.rd0 s1_.rd) (hS.blk0 s1_.blk)) (Zhu s2_.k (hS.rd0 s2_.rd) (hS.blk0 s2_.blk)) (Zhu s3_.k (hS.rd0 s3_.rd) (hS.blk0 s3_.blk)) (Zhu s4_.k (hS.rd0 s4_.rd) (hS.blk0 s4_.blk)) (Zhu s5_.k (hS.rd0 s5_.rd) (hS.blk0 s5_.blk)) hm64) ?_
 rintro e w ⟨A65, c66, A69, c70, A73, c74, A77, c78, A81, c82, rfl, k67, k71, k75, k79, k83, hN⟩; refine ⟨_, rfl, ?_⟩; obtain ⟨hB, hS⟩ := hS.jn hN
 refine Zl rfl rfl rfl CellsOf.agg hS ps7 Yo (by kernel_rfl) rfl (fun w hS hB => Zg (Zc hK62 (Zd (fun K hK85 => Zd (fun K hK86 => Ze (Za rfl rfl rfl (Zf Zbj rfl) (Za rfl rfl rfl (Zh Zbq rfl (Zhr _) hS hs7 trivial Za0) ?_)))))))
 refine Za rfl rfl rfl (Xu rfl rfl) (Zb 1 rfl (Zs 23 rfl (fun hb => ?_) (fun hb => ?_)))
 ·replace H := Zp H hb
  refine Zb 7 rfl (Zg (Zc hK86 (Zt rfl rfl (Zd (fun K hK88 => Ze (Za rfl rfl rfl (Zi Z7 rfl (Zhr _) hS hs7 trivial Zz) (Zl rfl rfl rfl CellsOf.agg hS ps5 Yo (by kernel_rfl) rfl (fun w hS hB => ?_))))))))
  refine Zg (Zc hK88 (Zk (Zj (Zm rfl (RV.cell rfl (Zu Z7 hS hs5 Zz) RV.nil) rfl ?_))))
  obtain rfl := QJ H
  have hS := hS.front 4 rfl
  have hS := hS.front 4 rfl
  have hS := hS.front 4 rfl
  have hS := hS.front 4 rfl
  have hS := hS.front 4 rfl
  replace hS := hS.cut 5
  exact ⟨A65, c66, A69, c70, A73, c74, A77, c78, A81, c82, rfl, k67, k71, k75, k79, k83, hS⟩
 replace H := Zo H hb
 refine Za rfl rfl rfl (Zf Zca rfl) (Za rfl rfl rfl (Zh Z1 rfl (Zhr _) hS hs6 trivial J9) (Za rfl rfl rfl (Zf Yy rfl) (Za rfl rfl rfl (Zf Vi rfl) (Za rfl rfl rfl (Zh Z1 rfl (Zhr _) hS hs7 trivial Zam) (Za rfl rfl rfl (Xu rfl rfl) (Zb 1 rfl (Zg ?_)))))))
 refine Zc hK86 (Zy rfl (fun hb => ?_) (fun hb => ?_))
 ·replace H := Zp H hb
  refine Zd (fun K hK91 => Ze (Za rfl rfl rfl (Zi Z7 rfl (Zhr _) hS hs7 trivial Zz) (Zl rfl rfl rfl CellsOf.agg hS ps5 Yo (by kernel_rfl) rfl (fun w hS hB => Zg (Zc hK91 (Zk (Zj ?_)))))))
  refine Zm rfl (RV.cell rfl (Zu Z7 hS hs5 Zz) RV.nil) rfl ?_
  obtain rfl := QJ H
  have hS := hS.front 4 rfl
  have hS := hS.front 4 rfl
  have hS := hS.front 4 rfl
  have hS := hS.front 4 rfl
  have hS := hS.front 4 rfl
  replace hS := hS.cut 5
  exact ⟨A65, c66, A69, c70, A73, c74, A77, c78, A81, c82, rfl, k67, k71, k75, k79, k83, hS⟩
 replace H := Zo H hb
 refine Zr (Zc hK85 (Zd (fun K hK93 => Ze (Za rfl rfl rfl (Zf Zck rfl) (Za rfl rfl rfl (Zh Z1 rfl (Zhr _) hS hs6 trivial Vl) (Za rfl rfl rfl (Ju rfl rfl) (Zb 1 rfl ?_)))))))
 refine Zg (Zc hK93 (Zd (fun K hK94 => Zd (fun K hK95 => Ze (Za rfl rfl rfl (Zf Zf0 rfl) (Za rfl rfl rfl (Zh sc_4 rfl (Zhr _) hS hs6 trivial sg8_1) (Zg ?_)))))))
 refine Zc hK95 (Zy rfl (fun hb => ?_) (fun hb => ?_))
 rotate_left
 ·replace H := Zo H hb
  refine Zr (Zc hK94 (Zd (fun K hK120 => Yi 22 [21] (fun i b => (i = 21 → b = b6 ∨ b = b4 ∨ b = b2)) ⟨by kernel_rfl, by kernel_rfl⟩ hS (fun w hS hB => Zq [Tt,Tt,Tt,Tt,Tt,Tt,Tt,Tt,Tt,Tt,Tt,Tt,Tt,Tt,Tt,Tt,Tt,Tt,Tt,Tt,Tt] (by decide +kernel) PFC.h (LtK.put rfl rfl rfl (Zf Vs rfl) (LtK.put rfl rfl rfl (Zh X3 rfl (Zhs _) hS hs7 trivial Zat) (LtK.put rfl rfl rfl (Zw rfl) ?_)))))))
  refine LtK.put rfl rfl rfl (Zf Ji rfl) (LtK.put rfl rfl rfl (Zh X3 rfl (Zhs _) hS hs7 trivial Zbo) (LtK.put rfl rfl rfl (Zw rfl) ?_))
  obtain ⟨e121, hi123, H⟩ := bind_some H
  obtain ⟨j122, hi123a, hi123b, hi123c⟩ := Yt hi123
  refine LtK.put rfl rfl rfl (Xf Xv rfl rfl hi123a hi123c (Rd.el (hS.row_rd hs3) Yh hi123b)) (LtK.put rfl rfl rfl (Vj Z1 rfl (Zhs _) (Rd.el (hS.row_rd hs3) Yh hi123b) rfl) (LtK.put rfl rfl rfl (Xd rfl rfl) (LtK.put rfl rfl rfl (Zf Vs rfl) (LtK.put rfl rfl rfl (Zh X3 rfl (Zhs _) hS hs7 trivial Zat) (LtK.put rfl rfl rfl (Zw rfl) ?_)))))
  obtain ⟨e124, hi126, H⟩ := bind_some H
  obtain ⟨j125, hi126a, hi126b, hi126c⟩ := Yt hi126
  refine LtK.put rfl rfl rfl (Xf Xv rfl rfl hi126a hi126c (Rd.el (hS.row_rd Xq) Yh hi126b)) (LtK.put rfl rfl rfl (Vj Z1 rfl (Zhs _) (Rd.el (hS.row_rd Xq) Yh hi126b) rfl) (LtK.put rfl rfl rfl (Ju rfl rfl) (LtK.put rfl rfl rfl (Zf V0 rfl) (LtK.put rfl rfl rfl (Zh Z1 rfl (Zhs _) hS hs6 trivial Jd) (LtK.put rfl rfl rfl (Xd rfl rfl) (LtK.put rfl rfl rfl (Zdy rfl rfl) (LtK.put rfl rfl rfl (Zdw rfl rfl) ?_)))))))
  obtain ⟨e127, hi129, H⟩ := bind_some H
  obtain ⟨j128, hi129a, hi129b, hi129c⟩ := Yt hi129
  refine LtK.put rfl rfl rfl (Xf Xv rfl rfl hi129a hi129c (Rd.el (hS.row_rd Xq) Yh hi129b)) (LtK.nil (Yq [Ff,Ff,Ff,Ff,Ff,Ff,Ff,Ff,Ff,Ff,Ff,Ff,Ff,Ff,Ff,Ff,Ff,Ff,Ff,Ff,Ff,Tt] 21 ⟨by decide, by kernel_rfl, by kernel_rfl⟩ rfl rfl ?_))
  try dsimp only [Z0]
  refine Zbk (a' := (max (IntKind.wrap .i64 (e121 + 1)) (min (IntKind.wrap .i64 (e124 - 1)) (IntKind.wrap .i64 (x1.last + 1))))) (zs := (Zbe r63.next (IntKind.wrap .i64 (x1.frm - 1)) (max (IntKind.wrap .i64 (e121 + 1)) (min (IntKind.wrap .i64 (e124 - 1)) (IntKind.wrap .i64 (x1.last + 1)))))) Yh rfl rfl rfl CellsOf.int hS ps2 (Rd.el (hS.row_rd Xq) Yh hi129b) hi129a hi129b rfl Zfp (by kernel_rfl) rfl (fun w hS hB => ?_)
  have hi130b := Zc8 (a := (max (IntKind.wrap .i64 (e121 + 1)) (min (IntKind.wrap .i64 (e124 - 1)) (IntKind.wrap .i64 (x1.last + 1))))) hi129a hi129b
  have hi130a := hi129a
  refine Zg (Yk (hB.sub (fun b _ h => by have h0 : b = b6 ∨ b = b4 ∨ b = b2 := (by simpa using h); rcases h0 with h0 | h0 | h0; (rw [h0]; exact hS.neRow 5 2 rfl rfl); (rw [h0]; exact hS.neRow 6 2 rfl rfl); (rw [h0]; exact hS.neRow 7 2 rfl rfl))) ?_)
  refine Ye (by kernel_rfl) (Zc hK120 (Zd (fun K hK131 => Ze (Za rfl rfl rfl (Zi Z7 rfl (Zhr _) hS hs7 trivial Zz) (Zl rfl rfl rfl CellsOf.agg hS ps5 Yo (by kernel_rfl) rfl (fun w hS hB => Zg (Zc hK131 ?_)))))))
  refine Zk (Zm rfl (RV.cell rfl (Zu Z7 hS hs5 Zz) RV.nil) rfl ?_)
  obtain rfl := QJ H
  have hS := hS.front 4 rfl
  have hS := hS.front 4 rfl
  have hS := hS.front 4 rfl
  have hS := hS.front 4 rfl
  have hS := hS.front 4 rfl
  replace hS := hS.cut 5
  exact ⟨A65, c66, A69, c70, A73, c74, A77, c78, A81, c82, by (repeat rw [(Jg rfl)]); rfl, k67, k71, (Zhd k75), k79, k83, hS.eqv (by (repeat rw [(Jg rfl)]); rfl)⟩
 replace H := Zp H hb
 refine Zd (fun K hK97 => Yi 17 [16] (fun i b => (i = 16 → b = b6 ∨ b = b4 ∨ b = b2)) ⟨by kernel_rfl, by kernel_rfl⟩ hS (fun w hS hB => Zq [Tt,Tt,Tt,Tt,Tt,Tt,Tt,Tt,Tt,Tt,Tt,Tt] (by decide +kernel) PFC.h (LtK.put rfl rfl rfl (Zf Ji rfl) (LtK.put rfl rfl rfl (Zh X3 rfl (Zhs _) hS hs7 trivial Zbo) (LtK.put rfl rfl rfl (Zw rfl) (LtK.put rfl rfl rfl (Zf Ji rfl) (LtK.put rfl rfl rfl (Zh X3 rfl (Zhs _) hS hs7 trivial Zbo) ?_)))))))
 refine LtK.put rfl rfl rfl (Zw rfl) ?_
 obtain ⟨e98, hi100, H⟩ := bind_some H
 obtain ⟨j99, hi100a, hi100b, hi100c⟩ := Yt hi100
 refine LtK.put rfl rfl rfl (Xf Xv rfl rfl hi100a hi100c (Rd.el (hS.row_rd hs3) Yh hi100b)) (LtK.put rfl rfl rfl (Vj Z1 rfl (Zhs _) (Rd.el (hS.row_rd hs3) Yh hi100b) rfl) (LtK.put rfl rfl rfl (Zf V0 rfl) (LtK.put rfl rfl rfl (Zh Z1 rfl (Zhs _) hS hs6 trivial Jd) (LtK.put rfl rfl rfl (Zf Yy rfl) (LtK.put rfl rfl rfl (Zi Ya rfl (Zhs _) hS hs7 trivial Jv) (LtK.nil (Z6 [Ff,Ff,Ff,Ff,Ff,Ff,Ff,Ff,Ff,Ff,Ff,Ff,Tt] 12 ⟨by decide, by kernel_rfl, by kernel_rfl⟩ rfl rfl ?_)))))))
 try dsimp only [Z0]
 obtain ⟨r101, hm102, H⟩ := bind_some H
 refine Zn rfl rfl rfl rfl (by kernel_rfl) rfl (Zbd r63.tuple A65 c66 _ (Zhu k67 (hS.row_rd hs0) (hS.row_blk hs0)) hm102) ?_
 rintro e w ⟨rfl, hN⟩; refine ⟨_, rfl, ?_⟩; obtain ⟨hB, hS⟩ := hS.jn hN
 refine Zg (Z9 hB (Zq [Ff,Ff,Ff,Ff,Ff,Ff,Ff,Ff,Ff,Ff,Ff,Ff,Ff,Tt,Tt,Tt] (by decide +kernel) PFC.h (LtK.put rfl rfl rfl (Zdy rfl rfl) (LtK.put rfl rfl rfl (Zdw rfl rfl) ?_))))
 obtain ⟨e103, hi105, H⟩ := bind_some H
 obtain ⟨j104, hi105a, hi105b, hi105c⟩ := Yt hi105
 refine LtK.put rfl rfl rfl (Xf Xv rfl rfl hi105a hi105c (Rd.el (hS.row_rd hs3) Yh hi105b)) (LtK.nil (Yq [Ff,Ff,Ff,Ff,Ff,Ff,Ff,Ff,Ff,Ff,Ff,Ff,Ff,Ff,Ff,Ff,Tt] 16 ⟨by decide, by kernel_rfl, by kernel_rfl⟩ rfl rfl ?_))
 try dsimp only [Z0]
 refine Zbk (a' := (max e98 (min x1.last r101))) (zs := (Zbe r63.mtch (IntKind.wrap .i64 (x1.frm - 1)) (max e98 (min x1.last r101)))) Yh rfl rfl rfl CellsOf.int hS ps3 (Rd.el (hS.row_rd hs3) Yh hi105b) hi105a hi105b rfl Zfp (by kernel_rfl) rfl (fun w hS hB => ?_)
 have hi106b := Zc8 (a := (max e98 (min x1.last r101))) hi105a hi105b
 have hi106a := hi105a
 refine Zg (Yk (hB.sub (fun b _ h => by have h0 : b = b6 ∨ b = b4 ∨ b = b2 := (by simpa using h); rcases h0 with h0 | h0 | h0; (rw [h0]; exact hS.neRow 5 3 rfl rfl); (rw [h0]; exact hS.neRow 6 3 rfl rfl); (rw [h0]; exact hS.neRow 7 3 rfl rfl))) ?_)
 refine Ye (by kernel_rfl) (Zc hK97 (Zd (fun K hK107 => Yi 17 [16] (fun i b => (i = 16 → b = b6 ∨ b = b4 ∨ b = b2)) ⟨by kernel_rfl, by kernel_rfl⟩ hS (fun w hS hB => Zq [Tt,Tt,Tt,Tt,Tt,Tt,Tt,Tt,Tt,Tt,Tt,Tt,Tt,Tt,Tt,Tt] (by decide +kernel) PFC.h (LtK.put rfl rfl rfl (Zf Vs rfl) (LtK.put rfl rfl rfl (Zh X3 rfl (Zhs _) hS hs7 trivial Zat) (LtK.put rfl rfl rfl (Zw rfl) ?_)))))))
 refine LtK.put rfl rfl rfl (Zf Vs rfl) (LtK.put rfl rfl rfl (Zh X3 rfl (Zhs _) hS hs7 trivial Zat) (LtK.put rfl rfl rfl (Zw rfl) ?_))
 obtain ⟨e108, hi110, H⟩ := bind_some H
 obtain ⟨j109, hi110a, hi110b, hi110c⟩ := Yt hi110
 refine LtK.put rfl rfl rfl (Xf Xv rfl rfl hi110a hi110c (Rd.el (hS.row_rd Xq) Yh hi110b)) (LtK.put rfl rfl rfl (Vj Z1 rfl (Zhs _) (Rd.el (hS.row_rd Xq) Yh hi110b) rfl) (LtK.put rfl rfl rfl (Zf Ji rfl) (LtK.put rfl rfl rfl (Zh X3 rfl (Zhs _) hS hs7 trivial Zbo) (LtK.put rfl rfl rfl (Zw rfl) ?_))))
 obtain ⟨e111, hi113, H⟩ := bind_some H
 obtain ⟨j112, hi113a, hi113b, hi113c⟩ := Yt hi113
 refine LtK.put rfl rfl rfl (Xf Xv rfl rfl hi113a (Nat.lt_of_lt_of_eq hi113c (Jg rfl)) (Rd.el (hS.row_rd hs3) Yh hi113b)) (LtK.put rfl rfl rfl (Vj Z1 rfl (Zhs _) (Rd.el (hS.row_rd hs3) Yh hi113b) rfl) (LtK.put rfl rfl rfl (Xd rfl rfl) (LtK.put rfl rfl rfl (Zdw rfl rfl) ?_)))
 obtain ⟨e114, hi116, H⟩ := bind_some H
 obtain ⟨j115, hi116a, hi116b, hi116c⟩ := Yt hi116
 refine LtK.put rfl rfl rfl (Xf Xv rfl rfl hi116a hi116c (Rd.el (hS.row_rd Xq) Yh hi116b)) (LtK.nil (Yq [Ff,Ff,Ff,Ff,Ff,Ff,Ff,Ff,Ff,Ff,Ff,Ff,Ff,Ff,Ff,Ff,Tt] 16 ⟨by decide, by kernel_rfl, by kernel_rfl⟩ rfl rfl ?_))
 try dsimp only [Z0]
 refine Zbk (a' := (max e108 (IntKind.wrap .i64 (e111 + 1)))) (zs := (Zbe r63.next (IntKind.wrap .i64 (x1.frm - 1)) (max e108 (IntKind.wrap .i64 (e111 + 1))))) Yh rfl rfl rfl CellsOf.int hS ps2 (Rd.el (hS.row_rd Xq) Yh hi116b) hi116a hi116b rfl Zfp (by kernel_rfl) rfl (fun w hS hB => ?_)
 have hi117b := Zc8 (a := (max e108 (IntKind.wrap .i64 (e111 + 1)))) hi116a hi116b
 have hi117a := hi116a
 refine Zg (Yk (hB.sub (fun b _ h => by have h0 : b = b6 ∨ b = b4 ∨ b = b2 := (by simpa using h); rcases h0 with h0 | h0 | h0; (rw [h0]; exact hS.neRow 5 2 rfl rfl); (rw [h0]; exact hS.neRow 6 2 rfl rfl); (rw [h0]; exact hS.neRow 7 2 rfl rfl))) ?_)
 refine Ye (by kernel_rfl) (Zc hK107 (Zd (fun K hK118 => Ze (Za rfl rfl rfl (Zi Z7 rfl (Zhr _) hS hs7 trivial Zz) (Zl rfl rfl rfl CellsOf.agg hS ps5 Yo (by kernel_rfl) rfl (fun w hS hB => Zg (Zc hK118 ?_)))))))
 refine Zk (Zj (Zm rfl (RV.cell rfl (Zu Z7 hS hs5 Zz) RV.nil) rfl ?_))
 obtain rfl := QJ H
 have hS := hS.front 4 rfl
 have hS := hS.front 4 rfl
 have hS := hS.front 4 rfl
 have hS := hS.front 4 rfl
 have hS := hS.front 4 rfl
 replace hS := hS.cut 5
 exact ⟨A65, c66, A69, c70, A73, c74, A77, c78, A81, c82, by (repeat rw [(Jg rfl)]); rfl, k67, k71, (Zhd k75), (Zhd k79), k83, hS.eqv (by (repeat rw [(Jg rfl)]); rfl)⟩
end
section
open Go Go.RowKit
set_option maxRecDepth 100000
set_option maxHeartbeats 4000000
theorem c_law23_ReplTells (x0 : Co) (x1 : Ms) (x2 : Int) (A0_ : OA) (c0_ : Nat) (A1_ : OA) (c1_ : Nat) (A2_ : OA) (c2_ : Nat) (A3_ : OA) (c3_ : Nat) (A4_ : OA) (c4_ : Nat) (A5_ : OA) (c5_ : Nat) (w0 : World) (s0_ : SlI w0 Vv A0_ c0_ x0.tuple.log) (s1_ : SlI w0 enO A1_ c1_ x0.votes) (s2_ : SlI w0 Vh A2_ c2_ x0.next) (s3_ : SlI w0 Vh A3_ c3_ x0.mtch) (s4_ : SlI w0 Vh A4_ c4_ x0.caps) (s5_ : SlI w0 Vv A5_ c5_ x1.entries) {r : Bool} (H : Zcl x0 x1 x2 = some r) : Calls Tryz.prog 4 #[.agg #[.int .i64 x0.id, .int .i64 x0.n, .int .u8 x0.role, .int .i64 x0.binary, .int .i64 x0.tuple.snap.index, .int .i64 x0.tuple.snap.term, .int .i64 x0.tuple.snap.sum, .int .i64 x0.tuple.snap.level, .bool x0.tuple.snap.final, .slice A0_ x0.tuple.log.length c0_, .int .i64 x0.tuple.term, .int .i64 x0.tuple.vote, .int .i64 x0.commit, .int .i64 x0.applied.index, .int .i64 x0.applied.term, .int .i64 x0.applied.sum, .int .i64 x0.applied.level, .bool x0.applied.final, .slice A1_ x0.votes.length c1_, .slice A2_ x0.next.length c2_, .slice A3_ x0.mtch.length c3_, .slice A4_ x0.caps.length c4_], .agg #[.int .u8 x1.kind, .int .i64 x1.frm, .int .i64 x1.dst, .int .i64 x1.term, .int .i64 x1.cap, .int .i64 x1.last, .int .i64 x1.lastTerm, .int .i64 x1.commit, .bool x1.okk, .slice A5_ x1.entries.length c5_, .int .i64 x1.snap.index, .int .i64 x1.snap.term, .int .i64 x1.snap.sum, .int .i64 x1.snap.level, .bool x1.snap.final], .int .i64 x2] w0 fun e w' => e = .returned (.bool r) ∧ St0 All w0 w' [] := by
 unfold Zcl at H
 refine Vx Tryz.func4 rfl Tryz.ntmps4 rfl ?_
 have hS := St0.start All w0
 refine Zd (fun K hK1 => Ze (Z4 rfl rfl rfl CellsOf.agg hS (fun b2 w hS hB => Z4 rfl rfl rfl CellsOf.agg hS (fun b4 w hS hB => Zb 1 rfl (Zg (Zc hK1 (Zd (fun K hK6 => ?_))))))))
 refine Zd (fun K hK7 => Ze (Za rfl rfl rfl (Zi Z7 rfl (Zhr _) hS Xa trivial Zz) (Za rfl rfl rfl (Zi Xn rfl (Zhr _) hS hs0 trivial Y2) ?_)))
 obtain ⟨r8, hm9, H⟩ := bind_some H
 refine Zn rfl rfl rfl rfl (by kernel_rfl) rfl (c_law23_great x0 x1 A0_ c0_ A1_ c1_ A2_ c2_ A3_ c3_ A4_ c4_ A5_ c5_ _ (Zhu s0_.k (hS.rd0 s0_.rd) (hS.blk0 s0_.blk)) (Zhu s1_.k (hS.rd0 s1_.rd) (hS.blk0 s1_.blk)) (Zhu s2_.k (hS.rd0 s2_.rd) (hS.blk0 s2_.blk)) (Zhu s3_.k (hS.rd0 s3_.rd) (hS.blk0 s3_.blk)) (Zhu s4_.k (hS.rd0 s4_.rd) (hS.blk0 s4_.blk)) (Zhu s5_.k (hS.rd0 s5_.rd) (hS.blk0 s5_.blk)) hm9) ?_
 rintro e w ⟨rfl, hN⟩; refine ⟨_, rfl, ?_⟩; obtain ⟨hB, hS⟩ := hS.jn hN
 refine Zg (Zc hK7 (Zy rfl (fun hb => ?_) (fun hb => ?_)))
 ·replace H := Zp H hb
  refine Zd (fun K hK11 => Ze ?_)
  obtain ⟨r12, hm13, H⟩ := bind_some H
  refine Zn rfl rfl rfl rfl (by kernel_rfl) rfl (c_law23_wakes _ hm13) ?_
  rintro e w ⟨rfl, hN⟩; refine ⟨_, rfl, ?_⟩; obtain ⟨hB, hS⟩ := hS.jn hN
  refine Zb 1 rfl (Zg (Zc hK11 (Zk (Zj (Zm rfl (RV.tmp rfl RV.nil) rfl ?_)))))
  obtain rfl := QJ H
  replace hS := hS.cut 0
  exact ⟨rfl, hS⟩
 replace H := Zo H hb
 refine Zr (Zc hK6 (Zd (fun K hK15 => Ze (Za rfl rfl rfl (Zi Z7 rfl (Zhr _) hS Xa trivial Zz) (Zb 1 rfl ?_)))))
 obtain ⟨r16, hm17, H⟩ := bind_some H
 refine Zn rfl rfl rfl rfl (by kernel_rfl) rfl (Zeo x0 x2 A0_ c0_ A1_ c1_ A2_ c2_ A3_ c3_ A4_ c4_ _ (Zhu s0_.k (hS.rd0 s0_.rd) (hS.blk0 s0_.blk)) (Zhu s1_.k (hS.rd0 s1_.rd) (hS.blk0 s1_.blk)) (Zhu s2_.k (hS.rd0 s2_.rd) (hS.blk0 s2_.blk)) (Zhu s3_.k (hS.rd0 s3_.rd) (hS.blk0 s3_.blk)) (Zhu s4_.k (hS.rd0 s4_.rd) (hS.blk0 s4_.blk)) hm17) ?_
 rintro e w ⟨A18, c19, rfl, k20, hN⟩; refine ⟨_, rfl, ?_⟩; obtain ⟨hB, hS⟩ := hS.jn hN
 refine Zb 1 rfl (Za rfl rfl rfl (Zv rfl rfl) (Za rfl rfl rfl (Zv rfl rfl) (Z5 rfl rfl Zba hS (fun b22 w hS hB => Zl rfl rfl rfl CellsOf.agg hS ps0 Zaq (by kernel_rfl) rfl (fun w hS hB => Zb 1 rfl (Zg (Zc hK15 ?_)))))))
 refine Zd (fun K hK24 => Ze (Za rfl rfl rfl (Zi Z7 rfl (Zhr _) hS hs3 trivial Zz) (Zb 1 rfl ?_)))
 obtain ⟨r25, hm26, H⟩ := bind_some H
 refine Zn rfl rfl rfl rfl (by kernel_rfl) rfl (c_ref23_Message x0 x2 A0_ c0_ A1_ c1_ A2_ c2_ A3_ c3_ A4_ c4_ _ (Zhu s0_.k (hS.rd0 s0_.rd) (hS.blk0 s0_.blk)) (Zhu s1_.k (hS.rd0 s1_.rd) (hS.blk0 s1_.blk)) (Zhu s2_.k (hS.rd0 s2_.rd) (hS.blk0 s2_.blk)) (Zhu s3_.k (hS.rd0 s3_.rd) (hS.blk0 s3_.blk)) (Zhu s4_.k (hS.rd0 s4_.rd) (hS.blk0 s4_.blk)) hm26) ?_
 rintro e w ⟨A27, c28, rfl, k29, hN⟩; refine ⟨_, rfl, ?_⟩; obtain ⟨hB, hS⟩ := hS.jn hN
 refine Zb 1 rfl (Za rfl rfl rfl (Zv rfl rfl) (Za rfl rfl rfl (Zv rfl rfl) (Z5 rfl rfl Zba hS (fun b31 w hS hB => Zl rfl rfl rfl CellsOf.agg hS ps0 Zaq (by kernel_rfl) rfl (fun w hS hB => Zb 1 rfl (Zg (Zc hK24 ?_)))))))
 refine Zd (fun K hK33 => Ze (Za rfl rfl rfl (Zi Z7 rfl (Zhr _) hS hs5 trivial Zz) (Za rfl rfl rfl (Zi Xn rfl (Zhr _) hS hs4 trivial Y2) ?_)))
 obtain ⟨r34, hm35, H⟩ := bind_some H
 refine Zn rfl rfl rfl rfl (by kernel_rfl) rfl (c_repl_Append x0 x1 A0_ c0_ A1_ c1_ A2_ c2_ A3_ c3_ A4_ c4_ A5_ c5_ _ (Zhu s0_.k (hS.rd0 s0_.rd) (hS.blk0 s0_.blk)) (Zhu s1_.k (hS.rd0 s1_.rd) (hS.blk0 s1_.blk)) (Zhu s2_.k (hS.rd0 s2_.rd) (hS.blk0 s2_.blk)) (Zhu s3_.k (hS.rd0 s3_.rd) (hS.blk0 s3_.blk)) (Zhu s4_.k (hS.rd0 s4_.rd) (hS.blk0 s4_.blk)) (Zhu s5_.k (hS.rd0 s5_.rd) (hS.blk0 s5_.blk)) hm35) ?_
 rintro e w ⟨A36, c37, A40, c41, A44, c45, A48, c49, A52, c53, A56, c57, q60, rfl, k38, k42, k46, k50, k54, k58, hq61, okq62, hN⟩; refine ⟨_, rfl, ?_⟩; obtain ⟨hB, hS⟩ := hS.jn hN
 refine Zb 1 rfl (Za rfl rfl rfl (Zv rfl rfl) (Za rfl rfl rfl (Zv rfl rfl) (Z5 rfl rfl Zdk hS (fun b64 w hS hB => Zl rfl rfl rfl CellsOf.agg hS ps0 Yo (by kernel_rfl) rfl (fun w hS hB => Zb 1 rfl (Zg (Zc hK33 ?_)))))))
 refine Zd (fun K hK66 => Ze (Za rfl rfl rfl (Zi Z7 rfl (Zhr _) hS Zg4 trivial Zz) (Za rfl rfl rfl (Zi Xn rfl (Zhr _) hS hs12 trivial Y2) ?_)))
 obtain ⟨r67, hm68, H⟩ := bind_some H
 refine Zn rfl rfl rfl rfl (by kernel_rfl) rfl (c_ref23_Append x0 x1 A0_ c0_ A1_ c1_ A2_ c2_ A3_ c3_ A4_ c4_ A5_ c5_ _ (Zhu s0_.k (hS.rd0 s0_.rd) (hS.blk0 s0_.blk)) (Zhu s1_.k (hS.rd0 s1_.rd) (hS.blk0 s1_.blk)) (Zhu s2_.k (hS.rd0 s2_.rd) (hS.blk0 s2_.blk)) (Zhu s3_.k (hS.rd0 s3_.rd) (hS.blk0 s3_.blk)) (Zhu s4_.k (hS.rd0 s4_.rd) (hS.blk0 s4_.blk)) (Zhu s5_.k (hS.rd0 s5_.rd) (hS.blk0 s5_.blk)) hm68) ?_
 rintro e w ⟨A69, c70, A73, c74, A77, c78, A81, c82, A85, c86, A89, c90, q93, rfl, k71, k75, k79, k83, k87, k91, hq94, okq95, hN⟩; refine ⟨_, rfl, ?_⟩; obtain ⟨hB, hS⟩ := hS.jn hN
 refine Zb 1 rfl (Za rfl rfl rfl (Zv rfl rfl) (Za rfl rfl rfl (Zv rfl rfl) (Z5 rfl rfl Zdk hS (fun b97 w hS hB => Zl rfl rfl rfl CellsOf.agg hS ps0 Yo (by kernel_rfl) rfl (fun w hS hB => Zb 1 rfl (Zg (Zc hK66 ?_)))))))
 refine Zd (fun K hK99 => Zd (fun K hK100 => Yi 29 [] (fun _ _ => True) ⟨by kernel_rfl, by kernel_rfl⟩ hS (fun w hS hB => Zq [Tt,Tt] (by decide +kernel) PFC.h (LtK.put rfl rfl rfl (Zi Xn rfl (Zhs _) hS hs18 trivial Y2) (LtK.put rfl rfl rfl (Zi Xn rfl (Zhs _) hS hs16 trivial Y2) (LtK.nil (Z6 [Ff,Ff,Tt] 2 ⟨by decide, by kernel_rfl, by kernel_rfl⟩ rfl rfl ?_)))))))
 try dsimp only [Z0]
 obtain ⟨r101, hm102, H⟩ := bind_some H
 refine Zn rfl rfl rfl rfl (by kernel_rfl) rfl (c_ref20_Alike r16.1 r25.1 A18 c19 A27 c28 _ (Zhu k20 (hS.row_rd hs19) (hS.row_blk hs19)) (Zhu k29 (hS.row_rd hs17) (hS.row_blk hs17)) hm102) ?_
 rintro e w ⟨rfl, hN⟩; refine ⟨_, rfl, ?_⟩; obtain ⟨hB, hS⟩ := hS.jn hN
 refine Zg (Z9 hB (Zq [Ff,Ff,Ff,Tt,Tt] (by decide +kernel) PFC.h (LtK.put rfl rfl rfl (Ys rfl) (LtK.put rfl rfl rfl (Zw rfl) (LtK.nil (Jw 47 rfl (fun hb => ?_) (fun hb => ?_)))))))
 ·replace H := Zp H hb
  refine Zq [Ff,Ff,Ff,Ff,Ff,Tt,Tt,Tt,Tt,Tt,Tt,Tt] (by decide +kernel) PFC.h (LtK.skip rfl rfl rfl (LtK.skip rfl rfl rfl (LtK.skip rfl rfl rfl (LtK.put rfl rfl rfl (Ym rfl rfl rfl) (LtK.put rfl rfl rfl (Zw rfl) (LtK.skip rfl rfl rfl (LtK.skip rfl rfl rfl ?_)))))))
  refine LtK.nil (Z6 [Ff,Ff,Ff,Ff,Ff,Ff,Ff,Ff,Ff,Ff,Ff,Ff,Tt] 12 ⟨by decide, by kernel_rfl, by kernel_rfl⟩ rfl rfl ?_)
  try dsimp only [Z0]
  refine Xi rfl rfl rfl (Zg (Z9 (Below.refl _ _) (Zq [Ff,Ff,Ff,Ff,Ff,Ff,Ff,Ff,Ff,Ff,Ff,Ff,Ff,Tt,Tt,Tt,Tt,Tt] (by decide +kernel) PFC.h (LtK.skip rfl rfl rfl (LtK.put rfl rfl rfl (Ym rfl rfl rfl) (LtK.put rfl rfl rfl (Zw rfl) (LtK.skip rfl rfl rfl ?_)))))))
  refine LtK.skip rfl rfl rfl (LtK.nil (Z6 [Ff,Ff,Ff,Ff,Ff,Ff,Ff,Ff,Ff,Ff,Ff,Ff,Ff,Ff,Ff,Ff,Ff,Ff,Tt] 18 ⟨by decide, by kernel_rfl, by kernel_rfl⟩ rfl rfl ?_))
  try dsimp only [Z0]
  refine Xi rfl rfl rfl (Zg (Z9 (Below.refl _ _) (Zq [Ff,Ff,Ff,Ff,Ff,Ff,Ff,Ff,Ff,Ff,Ff,Ff,Ff,Ff,Ff,Ff,Ff,Ff,Ff,Tt,Tt,Tt,Tt,Ff,Tt] (by decide +kernel) PFC.h (LtK.skip rfl rfl rfl (LtK.put rfl rfl rfl (Ym rfl rfl rfl) (LtK.put rfl rfl rfl (Zw rfl) (LtK.skip rfl rfl rfl ?_)))))))
  refine LtK.skip rfl rfl rfl (LtK.nil (Z6 [Ff,Ff,Ff,Ff,Ff,Ff,Ff,Ff,Ff,Ff,Ff,Ff,Ff,Ff,Ff,Ff,Ff,Ff,Ff,Ff,Ff,Ff,Ff,Tt] 23 ⟨by decide, by kernel_rfl, by kernel_rfl⟩ rfl rfl ?_))
  try dsimp only [Z0]
  refine Xi rfl rfl rfl (Zg (Z9 (Below.refl _ _) (Z6 [Ff,Ff,Ff,Ff,Ff,Ff,Ff,Ff,Ff,Ff,Ff,Ff,Ff,Ff,Ff,Ff,Ff,Ff,Ff,Ff,Ff,Ff,Ff,Ff,Ff,Tt] 25 ⟨by decide, by kernel_rfl, by kernel_rfl⟩ rfl rfl ?_)))
  try dsimp only [Z0]
  refine Xi rfl rfl rfl (Zg (Z9 (Below.refl _ _) (Z6 [Ff,Ff,Ff,Ff,Ff,Ff,Ff,Ff,Ff,Ff,Ff,Ff,Ff,Ff,Ff,Ff,Ff,Ff,Ff,Ff,Ff,Ff,Ff,Ff,Ff,Ff,Tt] 26 ⟨by decide, by kernel_rfl, by kernel_rfl⟩ rfl rfl ?_)))
  try dsimp only [Z0]
  refine Xi rfl rfl rfl (Zg (Z9 (Below.refl _ _) (Zq [Ff,Ff,Ff,Ff,Ff,Ff,Ff,Ff,Ff,Ff,Ff,Ff,Ff,Ff,Ff,Ff,Ff,Ff,Ff,Ff,Ff,Ff,Ff,Ff,Ff,Ff,Ff,Tt,Tt] (by decide +kernel) PFC.h (LtK.skip rfl rfl rfl (LtK.put rfl rfl rfl (Ym rfl rfl rfl) (LtK.nil (Ye (by kernel_rfl) ?_)))))))
  refine Zc hK100 (Zt rfl rfl (Zd (fun K hK104 => Ze (Zb 1 rfl (Zg (Zc hK104 (Zk ?_)))))))
  refine Zj (Zm rfl (RV.tmp rfl RV.nil) rfl ?_)
  obtain rfl := QJ H
  replace hS := hS.cut 0
  exact ⟨rfl, hS⟩
 replace H := Zo H hb
 refine Zq [Ff,Ff,Ff,Ff,Ff,Tt,Tt,Tt,Tt,Tt] (by decide +kernel) PFC.h (LtK.put rfl rfl rfl (Zw rfl) (LtK.put rfl rfl rfl (Zw rfl) (LtK.put rfl rfl rfl (yv_neqB (by kernel_rfl) rfl rfl) (LtK.put rfl rfl rfl (Y3 rfl rfl rfl) (LtK.put rfl rfl rfl (Zw rfl) (LtK.nil (Jw 52 rfl (fun hb => ?_) (fun hb => ?_))))))))
 ·replace H := Zp H hb
  refine Zq [Ff,Ff,Ff,Ff,Ff,Ff,Ff,Ff,Ff,Ff,Tt,Tt] (by decide +kernel) PFC.h (LtK.skip rfl rfl rfl (LtK.skip rfl rfl rfl (LtK.nil (Z6 [Ff,Ff,Ff,Ff,Ff,Ff,Ff,Ff,Ff,Ff,Ff,Ff,Tt] 12 ⟨by decide, by kernel_rfl, by kernel_rfl⟩ rfl rfl ?_))))
  try dsimp only [Z0]
  refine Xi rfl rfl rfl (Zg (Z9 (Below.refl _ _) (Zq [Ff,Ff,Ff,Ff,Ff,Ff,Ff,Ff,Ff,Ff,Ff,Ff,Ff,Tt,Tt,Tt,Tt,Tt] (by decide +kernel) PFC.h (LtK.skip rfl rfl rfl (LtK.put rfl rfl rfl (Ym rfl rfl rfl) (LtK.put rfl rfl rfl (Zw rfl) (LtK.skip rfl rfl rfl ?_)))))))
  refine LtK.skip rfl rfl rfl (LtK.nil (Z6 [Ff,Ff,Ff,Ff,Ff,Ff,Ff,Ff,Ff,Ff,Ff,Ff,Ff,Ff,Ff,Ff,Ff,Ff,Tt] 18 ⟨by decide, by kernel_rfl, by kernel_rfl⟩ rfl rfl ?_))
  try dsimp only [Z0]
  refine Xi rfl rfl rfl (Zg (Z9 (Below.refl _ _) (Zq [Ff,Ff,Ff,Ff,Ff,Ff,Ff,Ff,Ff,Ff,Ff,Ff,Ff,Ff,Ff,Ff,Ff,Ff,Ff,Tt,Tt,Tt,Tt,Ff,Tt] (by decide +kernel) PFC.h (LtK.skip rfl rfl rfl (LtK.put rfl rfl rfl (Ym rfl rfl rfl) (LtK.put rfl rfl rfl (Zw rfl) (LtK.skip rfl rfl rfl ?_)))))))
  refine LtK.skip rfl rfl rfl (LtK.nil (Z6 [Ff,Ff,Ff,Ff,Ff,Ff,Ff,Ff,Ff,Ff,Ff,Ff,Ff,Ff,Ff,Ff,Ff,Ff,Ff,Ff,Ff,Ff,Ff,Tt] 23 ⟨by decide, by kernel_rfl, by kernel_rfl⟩ rfl rfl ?_))
  try dsimp only [Z0]
  refine Xi rfl rfl rfl (Zg (Z9 (Below.refl _ _) (Z6 [Ff,Ff,Ff,Ff,Ff,Ff,Ff,Ff,Ff,Ff,Ff,Ff,Ff,Ff,Ff,Ff,Ff,Ff,Ff,Ff,Ff,Ff,Ff,Ff,Ff,Tt] 25 ⟨by decide, by kernel_rfl, by kernel_rfl⟩ rfl rfl ?_)))
  try dsimp only [Z0]
  refine Xi rfl rfl rfl (Zg (Z9 (Below.refl _ _) (Z6 [Ff,Ff,Ff,Ff,Ff,Ff,Ff,Ff,Ff,Ff,Ff,Ff,Ff,Ff,Ff,Ff,Ff,Ff,Ff,Ff,Ff,Ff,Ff,Ff,Ff,Ff,Tt] 26 ⟨by decide, by kernel_rfl, by kernel_rfl⟩ rfl rfl ?_)))
  try dsimp only [Z0]
  refine Xi rfl rfl rfl (Zg (Z9 (Below.refl _ _) (Zq [Ff,Ff,Ff,Ff,Ff,Ff,Ff,Ff,Ff,Ff,Ff,Ff,Ff,Ff,Ff,Ff,Ff,Ff,Ff,Ff,Ff,Ff,Ff,Ff,Ff,Ff,Ff,Tt,Tt] (by decide +kernel) PFC.h (LtK.skip rfl rfl rfl (LtK.put rfl rfl rfl (Ym rfl rfl rfl) (LtK.nil (Ye (by kernel_rfl) ?_)))))))
  refine Zc hK100 (Zt rfl rfl (Zd (fun K hK107 => Ze (Zb 1 rfl (Zg (Zc hK107 (Zk ?_)))))))
  refine Zj (Zm rfl (RV.tmp rfl RV.nil) rfl ?_)
  obtain rfl := QJ H
  replace hS := hS.cut 0
  exact ⟨rfl, hS⟩
 replace H := Zo H hb
 refine Zq [Ff,Ff,Ff,Ff,Ff,Ff,Ff,Ff,Ff,Ff,Tt,Tt] (by decide +kernel) PFC.h (LtK.put rfl rfl rfl (Zi Z7 rfl (Zhs _) hS hs8 trivial Zz) (LtK.put rfl rfl rfl (Zi Z7 rfl (Zhs _) hS hs0 trivial Zz) (LtK.nil (Z6 [Ff,Ff,Ff,Ff,Ff,Ff,Ff,Ff,Ff,Ff,Ff,Ff,Tt] 12 ⟨by decide, by kernel_rfl, by kernel_rfl⟩ rfl rfl ?_))))
 try dsimp only [Z0]
 obtain ⟨r109, hm110, H⟩ := bind_some H
 refine Zn rfl rfl rfl rfl (by kernel_rfl) rfl (c_ref20_Same r34.1 r67.1 A36 c37 A40 c41 A44 c45 A48 c49 A52 c53 A69 c70 A73 c74 A77 c78 A81 c82 A85 c86 _ (Zhu k38 (hS.rd hs9) (hS.rd_blk hs9)) (Zhu k42 (hS.row_rd Zek) (hS.row_blk Zek)) (Zhu k46 (hS.row_rd hs11) (hS.row_blk hs11)) (Zhu k50 (hS.row_rd hs12) (hS.row_blk hs12)) (Zhu k54 (hS.row_rd Zg4) (hS.row_blk Zg4)) (Zhu k71 (hS.row_rd Xa) (hS.row_blk Xa)) (Zhu k75 (hS.row_rd Xq) (hS.row_blk Xq)) (Zhu k79 (hS.row_rd hs3) (hS.row_blk hs3)) (Zhu k83 (hS.row_rd hs4) (hS.row_blk hs4)) (Zhu k87 (hS.row_rd hs5) (hS.row_blk hs5)) hm110) ?_
 rintro e w ⟨rfl, hN⟩; refine ⟨_, rfl, ?_⟩; obtain ⟨hB, hS⟩ := hS.jn hN
 refine Zg (Z9 hB (Zq [Ff,Ff,Ff,Ff,Ff,Ff,Ff,Ff,Ff,Ff,Ff,Ff,Ff,Tt,Tt,Tt] (by decide +kernel) PFC.h (LtK.put rfl rfl rfl (Ys rfl) (LtK.put rfl rfl rfl (Y3 rfl rfl rfl) (LtK.put rfl rfl rfl (Zw rfl) (LtK.nil (Jw 58 rfl (fun hb => ?_) (fun hb => ?_))))))))
 ·replace H := Zp H hb
  refine Zq [Ff,Ff,Ff,Ff,Ff,Ff,Ff,Ff,Ff,Ff,Ff,Ff,Ff,Ff,Ff,Ff,Tt,Tt] (by decide +kernel) PFC.h (LtK.skip rfl rfl rfl (LtK.skip rfl rfl rfl (LtK.nil (Z6 [Ff,Ff,Ff,Ff,Ff,Ff,Ff,Ff,Ff,Ff,Ff,Ff,Ff,Ff,Ff,Ff,Ff,Ff,Tt] 18 ⟨by decide, by kernel_rfl, by kernel_rfl⟩ rfl rfl ?_))))
  try dsimp only [Z0]
  refine Xi rfl rfl rfl (Zg (Z9 (Below.refl _ _) (Zq [Ff,Ff,Ff,Ff,Ff,Ff,Ff,Ff,Ff,Ff,Ff,Ff,Ff,Ff,Ff,Ff,Ff,Ff,Ff,Tt,Tt,Tt,Tt,Ff,Tt] (by decide +kernel) PFC.h (LtK.skip rfl rfl rfl (LtK.put rfl rfl rfl (Ym rfl rfl rfl) (LtK.put rfl rfl rfl (Zw rfl) (LtK.skip rfl rfl rfl ?_)))))))
  refine LtK.skip rfl rfl rfl (LtK.nil (Z6 [Ff,Ff,Ff,Ff,Ff,Ff,Ff,Ff,Ff,Ff,Ff,Ff,Ff,Ff,Ff,Ff,Ff,Ff,Ff,Ff,Ff,Ff,Ff,Tt] 23 ⟨by decide, by kernel_rfl, by kernel_rfl⟩ rfl rfl ?_))
  try dsimp only [Z0]
  refine Xi rfl rfl rfl (Zg (Z9 (Below.refl _ _) (Z6 [Ff,Ff,Ff,Ff,Ff,Ff,Ff,Ff,Ff,Ff,Ff,Ff,Ff,Ff,Ff,Ff,Ff,Ff,Ff,Ff,Ff,Ff,Ff,Ff,Ff,Tt] 25 ⟨by decide, by kernel_rfl, by kernel_rfl⟩ rfl rfl ?_)))
  try dsimp only [Z0]
  refine Xi rfl rfl rfl (Zg (Z9 (Below.refl _ _) (Z6 [Ff,Ff,Ff,Ff,Ff,Ff,Ff,Ff,Ff,Ff,Ff,Ff,Ff,Ff,Ff,Ff,Ff,Ff,Ff,Ff,Ff,Ff,Ff,Ff,Ff,Ff,Tt] 26 ⟨by decide, by kernel_rfl, by kernel_rfl⟩ rfl rfl ?_)))
  try dsimp only [Z0]
  refine Xi rfl rfl rfl (Zg (Z9 (Below.refl _ _) (Zq [Ff,Ff,Ff,Ff,Ff,Ff,Ff,Ff,Ff,Ff,Ff,Ff,Ff,Ff,Ff,Ff,Ff,Ff,Ff,Ff,Ff,Ff,Ff,Ff,Ff,Ff,Ff,Tt,Tt] (by decide +kernel) PFC.h (LtK.skip rfl rfl rfl (LtK.put rfl rfl rfl (Ym rfl rfl rfl) (LtK.nil (Ye (by kernel_rfl) ?_)))))))
  refine Zc hK100 (Zt rfl rfl (Zd (fun K hK112 => Ze (Zb 1 rfl (Zg (Zc hK112 (Zk ?_)))))))
  refine Zj (Zm rfl (RV.tmp rfl RV.nil) rfl ?_)
  obtain rfl := QJ H
  replace hS := hS.cut 0
  exact ⟨rfl, hS⟩
 replace H := Zo H hb
 refine Zq [Ff,Ff,Ff,Ff,Ff,Ff,Ff,Ff,Ff,Ff,Ff,Ff,Ff,Ff,Ff,Ff,Tt,Tt] (by decide +kernel) PFC.h (LtK.put rfl rfl rfl (Zw rfl) (LtK.put rfl rfl rfl (Zw rfl) (LtK.nil (Z6 [Ff,Ff,Ff,Ff,Ff,Ff,Ff,Ff,Ff,Ff,Ff,Ff,Ff,Ff,Ff,Ff,Ff,Ff,Tt] 18 ⟨by decide, by kernel_rfl, by kernel_rfl⟩ rfl rfl ?_))))
 try dsimp only [Z0]
 obtain ⟨r114, hm115, H⟩ := bind_some H
 refine Zn rfl rfl rfl rfl (by kernel_rfl) rfl (c_ref20_All r34.2 r67.2 A56 c57 q60 A89 c90 q93 _ (Zhu (k_q hq61 k58) (hS.rd Zg8) (hS.rd_blk Zg8)) hq61 (hS.rds_sl hs15 okq62) (Zhu (k_q hq94 k91) (hS.rd hs6) (hS.rd_blk hs6)) hq94 (hS.rds_sl hs7 okq95) hm115) ?_
 rintro e w ⟨rfl, hN⟩; refine ⟨_, rfl, ?_⟩; obtain ⟨hB, hS⟩ := hS.jn hN
 refine Zg (Z9 hB (Zq [Ff,Ff,Ff,Ff,Ff,Ff,Ff,Ff,Ff,Ff,Ff,Ff,Ff,Ff,Ff,Ff,Ff,Ff,Ff,Tt,Tt,Tt] (by decide +kernel) PFC.h (LtK.put rfl rfl rfl (Ys rfl) (LtK.put rfl rfl rfl (Y3 rfl rfl rfl) (LtK.put rfl rfl rfl (Zw rfl) (LtK.nil (Jw 64 rfl (fun hb => ?_) (fun hb => ?_))))))))
 ·replace H := Zp H hb
  refine Zq [Ff,Ff,Ff,Ff,Ff,Ff,Ff,Ff,Ff,Ff,Ff,Ff,Ff,Ff,Ff,Ff,Ff,Ff,Ff,Ff,Ff,Ff,Tt,Ff,Tt] (by decide +kernel) PFC.h (LtK.skip rfl rfl rfl (LtK.skip rfl rfl rfl (LtK.nil (Z6 [Ff,Ff,Ff,Ff,Ff,Ff,Ff,Ff,Ff,Ff,Ff,Ff,Ff,Ff,Ff,Ff,Ff,Ff,Ff,Ff,Ff,Ff,Ff,Tt] 23 ⟨by decide, by kernel_rfl, by kernel_rfl⟩ rfl rfl ?_))))
  try dsimp only [Z0]
  refine Xi rfl rfl rfl (Zg (Z9 (Below.refl _ _) (Z6 [Ff,Ff,Ff,Ff,Ff,Ff,Ff,Ff,Ff,Ff,Ff,Ff,Ff,Ff,Ff,Ff,Ff,Ff,Ff,Ff,Ff,Ff,Ff,Ff,Ff,Tt] 25 ⟨by decide, by kernel_rfl, by kernel_rfl⟩ rfl rfl ?_)))
  try dsimp only [Z0]
  refine Xi rfl rfl rfl (Zg (Z9 (Below.refl _ _) (Z6 [Ff,Ff,Ff,Ff,Ff,Ff,Ff,Ff,Ff,Ff,Ff,Ff,Ff,Ff,Ff,Ff,Ff,Ff,Ff,Ff,Ff,Ff,Ff,Ff,Ff,Ff,Tt] 26 ⟨by decide, by kernel_rfl, by kernel_rfl⟩ rfl rfl ?_)))
  try dsimp only [Z0]
  refine Xi rfl rfl rfl (Zg (Z9 (Below.refl _ _) (Zq [Ff,Ff,Ff,Ff,Ff,Ff,Ff,Ff,Ff,Ff,Ff,Ff,Ff,Ff,Ff,Ff,Ff,Ff,Ff,Ff,Ff,Ff,Ff,Ff,Ff,Ff,Ff,Tt,Tt] (by decide +kernel) PFC.h (LtK.skip rfl rfl rfl (LtK.put rfl rfl rfl (Ym rfl rfl rfl) (LtK.nil (Ye (by kernel_rfl) ?_)))))))
  refine Zc hK100 (Zt rfl rfl (Zd (fun K hK117 => Ze (Zb 1 rfl (Zg (Zc hK117 (Zk ?_)))))))
  refine Zj (Zm rfl (RV.tmp rfl RV.nil) rfl ?_)
  obtain rfl := QJ H
  replace hS := hS.cut 0
  exact ⟨rfl, hS⟩
 replace H := Zo H hb
 refine Zq [Ff,Ff,Ff,Ff,Ff,Ff,Ff,Ff,Ff,Ff,Ff,Ff,Ff,Ff,Ff,Ff,Ff,Ff,Ff,Ff,Ff,Ff,Tt,Ff,Tt] (by decide +kernel) PFC.h (LtK.put rfl rfl rfl (Zi Z7 rfl (Zhs _) hS hs21 trivial Zz) (LtK.put rfl rfl rfl (Zi Z7 rfl (Zhs _) hS hs21 trivial Zz) (LtK.nil (Z6 [Ff,Ff,Ff,Ff,Ff,Ff,Ff,Ff,Ff,Ff,Ff,Ff,Ff,Ff,Ff,Ff,Ff,Ff,Ff,Ff,Ff,Ff,Ff,Tt] 23 ⟨by decide, by kernel_rfl, by kernel_rfl⟩ rfl rfl ?_))))
 try dsimp only [Z0]
 obtain ⟨r119, hm120, H⟩ := bind_some H
 refine Zn rfl rfl rfl rfl (by kernel_rfl) rfl (c_repl_Beat x0 A0_ c0_ A1_ c1_ A2_ c2_ A3_ c3_ A4_ c4_ _ (Zhu s0_.k (hS.rd0 s0_.rd) (hS.blk0 s0_.blk)) (Zhu s1_.k (hS.rd0 s1_.rd) (hS.blk0 s1_.blk)) (Zhu s2_.k (hS.rd0 s2_.rd) (hS.blk0 s2_.blk)) (Zhu s3_.k (hS.rd0 s3_.rd) (hS.blk0 s3_.blk)) (Zhu s4_.k (hS.rd0 s4_.rd) (hS.blk0 s4_.blk)) hm120) ?_
 rintro e w ⟨A121, c122, q125, rfl, k123, hq126, okq127, hN⟩; refine ⟨_, rfl, ?_⟩; obtain ⟨hB, hS⟩ := hS.jn hN
 refine Zg (Z9 hB (Z6 [Ff,Ff,Ff,Ff,Ff,Ff,Ff,Ff,Ff,Ff,Ff,Ff,Ff,Ff,Ff,Ff,Ff,Ff,Ff,Ff,Ff,Ff,Ff,Ff,Ff,Tt] 25 ⟨by decide, by kernel_rfl, by kernel_rfl⟩ rfl rfl ?_))
 try dsimp only [Z0]
 obtain ⟨r129, hm130, H⟩ := bind_some H
 refine Zn rfl rfl rfl rfl (by kernel_rfl) rfl (c_ref23_Beat x0 A0_ c0_ A1_ c1_ A2_ c2_ A3_ c3_ A4_ c4_ _ (Zhu s0_.k (hS.rd0 s0_.rd) (hS.blk0 s0_.blk)) (Zhu s1_.k (hS.rd0 s1_.rd) (hS.blk0 s1_.blk)) (Zhu s2_.k (hS.rd0 s2_.rd) (hS.blk0 s2_.blk)) (Zhu s3_.k (hS.rd0 s3_.rd) (hS.blk0 s3_.blk)) (Zhu s4_.k (hS.rd0 s4_.rd) (hS.blk0 s4_.blk)) hm130) ?_
 rintro e w ⟨A131, c132, q135, rfl, k133, hq136, okq137, hN⟩; refine ⟨_, rfl, ?_⟩; obtain ⟨hB, hS⟩ := hS.jn hN
 refine Zg (Z9 hB (Z6 [Ff,Ff,Ff,Ff,Ff,Ff,Ff,Ff,Ff,Ff,Ff,Ff,Ff,Ff,Ff,Ff,Ff,Ff,Ff,Ff,Ff,Ff,Ff,Ff,Ff,Ff,Tt] 26 ⟨by decide, by kernel_rfl, by kernel_rfl⟩ rfl rfl ?_))
 try dsimp only [Z0]
 obtain ⟨r139, hm140, H⟩ := bind_some H
 refine Zn rfl rfl rfl rfl (by kernel_rfl) rfl (c_ref20_All r119 r129 A121 c122 q125 A131 c132 q135 _ (Zhu (k_q hq126 k123) (hS.rd Xq) (hS.rd_blk Xq)) hq126 (hS.rds_sl hs3 okq127) (Zhu (k_q hq136 k133) (hS.rd hs0) (hS.rd_blk hs0)) hq136 (hS.rds_sl Xa okq137) hm140) ?_
 rintro e w ⟨rfl, hN⟩; refine ⟨_, rfl, ?_⟩; obtain ⟨hB, hS⟩ := hS.jn hN
 refine Zg (Z9 hB (Zq [Ff,Ff,Ff,Ff,Ff,Ff,Ff,Ff,Ff,Ff,Ff,Ff,Ff,Ff,Ff,Ff,Ff,Ff,Ff,Ff,Ff,Ff,Ff,Ff,Ff,Ff,Ff,Tt,Tt] (by decide +kernel) PFC.h (LtK.put rfl rfl rfl (Ys rfl) (LtK.put rfl rfl rfl (Y3 rfl rfl rfl) (LtK.nil (Ye (by kernel_rfl) (Zc hK100 ?_)))))))
 refine Zy rfl (fun hb => ?_) (fun hb => ?_)
 ·replace H := Zp H hb
  refine Zd (fun K hK142 => Ze (Zb 1 rfl (Zg (Zc hK142 (Zk (Zj (Zm rfl (RV.tmp rfl RV.nil) rfl ?_)))))))
  obtain rfl := QJ H
  replace hS := hS.cut 0
  exact ⟨rfl, hS⟩
 replace H := Zo H hb
 refine Zr (Zc hK99 (Zd (fun K hK144 => Yi 18 [] (fun _ _ => True) ⟨by kernel_rfl, by kernel_rfl⟩ hS (fun w hS hB => Zq [Tt,Tt,Ff,Tt,Tt] (by decide +kernel) PFC.h (LtK.put rfl rfl rfl (Zi Z7 rfl (Zhs _) hS hs25 trivial Zz) (LtK.put rfl rfl rfl (Zi Xn rfl (Zhs _) hS hs24 trivial Y2) (LtK.put rfl rfl rfl (Zi Z7 rfl (Zhs _) hS hs25 trivial Zz) ?_)))))))
 refine LtK.put rfl rfl rfl (Zi Xn rfl (Zhs _) hS hs24 trivial Y2) (LtK.nil (Z6 [Ff,Ff,Tt] 2 ⟨by decide, by kernel_rfl, by kernel_rfl⟩ rfl rfl ?_))
 try dsimp only [Z0]
 obtain ⟨r145, hm146, H⟩ := bind_some H
 refine Zn rfl rfl rfl rfl (by kernel_rfl) rfl (c_repl_Told x0 x1 A0_ c0_ A1_ c1_ A2_ c2_ A3_ c3_ A4_ c4_ A5_ c5_ _ (Zhu s0_.k (hS.rd0 s0_.rd) (hS.blk0 s0_.blk)) (Zhu s1_.k (hS.rd0 s1_.rd) (hS.blk0 s1_.blk)) (Zhu s2_.k (hS.rd0 s2_.rd) (hS.blk0 s2_.blk)) (Zhu s3_.k (hS.rd0 s3_.rd) (hS.blk0 s3_.blk)) (Zhu s4_.k (hS.rd0 s4_.rd) (hS.blk0 s4_.blk)) (Zhu s5_.k (hS.rd0 s5_.rd) (hS.blk0 s5_.blk)) hm146) ?_
 rintro e w ⟨A147, c148, A151, c152, A155, c156, A159, c160, A163, c164, rfl, k149, k153, k157, k161, k165, hN⟩; refine ⟨_, rfl, ?_⟩; obtain ⟨hB, hS⟩ := hS.jn hN
 refine Zg (Z9 hB (Z6 [Ff,Ff,Ff,Ff,Ff,Tt] 5 ⟨by decide, by kernel_rfl, by kernel_rfl⟩ rfl rfl ?_))
 try dsimp only [Z0]
 obtain ⟨r167, hm168, H⟩ := bind_some H
 refine Zn rfl rfl rfl rfl (by kernel_rfl) rfl (c_ref23_Told x0 x1 A0_ c0_ A1_ c1_ A2_ c2_ A3_ c3_ A4_ c4_ A5_ c5_ _ (Zhu s0_.k (hS.rd0 s0_.rd) (hS.blk0 s0_.blk)) (Zhu s1_.k (hS.rd0 s1_.rd) (hS.blk0 s1_.blk)) (Zhu s2_.k (hS.rd0 s2_.rd) (hS.blk0 s2_.blk)) (Zhu s3_.k (hS.rd0 s3_.rd) (hS.blk0 s3_.blk)) (Zhu s4_.k (hS.rd0 s4_.rd) (hS.blk0 s4_.blk)) (Zhu s5_.k (hS.rd0 s5_.rd) (hS.blk0 s5_.blk)) hm168) ?_
 rintro e w ⟨A169, c170, A173, c174, A177, c178, A181, c182, A185, c186, rfl, k171, k175, k179, k183, k187, hN⟩; refine ⟨_, rfl, ?_⟩; obtain ⟨hB, hS⟩ := hS.jn hN
 refine Zg (Z9 hB (Z6 [Ff,Ff,Ff,Ff,Ff,Ff,Tt] 6 ⟨by decide, by kernel_rfl, by kernel_rfl⟩ rfl rfl ?_))
 try dsimp only [Z0]
 obtain ⟨r189, hm190, H⟩ := bind_some H
 refine Zn rfl rfl rfl rfl (by kernel_rfl) rfl (c_ref20_Same r145 r167 A147 c148 A151 c152 A155 c156 A159 c160 A163 c164 A169 c170 A173 c174 A177 c178 A181 c182 A185 c186 _ (Zhu k149 (hS.rd hs5) (hS.rd_blk hs5)) (Zhu k153 (hS.row_rd hs6) (hS.row_blk hs6)) (Zhu k157 (hS.row_rd hs7) (hS.row_blk hs7)) (Zhu k161 (hS.row_rd hs8) (hS.row_blk hs8)) (Zhu k165 (hS.row_rd hs9) (hS.row_blk hs9)) (Zhu k171 (hS.row_rd hs0) (hS.row_blk hs0)) (Zhu k175 (hS.row_rd Xa) (hS.row_blk Xa)) (Zhu k179 (hS.row_rd Xq) (hS.row_blk Xq)) (Zhu k183 (hS.row_rd hs3) (hS.row_blk hs3)) (Zhu k187 (hS.row_rd hs4) (hS.row_blk hs4)) hm190) ?_
 rintro e w ⟨rfl, hN⟩; refine ⟨_, rfl, ?_⟩; obtain ⟨hB, hS⟩ := hS.jn hN
 refine Zg (Z9 hB (Zq [Ff,Ff,Ff,Ff,Ff,Ff,Ff,Tt] (by decide +kernel) PFC.h (LtK.put rfl rfl rfl (Zw rfl) (LtK.nil (Jw 79 rfl (fun hb => ?_) (fun hb => ?_))))))
 rotate_left
 ·replace H := Zo H hb
  refine Zq [Ff,Ff,Ff,Ff,Ff,Ff,Ff,Ff,Tt,Ff,Tt] (by decide +kernel) PFC.h (LtK.skip rfl rfl rfl (LtK.skip rfl rfl rfl (LtK.nil (Z6 [Ff,Ff,Ff,Ff,Ff,Ff,Ff,Ff,Ff,Tt] 9 ⟨by decide, by kernel_rfl, by kernel_rfl⟩ rfl rfl ?_))))
  try dsimp only [Z0]
  refine Xi rfl rfl rfl (Zg (Z9 (Below.refl _ _) (Z6 [Ff,Ff,Ff,Ff,Ff,Ff,Ff,Ff,Ff,Ff,Ff,Tt] 11 ⟨by decide, by kernel_rfl, by kernel_rfl⟩ rfl rfl ?_)))
  try dsimp only [Z0]
  refine Xi rfl rfl rfl (Zg (Z9 (Below.refl _ _) (Z6 [Ff,Ff,Ff,Ff,Ff,Ff,Ff,Ff,Ff,Ff,Ff,Ff,Tt] 12 ⟨by decide, by kernel_rfl, by kernel_rfl⟩ rfl rfl ?_)))
  try dsimp only [Z0]
  refine Xi rfl rfl rfl (Zg (Z9 (Below.refl _ _) (Zq [Ff,Ff,Ff,Ff,Ff,Ff,Ff,Ff,Ff,Ff,Ff,Ff,Ff,Tt,Tt] (by decide +kernel) PFC.h (LtK.put rfl rfl rfl (Y3 rfl rfl rfl) (LtK.put rfl rfl rfl (Zw rfl) (LtK.nil (Z6 [Ff,Ff,Ff,Ff,Ff,Ff,Ff,Ff,Ff,Ff,Ff,Ff,Ff,Ff,Ff,Tt] 15 ⟨by decide, by kernel_rfl, by kernel_rfl⟩ rfl rfl ?_)))))))
  try dsimp only [Z0]
  refine Xi rfl rfl rfl (Zg (Z9 (Below.refl _ _) (Zq [Ff,Ff,Ff,Ff,Ff,Ff,Ff,Ff,Ff,Ff,Ff,Ff,Ff,Ff,Ff,Ff,Tt,Tt] (by decide +kernel) PFC.h (LtK.put rfl rfl rfl (Y3 rfl rfl rfl) (LtK.put rfl rfl rfl (Z2 rfl) (LtK.nil (Ye (by kernel_rfl) ?_)))))))
  refine Zc hK144 (Zk (Zm rfl (RV.tmp rfl RV.nil) rfl ?_))
  obtain rfl := QJ H
  replace hS := hS.cut 0
  exact ⟨rfl, hS⟩
 replace H := Zp H hb
 refine Zq [Ff,Ff,Ff,Ff,Ff,Ff,Ff,Ff,Tt,Ff,Tt] (by decide +kernel) PFC.h (LtK.put rfl rfl rfl (Zi Z7 rfl (Zhs _) hS hs35 trivial Zz) (LtK.put rfl rfl rfl (Zi Z7 rfl (Zhs _) hS hs35 trivial Zz) (LtK.nil (Z6 [Ff,Ff,Ff,Ff,Ff,Ff,Ff,Ff,Ff,Tt] 9 ⟨by decide, by kernel_rfl, by kernel_rfl⟩ rfl rfl ?_))))
 try dsimp only [Z0]
 obtain ⟨r192, hm193, H⟩ := bind_some H
 refine Zn rfl rfl rfl rfl (by kernel_rfl) rfl (c_repl_Fit x0 A0_ c0_ A1_ c1_ A2_ c2_ A3_ c3_ A4_ c4_ _ (Zhu s0_.k (hS.rd0 s0_.rd) (hS.blk0 s0_.blk)) (Zhu s1_.k (hS.rd0 s1_.rd) (hS.blk0 s1_.blk)) (Zhu s2_.k (hS.rd0 s2_.rd) (hS.blk0 s2_.blk)) (Zhu s3_.k (hS.rd0 s3_.rd) (hS.blk0 s3_.blk)) (Zhu s4_.k (hS.rd0 s4_.rd) (hS.blk0 s4_.blk)) hm193) ?_
 rintro e w ⟨A194, c195, A198, c199, A202, c203, A206, c207, A210, c211, rfl, k196, k200, k204, k208, k212, hN⟩; refine ⟨_, rfl, ?_⟩; obtain ⟨hB, hS⟩ := hS.jn hN
 refine Zg (Z9 hB (Z6 [Ff,Ff,Ff,Ff,Ff,Ff,Ff,Ff,Ff,Ff,Ff,Tt] 11 ⟨by decide, by kernel_rfl, by kernel_rfl⟩ rfl rfl ?_))
 try dsimp only [Z0]
 obtain ⟨r214, hm215, H⟩ := bind_some H
 refine Zn rfl rfl rfl rfl (by kernel_rfl) rfl (Zgz x0 A0_ c0_ A1_ c1_ A2_ c2_ A3_ c3_ A4_ c4_ _ (Zhu s0_.k (hS.rd0 s0_.rd) (hS.blk0 s0_.blk)) (Zhu s1_.k (hS.rd0 s1_.rd) (hS.blk0 s1_.blk)) (Zhu s2_.k (hS.rd0 s2_.rd) (hS.blk0 s2_.blk)) (Zhu s3_.k (hS.rd0 s3_.rd) (hS.blk0 s3_.blk)) (Zhu s4_.k (hS.rd0 s4_.rd) (hS.blk0 s4_.blk)) hm215) ?_
 rintro e w ⟨A216, c217, A220, c221, A224, c225, A228, c229, A232, c233, rfl, k218, k222, k226, k230, k234, hN⟩; refine ⟨_, rfl, ?_⟩; obtain ⟨hB, hS⟩ := hS.jn hN
 refine Zg (Z9 hB (Z6 [Ff,Ff,Ff,Ff,Ff,Ff,Ff,Ff,Ff,Ff,Ff,Ff,Tt] 12 ⟨by decide, by kernel_rfl, by kernel_rfl⟩ rfl rfl ?_))
 try dsimp only [Z0]
 obtain ⟨r236, hm237, H⟩ := bind_some H
 refine Zn rfl rfl rfl rfl (by kernel_rfl) rfl (c_ref20_Same r192 r214 A194 c195 A198 c199 A202 c203 A206 c207 A210 c211 A216 c217 A220 c221 A224 c225 A228 c229 A232 c233 _ (Zhu k196 (hS.row_rd hs5) (hS.row_blk hs5)) (Zhu k200 (hS.row_rd hs6) (hS.row_blk hs6)) (Zhu k204 (hS.row_rd hs7) (hS.row_blk hs7)) (Zhu k208 (hS.row_rd hs8) (hS.row_blk hs8)) (Zhu k212 (hS.row_rd hs9) (hS.row_blk hs9)) (Zhu k218 (hS.row_rd hs0) (hS.row_blk hs0)) (Zhu k222 (hS.row_rd Xa) (hS.row_blk Xa)) (Zhu k226 (hS.row_rd Xq) (hS.row_blk Xq)) (Zhu k230 (hS.row_rd hs3) (hS.row_blk hs3)) (Zhu k234 (hS.row_rd hs4) (hS.row_blk hs4)) hm237) ?_
 rintro e w ⟨rfl, hN⟩; refine ⟨_, rfl, ?_⟩; obtain ⟨hB, hS⟩ := hS.jn hN
 refine Zg (Z9 hB (Zq [Ff,Ff,Ff,Ff,Ff,Ff,Ff,Ff,Ff,Ff,Ff,Ff,Ff,Tt,Tt] (by decide +kernel) PFC.h (LtK.put rfl rfl rfl (Ym rfl rfl rfl) (LtK.put rfl rfl rfl (Zw rfl) (LtK.nil (Jw 86 rfl (fun hb => ?_) (fun hb => ?_)))))))
 rotate_left
 ·replace H := Zo H hb
  refine Z6 [Ff,Ff,Ff,Ff,Ff,Ff,Ff,Ff,Ff,Ff,Ff,Ff,Ff,Ff,Ff,Tt] 15 ⟨by decide, by kernel_rfl, by kernel_rfl⟩ rfl rfl ?_
  try dsimp only [Z0]
  refine Xi rfl rfl rfl (Zg (Z9 (Below.refl _ _) (Zq [Ff,Ff,Ff,Ff,Ff,Ff,Ff,Ff,Ff,Ff,Ff,Ff,Ff,Ff,Ff,Ff,Tt,Tt] (by decide +kernel) PFC.h (LtK.put rfl rfl rfl (Y3 rfl rfl rfl) (LtK.put rfl rfl rfl (Z2 rfl) (LtK.nil (Ye (by kernel_rfl) ?_)))))))
  refine Zc hK144 (Zk (Zm rfl (RV.tmp rfl RV.nil) rfl ?_))
  obtain rfl := QJ H
  replace hS := hS.cut 0
  exact ⟨rfl, hS⟩
 replace H := Zp H hb
 refine Z6 [Ff,Ff,Ff,Ff,Ff,Ff,Ff,Ff,Ff,Ff,Ff,Ff,Ff,Ff,Ff,Tt] 15 ⟨by decide, by kernel_rfl, by kernel_rfl⟩ rfl rfl ?_
 try dsimp only [Z0]
 obtain ⟨r239, hm240, H⟩ := bind_some H
 refine Zn rfl rfl rfl rfl (by kernel_rfl) rfl (c_law23_wakes _ hm240) ?_
 rintro e w ⟨rfl, hN⟩; refine ⟨_, rfl, ?_⟩; obtain ⟨hB, hS⟩ := hS.jn hN
 refine Zg (Z9 hB (Zq [Ff,Ff,Ff,Ff,Ff,Ff,Ff,Ff,Ff,Ff,Ff,Ff,Ff,Ff,Ff,Ff,Tt,Tt] (by decide +kernel) PFC.h (LtK.put rfl rfl rfl (Ym rfl rfl rfl) (LtK.put rfl rfl rfl (Z2 rfl) (LtK.nil (Ye (by kernel_rfl) (Zc hK144 ?_)))))))
 refine Zk (Zm rfl (RV.tmp rfl RV.nil) rfl ?_)
 obtain rfl := QJ H
 replace hS := hS.cut 0
 exact ⟨rfl, hS⟩
end

end Go.Proofs.YtamjlcaoieliaaaGreat
