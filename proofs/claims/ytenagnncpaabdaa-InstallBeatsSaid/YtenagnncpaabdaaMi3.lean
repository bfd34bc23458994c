/- Texts of one claim put together. -/
import Derived.Test.YtenagnncpaabdaaMi1
import Derived.Test.YtenagnncpaabdaaMi2
namespace Go.Proofs.Ytenagnncpaabdaa
open Go Go.RowKit
set_option maxRecDepth 100000
set_option maxHeartbeats 4000000
theorem Zbz (x0 : List En) (A0_ : Option Addr) (c0_ : Nat) (w0 : World) (s0_ : SlI w0 Jv A0_ c0_ x0) {r : List En} (H : X0 x0 = some r) : Calls Try.prog 81 #[.slice A0_ x0.length c0_] w0 fun e w' => ∃ (A0 : Option Addr) (c0 : Nat), e = .returned (.slice A0 r.length c0) ∧ (r.length ≤ c0 ∧ c0 ≤ maxLen) ∧ St0 All w0 w' [.row (.slice A0 r.length c0) 46 3 r.length (Ym Jv r)] := by
 unfold X0 at H
 obtain ⟨rfl, hfew⟩ := Zem H
 cases A0_ with
 | none =>
  obtain rfl : r = [] := by
   cases r with
   | nil => rfl
   | cons e l => obtain ⟨b, o, h, _⟩ := s0_.rd 0 _ rfl; cases h
  refine Yl Try.func81 rfl Try.ntmps81 rfl ?_
  have hS := St0.start All w0
  refine Zd (fun K hK1 => ?_)
  refine Zf ?_
  refine Zb 1 rfl ?_
  refine Zg ?_
  refine Zc hK1 ?_
  refine Zd (fun K hK2 => ?_)
  refine Zd (fun K hK3 => ?_)
  refine Zf ?_
  refine Zb 1 rfl ?_
  refine Za rfl rfl rfl (Zc4 (e := 46) (by kernel_rfl) rfl rfl) ?_
  refine Zg ?_
  refine Zc hK3 ?_
  refine Zs rfl rfl ?_
  refine Zd (fun K hK4 => ?_)
  refine Zf ?_
  refine Zb 1 rfl ?_
  refine Zg ?_
  refine Zc hK4 ?_
  refine Zk ?_
  refine Zi ?_
  refine Zl rfl (RV.tmp rfl RV.nil) rfl ?_
  have hS := hS.nilRow 46 3
  replace hS := hS.cut 1
  exact ⟨none, 0, rfl, ⟨Nat.le_refl _, Nat.zero_le _⟩, hS⟩
 | some a0 =>
  refine Yl Try.func81 rfl Try.ntmps81 rfl ?_
  have hS := St0.start All w0
  have H : (Zfc ([] ++ r)).bind (fun z => some z) = some r := by rw [List.nil_append, H]; rfl
  refine Zd (fun K hK5 => ?_)
  refine Zf ?_
  refine Zb 1 rfl ?_
  refine Zg ?_
  refine Zc hK5 ?_
  refine Zd (fun K hK6 => ?_)
  refine Zd (fun K hK7 => ?_)
  refine Zf ?_
  refine Zb 1 rfl ?_
  refine Za rfl rfl rfl (Zc4 (e := 46) (by kernel_rfl) rfl rfl) ?_
  refine Zg ?_
  refine Zc hK7 ?_
  refine Yq rfl rfl ?_
  refine Zu ?_
  refine Zc hK6 ?_
  refine Zd (fun K hK8 => ?_)
  refine Zf ?_
  refine Zer Va rfl rfl hS (fun b9 w hS hB => ?_)
  refine Zb 1 rfl ?_
  obtain ⟨l11, hf12, H⟩ := bind_some H
  refine Za3 (ys := r) Vi oc_enE em_24 (by decide) rfl rfl rfl rfl hS (fun _ => ps0) (hS.rd0 s0_.rd) hf12 (fun A13 c14 w k15 hS => ?_)
  refine Zb 1 rfl ?_
  refine Zg ?_
  refine Zc hK8 ?_
  refine Zk ?_
  refine Zl rfl (RV.tmp rfl RV.nil) rfl ?_
  obtain rfl := Option.some.inj H
  have hS := hS.front 0 rfl
  replace hS := hS.cut 1
  exact ⟨A13, c14, rfl, k15, hS⟩
theorem c_tuple_Own (x0 : Tu) (A0_ : Option Addr) (c0_ : Nat) (w0 : World) (s0_ : SlI w0 Jv A0_ c0_ x0.log) {r : Tu} (H : Ze5 x0 = some r) : Calls Try.prog 51 #[.agg #[.int .i64 x0.snap.index, .int .i64 x0.snap.term, .int .i64 x0.snap.sum, .int .i64 x0.snap.level, .bool x0.snap.final, .slice A0_ x0.log.length c0_, .int .i64 x0.term, .int .i64 x0.vote]] w0 fun e w' => ∃ (A0 : Option Addr) (c0 : Nat), e = .returned (.agg #[.int .i64 r.snap.index, .int .i64 r.snap.term, .int .i64 r.snap.sum, .int .i64 r.snap.level, .bool r.snap.final, .slice A0 r.log.length c0, .int .i64 r.term, .int .i64 r.vote]) ∧ (r.log.length ≤ c0 ∧ c0 ≤ maxLen) ∧ St0 All w0 w' [.row (.slice A0 r.log.length c0) 46 3 r.log.length (Ym Jv r.log)] := by
 unfold Ze5 at H
 refine Yl Try.func51 rfl Try.ntmps51 rfl ?_
 have hS := St0.start All w0
 refine Zd (fun K hK1 => ?_)
 refine Zf ?_
 refine Z9 rfl rfl rfl CellsOf.agg hS (fun b2 w hS hB => ?_)
 refine Z6 rfl rfl zc_26 hS (fun b4 w hS hB => ?_)
 refine Zg ?_
 refine Zc hK1 ?_
 refine Zd (fun K hK6 => ?_)
 refine Zf ?_
 refine Za rfl rfl rfl (Ze X5 rfl) ?_
 refine Za rfl rfl rfl (Zh V8 rfl (RW.here _) hS Xt trivial Zdw) ?_
 obtain ⟨r7, hm8, H⟩ := bind_some H
 refine Zr rfl rfl rfl rfl (by kernel_rfl) rfl (Zbz x0.log A0_ c0_ _ (SlI.of_rd s0_.k (hS.rd0 s0_.rd) (hS.blk0 s0_.blk)) hm8) ?_
 rintro e w ⟨A9, c10, rfl, k11, hN⟩; refine ⟨_, rfl, ?_⟩; have hB := hN.pure; have hS := hS.join hN; clear hN
 refine Za rfl rfl rfl (Ze X5 rfl) ?_
 refine Zo rfl rfl rfl CellsOf.slice hS ps2 st5_1 (by kernel_rfl) rfl (fun w hS hB => ?_)
 refine Zg ?_
 refine Zc hK6 ?_
 refine Zd (fun K hK13 => ?_)
 refine Zf ?_
 refine Za rfl rfl rfl (Zj Xg rfl (RW.here _) hS Vh trivial Zfp) ?_
 refine Zo rfl rfl rfl CellsOf.agg hS ps1 st0_8 (by kernel_rfl) rfl (fun w hS hB => ?_)
 refine Zg ?_
 refine Zc hK13 ?_
 refine Zk ?_
 refine Zl rfl (RV.cell rfl (Z3 Xg hS Xt Zfp) RV.nil) rfl ?_
 obtain rfl := Option.some.inj H
 have hS := hS.front 0 rfl
 replace hS := hS.cut 1
 exact ⟨A9, c10, rfl, k11, hS⟩
theorem Zej (x0 : List Bool) (A0_ : Option Addr) (c0_ : Nat) (w0 : World) (s0_ : SlI w0 enO A0_ c0_ x0) {r : List Bool} (H : V2 x0 = some r) : Calls Try.prog 52 #[.slice A0_ x0.length c0_] w0 fun e w' => ∃ (A0 : Option Addr) (c0 : Nat), e = .returned (.slice A0 r.length c0) ∧ (r.length ≤ c0 ∧ c0 ≤ maxLen) ∧ St0 All w0 w' [.row (.slice A0 r.length c0) 4 1 r.length (Ym enO r)] := by
 unfold V2 at H
 obtain ⟨rfl, hfew⟩ := Zem H
 cases A0_ with
 | none =>
  obtain rfl : r = [] := by
   cases r with
   | nil => rfl
   | cons e l => obtain ⟨b, o, h, _⟩ := s0_.rd 0 _ rfl; cases h
  refine Yl Try.func52 rfl Try.ntmps52 rfl ?_
  have hS := St0.start All w0
  refine Zd (fun K hK1 => ?_)
  refine Zf ?_
  refine Zb 1 rfl ?_
  refine Zg ?_
  refine Zc hK1 ?_
  refine Zd (fun K hK2 => ?_)
  refine Zd (fun K hK3 => ?_)
  refine Zf ?_
  refine Zb 1 rfl ?_
  refine Za rfl rfl rfl (Zc4 (e := 4) (by kernel_rfl) rfl rfl) ?_
  refine Zg ?_
  refine Zc hK3 ?_
  refine Zs rfl rfl ?_
  refine Zd (fun K hK4 => ?_)
  refine Zf ?_
  refine Zb 1 rfl ?_
  refine Zg ?_
  refine Zc hK4 ?_
  refine Zk ?_
  refine Zi ?_
  refine Zl rfl (RV.tmp rfl RV.nil) rfl ?_
  have hS := hS.nilRow 4 1
  replace hS := hS.cut 1
  exact ⟨none, 0, rfl, ⟨Nat.le_refl _, Nat.zero_le _⟩, hS⟩
 | some a0 =>
  refine Yl Try.func52 rfl Try.ntmps52 rfl ?_
  have hS := St0.start All w0
  have H : (Zfc ([] ++ r)).bind (fun z => some z) = some r := by rw [List.nil_append, H]; rfl
  refine Zd (fun K hK5 => ?_)
  refine Zf ?_
  refine Zb 1 rfl ?_
  refine Zg ?_
  refine Zc hK5 ?_
  refine Zd (fun K hK6 => ?_)
  refine Zd (fun K hK7 => ?_)
  refine Zf ?_
  refine Zb 1 rfl ?_
  refine Za rfl rfl rfl (Zc4 (e := 4) (by kernel_rfl) rfl rfl) ?_
  refine Zg ?_
  refine Zc hK7 ?_
  refine Yq rfl rfl ?_
  refine Zu ?_
  refine Zc hK6 ?_
  refine Zd (fun K hK8 => ?_)
  refine Zf ?_
  refine Zer el_27 rfl rfl hS (fun b9 w hS hB => ?_)
  refine Zb 1 rfl ?_
  obtain ⟨l11, hf12, H⟩ := bind_some H
  refine Za3 (ys := r) he_enO oc_enO em_27 (by decide) rfl rfl rfl rfl hS (fun _ => ps0) (hS.rd0 s0_.rd) hf12 (fun A13 c14 w k15 hS => ?_)
  refine Zb 1 rfl ?_
  refine Zg ?_
  refine Zc hK8 ?_
  refine Zk ?_
  refine Zl rfl (RV.tmp rfl RV.nil) rfl ?_
  obtain rfl := Option.some.inj H
  have hS := hS.front 0 rfl
  replace hS := hS.cut 1
  exact ⟨A13, c14, rfl, k15, hS⟩
theorem Zaj (x0 : List Int) (A0_ : Option Addr) (c0_ : Nat) (w0 : World) (s0_ : SlI w0 Vu A0_ c0_ x0) {r : List Int} (H : Vb x0 = some r) : Calls Try.prog 53 #[.slice A0_ x0.length c0_] w0 fun e w' => ∃ (A0 : Option Addr) (c0 : Nat), e = .returned (.slice A0 r.length c0) ∧ (r.length ≤ c0 ∧ c0 ≤ maxLen) ∧ St0 All w0 w' [.row (.slice A0 r.length c0) 3 1 r.length (Ym Vu r)] := by
 unfold Vb at H
 obtain ⟨rfl, hfew⟩ := Zem H
 cases A0_ with
 | none =>
  obtain rfl : r = [] := by
   cases r with
   | nil => rfl
   | cons e l => obtain ⟨b, o, h, _⟩ := s0_.rd 0 _ rfl; cases h
  refine Yl Try.func53 rfl Try.ntmps53 rfl ?_
  have hS := St0.start All w0
  refine Zd (fun K hK1 => ?_)
  refine Zf ?_
  refine Zb 1 rfl ?_
  refine Zg ?_
  refine Zc hK1 ?_
  refine Zd (fun K hK2 => ?_)
  refine Zd (fun K hK3 => ?_)
  refine Zf ?_
  refine Zb 1 rfl ?_
  refine Za rfl rfl rfl (Zc4 (e := 3) (by kernel_rfl) rfl rfl) ?_
  refine Zg ?_
  refine Zc hK3 ?_
  refine Zs rfl rfl ?_
  refine Zd (fun K hK4 => ?_)
  refine Zf ?_
  refine Zb 1 rfl ?_
  refine Zg ?_
  refine Zc hK4 ?_
  refine Zk ?_
  refine Zi ?_
  refine Zl rfl (RV.tmp rfl RV.nil) rfl ?_
  have hS := hS.nilRow 3 1
  replace hS := hS.cut 1
  exact ⟨none, 0, rfl, ⟨Nat.le_refl _, Nat.zero_le _⟩, hS⟩
 | some a0 =>
  refine Yl Try.func53 rfl Try.ntmps53 rfl ?_
  have hS := St0.start All w0
  have H : (Zfc ([] ++ r)).bind (fun z => some z) = some r := by rw [List.nil_append, H]; rfl
  refine Zd (fun K hK5 => ?_)
  refine Zf ?_
  refine Zb 1 rfl ?_
  refine Zg ?_
  refine Zc hK5 ?_
  refine Zd (fun K hK6 => ?_)
  refine Zd (fun K hK7 => ?_)
  refine Zf ?_
  refine Zb 1 rfl ?_
  refine Za rfl rfl rfl (Zc4 (e := 3) (by kernel_rfl) rfl rfl) ?_
  refine Zg ?_
  refine Zc hK7 ?_
  refine Yq rfl rfl ?_
  refine Zu ?_
  refine Zc hK6 ?_
  refine Zd (fun K hK8 => ?_)
  refine Zf ?_
  refine Zer Vd rfl rfl hS (fun b9 w hS hB => ?_)
  refine Zb 1 rfl ?_
  obtain ⟨l11, hf12, H⟩ := bind_some H
  refine Za3 (ys := r) Xd oc_enI em_28 (by decide) rfl rfl rfl rfl hS (fun _ => ps0) (hS.rd0 s0_.rd) hf12 (fun A13 c14 w k15 hS => ?_)
  refine Zb 1 rfl ?_
  refine Zg ?_
  refine Zc hK8 ?_
  refine Zk ?_
  refine Zl rfl (RV.tmp rfl RV.nil) rfl ?_
  obtain rfl := Option.some.inj H
  have hS := hS.front 0 rfl
  replace hS := hS.cut 1
  exact ⟨A13, c14, rfl, k15, hS⟩
theorem Zeo (x0 : Co) (A0_ : Option Addr) (c0_ : Nat) (A1_ : Option Addr) (c1_ : Nat) (A2_ : Option Addr) (c2_ : Nat) (A3_ : Option Addr) (c3_ : Nat) (A4_ : Option Addr) (c4_ : Nat) (w0 : World) (s0_ : SlI w0 Jv A0_ c0_ x0.tuple.log) (s1_ : SlI w0 enO A1_ c1_ x0.votes) (s2_ : SlI w0 Vu A2_ c2_ x0.next) (s3_ : SlI w0 Vu A3_ c3_ x0.mtch) (s4_ : SlI w0 Vu A4_ c4_ x0.caps) {r : Co} (H : Zbh x0 = some r) : Calls Try.prog 28 #[.agg #[.int .i64 x0.id, .int .i64 x0.n, .int .u8 x0.role, .int .i64 x0.binary, .int .i64 x0.tuple.snap.index, .int .i64 x0.tuple.snap.term, .int .i64 x0.tuple.snap.sum, .int .i64 x0.tuple.snap.level, .bool x0.tuple.snap.final, .slice A0_ x0.tuple.log.length c0_, .int .i64 x0.tuple.term, .int .i64 x0.tuple.vote, .int .i64 x0.commit, .int .i64 x0.applied.index, .int .i64 x0.applied.term, .int .i64 x0.applied.sum, .int .i64 x0.applied.level, .bool x0.applied.final, .slice A1_ x0.votes.length c1_, .slice A2_ x0.next.length c2_, .slice A3_ x0.mtch.length c3_, .slice A4_ x0.caps.length c4_]] w0 fun e w' => ∃ (A0 : Option Addr) (c0 : Nat) (A1 : Option Addr) (c1 : Nat) (A2 : Option Addr) (c2 : Nat) (A3 : Option Addr) (c3 : Nat) (A4 : Option Addr) (c4 : Nat), e = .returned (.agg #[.int .i64 r.id, .int .i64 r.n, .int .u8 r.role, .int .i64 r.binary, .int .i64 r.tuple.snap.index, .int .i64 r.tuple.snap.term, .int .i64 r.tuple.snap.sum, .int .i64 r.tuple.snap.level, .bool r.tuple.snap.final, .slice A0 r.tuple.log.length c0, .int .i64 r.tuple.term, .int .i64 r.tuple.vote, .int .i64 r.commit, .int .i64 r.applied.index, .int .i64 r.applied.term, .int .i64 r.applied.sum, .int .i64 r.applied.level, .bool r.applied.final, .slice A1 r.votes.length c1, .slice A2 r.next.length c2, .slice A3 r.mtch.length c3, .slice A4 r.caps.length c4]) ∧ (r.tuple.log.length ≤ c0 ∧ c0 ≤ maxLen) ∧ (r.votes.length ≤ c1 ∧ c1 ≤ maxLen) ∧ (r.next.length ≤ c2 ∧ c2 ≤ maxLen) ∧ (r.mtch.length ≤ c3 ∧ c3 ≤ maxLen) ∧ (r.caps.length ≤ c4 ∧ c4 ≤ maxLen) ∧ St0 All w0 w' [.row (.slice A0 r.tuple.log.length c0) 46 3 r.tuple.log.length (Ym Jv r.tuple.log), .row (.slice A1 r.votes.length c1) 4 1 r.votes.length (Ym enO r.votes), .row (.slice A2 r.next.length c2) 3 1 r.next.length (Ym Vu r.next), .row (.slice A3 r.mtch.length c3) 3 1 r.mtch.length (Ym Vu r.mtch), .row (.slice A4 r.caps.length c4) 3 1 r.caps.length (Ym Vu r.caps)] := by
 unfold Zbh at H
 refine Yl Try.func28 rfl Try.ntmps28 rfl ?_
 have hS := St0.start All w0
 refine Zd (fun K hK1 => ?_)
 refine Zf ?_
 refine Z9 rfl rfl rfl CellsOf.agg hS (fun b2 w hS hB => ?_)
 refine Z6 rfl rfl Zc0 hS (fun b4 w hS hB => ?_)
 refine Zg ?_
 refine Zc hK1 ?_
 refine Zd (fun K hK6 => ?_)
 refine Zf ?_
 refine Za rfl rfl rfl (Ze Yu rfl) ?_
 refine Za rfl rfl rfl (Zj Xg rfl (RW.here _) hS Xt trivial Zbl) ?_
 obtain ⟨r7, hm8, H⟩ := bind_some H
 refine Zr rfl rfl rfl rfl (by kernel_rfl) rfl (c_tuple_Own x0.tuple A0_ c0_ _ (SlI.of_rd s0_.k (hS.rd0 s0_.rd) (hS.blk0 s0_.blk)) hm8) ?_
 rintro e w ⟨A9, c10, rfl, k11, hN⟩; refine ⟨_, rfl, ?_⟩; have hB := hN.pure; have hS := hS.join hN; clear hN
 refine Za rfl rfl rfl (Ze Yu rfl) ?_
 refine Zo rfl rfl rfl CellsOf.agg hS ps2 st4_8 (by kernel_rfl) rfl (fun w hS hB => ?_)
 refine Zg ?_
 refine Zc hK6 ?_
 refine Zd (fun K hK13 => ?_)
 refine Yo 20 [13, 15, 17, 19] (fun i b => (i = 13 → b ≠ b2) ∧ (i = 15 → b ≠ b2) ∧ (i = 17 → b ≠ b2) ∧ (i = 19 → b ≠ b2)) ⟨by kernel_rfl, by kernel_rfl⟩ hS (fun w hS hB => ?_)
 refine Zm [true, true, false, true, true, false, true, true, false, true, true] (by decide +kernel) (by repeat (first | exact PF.body | exact PF.round | apply PF.then | apply PF.inBlock | apply PF.jump)) ?_
 refine LtK.put rfl rfl rfl (Ze Zbm rfl) ?_
 refine LtK.put rfl rfl rfl (Zh sc_27 rfl (RW.below _) hS Vh trivial Zfe) ?_
 refine LtK.put rfl rfl rfl (Ze Zao rfl) ?_
 refine LtK.put rfl rfl rfl (Zh V1 rfl (RW.below _) hS Vh trivial Zdn) ?_
 refine LtK.put rfl rfl rfl (Ze Zco rfl) ?_
 refine LtK.put rfl rfl rfl (Zh V1 rfl (RW.below _) hS Vh trivial Zfg) ?_
 refine LtK.put rfl rfl rfl (Ze J3 rfl) ?_
 refine LtK.put rfl rfl rfl (Zh V1 rfl (RW.below _) hS Vh trivial Zc9) ?_
 refine LtK.nil ?_
 refine Z7 [false, false, true] 2 ⟨by decide, by kernel_rfl, by kernel_rfl⟩ rfl rfl ?_
 try dsimp only [Z2]
 obtain ⟨r14, hm15, H⟩ := bind_some H
 refine Zr rfl rfl rfl rfl (by kernel_rfl) rfl (Zej x0.votes A1_ c1_ _ (SlI.of_rd s1_.k (hS.rd0 s1_.rd) (hS.blk0 s1_.blk)) hm15) ?_
 rintro e w ⟨A16, c17, rfl, k18, hN⟩; refine ⟨_, rfl, ?_⟩; have hB := hN.pure; have hS := hS.join hN; clear hN
 refine Zg ?_
 refine Yf hB ?_
 refine Zm [false, false, false, false, false, false, false, false, false, false, false, false, true] (by decide +kernel) (by repeat (first | exact PF.body | exact PF.round | apply PF.then | apply PF.inBlock | apply PF.jump)) ?_
 refine LtK.put rfl rfl rfl (Ze Zbm rfl) ?_
 refine LtK.nil ?_
 refine Z7 [false, false, false, false, false, true] 5 ⟨by decide, by kernel_rfl, by kernel_rfl⟩ rfl rfl ?_
 try dsimp only [Z2]
 obtain ⟨r20, hm21, H⟩ := bind_some H
 refine Zr rfl rfl rfl rfl (by kernel_rfl) rfl (Zaj x0.next A2_ c2_ _ (SlI.of_rd s2_.k (hS.rd0 s2_.rd) (hS.blk0 s2_.blk)) hm21) ?_
 rintro e w ⟨A22, c23, rfl, k24, hN⟩; refine ⟨_, rfl, ?_⟩; have hB := hN.pure; have hS := hS.join hN; clear hN
 refine Zg ?_
 refine Yf hB ?_
 refine Z7 [false, false, false, false, false, false, false, false, true] 8 ⟨by decide, by kernel_rfl, by kernel_rfl⟩ rfl rfl ?_
 try dsimp only [Z2]
 obtain ⟨r26, hm27, H⟩ := bind_some H
 refine Zr rfl rfl rfl rfl (by kernel_rfl) rfl (Zaj x0.mtch A3_ c3_ _ (SlI.of_rd s3_.k (hS.rd0 s3_.rd) (hS.blk0 s3_.blk)) hm27) ?_
 rintro e w ⟨A28, c29, rfl, k30, hN⟩; refine ⟨_, rfl, ?_⟩; have hB := hN.pure; have hS := hS.join hN; clear hN
 refine Zg ?_
 refine Yf hB ?_
 refine Z7 [false, false, false, false, false, false, false, false, false, false, false, true] 11 ⟨by decide, by kernel_rfl, by kernel_rfl⟩ rfl rfl ?_
 try dsimp only [Z2]
 obtain ⟨r32, hm33, H⟩ := bind_some H
 refine Zr rfl rfl rfl rfl (by kernel_rfl) rfl (Zaj x0.caps A4_ c4_ _ (SlI.of_rd s4_.k (hS.rd0 s4_.rd) (hS.blk0 s4_.blk)) hm33) ?_
 rintro e w ⟨A34, c35, rfl, k36, hN⟩; refine ⟨_, rfl, ?_⟩; have hB := hN.pure; have hS := hS.join hN; clear hN
 refine Zg ?_
 refine Yf hB ?_
 refine Xh [false, false, false, false, false, false, false, false, false, false, false, false, false, true] 13 ⟨by decide, by kernel_rfl, by kernel_rfl⟩ rfl rfl ?_
 try dsimp only [Z2]
 refine Zo rfl rfl rfl CellsOf.slice hS ps6 st18_1 (by kernel_rfl) rfl (fun w hS hB => ?_)
 refine Zg ?_
 refine Xc (hB.sub (fun _ _ h => by simpa using h)) ?_
 refine Zm [false, false, false, false, false, false, false, false, false, false, false, false, false, false, true] (by decide +kernel) (by repeat (first | exact PF.body | exact PF.round | apply PF.then | apply PF.inBlock | apply PF.jump)) ?_
 refine LtK.put rfl rfl rfl (Ze Zao rfl) ?_
 refine LtK.nil ?_
 refine Xh [false, false, false, false, false, false, false, false, false, false, false, false, false, false, false, true] 15 ⟨by decide, by kernel_rfl, by kernel_rfl⟩ rfl rfl ?_
 try dsimp only [Z2]
 refine Zo rfl rfl rfl CellsOf.slice hS ps6 st19_1 (by kernel_rfl) rfl (fun w hS hB => ?_)
 refine Zg ?_
 refine Xc (hB.sub (fun _ _ h => by simpa using h)) ?_
 refine Zm [false, false, false, false, false, false, false, false, false, false, false, false, false, false, false, false, true] (by decide +kernel) (by repeat (first | exact PF.body | exact PF.round | apply PF.then | apply PF.inBlock | apply PF.jump)) ?_
 refine LtK.put rfl rfl rfl (Ze Zco rfl) ?_
 refine LtK.nil ?_
 refine Xh [false, false, false, false, false, false, false, false, false, false, false, false, false, false, false, false, false, true] 17 ⟨by decide, by kernel_rfl, by kernel_rfl⟩ rfl rfl ?_
 try dsimp only [Z2]
 refine Zo rfl rfl rfl CellsOf.slice hS ps6 st20_1 (by kernel_rfl) rfl (fun w hS hB => ?_)
 refine Zg ?_
 refine Xc (hB.sub (fun _ _ h => by simpa using h)) ?_
 refine Zm [false, false, false, false, false, false, false, false, false, false, false, false, false, false, false, false, false, false, true] (by decide +kernel) (by repeat (first | exact PF.body | exact PF.round | apply PF.then | apply PF.inBlock | apply PF.jump)) ?_
 refine LtK.put rfl rfl rfl (Ze J3 rfl) ?_
 refine LtK.nil ?_
 refine Xh [false, false, false, false, false, false, false, false, false, false, false, false, false, false, false, false, false, false, false, true] 19 ⟨by decide, by kernel_rfl, by kernel_rfl⟩ rfl rfl ?_
 try dsimp only [Z2]
 refine Zo rfl rfl rfl CellsOf.slice hS ps6 st21_1 (by kernel_rfl) rfl (fun w hS hB => ?_)
 refine Zg ?_
 refine Xc (hB.sub (fun _ _ h => by simpa using h)) ?_
 refine Z8 (by kernel_rfl) ?_
 refine Zc hK13 ?_
 refine Zd (fun K hK38 => ?_)
 refine Zf ?_
 refine Za rfl rfl rfl (Zj Yp rfl (RW.here _) hS hs6 trivial Yb) ?_
 refine Zo rfl rfl rfl CellsOf.agg hS ps5 Xq (by kernel_rfl) rfl (fun w hS hB => ?_)
 refine Zg ?_
 refine Zc hK38 ?_
 refine Zk ?_
 refine Zl rfl (RV.cell rfl (Z3 Yp hS hs5 Yb) RV.nil) rfl ?_
 obtain rfl := Option.some.inj H
 have hS := hS.front 0 rfl
 have hS := hS.front 1 rfl
 have hS := hS.front 2 rfl
 have hS := hS.front 3 rfl
 have hS := hS.front 4 rfl
 replace hS := hS.cut 5
 exact ⟨A9, c10, A16, c17, A22, c23, A28, c29, A34, c35, rfl, k11, k18, k24, k30, k36, hS⟩
theorem Zdh (x0 : Tu) (A0_ : Option Addr) (c0_ : Nat) (w0 : World) (s0_ : SlI w0 Jv A0_ c0_ x0.log) {r : Int} (H : J5 x0 = some r) : Calls Try.prog 34 #[.agg #[.int .i64 x0.snap.index, .int .i64 x0.snap.term, .int .i64 x0.snap.sum, .int .i64 x0.snap.level, .bool x0.snap.final, .slice A0_ x0.log.length c0_, .int .i64 x0.term, .int .i64 x0.vote]] w0 fun e w' => e = .returned (.int .i64 r) ∧ St0 All w0 w' [] := by
 unfold J5 at H
 refine Yl Try.func34 rfl Try.ntmps34 rfl ?_
 have hS := St0.start All w0
 refine Zd (fun K hK1 => ?_)
 refine Zf ?_
 refine Z9 rfl rfl rfl CellsOf.agg hS (fun b2 w hS hB => ?_)
 refine Zb 1 rfl ?_
 refine Zg ?_
 refine Zc hK1 ?_
 refine Zd (fun K hK4 => ?_)
 refine Zf ?_
 refine Za rfl rfl rfl (Ze Yx rfl) ?_
 refine Za rfl rfl rfl (Ze Z5 rfl) ?_
 refine Za rfl rfl rfl (Zh Zx rfl (RW.here _) hS hs0 trivial Y2) ?_
 refine Za rfl rfl rfl (Ze X5 rfl) ?_
 refine Za rfl rfl rfl (Zh V8 rfl (RW.here _) hS hs0 trivial Zdw) ?_
 refine Za rfl rfl rfl (Y1 Va rfl) ?_
 refine Za rfl rfl rfl (X1 rfl rfl) ?_
 refine Zb 1 rfl ?_
 refine Zg ?_
 refine Zc hK4 ?_
 refine Zk ?_
 refine Zl rfl (RV.tmp rfl RV.nil) rfl ?_
 obtain rfl := Option.some.inj H
 replace hS := hS.cut 0
 exact ⟨rfl, hS⟩
theorem J4 (x0 : Int) (x1 : Int) (x2 : Int) (w0 : World) {r : Bool} (H : Vk x0 x1 x2 = some r) : Calls Try.prog 66 #[.int .i64 x0, .int .i64 x1, .int .i64 x2] w0 fun e w' => e = .returned (.bool r) ∧ St0 All w0 w' [] := by
 unfold Vk at H
 refine Zb1 Try.func66 rfl Try.ntmps66 rfl ?_
 have hS := St0.start All w0
 refine Zd (fun K hK1 => ?_)
 refine Zf ?_
 refine Zb 1 rfl ?_
 refine Zg ?_
 refine Zc hK1 ?_
 refine Zd (fun K hK2 => ?_)
 refine Zf ?_
 refine Zb 2 rfl ?_
 refine Za rfl rfl rfl (Zbk rfl rfl) ?_
 refine Zb 1 rfl ?_
 refine Zt 10 rfl (fun hb => ?_) (fun hb => ?_)
 rotate_left
 ·replace H := Zp H hb
  refine Zb 5 rfl ?_
  refine Zg ?_
  refine Zc hK2 ?_
  refine Zk ?_
  refine Zl rfl (RV.tmp rfl RV.nil) rfl ?_
  obtain rfl := Option.some.inj H
  replace hS := hS.cut 0
  exact ⟨rfl, hS⟩
 replace H := Zq H hb
 refine Zb 2 rfl ?_
 refine Za rfl rfl rfl (Za1 rfl rfl) ?_
 refine Zb 2 rfl ?_
 refine Zg ?_
 refine Zc hK2 ?_
 refine Zk ?_
 refine Zl rfl (RV.tmp rfl RV.nil) rfl ?_
 obtain rfl := Option.some.inj H
 replace hS := hS.cut 0
 exact ⟨rfl, hS⟩
theorem c_entry_First (w0 : World) {r : St} (H : Zd7 = some r) : Calls Try.prog 95 #[] w0 fun e w' => e = .returned (.agg #[.int .i64 r.index, .int .i64 r.term, .int .i64 r.sum, .int .i64 r.level, .bool r.final]) ∧ St0 All w0 w' [] := by
 unfold Zd7 at H
 refine gw_enter0 Try.func95 rfl Try.ntmps95 rfl ?_
 have hS := St0.start All w0
 refine Zd (fun K hK1 => ?_)
 refine Zf ?_
 refine Z6 rfl rfl zc_23 hS (fun b2 w hS hB => ?_)
 refine Zg ?_
 refine Zc hK1 ?_
 refine Zd (fun K hK4 => ?_)
 refine Zf ?_
 refine Za rfl rfl rfl (Xx (cells := [.int .i64 0, .int .i64 0, .int .i64 0, .int .i64 1, .bool false]) rfl (by kernel_rfl)) ?_
 refine Zo rfl rfl rfl CellsOf.agg hS ps0 Zdm (by kernel_rfl) rfl (fun w hS hB => ?_)
 refine Zg ?_
 refine Zc hK4 ?_
 refine Zk ?_
 refine Zl rfl (RV.cell rfl (Z3 Yn hS hs0 Vw) RV.nil) rfl ?_
 obtain rfl := Option.some.inj H
 replace hS := hS.cut 0
 exact ⟨rfl, hS⟩
theorem V6 (x0 : Int) (w0 : World) {r : Bool} (H : X2 x0 = some r) : Calls Try.prog 96 #[.int .i64 x0] w0 fun e w' => e = .returned (.bool r) ∧ St0 All w0 w' [] := by
 unfold X2 at H
 refine Yl Try.func96 rfl Try.ntmps96 rfl ?_
 have hS := St0.start All w0
 refine Zd (fun K hK1 => ?_)
 refine Zf ?_
 refine Zb 1 rfl ?_
 refine Zg ?_
 refine Zc hK1 ?_
 refine Zd (fun K hK2 => ?_)
 refine Zf ?_
 refine Zb 1 rfl ?_
 refine Za rfl rfl rfl (Zbk rfl rfl) ?_
 refine Zb 1 rfl ?_
 refine Zt 5 rfl (fun hb => ?_) (fun hb => ?_)
 rotate_left
 ·replace H := Zp H hb
  refine Zb 4 rfl ?_
  refine Zg ?_
  refine Zc hK2 ?_
  refine Zk ?_
  refine Zl rfl (RV.tmp rfl RV.nil) rfl ?_
  obtain rfl := Option.some.inj H
  replace hS := hS.cut 0
  exact ⟨rfl, hS⟩
 replace H := Zq H hb
 refine Zb 1 rfl ?_
 refine Za rfl rfl rfl (Za1 rfl rfl) ?_
 refine Zb 2 rfl ?_
 refine Zg ?_
 refine Zc hK2 ?_
 refine Zk ?_
 refine Zl rfl (RV.tmp rfl RV.nil) rfl ?_
 obtain rfl := Option.some.inj H
 replace hS := hS.cut 0
 exact ⟨rfl, hS⟩
theorem Zbx (x0 : St) (w0 : World) {r : Bool} (H : Jl x0 = some r) : Calls Try.prog 80 #[.agg #[.int .i64 x0.index, .int .i64 x0.term, .int .i64 x0.sum, .int .i64 x0.level, .bool x0.final]] w0 fun e w' => e = .returned (.bool r) ∧ St0 All w0 w' [] := by
 unfold Jl at H
 refine Yl Try.func80 rfl Try.ntmps80 rfl ?_
 have hS := St0.start All w0
 refine Zd (fun K hK1 => ?_)
 refine Zf ?_
 refine Z9 rfl rfl rfl CellsOf.agg hS (fun b2 w hS hB => ?_)
 refine Zb 1 rfl ?_
 refine Zg ?_
 refine Zc hK1 ?_
 refine Zd (fun K hK4 => ?_)
 refine Yj ?_
 refine Zd (fun K hK5 => ?_)
 refine Zf ?_
 refine Za rfl rfl rfl (Ze Z5 rfl) ?_
 refine Za rfl rfl rfl (Zh Zx rfl (RW.here _) hS hs0 trivial Y2) ?_
 refine Za rfl rfl rfl (Yy rfl rfl) ?_
 refine Zb 1 rfl ?_
 refine Zg ?_
 refine Zc hK5 ?_
 refine Z0 rfl (fun hb => ?_) (fun hb => ?_)
 ·replace H := Zq H hb
  refine Zd (fun K hK6 => ?_)
  refine Yo 4 [] (fun _ _ => True) ⟨by kernel_rfl, by kernel_rfl⟩ hS (fun w hS hB => ?_)
  refine Zm [true] (by decide +kernel) (by repeat (first | exact PF.body | exact PF.round | apply PF.then | apply PF.inBlock | apply PF.jump)) ?_
  refine LtK.put rfl rfl rfl (Zj Yn rfl (RW.below _) hS hs0 trivial Vw) ?_
  refine LtK.nil ?_
  refine Z7 [false, true] 1 ⟨by decide, by kernel_rfl, by kernel_rfl⟩ rfl rfl ?_
  try dsimp only [Z2]
  obtain ⟨r7, hm8, H⟩ := bind_some H
  refine Zr rfl rfl rfl rfl (by kernel_rfl) rfl (c_entry_First _ hm8) ?_
  rintro e w ⟨rfl, hN⟩; refine ⟨_, rfl, ?_⟩; have hB := hN.pure; have hS := hS.join hN; clear hN
  refine Zg ?_
  refine Yf hB ?_
  refine Zm [false, false, true, true] (by decide +kernel) (by repeat (first | exact PF.body | exact PF.round | apply PF.then | apply PF.inBlock | apply PF.jump)) ?_
  refine LtK.put rfl rfl rfl (Jb (by kernel_rfl) rfl rfl (Jg _ _ _ _ _ _ _ _ _ _)) ?_
  refine LtK.put rfl rfl rfl (Z4 rfl) ?_
  refine LtK.nil ?_
  refine Z8 (by kernel_rfl) ?_
  refine Zc hK6 ?_
  refine Zk ?_
  refine Zv ?_
  refine Zi ?_
  refine Zl rfl (RV.tmp rfl RV.nil) rfl ?_
  obtain rfl := Option.some.inj H
  replace hS := hS.cut 0
  exact ⟨rfl, hS⟩
 replace H := Zp H hb
 refine Zd (fun K hK9 => ?_)
 refine Zf ?_
 refine Za rfl rfl rfl (Ze fo_23_4 rfl) ?_
 refine Za rfl rfl rfl (Zh sc_4 rfl (RW.here _) hS hs0 trivial Zeg) ?_
 refine Zb 1 rfl ?_
 refine Zg ?_
 refine Zc hK9 ?_
 refine Z0 rfl (fun hb => ?_) (fun hb => ?_)
 ·replace H := Zq H hb
  refine Zd (fun K hK10 => ?_)
  refine Zf ?_
  refine Za rfl rfl rfl (Ze Zd6 rfl) ?_
  refine Za rfl rfl rfl (Zh Zx rfl (RW.here _) hS hs0 trivial Zag) ?_
  refine Za rfl rfl rfl (Yy rfl rfl) ?_
  refine Zb 1 rfl ?_
  refine Zt 16 rfl (fun hb => ?_) (fun hb => ?_)
  rotate_left
  ·replace H := Zp H hb
   refine Zb 20 rfl ?_
   refine Zg ?_
   refine Zc hK10 ?_
   refine Zk ?_
   refine Zv ?_
   refine Zi ?_
   refine Zl rfl (RV.tmp rfl RV.nil) rfl ?_
   obtain rfl := Option.some.inj H
   replace hS := hS.cut 0
   exact ⟨rfl, hS⟩
  replace H := Zq H hb
  refine Za rfl rfl rfl (Ze Z5 rfl) ?_
  refine Za rfl rfl rfl (Zh Zx rfl (RW.here _) hS hs0 trivial Y2) ?_
  obtain ⟨r11, hm12, H⟩ := bind_some H
  refine Zr rfl rfl rfl rfl (by kernel_rfl) rfl (V6 x0.index _ hm12) ?_
  rintro e w ⟨rfl, hN⟩; refine ⟨_, rfl, ?_⟩; have hB := hN.pure; have hS := hS.join hN; clear hN
  refine Zb 2 rfl ?_
  refine Zt 21 rfl (fun hb => ?_) (fun hb => ?_)
  rotate_left
  ·replace H := Zp H hb
   refine Zb 15 rfl ?_
   refine Zg ?_
   refine Zc hK10 ?_
   refine Zk ?_
   refine Zv ?_
   refine Zi ?_
   refine Zl rfl (RV.tmp rfl RV.nil) rfl ?_
   obtain rfl := Option.some.inj H
   replace hS := hS.cut 0
   exact ⟨rfl, hS⟩
  replace H := Zq H hb
  refine Za rfl rfl rfl (Ze V7 rfl) ?_
  refine Za rfl rfl rfl (Zh Zx rfl (RW.here _) hS hs0 trivial Vn) ?_
  refine Za rfl rfl rfl (Xa rfl rfl) ?_
  refine Zb 2 rfl ?_
  refine Zt 26 rfl (fun hb => ?_) (fun hb => ?_)
  rotate_left
  ·replace H := Zp H hb
   refine Zb 10 rfl ?_
   refine Zg ?_
   refine Zc hK10 ?_
   refine Zk ?_
   refine Zv ?_
   refine Zi ?_
   refine Zl rfl (RV.tmp rfl RV.nil) rfl ?_
   obtain rfl := Option.some.inj H
   replace hS := hS.cut 0
   exact ⟨rfl, hS⟩
  replace H := Zq H hb
  refine Za rfl rfl rfl (Ze V7 rfl) ?_
  refine Za rfl rfl rfl (Zh Zx rfl (RW.here _) hS hs0 trivial Vn) ?_
  obtain ⟨r13, hm14, H⟩ := bind_some H
  refine Zr rfl rfl rfl rfl (by kernel_rfl) rfl (V6 x0.term _ hm14) ?_
  rintro e w ⟨rfl, hN⟩; refine ⟨_, rfl, ?_⟩; have hB := hN.pure; have hS := hS.join hN; clear hN
  refine Zb 2 rfl ?_
  refine Zt 31 rfl (fun hb => ?_) (fun hb => ?_)
  rotate_left
  ·replace H := Zp H hb
   refine Zb 5 rfl ?_
   refine Zg ?_
   refine Zc hK10 ?_
   refine Zk ?_
   refine Zv ?_
   refine Zi ?_
   refine Zl rfl (RV.tmp rfl RV.nil) rfl ?_
   obtain rfl := Option.some.inj H
   replace hS := hS.cut 0
   exact ⟨rfl, hS⟩
  replace H := Zq H hb
  refine Za rfl rfl rfl (Ze fo_23_2 rfl) ?_
  refine Za rfl rfl rfl (Zh Zx rfl (RW.here _) hS hs0 trivial J9) ?_
  obtain ⟨r15, hm16, H⟩ := bind_some H
  refine Zr rfl rfl rfl rfl (by kernel_rfl) rfl (V6 x0.sum _ hm16) ?_
  rintro e w ⟨rfl, hN⟩; refine ⟨_, rfl, ?_⟩; have hB := hN.pure; have hS := hS.join hN; clear hN
  refine Zb 2 rfl ?_
  refine Zg ?_
  refine Zc hK10 ?_
  refine Zk ?_
  refine Zv ?_
  refine Zi ?_
  refine Zl rfl (RV.tmp rfl RV.nil) rfl ?_
  obtain rfl := Option.some.inj H
  replace hS := hS.cut 0
  exact ⟨rfl, hS⟩
 replace H := Zp H hb
 refine Zu ?_
 refine Z1 ?_
 refine Zc hK4 ?_
 refine Zd (fun K hK17 => ?_)
 refine Zf ?_
 refine Za rfl rfl rfl (Ze Zd6 rfl) ?_
 refine Za rfl rfl rfl (Zh Zx rfl (RW.here _) hS hs0 trivial Zag) ?_
 refine Za rfl rfl rfl (Yy rfl rfl) ?_
 refine Zb 1 rfl ?_
 refine Zt 39 rfl (fun hb => ?_) (fun hb => ?_)
 ·replace H := Zq H hb
  refine Zb 5 rfl ?_
  refine Za rfl rfl rfl (Ze Z5 rfl) ?_
  refine Za rfl rfl rfl (Zh Zx rfl (RW.here _) hS hs0 trivial Y2) ?_
  obtain ⟨r18, hm19, H⟩ := bind_some H
  refine Zr rfl rfl rfl rfl (by kernel_rfl) rfl (V6 x0.index _ hm19) ?_
  rintro e w ⟨rfl, hN⟩; refine ⟨_, rfl, ?_⟩; have hB := hN.pure; have hS := hS.join hN; clear hN
  refine Zb 2 rfl ?_
  refine Zt 49 rfl (fun hb => ?_) (fun hb => ?_)
  rotate_left
  ·replace H := Zp H hb
   refine Zb 15 rfl ?_
   refine Zg ?_
   refine Zc hK17 ?_
   refine Zk ?_
   refine Zl rfl (RV.tmp rfl RV.nil) rfl ?_
   obtain rfl := Option.some.inj H
   replace hS := hS.cut 0
   exact ⟨rfl, hS⟩
  replace H := Zq H hb
  refine Za rfl rfl rfl (Ze V7 rfl) ?_
  refine Za rfl rfl rfl (Zh Zx rfl (RW.here _) hS hs0 trivial Vn) ?_
  refine Za rfl rfl rfl (Xa rfl rfl) ?_
  refine Zb 2 rfl ?_
  refine Zt 54 rfl (fun hb => ?_) (fun hb => ?_)
  rotate_left
  ·replace H := Zp H hb
   refine Zb 10 rfl ?_
   refine Zg ?_
   refine Zc hK17 ?_
   refine Zk ?_
   refine Zl rfl (RV.tmp rfl RV.nil) rfl ?_
   obtain rfl := Option.some.inj H
   replace hS := hS.cut 0
   exact ⟨rfl, hS⟩
  replace H := Zq H hb
  refine Za rfl rfl rfl (Ze V7 rfl) ?_
  refine Za rfl rfl rfl (Zh Zx rfl (RW.here _) hS hs0 trivial Vn) ?_
  obtain ⟨r20, hm21, H⟩ := bind_some H
  refine Zr rfl rfl rfl rfl (by kernel_rfl) rfl (V6 x0.term _ hm21) ?_
  rintro e w ⟨rfl, hN⟩; refine ⟨_, rfl, ?_⟩; have hB := hN.pure; have hS := hS.join hN; clear hN
  refine Zb 2 rfl ?_
  refine Zt 59 rfl (fun hb => ?_) (fun hb => ?_)
  rotate_left
  ·replace H := Zp H hb
   refine Zb 5 rfl ?_
   refine Zg ?_
   refine Zc hK17 ?_
   refine Zk ?_
   refine Zl rfl (RV.tmp rfl RV.nil) rfl ?_
   obtain rfl := Option.some.inj H
   replace hS := hS.cut 0
   exact ⟨rfl, hS⟩
  replace H := Zq H hb
  refine Za rfl rfl rfl (Ze fo_23_2 rfl) ?_
  refine Za rfl rfl rfl (Zh Zx rfl (RW.here _) hS hs0 trivial J9) ?_
  obtain ⟨r22, hm23, H⟩ := bind_some H
  refine Zr rfl rfl rfl rfl (by kernel_rfl) rfl (V6 x0.sum _ hm23) ?_
  rintro e w ⟨rfl, hN⟩; refine ⟨_, rfl, ?_⟩; have hB := hN.pure; have hS := hS.join hN; clear hN
  refine Zb 2 rfl ?_
  refine Zg ?_
  refine Zc hK17 ?_
  refine Zk ?_
  refine Zl rfl (RV.tmp rfl RV.nil) rfl ?_
  obtain rfl := Option.some.inj H
  replace hS := hS.cut 0
  exact ⟨rfl, hS⟩
 replace H := Zp H hb
 refine Za rfl rfl rfl (Ze Zd6 rfl) ?_
 refine Za rfl rfl rfl (Zh Zx rfl (RW.here _) hS hs0 trivial Zag) ?_
 refine Za rfl rfl rfl (Yy rfl rfl) ?_
 refine Zb 2 rfl ?_
 refine Zt 44 rfl (fun hb => ?_) (fun hb => ?_)
 rotate_left
 ·replace H := Zp H hb
  refine Zb 20 rfl ?_
  refine Zg ?_
  refine Zc hK17 ?_
  refine Zk ?_
  refine Zl rfl (RV.tmp rfl RV.nil) rfl ?_
  obtain rfl := Option.some.inj H
  replace hS := hS.cut 0
  exact ⟨rfl, hS⟩
 replace H := Zq H hb
 refine Za rfl rfl rfl (Ze Z5 rfl) ?_
 refine Za rfl rfl rfl (Zh Zx rfl (RW.here _) hS hs0 trivial Y2) ?_
 obtain ⟨r24, hm25, H⟩ := bind_some H
 refine Zr rfl rfl rfl rfl (by kernel_rfl) rfl (V6 x0.index _ hm25) ?_
 rintro e w ⟨rfl, hN⟩; refine ⟨_, rfl, ?_⟩; have hB := hN.pure; have hS := hS.join hN; clear hN
 refine Zb 2 rfl ?_
 refine Zt 49 rfl (fun hb => ?_) (fun hb => ?_)
 rotate_left
 ·replace H := Zp H hb
  refine Zb 15 rfl ?_
  refine Zg ?_
  refine Zc hK17 ?_
  refine Zk ?_
  refine Zl rfl (RV.tmp rfl RV.nil) rfl ?_
  obtain rfl := Option.some.inj H
  replace hS := hS.cut 0
  exact ⟨rfl, hS⟩
 replace H := Zq H hb
 refine Za rfl rfl rfl (Ze V7 rfl) ?_
 refine Za rfl rfl rfl (Zh Zx rfl (RW.here _) hS hs0 trivial Vn) ?_
 refine Za rfl rfl rfl (Xa rfl rfl) ?_
 refine Zb 2 rfl ?_
 refine Zt 54 rfl (fun hb => ?_) (fun hb => ?_)
 rotate_left
 ·replace H := Zp H hb
  refine Zb 10 rfl ?_
  refine Zg ?_
  refine Zc hK17 ?_
  refine Zk ?_
  refine Zl rfl (RV.tmp rfl RV.nil) rfl ?_
  obtain rfl := Option.some.inj H
  replace hS := hS.cut 0
  exact ⟨rfl, hS⟩
 replace H := Zq H hb
 refine Za rfl rfl rfl (Ze V7 rfl) ?_
 refine Za rfl rfl rfl (Zh Zx rfl (RW.here _) hS hs0 trivial Vn) ?_
 obtain ⟨r26, hm27, H⟩ := bind_some H
 refine Zr rfl rfl rfl rfl (by kernel_rfl) rfl (V6 x0.term _ hm27) ?_
 rintro e w ⟨rfl, hN⟩; refine ⟨_, rfl, ?_⟩; have hB := hN.pure; have hS := hS.join hN; clear hN
 refine Zb 2 rfl ?_
 refine Zt 59 rfl (fun hb => ?_) (fun hb => ?_)
 rotate_left
 ·replace H := Zp H hb
  refine Zb 5 rfl ?_
  refine Zg ?_
  refine Zc hK17 ?_
  refine Zk ?_
  refine Zl rfl (RV.tmp rfl RV.nil) rfl ?_
  obtain rfl := Option.some.inj H
  replace hS := hS.cut 0
  exact ⟨rfl, hS⟩
 replace H := Zq H hb
 refine Za rfl rfl rfl (Ze fo_23_2 rfl) ?_
 refine Za rfl rfl rfl (Zh Zx rfl (RW.here _) hS hs0 trivial J9) ?_
 obtain ⟨r28, hm29, H⟩ := bind_some H
 refine Zr rfl rfl rfl rfl (by kernel_rfl) rfl (V6 x0.sum _ hm29) ?_
 rintro e w ⟨rfl, hN⟩; refine ⟨_, rfl, ?_⟩; have hB := hN.pure; have hS := hS.join hN; clear hN
 refine Zb 2 rfl ?_
 refine Zg ?_
 refine Zc hK17 ?_
 refine Zk ?_
 refine Zl rfl (RV.tmp rfl RV.nil) rfl ?_
 obtain rfl := Option.some.inj H
 replace hS := hS.cut 0
 exact ⟨rfl, hS⟩
theorem Zes (x0 : List Int) (x1 : Int) (x2 : Int) (x3 : Int) (A0_ : Option Addr) (c0_ : Nat) (w0 : World) (s0_ : SlI w0 Vu A0_ c0_ x0) {r : Bool} (H : Za5 x0 x1 x2 x3 = some r) : Calls Try.prog 72 #[.slice A0_ x0.length c0_, .int .i64 x1, .int .i64 x2, .int .i64 x3] w0 fun e w' => e = .returned (.bool r) ∧ St0 All w0 w' [] := by
 unfold Za5 at H
 refine Zd2 Try.func72 rfl Try.ntmps72 rfl ?_
 have hS := St0.start All w0
 refine Zd (fun K hK1 => ?_)
 refine Zf ?_
 refine Z9 rfl rfl rfl CellsOf.int hS (fun b2 w hS hB => ?_)
 refine Z9 rfl rfl rfl CellsOf.int hS (fun b4 w hS hB => ?_)
 refine Zb 1 rfl ?_
 refine Zg ?_
 refine Zc hK1 ?_
 refine Zd (fun K hK6 => ?_)
 refine Zf ?_
 refine Zb 1 rfl ?_
 refine Za rfl rfl rfl (Y1 Vd rfl) ?_
 refine Zb 1 rfl ?_
 refine Za rfl rfl rfl (Yy rfl rfl) ?_
 refine Zb 1 rfl ?_
 refine Zt 13 rfl (fun hb => ?_) (fun hb => ?_)
 rotate_left
 ·replace H := Zp H hb
  refine Zb 6 rfl ?_
  refine Zg ?_
  refine Zc hK6 ?_
  refine Zk ?_
  refine Zl rfl (RV.tmp rfl RV.nil) rfl ?_
  obtain rfl := Option.some.inj H
  replace hS := hS.cut 0
  exact ⟨rfl, hS⟩
 replace H := Zq H hb
 refine Zb 1 rfl ?_
 refine Za rfl rfl rfl (X9 rfl rfl) ?_
 refine Zbi rfl rfl rfl rfl (by kernel_rfl) rfl ?_
 show Calls _ _ #[_, _] _ _
 refine Yw Try.func91 rfl Try.ntmps91 rfl ?_
 refine Zd (fun K hK7 => ?_)
 refine Zf ?_
 refine Zb 1 rfl ?_
 refine Zg ?_
 refine Zc hK7 ?_
 refine Zd (fun K hK8 => ?_)
 refine Zf ?_
 refine Zb 2 rfl ?_
 refine Zbi rfl rfl rfl rfl (by kernel_rfl) rfl ?_
 show Calls _ _ #[_, _] _ _
 refine Yw Try.func101 rfl Try.ntmps101 rfl ?_
 refine Zd (fun K hK9 => ?_)
 refine Zf ?_
 refine Zb 1 rfl ?_
 refine Zg ?_
 refine Zc hK9 ?_
 refine Zd (fun K hK10 => ?_)
 refine Zd (fun K hK11 => ?_)
 refine Zf ?_
 refine Zb 1 rfl ?_
 refine Za rfl rfl rfl (Y1 Vd rfl) ?_
 refine Zb 1 rfl ?_
 refine Zg ?_
 refine Zc hK11 ?_
 refine Yj ?_
 refine Jq (X := Nat × Int × Int) (fun x => (0, .slice A0_ x0.length c0_) :: (1, .func (.func 92) #[] #[.pointer (some ⟨b2, 0, none⟩), .pointer (some ⟨b4, 0, none⟩)]) :: (4, .int .i64 x.2.1) :: (7, .int .i64 (x0.length : Int)) :: (8, .int .i64 x.2.2) :: []) (fun x w => St0 All w0 w (.box b4 [.int .i64 x3] 3 :: .box b2 [.int .i64 x2] 3 :: []) ∧ Zar x0 x2 x3 x.1 x.2.1 x.2.2 = some r) (fun x => x.1) (X6, 0, 0) (by repeat (first | exact Sub.nil | refine Sub.cons rfl ?_)) ⟨hS, H⟩ ?_
 rintro ⟨n, v12, v13⟩ w ⟨hS, H⟩
 dsimp only at hS H ⊢
 obtain _ | n := n
 ·have H0 : none = some r := H
  cases H0
 rw [Zar] at H
 refine Zd (fun K hK14 => ?_)
 refine Zf ?_
 refine Za rfl rfl rfl (Xv rfl rfl) ?_
 refine Zg ?_
 refine Zc hK14 ?_
 refine Zd (fun K hK15 => ?_)
 refine Z0 rfl (fun hb => ?_) (fun hb => ?_)
 rotate_left
 ·replace H := Zp H hb
  refine Vo ?_
  refine Ye ?_
  refine Ye ?_
  refine Xf ?_
  refine Zc hK10 ?_
  refine Zd (fun K hK27 => ?_)
  refine Zf ?_
  refine Zb 1 rfl ?_
  refine Zg ?_
  refine Zc hK27 ?_
  refine Zk ?_
  refine Zl rfl (RV.tmp rfl RV.nil) rfl ?_
  refine ⟨_, rfl, ?_⟩
  refine Za rfl rfl rfl (Zbk rfl rfl) ?_
  refine Zb 1 rfl ?_
  refine Zg ?_
  refine Zc hK8 ?_
  refine Zk ?_
  refine Zl rfl (RV.tmp rfl RV.nil) rfl ?_
  refine ⟨_, rfl, ?_⟩
  refine Za rfl rfl rfl (Yt rfl) ?_
  refine Zb 2 rfl ?_
  refine Zg ?_
  refine Zc hK6 ?_
  refine Zk ?_
  refine Zl rfl (RV.tmp rfl RV.nil) rfl ?_
  obtain rfl := Option.some.inj H
  replace hS := hS.cut 0
  exact ⟨rfl, hS⟩
 replace H := Zq H hb
 refine Zu ?_
 refine Zc hK15 ?_
 refine Zd (fun K hK16 => ?_)
 refine Yj ?_
 refine Zd (fun K hK17 => ?_)
 refine Zf ?_
 refine Zb 2 rfl ?_
 refine Zg ?_
 refine Zc hK17 ?_
 refine Zd (fun K hK18 => ?_)
 refine Zf ?_
 refine Zb 3 rfl ?_
 obtain ⟨e19, hi21, H⟩ := bind_some H
 obtain ⟨j20, hi21a, hi21b, hi21c⟩ := Y9 hi21
 refine Za rfl rfl rfl (Xo Vd rfl rfl hi21a hi21c (Rd.el (hS.rd0 s0_.rd) Xd hi21b)) ?_
 refine Za rfl rfl rfl (V4 Zx rfl (RW.here _) (Rd.el (hS.rd0 s0_.rd) Xd hi21b) rfl) ?_
 refine Zbi rfl rfl rfl rfl (by kernel_rfl) rfl ?_
 show Calls _ _ #[_, _, _] _ _
 refine Zb1 Try.func92 rfl Try.ntmps92 rfl ?_
 refine Zd (fun K hK22 => ?_)
 refine Zf ?_
 refine Zb 1 rfl ?_
 refine Zg ?_
 refine Zc hK22 ?_
 refine Zd (fun K hK23 => ?_)
 refine Zf ?_
 refine Zb 1 rfl ?_
 refine Za rfl rfl rfl (Zh Zx rfl (RW.here _) hS Xt trivial Y2) ?_
 refine Za rfl rfl rfl (Zh Zx rfl (RW.here _) hS hs0 trivial Y2) ?_
 obtain ⟨r24, hm25, H⟩ := bind_some H
 refine Zr rfl rfl rfl rfl (by kernel_rfl) rfl (J4 e19 x2 x3 _ hm25) ?_
 rintro e w ⟨rfl, hN⟩; refine ⟨_, rfl, ?_⟩; have hB := hN.pure; have hS := hS.join hN; clear hN
 refine Za rfl rfl rfl (Yt rfl) ?_
 refine Zb 1 rfl ?_
 refine Zg ?_
 refine Zc hK23 ?_
 refine Zk ?_
 refine Zl rfl (RV.tmp rfl RV.nil) rfl ?_
 refine ⟨_, rfl, ?_⟩
 refine Zg ?_
 refine Zc hK18 ?_
 refine Z0 rfl (fun hb => ?_) (fun hb => ?_)
 rotate_left
 ·replace H := Zp H hb
  refine Zu ?_
  refine Z1 ?_
  refine Zc hK16 ?_
  refine Zf ?_
  refine Za rfl rfl rfl (X1 rfl rfl) ?_
  refine Zb 1 rfl ?_
  refine Zg ?_
  exact Vp (n, v12, (IntKind.wrap .i64 (v13 + 1))) (by repeat (first | exact Sub.nil | refine Sub.cons rfl ?_)) ⟨hS, H⟩ (Nat.lt_succ_self _)
 replace H := Zq H hb
 refine Zd (fun K hK26 => ?_)
 refine Zf ?_
 refine Zb 2 rfl ?_
 refine Zg ?_
 refine Zc hK26 ?_
 refine Zk ?_
 refine Zv ?_
 refine Zi ?_
 refine Zi ?_
 refine Zv ?_
 refine Zi ?_
 refine Zl rfl (RV.tmp rfl RV.nil) rfl ?_
 refine ⟨_, rfl, ?_⟩
 refine Za rfl rfl rfl (Zbk rfl rfl) ?_
 refine Zb 1 rfl ?_
 refine Zg ?_
 refine Zc hK8 ?_
 refine Zk ?_
 refine Zl rfl (RV.tmp rfl RV.nil) rfl ?_
 refine ⟨_, rfl, ?_⟩
 refine Za rfl rfl rfl (Yt rfl) ?_
 refine Zb 2 rfl ?_
 refine Zg ?_
 refine Zc hK6 ?_
 refine Zk ?_
 refine Zl rfl (RV.tmp rfl RV.nil) rfl ?_
 obtain rfl := Option.some.inj H
 replace hS := hS.cut 0
 exact ⟨rfl, hS⟩
theorem Zc3 (x0 : Co) (A0_ : Option Addr) (c0_ : Nat) (A1_ : Option Addr) (c1_ : Nat) (A2_ : Option Addr) (c2_ : Nat) (A3_ : Option Addr) (c3_ : Nat) (A4_ : Option Addr) (c4_ : Nat) (w0 : World) (s0_ : SlI w0 Jv A0_ c0_ x0.tuple.log) (s1_ : SlI w0 enO A1_ c1_ x0.votes) (s2_ : SlI w0 Vu A2_ c2_ x0.next) (s3_ : SlI w0 Vu A3_ c3_ x0.mtch) (s4_ : SlI w0 Vu A4_ c4_ x0.caps) {r : Bool} (H : Zab x0 = some r) : Calls Try.prog 42 #[.agg #[.int .i64 x0.id, .int .i64 x0.n, .int .u8 x0.role, .int .i64 x0.binary, .int .i64 x0.tuple.snap.index, .int .i64 x0.tuple.snap.term, .int .i64 x0.tuple.snap.sum, .int .i64 x0.tuple.snap.level, .bool x0.tuple.snap.final, .slice A0_ x0.tuple.log.length c0_, .int .i64 x0.tuple.term, .int .i64 x0.tuple.vote, .int .i64 x0.commit, .int .i64 x0.applied.index, .int .i64 x0.applied.term, .int .i64 x0.applied.sum, .int .i64 x0.applied.level, .bool x0.applied.final, .slice A1_ x0.votes.length c1_, .slice A2_ x0.next.length c2_, .slice A3_ x0.mtch.length c3_, .slice A4_ x0.caps.length c4_]] w0 fun e w' => e = .returned (.bool r) ∧ St0 All w0 w' [] := by
 unfold Zab at H
 refine Yl Try.func42 rfl Try.ntmps42 rfl ?_
 have hS := St0.start All w0
 refine Zd (fun K hK1 => ?_)
 refine Zf ?_
 refine Z9 rfl rfl rfl CellsOf.agg hS (fun b2 w hS hB => ?_)
 refine Zb 1 rfl ?_
 refine Zg ?_
 refine Zc hK1 ?_
 refine Zd (fun K hK4 => ?_)
 refine Zf ?_
 refine Za rfl rfl rfl (Ze Yu rfl) ?_
 refine Za rfl rfl rfl (Zj Xg rfl (RW.here _) hS hs0 trivial Zbl) ?_
 obtain ⟨r5, hm6, H⟩ := bind_some H
 refine Zr rfl rfl rfl rfl (by kernel_rfl) rfl (Zdh x0.tuple A0_ c0_ _ (SlI.of_rd s0_.k (hS.rd0 s0_.rd) (hS.blk0 s0_.blk)) hm6) ?_
 rintro e w ⟨rfl, hN⟩; refine ⟨_, rfl, ?_⟩; have hB := hN.pure; have hS := hS.join hN; clear hN
 refine Z6 rfl rfl zc_3 hS (fun b7 w hS hB => ?_)
 refine Zo rfl rfl rfl CellsOf.int hS ps0 st0_1 (by kernel_rfl) rfl (fun w hS hB => ?_)
 refine Zg ?_
 refine Zc hK4 ?_
 refine Zd (fun K hK9 => ?_)
 refine Zd (fun K hK10 => ?_)
 refine Zf ?_
 refine Za rfl rfl rfl (X9 rfl rfl) ?_
 refine Za rfl rfl rfl (X9 rfl rfl) ?_
 refine Za rfl rfl rfl (X9 rfl rfl) ?_
 refine Za rfl rfl rfl (X9 rfl rfl) ?_
 refine Za rfl rfl rfl (X9 rfl rfl) ?_
 refine Za rfl rfl rfl (X9 rfl rfl) ?_
 refine Za rfl rfl rfl (Xx (cells := [.func (.func 65) #[] #[.pointer (some ⟨b2, 0, none⟩)], .func (.func 67) #[] #[.pointer (some ⟨b2, 0, none⟩)], .func (.func 69) #[] #[.pointer (some ⟨b2, 0, none⟩)], .func (.func 71) #[] #[.pointer (some ⟨b2, 0, none⟩), .pointer (some ⟨b7, 0, none⟩)], .func (.func 73) #[] #[.pointer (some ⟨b2, 0, none⟩)], .func (.func 74) #[] #[.pointer (some ⟨b2, 0, none⟩)]]) rfl (by kernel_rfl)) ?_
 refine Zb 1 rfl ?_
 refine Zg ?_
 refine Zc hK10 ?_
 refine Yj ?_
 refine wpC_rounds 60 ?_
 refine Zd (fun K hK11 => ?_)
 refine Zf ?_
 refine Za rfl rfl rfl (Xv rfl rfl) ?_
 refine Zg ?_
 refine Zc hK11 ?_
 refine Zd (fun K hK12 => ?_)
 refine Zs rfl rfl ?_
 refine Zu ?_
 refine Zc hK12 ?_
 refine Zd (fun K hK13 => ?_)
 refine Yj ?_
 refine Zd (fun K hK14 => ?_)
 refine Zf ?_
 refine Za rfl rfl rfl (Zfx (n := 6) (e := 35) (j := 0) (by kernel_rfl) (by kernel_rfl) (by kernel_rfl) rfl rfl rfl (by decide) rfl) ?_
 refine Zb 1 rfl ?_
 refine Zg ?_
 refine Zc hK14 ?_
 refine Zd (fun K hK15 => ?_)
 refine Zf ?_
 refine Zb 1 rfl ?_
 refine Zbi rfl rfl rfl rfl (by kernel_rfl) rfl ?_
 show Calls _ _ #[_] _ _
 refine Yl Try.func65 rfl Try.ntmps65 rfl ?_
 refine Zd (fun K hK16 => ?_)
 refine Zf ?_
 refine Zb 1 rfl ?_
 refine Zg ?_
 refine Zc hK16 ?_
 refine Zd (fun K hK17 => ?_)
 refine Zf ?_
 refine Za rfl rfl rfl (Ze Vy rfl) ?_
 refine Za rfl rfl rfl (Zh Zx rfl (RW.here _) hS Xt trivial Vn) ?_
 obtain ⟨r18, hm19, H⟩ := bind_some H
 refine Zr rfl rfl rfl rfl (by kernel_rfl) rfl (J4 x0.n 1 5 _ hm19) ?_
 rintro e w ⟨rfl, hN⟩; refine ⟨_, rfl, ?_⟩; have hB := hN.pure; have hS := hS.join hN; clear hN
 refine Zb 1 rfl ?_
 refine Zt 5 rfl (fun hb => ?_) (fun hb => ?_)
 rotate_left
 ·replace H := Zp H hb
  refine Zb 7 rfl ?_
  refine Zg ?_
  refine Zc hK17 ?_
  refine Zk ?_
  refine Zl rfl (RV.tmp rfl RV.nil) rfl ?_
  refine ⟨_, rfl, ?_⟩
  refine Za rfl rfl rfl (Yt rfl) ?_
  refine Zg ?_
  refine Zc hK15 ?_
  refine Zs rfl rfl ?_
  refine Zd (fun K hK94 => ?_)
  refine Zf ?_
  refine Zb 1 rfl ?_
  refine Zg ?_
  refine Zc hK94 ?_
  refine Zk ?_
  refine Zv ?_
  refine Zi ?_
  refine Zi ?_
  refine Zv ?_
  refine Zi ?_
  refine Zl rfl (RV.tmp rfl RV.nil) rfl ?_
  obtain rfl := Option.some.inj H
  replace hS := hS.cut 0
  exact ⟨rfl, hS⟩
 replace H := Zq H hb
 refine Za rfl rfl rfl (Ze Ji rfl) ?_
 refine Za rfl rfl rfl (Zh Zx rfl (RW.here _) hS Xt trivial Y2) ?_
 refine Za rfl rfl rfl (Ze Vy rfl) ?_
 refine Za rfl rfl rfl (Zh Zx rfl (RW.here _) hS Xt trivial Vn) ?_
 obtain ⟨r20, hm21, H⟩ := bind_some H
 refine Zr rfl rfl rfl rfl (by kernel_rfl) rfl (J4 x0.id 1 x0.n _ hm21) ?_
 rintro e w ⟨rfl, hN⟩; refine ⟨_, rfl, ?_⟩; have hB := hN.pure; have hS := hS.join hN; clear hN
 refine Zb 2 rfl ?_
 refine Zg ?_
 refine Zc hK17 ?_
 refine Zk ?_
 refine Zl rfl (RV.tmp rfl RV.nil) rfl ?_
 refine ⟨_, rfl, ?_⟩
 refine Za rfl rfl rfl (Yt rfl) ?_
 refine Zg ?_
 refine Zc hK15 ?_
 refine Z0 rfl (fun hb => ?_) (fun hb => ?_)
 ·replace H := Zq H hb
  refine Zd (fun K hK22 => ?_)
  refine Zf ?_
  refine Zb 1 rfl ?_
  refine Zg ?_
  refine Zc hK22 ?_
  refine Zk ?_
  refine Zv ?_
  refine Zi ?_
  refine Zi ?_
  refine Zv ?_
  refine Zi ?_
  refine Zl rfl (RV.tmp rfl RV.nil) rfl ?_
  obtain rfl := Option.some.inj H
  replace hS := hS.cut 0
  exact ⟨rfl, hS⟩
 replace H := Zp H hb
 refine Zu ?_
 refine Z1 ?_
 refine Zc hK13 ?_
 refine Zf ?_
 refine Za rfl rfl rfl (X1 rfl rfl) ?_
 refine Zb 1 rfl ?_
 refine Zg ?_
 refine QH_more ?_
 refine Zd (fun K hK23 => ?_)
 refine Zf ?_
 refine Za rfl rfl rfl (Xv rfl rfl) ?_
 refine Zg ?_
 refine Zc hK23 ?_
 refine Zd (fun K hK24 => ?_)
 refine Zs rfl rfl ?_
 refine Zu ?_
 refine Zc hK24 ?_
 refine Zd (fun K hK25 => ?_)
 refine Yj ?_
 refine Zd (fun K hK26 => ?_)
 refine Zf ?_
 refine Za rfl rfl rfl (Zfx (n := 6) (e := 35) (j := 1) (by kernel_rfl) (by kernel_rfl) (by kernel_rfl) rfl rfl rfl (by decide) rfl) ?_
 refine Zb 1 rfl ?_
 refine Zg ?_
 refine Zc hK26 ?_
 refine Zd (fun K hK27 => ?_)
 refine Zf ?_
 refine Zb 1 rfl ?_
 refine Zbi rfl rfl rfl rfl (by kernel_rfl) rfl ?_
 show Calls _ _ #[_] _ _
 refine Yl Try.func67 rfl Try.ntmps67 rfl ?_
 refine Zd (fun K hK28 => ?_)
 refine Zf ?_
 refine Zb 1 rfl ?_
 refine Zg ?_
 refine Zc hK28 ?_
 refine Zd (fun K hK29 => ?_)
 refine Zf ?_
 refine Za rfl rfl rfl (Ze J6 rfl) ?_
 refine Za rfl rfl rfl (Zh Zai rfl (RW.here _) hS Xt trivial J9) ?_
 refine Za rfl rfl rfl (Za1 rfl rfl) ?_
 refine Zb 1 rfl ?_
 refine Zt 5 rfl (fun hb => ?_) (fun hb => ?_)
 rotate_left
 ·replace H := Zp H hb
  refine Zb 10 rfl ?_
  refine Zg ?_
  refine Zc hK29 ?_
  refine Zk ?_
  refine Zl rfl (RV.tmp rfl RV.nil) rfl ?_
  refine ⟨_, rfl, ?_⟩
  refine Za rfl rfl rfl (Yt rfl) ?_
  refine Zg ?_
  refine Zc hK27 ?_
  refine Zs rfl rfl ?_
  refine Zd (fun K hK93 => ?_)
  refine Zf ?_
  refine Zb 1 rfl ?_
  refine Zg ?_
  refine Zc hK93 ?_
  refine Zk ?_
  refine Zv ?_
  refine Zi ?_
  refine Zi ?_
  refine Zv ?_
  refine Zi ?_
  refine Zl rfl (RV.tmp rfl RV.nil) rfl ?_
  obtain rfl := Option.some.inj H
  replace hS := hS.cut 0
  exact ⟨rfl, hS⟩
 replace H := Zq H hb
 refine Za rfl rfl rfl (Ze Zdj rfl) ?_
 refine Za rfl rfl rfl (Zh Zx rfl (RW.here _) hS Xt trivial Zag) ?_
 obtain ⟨r30, hm31, H⟩ := bind_some H
 refine Zr rfl rfl rfl rfl (by kernel_rfl) rfl (J4 x0.binary 1 2 _ hm31) ?_
 rintro e w ⟨rfl, hN⟩; refine ⟨_, rfl, ?_⟩; have hB := hN.pure; have hS := hS.join hN; clear hN
 refine Zb 2 rfl ?_
 refine Zt 10 rfl (fun hb => ?_) (fun hb => ?_)
 rotate_left
 ·replace H := Zp H hb
  refine Zb 5 rfl ?_
  refine Zg ?_
  refine Zc hK29 ?_
  refine Zk ?_
  refine Zl rfl (RV.tmp rfl RV.nil) rfl ?_
  refine ⟨_, rfl, ?_⟩
  refine Za rfl rfl rfl (Yt rfl) ?_
  refine Zg ?_
  refine Zc hK27 ?_
  refine Zs rfl rfl ?_
  refine Zd (fun K hK92 => ?_)
  refine Zf ?_
  refine Zb 1 rfl ?_
  refine Zg ?_
  refine Zc hK92 ?_
  refine Zk ?_
  refine Zv ?_
  refine Zi ?_
  refine Zi ?_
  refine Zv ?_
  refine Zi ?_
  refine Zl rfl (RV.tmp rfl RV.nil) rfl ?_
  obtain rfl := Option.some.inj H
  replace hS := hS.cut 0
  exact ⟨rfl, hS⟩
 replace H := Zq H hb
 refine Za rfl rfl rfl (Ze Yu rfl) ?_
 refine Za rfl rfl rfl (Zj Xg rfl (RW.here _) hS Xt trivial Zbl) ?_
 obtain ⟨r32, hm33, H⟩ := bind_some H
 refine Zr rfl rfl rfl rfl (by kernel_rfl) rfl (c_tuple_Right x0.tuple A0_ c0_ _ (SlI.of_rd s0_.k (hS.rd0 s0_.rd) (hS.blk0 s0_.blk)) hm33) ?_
 rintro e w ⟨rfl, hN⟩; refine ⟨_, rfl, ?_⟩; have hB := hN.pure; have hS := hS.join hN; clear hN
 refine Zb 2 rfl ?_
 refine Zg ?_
 refine Zc hK29 ?_
 refine Zk ?_
 refine Zl rfl (RV.tmp rfl RV.nil) rfl ?_
 refine ⟨_, rfl, ?_⟩
 refine Za rfl rfl rfl (Yt rfl) ?_
 refine Zg ?_
 refine Zc hK27 ?_
 refine Z0 rfl (fun hb => ?_) (fun hb => ?_)
 ·replace H := Zq H hb
  refine Zd (fun K hK34 => ?_)
  refine Zf ?_
  refine Zb 1 rfl ?_
  refine Zg ?_
  refine Zc hK34 ?_
  refine Zk ?_
  refine Zv ?_
  refine Zi ?_
  refine Zi ?_
  refine Zv ?_
  refine Zi ?_
  refine Zl rfl (RV.tmp rfl RV.nil) rfl ?_
  obtain rfl := Option.some.inj H
  replace hS := hS.cut 0
  exact ⟨rfl, hS⟩
 replace H := Zp H hb
 refine Zu ?_
 refine Z1 ?_
 refine Zc hK25 ?_
 refine Zf ?_
 refine Za rfl rfl rfl (X1 rfl rfl) ?_
 refine Zb 1 rfl ?_
 refine Zg ?_
 refine QH_more ?_
 refine Zd (fun K hK35 => ?_)
 refine Zf ?_
 refine Za rfl rfl rfl (Xv rfl rfl) ?_
 refine Zg ?_
 refine Zc hK35 ?_
 refine Zd (fun K hK36 => ?_)
 refine Zs rfl rfl ?_
 refine Zu ?_
 refine Zc hK36 ?_
 refine Zd (fun K hK37 => ?_)
 refine Yj ?_
 refine Zd (fun K hK38 => ?_)
 refine Zf ?_
 refine Za rfl rfl rfl (Zfx (n := 6) (e := 35) (j := 2) (by kernel_rfl) (by kernel_rfl) (by kernel_rfl) rfl rfl rfl (by decide) rfl) ?_
 refine Zb 1 rfl ?_
 refine Zg ?_
 refine Zc hK38 ?_
 refine Zd (fun K hK39 => ?_)
 refine Zf ?_
 refine Zb 1 rfl ?_
 refine Zbi rfl rfl rfl rfl (by kernel_rfl) rfl ?_
 show Calls _ _ #[_] _ _
 refine Yl Try.func69 rfl Try.ntmps69 rfl ?_
 refine Zd (fun K hK40 => ?_)
 refine Zf ?_
 refine Zb 1 rfl ?_
 refine Zg ?_
 refine Zc hK40 ?_
 refine Zd (fun K hK41 => ?_)
 refine Zf ?_
 refine Za rfl rfl rfl (Ze Yu rfl) ?_
 refine Za rfl rfl rfl (Zj Xg rfl (RW.here _) hS Xt trivial Zbl) ?_
 refine Za rfl rfl rfl (Ze Zah rfl) ?_
 refine Za rfl rfl rfl (Zh Zx rfl (RW.here _) hS Xt trivial Zbs) ?_
 obtain ⟨r42, hm43, H⟩ := bind_some H
 refine Zr rfl rfl rfl rfl (by kernel_rfl) rfl (c_tuple_State x0.tuple x0.commit A0_ c0_ _ (SlI.of_rd s0_.k (hS.rd0 s0_.rd) (hS.blk0 s0_.blk)) hm43) ?_
 rintro e w ⟨rfl, hN⟩; refine ⟨_, rfl, ?_⟩; have hB := hN.pure; have hS := hS.join hN; clear hN
 refine Zb 1 rfl ?_
 refine Za rfl rfl rfl (Ya rfl rfl) ?_
 refine Za rfl rfl rfl (Ya rfl rfl) ?_
 refine Z6 rfl rfl zc_23 hS (fun b44 w hS hB => ?_)
 refine Zo rfl rfl rfl CellsOf.agg hS ps0 Zdm (by kernel_rfl) rfl (fun w hS hB => ?_)
 refine Zb 1 rfl ?_
 refine Zg ?_
 refine Zc hK41 ?_
 refine Zd (fun K hK46 => ?_)
 refine Zf ?_
 refine Zb 2 rfl ?_
 refine Zt 13 rfl (fun hb => ?_) (fun hb => ?_)
 rotate_left
 ·replace H := Zp H hb
  refine Zb 6 rfl ?_
  refine Zg ?_
  refine Zc hK46 ?_
  refine Zk ?_
  refine Zl rfl (RV.tmp rfl RV.nil) rfl ?_
  refine ⟨_, rfl, ?_⟩
  refine Za rfl rfl rfl (Yt rfl) ?_
  refine Zg ?_
  refine Zc hK39 ?_
  refine Zs rfl rfl ?_
  refine Zd (fun K hK91 => ?_)
  refine Zf ?_
  refine Zb 1 rfl ?_
  refine Zg ?_
  refine Zc hK91 ?_
  refine Zk ?_
  refine Zv ?_
  refine Zi ?_
  refine Zi ?_
  refine Zv ?_
  refine Zi ?_
  refine Zl rfl (RV.tmp rfl RV.nil) rfl ?_
  obtain rfl := Option.some.inj H
  replace hS := hS.cut 0
  exact ⟨rfl, hS⟩
 replace H := Zq H hb
 refine Za rfl rfl rfl (Zj Yn rfl (RW.here _) hS hs0 trivial Vw) ?_
 refine Za rfl rfl rfl (Ze Zdt rfl) ?_
 refine Za rfl rfl rfl (Zj Yn rfl (RW.here _) hS Vh trivial sg13_5) ?_
 refine Za rfl rfl rfl (Jb (by kernel_rfl) rfl rfl (Jg _ _ _ _ _ _ _ _ _ _)) ?_
 refine Zb 2 rfl ?_
 refine Zg ?_
 refine Zc hK46 ?_
 refine Zk ?_
 refine Zl rfl (RV.tmp rfl RV.nil) rfl ?_
 refine ⟨_, rfl, ?_⟩
 refine Za rfl rfl rfl (Yt rfl) ?_
 refine Zg ?_
 refine Zc hK39 ?_
 refine Z0 rfl (fun hb => ?_) (fun hb => ?_)
 ·replace H := Zq H hb
  refine Zd (fun K hK47 => ?_)
  refine Zf ?_
  refine Zb 1 rfl ?_
  refine Zg ?_
  refine Zc hK47 ?_
  refine Zk ?_
  refine Zv ?_
  refine Zi ?_
  refine Zi ?_
  refine Zv ?_
  refine Zi ?_
  refine Zl rfl (RV.tmp rfl RV.nil) rfl ?_
  obtain rfl := Option.some.inj H
  replace hS := hS.cut 0
  exact ⟨rfl, hS⟩
 replace H := Zp H hb
 refine Zu ?_
 refine Z1 ?_
 refine Zc hK37 ?_
 refine Zf ?_
 refine Za rfl rfl rfl (X1 rfl rfl) ?_
 refine Zb 1 rfl ?_
 refine Zg ?_
 refine QH_more ?_
 refine Zd (fun K hK48 => ?_)
 refine Zf ?_
 refine Za rfl rfl rfl (Xv rfl rfl) ?_
 refine Zg ?_
 refine Zc hK48 ?_
 refine Zd (fun K hK49 => ?_)
 refine Zs rfl rfl ?_
 refine Zu ?_
 refine Zc hK49 ?_
 refine Zd (fun K hK50 => ?_)
 refine Yj ?_
 refine Zd (fun K hK51 => ?_)
 refine Zf ?_
 refine Za rfl rfl rfl (Zfx (n := 6) (e := 35) (j := 3) (by kernel_rfl) (by kernel_rfl) (by kernel_rfl) rfl rfl rfl (by decide) rfl) ?_
 refine Zb 1 rfl ?_
 refine Zg ?_
 refine Zc hK51 ?_
 refine Zd (fun K hK52 => ?_)
 refine Zf ?_
 refine Zb 1 rfl ?_
 refine Zbi rfl rfl rfl rfl (by kernel_rfl) rfl ?_
 show Calls _ _ #[_, _] _ _
 refine Yw Try.func71 rfl Try.ntmps71 rfl ?_
 refine Zd (fun K hK53 => ?_)
 refine Zf ?_
 refine Zb 1 rfl ?_
 refine Zg ?_
 refine Zc hK53 ?_
 refine Zd (fun K hK54 => ?_)
 refine Zf ?_
 refine Za rfl rfl rfl (Ze Zbm rfl) ?_
 refine Za rfl rfl rfl (Zh sc_27 rfl (RW.here _) hS Vh trivial Zfe) ?_
 refine Za rfl rfl rfl (Y1 el_27 rfl) ?_
 refine Za rfl rfl rfl (Ze Vy rfl) ?_
 refine Za rfl rfl rfl (Zh Zx rfl (RW.here _) hS Vh trivial Vn) ?_
 refine Za rfl rfl rfl (Yy rfl rfl) ?_
 refine Zb 1 rfl ?_
 refine Zt 9 rfl (fun hb => ?_) (fun hb => ?_)
 rotate_left
 ·replace H := Zp H hb
  refine Zb 17 rfl ?_
  refine Zg ?_
  refine Zc hK54 ?_
  refine Zk ?_
  refine Zl rfl (RV.tmp rfl RV.nil) rfl ?_
  refine ⟨_, rfl, ?_⟩
  refine Za rfl rfl rfl (Yt rfl) ?_
  refine Zg ?_
  refine Zc hK52 ?_
  refine Zs rfl rfl ?_
  refine Zd (fun K hK90 => ?_)
  refine Zf ?_
  refine Zb 1 rfl ?_
  refine Zg ?_
  refine Zc hK90 ?_
  refine Zk ?_
  refine Zv ?_
  refine Zi ?_
  refine Zi ?_
  refine Zv ?_
  refine Zi ?_
  refine Zl rfl (RV.tmp rfl RV.nil) rfl ?_
  obtain rfl := Option.some.inj H
  replace hS := hS.cut 0
  exact ⟨rfl, hS⟩
 replace H := Zq H hb
 refine Za rfl rfl rfl (Ze Zao rfl) ?_
 refine Za rfl rfl rfl (Zh V1 rfl (RW.here _) hS Vh trivial Zdn) ?_
 refine Za rfl rfl rfl (Ze Vy rfl) ?_
 refine Za rfl rfl rfl (Zh Zx rfl (RW.here _) hS Vh trivial Vn) ?_
 refine Za rfl rfl rfl (Zh Zx rfl (RW.here _) hS Xt trivial Y2) ?_
 refine Za rfl rfl rfl (X1 rfl rfl) ?_
 obtain ⟨r55, hm56, H⟩ := bind_some H
 refine Zr rfl rfl rfl rfl (by kernel_rfl) rfl (Zes x0.next x0.n 1 (IntKind.wrap .i64 (r5 + 1)) A2_ c2_ _ (SlI.of_rd s2_.k (hS.rd0 s2_.rd) (hS.blk0 s2_.blk)) hm56) ?_
 rintro e w ⟨rfl, hN⟩; refine ⟨_, rfl, ?_⟩; have hB := hN.pure; have hS := hS.join hN; clear hN
 refine Zb 2 rfl ?_
 refine Zt 18 rfl (fun hb => ?_) (fun hb => ?_)
 rotate_left
 ·replace H := Zp H hb
  refine Zb 8 rfl ?_
  refine Zg ?_
  refine Zc hK54 ?_
  refine Zk ?_
  refine Zl rfl (RV.tmp rfl RV.nil) rfl ?_
  refine ⟨_, rfl, ?_⟩
  refine Za rfl rfl rfl (Yt rfl) ?_
  refine Zg ?_
  refine Zc hK52 ?_
  refine Zs rfl rfl ?_
  refine Zd (fun K hK89 => ?_)
  refine Zf ?_
  refine Zb 1 rfl ?_
  refine Zg ?_
  refine Zc hK89 ?_
  refine Zk ?_
  refine Zv ?_
  refine Zi ?_
  refine Zi ?_
  refine Zv ?_
  refine Zi ?_
  refine Zl rfl (RV.tmp rfl RV.nil) rfl ?_
  obtain rfl := Option.some.inj H
  replace hS := hS.cut 0
  exact ⟨rfl, hS⟩
 replace H := Zq H hb
 refine Za rfl rfl rfl (Ze Zco rfl) ?_
 refine Za rfl rfl rfl (Zh V1 rfl (RW.here _) hS Vh trivial Zfg) ?_
 refine Za rfl rfl rfl (Ze Vy rfl) ?_
 refine Za rfl rfl rfl (Zh Zx rfl (RW.here _) hS Vh trivial Vn) ?_
 refine Za rfl rfl rfl (Zh Zx rfl (RW.here _) hS Xt trivial Y2) ?_
 obtain ⟨r57, hm58, H⟩ := bind_some H
 refine Zr rfl rfl rfl rfl (by kernel_rfl) rfl (Zes x0.mtch x0.n 0 r5 A3_ c3_ _ (SlI.of_rd s3_.k (hS.rd0 s3_.rd) (hS.blk0 s3_.blk)) hm58) ?_
 rintro e w ⟨rfl, hN⟩; refine ⟨_, rfl, ?_⟩; have hB := hN.pure; have hS := hS.join hN; clear hN
 refine Zb 2 rfl ?_
 refine Zg ?_
 refine Zc hK54 ?_
 refine Zk ?_
 refine Zl rfl (RV.tmp rfl RV.nil) rfl ?_
 refine ⟨_, rfl, ?_⟩
 refine Za rfl rfl rfl (Yt rfl) ?_
 refine Zg ?_
 refine Zc hK52 ?_
 refine Z0 rfl (fun hb => ?_) (fun hb => ?_)
 ·replace H := Zq H hb
  refine Zd (fun K hK59 => ?_)
  refine Zf ?_
  refine Zb 1 rfl ?_
  refine Zg ?_
  refine Zc hK59 ?_
  refine Zk ?_
  refine Zv ?_
  refine Zi ?_
  refine Zi ?_
  refine Zv ?_
  refine Zi ?_
  refine Zl rfl (RV.tmp rfl RV.nil) rfl ?_
  obtain rfl := Option.some.inj H
  replace hS := hS.cut 0
  exact ⟨rfl, hS⟩
 replace H := Zp H hb
 refine Zu ?_
 refine Z1 ?_
 refine Zc hK50 ?_
 refine Zf ?_
 refine Za rfl rfl rfl (X1 rfl rfl) ?_
 refine Zb 1 rfl ?_
 refine Zg ?_
 refine QH_more ?_
 refine Zd (fun K hK60 => ?_)
 refine Zf ?_
 refine Za rfl rfl rfl (Xv rfl rfl) ?_
 refine Zg ?_
 refine Zc hK60 ?_
 refine Zd (fun K hK61 => ?_)
 refine Zs rfl rfl ?_
 refine Zu ?_
 refine Zc hK61 ?_
 refine Zd (fun K hK62 => ?_)
 refine Yj ?_
 refine Zd (fun K hK63 => ?_)
 refine Zf ?_
 refine Za rfl rfl rfl (Zfx (n := 6) (e := 35) (j := 4) (by kernel_rfl) (by kernel_rfl) (by kernel_rfl) rfl rfl rfl (by decide) rfl) ?_
 refine Zb 1 rfl ?_
 refine Zg ?_
 refine Zc hK63 ?_
 refine Zd (fun K hK64 => ?_)
 refine Zf ?_
 refine Zb 1 rfl ?_
 refine Zbi rfl rfl rfl rfl (by kernel_rfl) rfl ?_
 show Calls _ _ #[_] _ _
 refine Yl Try.func73 rfl Try.ntmps73 rfl ?_
 refine Zd (fun K hK65 => ?_)
 refine Zf ?_
 refine Zb 1 rfl ?_
 refine Zg ?_
 refine Zc hK65 ?_
 refine Zd (fun K hK66 => ?_)
 refine Yo 18 [] (fun _ _ => True) ⟨by kernel_rfl, by kernel_rfl⟩ hS (fun w hS hB => ?_)
 refine Zm [true, true, true, true] (by decide +kernel) (by repeat (first | exact PF.body | exact PF.round | apply PF.then | apply PF.inBlock | apply PF.jump)) ?_
 refine LtK.put rfl rfl rfl (Ze J3 rfl) ?_
 refine LtK.put rfl rfl rfl (Zh V1 rfl (RW.below _) hS Vh trivial Zc9) ?_
 refine LtK.put rfl rfl rfl (Ze Vy rfl) ?_
 refine LtK.put rfl rfl rfl (Zh Zx rfl (RW.below _) hS Vh trivial Vn) ?_
 refine LtK.nil ?_
 refine Z7 [false, false, false, false, true] 4 ⟨by decide, by kernel_rfl, by kernel_rfl⟩ rfl rfl ?_
 try dsimp only [Z2]
 obtain ⟨r67, hm68, H⟩ := bind_some H
 refine Zr rfl rfl rfl rfl (by kernel_rfl) rfl (Zes x0.caps x0.n 0 2 A4_ c4_ _ (SlI.of_rd s4_.k (hS.rd0 s4_.rd) (hS.blk0 s4_.blk)) hm68) ?_
 rintro e w ⟨rfl, hN⟩; refine ⟨_, rfl, ?_⟩; have hB := hN.pure; have hS := hS.join hN; clear hN
 refine Zg ?_
 refine Yf hB ?_
 refine Zm [false, false, false, false, false, true] (by decide +kernel) (by repeat (first | exact PF.body | exact PF.round | apply PF.then | apply PF.inBlock | apply PF.jump)) ?_
 refine LtK.put rfl rfl rfl (Zn rfl) ?_
 refine LtK.nil ?_
 refine Y8 7 rfl (fun hb => ?_) (fun hb => ?_)
 rotate_left
 ·replace H := Zp H hb
  refine Zm [false, false, false, false, false, false, true, true, true, true, true, true, true, true, true, true, true, true] (by decide +kernel) (by repeat (first | exact PF.body | exact PF.round | apply PF.then | apply PF.inBlock | apply PF.jump)) ?_
  refine LtK.skip rfl rfl rfl ?_
  refine LtK.skip rfl rfl rfl ?_
  refine LtK.skip rfl rfl rfl ?_
  refine LtK.skip rfl rfl rfl ?_
  refine LtK.skip rfl rfl rfl ?_
  refine LtK.skip rfl rfl rfl ?_
  refine LtK.skip rfl rfl rfl ?_
  refine LtK.skip rfl rfl rfl ?_
  refine LtK.skip rfl rfl rfl ?_
  refine LtK.skip rfl rfl rfl ?_
  refine LtK.put rfl rfl rfl (Zz rfl rfl rfl) ?_
  refine LtK.put rfl rfl rfl (Z4 rfl) ?_
  refine LtK.nil ?_
  refine Z8 (by kernel_rfl) ?_
  refine Zc hK66 ?_
  refine Zk ?_
  refine Zl rfl (RV.tmp rfl RV.nil) rfl ?_
  refine ⟨_, rfl, ?_⟩
  refine Za rfl rfl rfl (Yt rfl) ?_
  refine Zg ?_
  refine Zc hK64 ?_
  refine Zs rfl rfl ?_
  refine Zd (fun K hK88 => ?_)
  refine Zf ?_
  refine Zb 1 rfl ?_
  refine Zg ?_
  refine Zc hK88 ?_
  refine Zk ?_
  refine Zv ?_
  refine Zi ?_
  refine Zi ?_
  refine Zv ?_
  refine Zi ?_
  refine Zl rfl (RV.tmp rfl RV.nil) rfl ?_
  obtain rfl := Option.some.inj H
  replace hS := hS.cut 0
  exact ⟨rfl, hS⟩
 replace H := Zq H hb
 refine Zm [false, false, false, false, false, false, true, true, true, true, true, true, true, true, true, true, true, true] (by decide +kernel) (by repeat (first | exact PF.body | exact PF.round | apply PF.then | apply PF.inBlock | apply PF.jump)) ?_
 refine LtK.put rfl rfl rfl (Ze J3 rfl) ?_
 refine LtK.put rfl rfl rfl (Zh V1 rfl (RW.below _) hS Vh trivial Zc9) ?_
 refine LtK.put rfl rfl rfl (Ze Ji rfl) ?_
 refine LtK.put rfl rfl rfl (Zh Zx rfl (RW.below _) hS Vh trivial Y2) ?_
 refine LtK.put rfl rfl rfl (Zct rfl rfl) ?_
 obtain ⟨e69, hi71, H⟩ := bind_some H
 obtain ⟨j70, hi71a, hi71b, hi71c⟩ := Y9 hi71
 refine LtK.put rfl rfl rfl (Xo Vd rfl rfl hi71a hi71c (Rd.el (hS.rd0 s4_.rd) Xd hi71b)) ?_
 refine LtK.put rfl rfl rfl (V4 Zx rfl (RW.below _) (Rd.el (hS.rd0 s4_.rd) Xd hi71b) rfl) ?_
 refine LtK.put rfl rfl rfl (Ze Zdj rfl) ?_
 refine LtK.put rfl rfl rfl (Zh Zx rfl (RW.below _) hS Vh trivial Zag) ?_
 refine LtK.put rfl rfl rfl (Yy rfl rfl) ?_
 refine LtK.put rfl rfl rfl (Zw rfl rfl rfl) ?_
 refine LtK.put rfl rfl rfl (Z4 rfl) ?_
 refine LtK.nil ?_
 refine Z8 (by kernel_rfl) ?_
 refine Zc hK66 ?_
 refine Zk ?_
 refine Zl rfl (RV.tmp rfl RV.nil) rfl ?_
 refine ⟨_, rfl, ?_⟩
 refine Za rfl rfl rfl (Yt rfl) ?_
 refine Zg ?_
 refine Zc hK64 ?_
 refine Z0 rfl (fun hb => ?_) (fun hb => ?_)
 ·replace H := Zq H hb
  refine Zd (fun K hK72 => ?_)
  refine Zf ?_
  refine Zb 1 rfl ?_
  refine Zg ?_
  refine Zc hK72 ?_
  refine Zk ?_
  refine Zv ?_
  refine Zi ?_
  refine Zi ?_
  refine Zv ?_
  refine Zi ?_
  refine Zl rfl (RV.tmp rfl RV.nil) rfl ?_
  obtain rfl := Option.some.inj H
  replace hS := hS.cut 0
  exact ⟨rfl, hS⟩
 replace H := Zp H hb
 refine Zu ?_
 refine Z1 ?_
 refine Zc hK62 ?_
 refine Zf ?_
 refine Za rfl rfl rfl (X1 rfl rfl) ?_
 refine Zb 1 rfl ?_
 refine Zg ?_
 refine QH_more ?_
 refine Zd (fun K hK73 => ?_)
 refine Zf ?_
 refine Za rfl rfl rfl (Xv rfl rfl) ?_
 refine Zg ?_
 refine Zc hK73 ?_
 refine Zd (fun K hK74 => ?_)
 refine Zs rfl rfl ?_
 refine Zu ?_
 refine Zc hK74 ?_
 refine Zd (fun K hK75 => ?_)
 refine Yj ?_
 refine Zd (fun K hK76 => ?_)
 refine Zf ?_
 refine Za rfl rfl rfl (Zfx (n := 6) (e := 35) (j := 5) (by kernel_rfl) (by kernel_rfl) (by kernel_rfl) rfl rfl rfl (by decide) rfl) ?_
 refine Zb 1 rfl ?_
 refine Zg ?_
 refine Zc hK76 ?_
 refine Zd (fun K hK77 => ?_)
 refine Zf ?_
 refine Zb 1 rfl ?_
 refine Zbi rfl rfl rfl rfl (by kernel_rfl) rfl ?_
 show Calls _ _ #[_] _ _
 refine Yl Try.func74 rfl Try.ntmps74 rfl ?_
 refine Zd (fun K hK78 => ?_)
 refine Zf ?_
 refine Zb 1 rfl ?_
 refine Zg ?_
 refine Zc hK78 ?_
 refine Zd (fun K hK79 => ?_)
 refine Zf ?_
 refine Za rfl rfl rfl (Ze J6 rfl) ?_
 refine Za rfl rfl rfl (Zh Zai rfl (RW.here _) hS Vh trivial J9) ?_
 refine Za rfl rfl rfl (Yy rfl rfl) ?_
 refine Zb 1 rfl ?_
 refine Zt 5 rfl (fun hb => ?_) (fun hb => ?_)
 ·replace H := Zq H hb
  refine Zb 14 rfl ?_
  refine Zg ?_
  refine Zc hK79 ?_
  refine Zk ?_
  refine Zl rfl (RV.tmp rfl RV.nil) rfl ?_
  refine ⟨_, rfl, ?_⟩
  refine Za rfl rfl rfl (Yt rfl) ?_
  refine Zg ?_
  refine Zc hK77 ?_
  refine Yq rfl rfl ?_
  refine Zu ?_
  refine Z1 ?_
  refine Zc hK75 ?_
  refine Zf ?_
  refine Za rfl rfl rfl (X1 rfl rfl) ?_
  refine Zb 1 rfl ?_
  refine Zg ?_
  refine QH_more ?_
  refine Zd (fun K hK80 => ?_)
  refine Zf ?_
  refine Za rfl rfl rfl (Xv rfl rfl) ?_
  refine Zg ?_
  refine Zc hK80 ?_
  refine Zd (fun K hK81 => ?_)
  refine Yq rfl rfl ?_
  refine Vo ?_
  refine Ye ?_
  refine Ye ?_
  refine Xf ?_
  refine Zc hK9 ?_
  refine Zd (fun K hK82 => ?_)
  refine Zf ?_
  refine Zb 1 rfl ?_
  refine Zg ?_
  refine Zc hK82 ?_
  refine Zk ?_
  refine Zl rfl (RV.tmp rfl RV.nil) rfl ?_
  obtain rfl := Option.some.inj H
  replace hS := hS.cut 0
  exact ⟨rfl, hS⟩
 replace H := Zp H hb
 refine Za rfl rfl rfl (Ze Yu rfl) ?_
 refine Za rfl rfl rfl (Ze Xs rfl) ?_
 refine Za rfl rfl rfl (Zh Zx rfl (RW.here _) hS Vh trivial V0) ?_
 refine Za rfl rfl rfl (Xa rfl rfl) ?_
 refine Zb 1 rfl ?_
 refine Zt 10 rfl (fun hb => ?_) (fun hb => ?_)
 rotate_left
 ·replace H := Zp H hb
  refine Zb 9 rfl ?_
  refine Zg ?_
  refine Zc hK79 ?_
  refine Zk ?_
  refine Zl rfl (RV.tmp rfl RV.nil) rfl ?_
  refine ⟨_, rfl, ?_⟩
  refine Za rfl rfl rfl (Yt rfl) ?_
  refine Zg ?_
  refine Zc hK77 ?_
  refine Zs rfl rfl ?_
  refine Zd (fun K hK87 => ?_)
  refine Zf ?_
  refine Zb 1 rfl ?_
  refine Zg ?_
  refine Zc hK87 ?_
  refine Zk ?_
  refine Zv ?_
  refine Zi ?_
  refine Zi ?_
  refine Zv ?_
  refine Zi ?_
  refine Zl rfl (RV.tmp rfl RV.nil) rfl ?_
  obtain rfl := Option.some.inj H
  replace hS := hS.cut 0
  exact ⟨rfl, hS⟩
 replace H := Zq H hb
 refine Za rfl rfl rfl (Ze Yu rfl) ?_
 refine Za rfl rfl rfl (Ze Jy rfl) ?_
 refine Za rfl rfl rfl (Zh Zx rfl (RW.here _) hS Vh trivial sg11_1) ?_
 refine Za rfl rfl rfl (Ze Ji rfl) ?_
 refine Za rfl rfl rfl (Zh Zx rfl (RW.here _) hS Vh trivial Y2) ?_
 refine Za rfl rfl rfl (Yy rfl rfl) ?_
 refine Zb 3 rfl ?_
 refine Zg ?_
 refine Zc hK79 ?_
 refine Zk ?_
 refine Zl rfl (RV.tmp rfl RV.nil) rfl ?_
 refine ⟨_, rfl, ?_⟩
 refine Za rfl rfl rfl (Yt rfl) ?_
 refine Zg ?_
 refine Zc hK77 ?_
 refine Z0 rfl (fun hb => ?_) (fun hb => ?_)
 ·replace H := Zq H hb
  refine Zd (fun K hK83 => ?_)
  refine Zf ?_
  refine Zb 1 rfl ?_
  refine Zg ?_
  refine Zc hK83 ?_
  refine Zk ?_
  refine Zv ?_
  refine Zi ?_
  refine Zi ?_
  refine Zv ?_
  refine Zi ?_
  refine Zl rfl (RV.tmp rfl RV.nil) rfl ?_
  obtain rfl := Option.some.inj H
  replace hS := hS.cut 0
  exact ⟨rfl, hS⟩
 replace H := Zp H hb
 refine Zu ?_
 refine Z1 ?_
 refine Zc hK75 ?_
 refine Zf ?_
 refine Za rfl rfl rfl (X1 rfl rfl) ?_
 refine Zb 1 rfl ?_
 refine Zg ?_
 refine QH_more ?_
 refine Zd (fun K hK84 => ?_)
 refine Zf ?_
 refine Za rfl rfl rfl (Xv rfl rfl) ?_
 refine Zg ?_
 refine Zc hK84 ?_
 refine Zd (fun K hK85 => ?_)
 refine Yq rfl rfl ?_
 refine Vo ?_
 refine Ye ?_
 refine Ye ?_
 refine Xf ?_
 refine Zc hK9 ?_
 refine Zd (fun K hK86 => ?_)
 refine Zf ?_
 refine Zb 1 rfl ?_
 refine Zg ?_
 refine Zc hK86 ?_
 refine Zk ?_
 refine Zl rfl (RV.tmp rfl RV.nil) rfl ?_
 obtain rfl := Option.some.inj H
 replace hS := hS.cut 0
 exact ⟨rfl, hS⟩
theorem c_tuple_At (x0 : Tu) (x1 : Int) (A0_ : Option Addr) (c0_ : Nat) (w0 : World) (s0_ : SlI w0 Jv A0_ c0_ x0.log) {r : En × Bool} (H : m_tuple_At x0 x1 = some r) : Calls Try.prog 88 #[.agg #[.int .i64 x0.snap.index, .int .i64 x0.snap.term, .int .i64 x0.snap.sum, .int .i64 x0.snap.level, .bool x0.snap.final, .slice A0_ x0.log.length c0_, .int .i64 x0.term, .int .i64 x0.vote], .int .i64 x1] w0 fun e w' => e = .returned (.tuple #[.agg #[.int .i64 r.1.term, .int .i64 r.1.kind, .int .i64 r.1.value], .bool r.2]) ∧ St0 All w0 w' [] := by
 unfold m_tuple_At at H
 refine Yw Try.func88 rfl Try.ntmps88 rfl ?_
 have hS := St0.start All w0
 refine Zd (fun K hK1 => ?_)
 refine Zf ?_
 refine Z9 rfl rfl rfl CellsOf.agg hS (fun b2 w hS hB => ?_)
 refine Z6 rfl rfl Zb6 hS (fun b4 w hS hB => ?_)
 refine Zb 1 rfl ?_
 refine Zg ?_
 refine Zc hK1 ?_
 refine Zd (fun K hK6 => ?_)
 refine Zd (fun K hK7 => ?_)
 refine Zf ?_
 refine Zb 1 rfl ?_
 refine Za rfl rfl rfl (Ze Yx rfl) ?_
 refine Za rfl rfl rfl (Ze Z5 rfl) ?_
 refine Za rfl rfl rfl (Zh Zx rfl (RW.here _) hS Xt trivial Y2) ?_
 refine Za rfl rfl rfl (Za1 rfl rfl) ?_
 refine Zb 1 rfl ?_
 refine Zt 11 rfl (fun hb => ?_) (fun hb => ?_)
 ·replace H := Zq H hb
  refine Zb 5 rfl ?_
  refine Zg ?_
  refine Zc hK7 ?_
  refine Zs rfl rfl ?_
  refine Zd (fun K hK8 => ?_)
  refine Zf ?_
  refine Za rfl rfl rfl (Zj V3 rfl (RW.here _) hS hs0 trivial Zcl) ?_
  refine Zo rfl rfl rfl CellsOf.agg hS ps0 st0_3 (by kernel_rfl) rfl (fun w hS hB => ?_)
  refine Zb 1 rfl ?_
  refine Zg ?_
  refine Zc hK8 ?_
  refine Zk ?_
  refine Zi ?_
  refine Zl rfl (RV.cell rfl (Z3 V3 hS hs0 Zcl) (RV.tmp rfl RV.nil)) rfl ?_
  obtain rfl := Option.some.inj H
  replace hS := hS.cut 0
  exact ⟨rfl, hS⟩
 replace H := Zp H hb
 refine Zb 1 rfl ?_
 refine Za rfl rfl rfl (Zj Xg rfl (RW.here _) hS Xt trivial Zfp) ?_
 obtain ⟨r9, hm10, H⟩ := bind_some H
 refine Zr rfl rfl rfl rfl (by kernel_rfl) rfl (Zdh x0 A0_ c0_ _ (SlI.of_rd s0_.k (hS.rd0 s0_.rd) (hS.blk0 s0_.blk)) hm10) ?_
 rintro e w ⟨rfl, hN⟩; refine ⟨_, rfl, ?_⟩; have hB := hN.pure; have hS := hS.join hN; clear hN
 refine Za rfl rfl rfl (Xa rfl rfl) ?_
 refine Zb 1 rfl ?_
 refine Zg ?_
 refine Zc hK7 ?_
 refine Z0 rfl (fun hb => ?_) (fun hb => ?_)
 ·replace H := Zq H hb
  refine Zd (fun K hK11 => ?_)
  refine Zf ?_
  refine Za rfl rfl rfl (Zj V3 rfl (RW.here _) hS hs0 trivial Zcl) ?_
  refine Zo rfl rfl rfl CellsOf.agg hS ps0 st0_3 (by kernel_rfl) rfl (fun w hS hB => ?_)
  refine Zb 1 rfl ?_
  refine Zg ?_
  refine Zc hK11 ?_
  refine Zk ?_
  refine Zi ?_
  refine Zl rfl (RV.cell rfl (Z3 V3 hS hs0 Zcl) (RV.tmp rfl RV.nil)) rfl ?_
  obtain rfl := Option.some.inj H
  replace hS := hS.cut 0
  exact ⟨rfl, hS⟩
 replace H := Zp H hb
 refine Zu ?_
 refine Zc hK6 ?_
 refine Zd (fun K hK12 => ?_)
 refine Zf ?_
 refine Za rfl rfl rfl (Ze X5 rfl) ?_
 refine Za rfl rfl rfl (Zh V8 rfl (RW.here _) hS Xt trivial Zdw) ?_
 refine Zb 1 rfl ?_
 refine Za rfl rfl rfl (Ze Yx rfl) ?_
 refine Za rfl rfl rfl (Ze Z5 rfl) ?_
 refine Za rfl rfl rfl (Zh Zx rfl (RW.here _) hS Xt trivial Y2) ?_
 refine Za rfl rfl rfl (Zct rfl rfl) ?_
 refine Za rfl rfl rfl (Zct rfl rfl) ?_
 obtain ⟨e13, hi15, H⟩ := bind_some H
 obtain ⟨j14, hi15a, hi15b, hi15c⟩ := Y9 hi15
 refine Za rfl rfl rfl (Xo Va rfl rfl hi15a hi15c (Rd.el (hS.rd0 s0_.rd) Vi hi15b)) ?_
 refine Za rfl rfl rfl (Zei V3 rfl (RW.here _) (Rd.el (hS.rd0 s0_.rd) Vi hi15b) Zcl) ?_
 refine Zo rfl rfl rfl CellsOf.agg hS ps0 st0_3 (by kernel_rfl) rfl (fun w hS hB => ?_)
 refine Zb 1 rfl ?_
 refine Zg ?_
 refine Zc hK12 ?_
 refine Zk ?_
 refine Zl rfl (RV.cell rfl (Z3 V3 hS hs0 Zcl) (RV.tmp rfl RV.nil)) rfl ?_
 obtain rfl := Option.some.inj H
 replace hS := hS.cut 0
 exact ⟨rfl, hS⟩
theorem c_tuple_TermAt (x0 : Tu) (x1 : Int) (A0_ : Option Addr) (c0_ : Nat) (w0 : World) (s0_ : SlI w0 Jv A0_ c0_ x0.log) {r : Int × Bool} (H : Zbv x0 x1 = some r) : Calls Try.prog 60 #[.agg #[.int .i64 x0.snap.index, .int .i64 x0.snap.term, .int .i64 x0.snap.sum, .int .i64 x0.snap.level, .bool x0.snap.final, .slice A0_ x0.log.length c0_, .int .i64 x0.term, .int .i64 x0.vote], .int .i64 x1] w0 fun e w' => e = .returned (.tuple #[.int .i64 r.1, .bool r.2]) ∧ St0 All w0 w' [] := by
 unfold Zbv at H
 refine Yw Try.func60 rfl Try.ntmps60 rfl ?_
 have hS := St0.start All w0
 refine Zd (fun K hK1 => ?_)
 refine Zf ?_
 refine Z9 rfl rfl rfl CellsOf.agg hS (fun b2 w hS hB => ?_)
 refine Zb 2 rfl ?_
 refine Zg ?_
 refine Zc hK1 ?_
 refine Zd (fun K hK4 => ?_)
 refine Zd (fun K hK5 => ?_)
 refine Zf ?_
 refine Zb 1 rfl ?_
 refine Za rfl rfl rfl (Ze Yx rfl) ?_
 refine Za rfl rfl rfl (Ze Z5 rfl) ?_
 refine Za rfl rfl rfl (Zh Zx rfl (RW.here _) hS hs0 trivial Y2) ?_
 refine Za rfl rfl rfl (Yy rfl rfl) ?_
 refine Zg ?_
 refine Zc hK5 ?_
 refine Z0 rfl (fun hb => ?_) (fun hb => ?_)
 ·replace H := Zq H hb
  refine Zd (fun K hK6 => ?_)
  refine Zf ?_
  refine Za rfl rfl rfl (Ze Yx rfl) ?_
  refine Za rfl rfl rfl (Ze V7 rfl) ?_
  refine Za rfl rfl rfl (Zh Zx rfl (RW.here _) hS hs0 trivial Vn) ?_
  refine Zb 2 rfl ?_
  refine Zg ?_
  refine Zc hK6 ?_
  refine Zk ?_
  refine Zi ?_
  refine Zl rfl (RV.tmp rfl (RV.tmp rfl RV.nil)) rfl ?_
  obtain rfl := Option.some.inj H
  replace hS := hS.cut 0
  exact ⟨rfl, hS⟩
 replace H := Zp H hb
 refine Zu ?_
 refine Zc hK4 ?_
 refine Zd (fun K hK7 => ?_)
 refine Zf ?_
 refine Za rfl rfl rfl (Zj Xg rfl (RW.here _) hS hs0 trivial Zfp) ?_
 refine Zb 1 rfl ?_
 obtain ⟨r8, hm9, H⟩ := bind_some H
 refine Zr rfl rfl rfl rfl (by kernel_rfl) rfl (c_tuple_At x0 x1 A0_ c0_ _ (SlI.of_rd s0_.k (hS.rd0 s0_.rd) (hS.blk0 s0_.blk)) hm9) ?_
 rintro e w ⟨rfl, hN⟩; refine ⟨_, rfl, ?_⟩; have hB := hN.pure; have hS := hS.join hN; clear hN
 refine Zb 1 rfl ?_
 refine Za rfl rfl rfl (Ya rfl rfl) ?_
 refine Za rfl rfl rfl (Ya rfl rfl) ?_
 refine Z6 rfl rfl Zb6 hS (fun b10 w hS hB => ?_)
 refine Zo rfl rfl rfl CellsOf.agg hS ps0 st0_3 (by kernel_rfl) rfl (fun w hS hB => ?_)
 refine Zb 1 rfl ?_
 refine Zg ?_
 refine Zc hK7 ?_
 refine Zd (fun K hK12 => ?_)
 refine Zf ?_
 refine Za rfl rfl rfl (Ze Zaz rfl) ?_
 refine Za rfl rfl rfl (Zh Zx rfl (RW.here _) hS hs0 trivial Y2) ?_
 refine Zb 3 rfl ?_
 refine Zg ?_
 refine Zc hK12 ?_
 refine Zk ?_
 refine Zl rfl (RV.tmp rfl (RV.tmp rfl RV.nil)) rfl ?_
 obtain rfl := Option.some.inj H
 replace hS := hS.cut 0
 exact ⟨rfl, hS⟩
theorem Zds (x0 : Co) (A0_ : Option Addr) (c0_ : Nat) (A1_ : Option Addr) (c1_ : Nat) (A2_ : Option Addr) (c2_ : Nat) (A3_ : Option Addr) (c3_ : Nat) (A4_ : Option Addr) (c4_ : Nat) (w0 : World) (s0_ : SlI w0 Jv A0_ c0_ x0.tuple.log) (s1_ : SlI w0 enO A1_ c1_ x0.votes) (s2_ : SlI w0 Vu A2_ c2_ x0.next) (s3_ : SlI w0 Vu A3_ c3_ x0.mtch) (s4_ : SlI w0 Vu A4_ c4_ x0.caps) {r : Co × Bool} (H : Vg x0 = some r) : Calls Try.prog 18 #[.agg #[.int .i64 x0.id, .int .i64 x0.n, .int .u8 x0.role, .int .i64 x0.binary, .int .i64 x0.tuple.snap.index, .int .i64 x0.tuple.snap.term, .int .i64 x0.tuple.snap.sum, .int .i64 x0.tuple.snap.level, .bool x0.tuple.snap.final, .slice A0_ x0.tuple.log.length c0_, .int .i64 x0.tuple.term, .int .i64 x0.tuple.vote, .int .i64 x0.commit, .int .i64 x0.applied.index, .int .i64 x0.applied.term, .int .i64 x0.applied.sum, .int .i64 x0.applied.level, .bool x0.applied.final, .slice A1_ x0.votes.length c1_, .slice A2_ x0.next.length c2_, .slice A3_ x0.mtch.length c3_, .slice A4_ x0.caps.length c4_]] w0 fun e w' => ∃ (A0 : Option Addr) (c0 : Nat) (A1 : Option Addr) (c1 : Nat) (A2 : Option Addr) (c2 : Nat) (A3 : Option Addr) (c3 : Nat) (A4 : Option Addr) (c4 : Nat), e = .returned (.tuple #[.agg #[.int .i64 r.1.id, .int .i64 r.1.n, .int .u8 r.1.role, .int .i64 r.1.binary, .int .i64 r.1.tuple.snap.index, .int .i64 r.1.tuple.snap.term, .int .i64 r.1.tuple.snap.sum, .int .i64 r.1.tuple.snap.level, .bool r.1.tuple.snap.final, .slice A0 r.1.tuple.log.length c0, .int .i64 r.1.tuple.term, .int .i64 r.1.tuple.vote, .int .i64 r.1.commit, .int .i64 r.1.applied.index, .int .i64 r.1.applied.term, .int .i64 r.1.applied.sum, .int .i64 r.1.applied.level, .bool r.1.applied.final, .slice A1 r.1.votes.length c1, .slice A2 r.1.next.length c2, .slice A3 r.1.mtch.length c3, .slice A4 r.1.caps.length c4], .bool r.2]) ∧ (r.1.tuple.log.length ≤ c0 ∧ c0 ≤ maxLen) ∧ (r.1.votes.length ≤ c1 ∧ c1 ≤ maxLen) ∧ (r.1.next.length ≤ c2 ∧ c2 ≤ maxLen) ∧ (r.1.mtch.length ≤ c3 ∧ c3 ≤ maxLen) ∧ (r.1.caps.length ≤ c4 ∧ c4 ≤ maxLen) ∧ St0 All w0 w' [.rd A0 (Ym Jv r.1.tuple.log), .row (.slice A1 r.1.votes.length c1) 4 1 r.1.votes.length (Ym enO r.1.votes), .row (.slice A2 r.1.next.length c2) 3 1 r.1.next.length (Ym Vu r.1.next), .row (.slice A3 r.1.mtch.length c3) 3 1 r.1.mtch.length (Ym Vu r.1.mtch), .row (.slice A4 r.1.caps.length c4) 3 1 r.1.caps.length (Ym Vu r.1.caps)] := by
 unfold Vg at H
 refine Yl Try.func18 rfl Try.ntmps18 rfl ?_
 have hS := St0.start All w0
 refine Zd (fun K hK1 => ?_)
 refine Zf ?_
 refine Z9 rfl rfl rfl CellsOf.agg hS (fun b2 w hS hB => ?_)
 refine Z6 rfl rfl Zc0 hS (fun b4 w hS hB => ?_)
 refine Zb 1 rfl ?_
 refine Zg ?_
 refine Zc hK1 ?_
 refine Zd (fun K hK6 => ?_)
 refine Zf ?_
 refine Za rfl rfl rfl (Zj Yp rfl (RW.here _) hS Xt trivial Yb) ?_
 obtain ⟨r7, hm8, H⟩ := bind_some H
 refine Zr rfl rfl rfl rfl (by kernel_rfl) rfl (Zeo x0 A0_ c0_ A1_ c1_ A2_ c2_ A3_ c3_ A4_ c4_ _ (SlI.of_rd s0_.k (hS.rd0 s0_.rd) (hS.blk0 s0_.blk)) (SlI.of_rd s1_.k (hS.rd0 s1_.rd) (hS.blk0 s1_.blk)) (SlI.of_rd s2_.k (hS.rd0 s2_.rd) (hS.blk0 s2_.blk)) (SlI.of_rd s3_.k (hS.rd0 s3_.rd) (hS.blk0 s3_.blk)) (SlI.of_rd s4_.k (hS.rd0 s4_.rd) (hS.blk0 s4_.blk)) hm8) ?_
 rintro e w ⟨A9, c10, A13, c14, A17, c18, A21, c22, A25, c26, rfl, k11, k15, k19, k23, k27, hN⟩; refine ⟨_, rfl, ?_⟩; have hB := hN.pure; have hS := hS.join hN; clear hN
 refine Zo rfl rfl rfl CellsOf.agg hS ps5 Xq (by kernel_rfl) rfl (fun w hS hB => ?_)
 refine Zg ?_
 refine Zc hK6 ?_
 refine Zd (fun K hK29 => ?_)
 refine Zd (fun K hK30 => ?_)
 refine Zf ?_
 refine Za rfl rfl rfl (Zj Yp rfl (RW.here _) hS hs6 trivial Yb) ?_
 obtain ⟨r31, hm32, H⟩ := bind_some H
 refine Zr rfl rfl rfl rfl (by kernel_rfl) rfl (Zc3 x0 A0_ c0_ A1_ c1_ A2_ c2_ A3_ c3_ A4_ c4_ _ (SlI.of_rd s0_.k (hS.rd0 s0_.rd) (hS.blk0 s0_.blk)) (SlI.of_rd s1_.k (hS.rd0 s1_.rd) (hS.blk0 s1_.blk)) (SlI.of_rd s2_.k (hS.rd0 s2_.rd) (hS.blk0 s2_.blk)) (SlI.of_rd s3_.k (hS.rd0 s3_.rd) (hS.blk0 s3_.blk)) (SlI.of_rd s4_.k (hS.rd0 s4_.rd) (hS.blk0 s4_.blk)) hm32) ?_
 rintro e w ⟨rfl, hN⟩; refine ⟨_, rfl, ?_⟩; have hB := hN.pure; have hS := hS.join hN; clear hN
 refine Za rfl rfl rfl (Yt rfl) ?_
 refine Zb 1 rfl ?_
 refine Zt 11 rfl (fun hb => ?_) (fun hb => ?_)
 ·replace H := Zq H hb
  refine Zb 9 rfl ?_
  refine Zg ?_
  refine Zc hK30 ?_
  refine Zs rfl rfl ?_
  refine Zd (fun K hK33 => ?_)
  refine Zf ?_
  refine Za rfl rfl rfl (Zj Yp rfl (RW.here _) hS hs5 trivial Yb) ?_
  refine Zo rfl rfl rfl CellsOf.agg hS ps5 Xq (by kernel_rfl) rfl (fun w hS hB => ?_)
  refine Zb 1 rfl ?_
  refine Zg ?_
  refine Zc hK33 ?_
  refine Zk ?_
  refine Zi ?_
  refine Zl rfl (RV.cell rfl (Z3 Yp hS hs5 Yb) (RV.tmp rfl RV.nil)) rfl ?_
  obtain rfl := Option.some.inj H
  have hS := hS.front 4 rfl
  have hS := hS.front 4 rfl
  have hS := hS.front 4 rfl
  have hS := hS.front 4 rfl
  have hS := hS.front 4 rfl
  replace hS := hS.weak Weak.rowRd
  replace hS := hS.cut 5
  exact ⟨A9, c10, A13, c14, A17, c18, A21, c22, A25, c26, rfl, k11, k15, k19, k23, k27, hS⟩
 replace H := Zp H hb
 refine Za rfl rfl rfl (Ze Zdt rfl) ?_
 refine Za rfl rfl rfl (Ze Z5 rfl) ?_
 refine Za rfl rfl rfl (Zh Zx rfl (RW.here _) hS hs6 trivial sg13_1) ?_
 refine Za rfl rfl rfl (Ze Yu rfl) ?_
 refine Za rfl rfl rfl (Ze Yx rfl) ?_
 refine Za rfl rfl rfl (Ze Z5 rfl) ?_
 refine Za rfl rfl rfl (Zh Zx rfl (RW.here _) hS hs6 trivial Zeg) ?_
 refine Za rfl rfl rfl (Za1 rfl rfl) ?_
 refine Zb 1 rfl ?_
 refine Zg ?_
 refine Zc hK30 ?_
 refine Z0 rfl (fun hb => ?_) (fun hb => ?_)
 ·replace H := Zq H hb
  refine Zd (fun K hK34 => ?_)
  refine Zf ?_
  refine Za rfl rfl rfl (Zj Yp rfl (RW.here _) hS hs5 trivial Yb) ?_
  refine Zo rfl rfl rfl CellsOf.agg hS ps5 Xq (by kernel_rfl) rfl (fun w hS hB => ?_)
  refine Zb 1 rfl ?_
  refine Zg ?_
  refine Zc hK34 ?_
  refine Zk ?_
  refine Zi ?_
  refine Zl rfl (RV.cell rfl (Z3 Yp hS hs5 Yb) (RV.tmp rfl RV.nil)) rfl ?_
  obtain rfl := Option.some.inj H
  have hS := hS.front 4 rfl
  have hS := hS.front 4 rfl
  have hS := hS.front 4 rfl
  have hS := hS.front 4 rfl
  have hS := hS.front 4 rfl
  replace hS := hS.weak Weak.rowRd
  replace hS := hS.cut 5
  exact ⟨A9, c10, A13, c14, A17, c18, A21, c22, A25, c26, rfl, k11, k15, k19, k23, k27, hS⟩
 replace H := Zp H hb
 refine Zu ?_
 refine Zc hK29 ?_
 refine Zd (fun K hK35 => ?_)
 refine Zf ?_
 refine Za rfl rfl rfl (Ze Yu rfl) ?_
 refine Za rfl rfl rfl (Zj Xg rfl (RW.here _) hS hs6 trivial Zbl) ?_
 refine Za rfl rfl rfl (Ze Zdt rfl) ?_
 refine Za rfl rfl rfl (Zj Yn rfl (RW.here _) hS hs6 trivial sg13_5) ?_
 obtain ⟨r36, hm37, H⟩ := bind_some H
 refine Zr rfl rfl rfl rfl (by kernel_rfl) rfl (c_tuple_Save x0.tuple x0.applied A0_ c0_ _ (SlI.of_rd s0_.k (hS.rd0 s0_.rd) (hS.blk0 s0_.blk)) hm37) ?_
 rintro e w ⟨A38, c39, rfl, k40, hN⟩; refine ⟨_, rfl, ?_⟩; have hB := hN.pure; have hS := hS.join hN; clear hN
 refine Zb 1 rfl ?_
 refine Za rfl rfl rfl (Ya rfl rfl) ?_
 refine Za rfl rfl rfl (Ya rfl rfl) ?_
 refine Z6 rfl rfl zc_26 hS (fun b42 w hS hB => ?_)
 refine Zo rfl rfl rfl CellsOf.agg hS ps0 st0_8 (by kernel_rfl) rfl (fun w hS hB => ?_)
 refine Zb 1 rfl ?_
 refine Zg ?_
 refine Zc hK35 ?_
 refine Zd (fun K hK44 => ?_)
 refine Zd (fun K hK45 => ?_)
 refine Zf ?_
 refine Zb 1 rfl ?_
 refine Za rfl rfl rfl (Xk rfl rfl) ?_
 refine Zg ?_
 refine Zc hK45 ?_
 refine Z0 rfl (fun hb => ?_) (fun hb => ?_)
 ·replace H := Zq H hb
  refine Zd (fun K hK46 => ?_)
  refine Zf ?_
  refine Za rfl rfl rfl (Zj Yp rfl (RW.here _) hS hs7 trivial Yb) ?_
  refine Zo rfl rfl rfl CellsOf.agg hS ps7 Xq (by kernel_rfl) rfl (fun w hS hB => ?_)
  refine Zb 1 rfl ?_
  refine Zg ?_
  refine Zc hK46 ?_
  refine Zk ?_
  refine Zi ?_
  refine Zl rfl (RV.cell rfl (Z3 Yp hS hs7 Yb) (RV.tmp rfl RV.nil)) rfl ?_
  obtain rfl := Option.some.inj H
  have hS := hS.front 6 rfl
  have hS := hS.front 6 rfl
  have hS := hS.front 6 rfl
  have hS := hS.front 6 rfl
  have hS := hS.front 6 rfl
  replace hS := hS.weak Weak.rowRd
  replace hS := hS.cut 5
  exact ⟨A9, c10, A13, c14, A17, c18, A21, c22, A25, c26, rfl, k11, k15, k19, k23, k27, hS⟩
 replace H := Zp H hb
 refine Zu ?_
 refine Zc hK44 ?_
 refine Zd (fun K hK47 => ?_)
 refine Zf ?_
 refine Za rfl rfl rfl (Zj Xg rfl (RW.here _) hS hs0 trivial Zfp) ?_
 refine Za rfl rfl rfl (Ze Yu rfl) ?_
 refine Zo rfl rfl rfl CellsOf.agg hS ps7 st4_8 (by kernel_rfl) rfl (fun w hS hB => ?_)
 refine Zg ?_
 refine Zc hK47 ?_
 refine Zd (fun K hK48 => ?_)
 refine Zf ?_
 refine Za rfl rfl rfl (Zj Yp rfl (RW.here _) hS hs7 trivial Yb) ?_
 refine Zo rfl rfl rfl CellsOf.agg hS ps7 Xq (by kernel_rfl) rfl (fun w hS hB => ?_)
 refine Zb 1 rfl ?_
 refine Zg ?_
 refine Zc hK48 ?_
 refine Zk ?_
 refine Zl rfl (RV.cell rfl (Z3 Yp hS hs7 Yb) (RV.tmp rfl RV.nil)) rfl ?_
 obtain rfl := Option.some.inj H
 have hS := hS.front 6 rfl
 have hS := hS.front 6 rfl
 have hS := hS.front 6 rfl
 have hS := hS.front 6 rfl
 have hS := hS.front 5 rfl
 replace hS := hS.cut 5
 exact ⟨A38, c39, A13, c14, A17, c18, A21, c22, A25, c26, rfl, k40, k15, k19, k23, k27, hS⟩
theorem Zdk (x0 : Co) (x1 : Int) (A0_ : Option Addr) (c0_ : Nat) (A1_ : Option Addr) (c1_ : Nat) (A2_ : Option Addr) (c2_ : Nat) (A3_ : Option Addr) (c3_ : Nat) (A4_ : Option Addr) (c4_ : Nat) (w0 : World) (s0_ : SlI w0 Jv A0_ c0_ x0.tuple.log) (s1_ : SlI w0 enO A1_ c1_ x0.votes) (s2_ : SlI w0 Vu A2_ c2_ x0.next) (s3_ : SlI w0 Vu A3_ c3_ x0.mtch) (s4_ : SlI w0 Vu A4_ c4_ x0.caps) {r : Ms × Bool} (H : X4 x0 x1 = some r) : Calls Try.prog 26 #[.agg #[.int .i64 x0.id, .int .i64 x0.n, .int .u8 x0.role, .int .i64 x0.binary, .int .i64 x0.tuple.snap.index, .int .i64 x0.tuple.snap.term, .int .i64 x0.tuple.snap.sum, .int .i64 x0.tuple.snap.level, .bool x0.tuple.snap.final, .slice A0_ x0.tuple.log.length c0_, .int .i64 x0.tuple.term, .int .i64 x0.tuple.vote, .int .i64 x0.commit, .int .i64 x0.applied.index, .int .i64 x0.applied.term, .int .i64 x0.applied.sum, .int .i64 x0.applied.level, .bool x0.applied.final, .slice A1_ x0.votes.length c1_, .slice A2_ x0.next.length c2_, .slice A3_ x0.mtch.length c3_, .slice A4_ x0.caps.length c4_], .int .i64 x1] w0 fun e w' => ∃ (A0 : Option Addr) (c0 : Nat), e = .returned (.tuple #[.agg #[.int .u8 r.1.kind, .int .i64 r.1.frm, .int .i64 r.1.dst, .int .i64 r.1.term, .int .i64 r.1.cap, .int .i64 r.1.last, .int .i64 r.1.lastTerm, .int .i64 r.1.commit, .bool r.1.okk, .slice A0 r.1.entries.length c0, .int .i64 r.1.snap.index, .int .i64 r.1.snap.term, .int .i64 r.1.snap.sum, .int .i64 r.1.snap.level, .bool r.1.snap.final], .bool r.2]) ∧ (r.1.entries.length ≤ c0 ∧ c0 ≤ maxLen) ∧ St0 All w0 w' [.rd A0 (Ym Jv r.1.entries)] := by
 unfold X4 at H
 refine Yw Try.func26 rfl Try.ntmps26 rfl ?_
 have hS := St0.start All w0
 refine Zd (fun K hK1 => ?_)
 refine Zf ?_
 refine Z9 rfl rfl rfl CellsOf.agg hS (fun b2 w hS hB => ?_)
 refine Z6 rfl rfl Zfy hS (fun b4 w hS hB => ?_)
 refine Zb 1 rfl ?_
 refine Zg ?_
 refine Zc hK1 ?_
 refine Zd (fun K hK6 => ?_)
 refine Zd (fun K hK7 => ?_)
 refine Yo 37 [] (fun _ _ => True) ⟨by kernel_rfl, by kernel_rfl⟩ hS (fun w hS hB => ?_)
 refine Zm [true] (by decide +kernel) (by repeat (first | exact PF.body | exact PF.round | apply PF.then | apply PF.inBlock | apply PF.jump)) ?_
 refine LtK.put rfl rfl rfl (Zj Yp rfl (RW.below _) hS Xt trivial Yb) ?_
 refine LtK.nil ?_
 refine Z7 [false, true] 1 ⟨by decide, by kernel_rfl, by kernel_rfl⟩ rfl rfl ?_
 try dsimp only [Z2]
 obtain ⟨r8, hm9, H⟩ := bind_some H
 refine Zr rfl rfl rfl rfl (by kernel_rfl) rfl (Zc3 x0 A0_ c0_ A1_ c1_ A2_ c2_ A3_ c3_ A4_ c4_ _ (SlI.of_rd s0_.k (hS.rd0 s0_.rd) (hS.blk0 s0_.blk)) (SlI.of_rd s1_.k (hS.rd0 s1_.rd) (hS.blk0 s1_.blk)) (SlI.of_rd s2_.k (hS.rd0 s2_.rd) (hS.blk0 s2_.blk)) (SlI.of_rd s3_.k (hS.rd0 s3_.rd) (hS.blk0 s3_.blk)) (SlI.of_rd s4_.k (hS.rd0 s4_.rd) (hS.blk0 s4_.blk)) hm9) ?_
 rintro e w ⟨rfl, hN⟩; refine ⟨_, rfl, ?_⟩; have hB := hN.pure; have hS := hS.join hN; clear hN
 refine Zg ?_
 refine Yf hB ?_
 refine Zm [false, false, true, true] (by decide +kernel) (by repeat (first | exact PF.body | exact PF.round | apply PF.then | apply PF.inBlock | apply PF.jump)) ?_
 refine LtK.put rfl rfl rfl (Yt rfl) ?_
 refine LtK.put rfl rfl rfl (Zn rfl) ?_
 refine LtK.nil ?_
 refine Y8 9 rfl (fun hb => ?_) (fun hb => ?_)
 ·replace H := Zq H hb
  refine Zm [false, false, false, false, true, true, true, true, true, true, true, true, true, true, true, true, true, true, true, true, true, true, true, true, true, true, true, true, true, true, true, true, true, true, true, true, true] (by decide +kernel) (by repeat (first | exact PF.body | exact PF.round | apply PF.then | apply PF.inBlock | apply PF.jump)) ?_
  refine LtK.skip rfl rfl rfl ?_
  refine LtK.skip rfl rfl rfl ?_
  refine LtK.skip rfl rfl rfl ?_
  refine LtK.put rfl rfl rfl (Zw rfl rfl rfl) ?_
  refine LtK.put rfl rfl rfl (Zn rfl) ?_
  refine LtK.skip rfl rfl rfl ?_
  refine LtK.skip rfl rfl rfl ?_
  refine LtK.put rfl rfl rfl (Zw rfl rfl rfl) ?_
  refine LtK.put rfl rfl rfl (Zn rfl) ?_
  refine LtK.skip rfl rfl rfl ?_
  refine LtK.skip rfl rfl rfl ?_
  refine LtK.skip rfl rfl rfl ?_
  refine LtK.skip rfl rfl rfl ?_
  refine LtK.put rfl rfl rfl (Zw rfl rfl rfl) ?_
  refine LtK.put rfl rfl rfl (Zn rfl) ?_
  refine LtK.skip rfl rfl rfl ?_
  refine LtK.skip rfl rfl rfl ?_
  refine LtK.skip rfl rfl rfl ?_
  refine LtK.skip rfl rfl rfl ?_
  refine LtK.put rfl rfl rfl (Zw rfl rfl rfl) ?_
  refine LtK.put rfl rfl rfl (Zn rfl) ?_
  refine LtK.skip rfl rfl rfl ?_
  refine LtK.skip rfl rfl rfl ?_
  refine LtK.skip rfl rfl rfl ?_
  refine LtK.skip rfl rfl rfl ?_
  refine LtK.skip rfl rfl rfl ?_
  refine LtK.skip rfl rfl rfl ?_
  refine LtK.skip rfl rfl rfl ?_
  refine LtK.skip rfl rfl rfl ?_
  refine LtK.skip rfl rfl rfl ?_
  refine LtK.skip rfl rfl rfl ?_
  refine LtK.skip rfl rfl rfl ?_
  refine LtK.put rfl rfl rfl (Zw rfl rfl rfl) ?_
  refine LtK.nil ?_
  refine Z8 (by kernel_rfl) ?_
  refine Zc hK7 ?_
  refine Zs rfl rfl ?_
  refine Zd (fun K hK10 => ?_)
  refine Zf ?_
  refine Za rfl rfl rfl (Zj X7 rfl (RW.here _) hS hs0 trivial Xj) ?_
  refine Zo rfl rfl rfl CellsOf.agg hS ps0 Zax (by kernel_rfl) rfl (fun w hS hB => ?_)
  refine Zb 1 rfl ?_
  refine Zg ?_
  refine Zc hK10 ?_
  refine Zk ?_
  refine Zi ?_
  refine Zl rfl (RV.cell rfl (Z3 X7 hS hs0 Xj) (RV.tmp rfl RV.nil)) rfl ?_
  obtain rfl := Option.some.inj H
  have hS := hS.nilRd
  replace hS := hS.cut 1
  exact ⟨none, 0, rfl, ⟨Nat.le_refl _, Nat.zero_le _⟩, hS⟩
 replace H := Zp H hb
 refine Zm [false, false, false, false, true, true, true, true, true] (by decide +kernel) (by repeat (first | exact PF.body | exact PF.round | apply PF.then | apply PF.inBlock | apply PF.jump)) ?_
 refine LtK.put rfl rfl rfl (Ze J6 rfl) ?_
 refine LtK.put rfl rfl rfl (Zh Zai rfl (RW.below _) hS Xt trivial J9) ?_
 refine LtK.put rfl rfl rfl (Xk rfl rfl) ?_
 refine LtK.put rfl rfl rfl (Zz rfl rfl rfl) ?_
 refine LtK.put rfl rfl rfl (Zn rfl) ?_
 refine LtK.nil ?_
 refine Y8 14 rfl (fun hb => ?_) (fun hb => ?_)
 ·replace H := Zq H hb
  refine Zm [false, false, false, false, false, false, false, false, false, true, true, true, true, true, true, true, true, true, true, true, true, true, true, true, true, true, true, true, true, true, true, true, true, true, true, true, true] (by decide +kernel) (by repeat (first | exact PF.body | exact PF.round | apply PF.then | apply PF.inBlock | apply PF.jump)) ?_
  refine LtK.skip rfl rfl rfl ?_
  refine LtK.skip rfl rfl rfl ?_
  refine LtK.put rfl rfl rfl (Zw rfl rfl rfl) ?_
  refine LtK.put rfl rfl rfl (Zn rfl) ?_
  refine LtK.skip rfl rfl rfl ?_
  refine LtK.skip rfl rfl rfl ?_
  refine LtK.skip rfl rfl rfl ?_
  refine LtK.skip rfl rfl rfl ?_
  refine LtK.put rfl rfl rfl (Zw rfl rfl rfl) ?_
  refine LtK.put rfl rfl rfl (Zn rfl) ?_
  refine LtK.skip rfl rfl rfl ?_
  refine LtK.skip rfl rfl rfl ?_
  refine LtK.skip rfl rfl rfl ?_
  refine LtK.skip rfl rfl rfl ?_
  refine LtK.put rfl rfl rfl (Zw rfl rfl rfl) ?_
  refine LtK.put rfl rfl rfl (Zn rfl) ?_
  refine LtK.skip rfl rfl rfl ?_
  refine LtK.skip rfl rfl rfl ?_
  refine LtK.skip rfl rfl rfl ?_
  refine LtK.skip rfl rfl rfl ?_
  refine LtK.skip rfl rfl rfl ?_
  refine LtK.skip rfl rfl rfl ?_
  refine LtK.skip rfl rfl rfl ?_
  refine LtK.skip rfl rfl rfl ?_
  refine LtK.skip rfl rfl rfl ?_
  refine LtK.skip rfl rfl rfl ?_
  refine LtK.skip rfl rfl rfl ?_
  refine LtK.put rfl rfl rfl (Zw rfl rfl rfl) ?_
  refine LtK.nil ?_
  refine Z8 (by kernel_rfl) ?_
  refine Zc hK7 ?_
  refine Zs rfl rfl ?_
  refine Zd (fun K hK11 => ?_)
  refine Zf ?_
  refine Za rfl rfl rfl (Zj X7 rfl (RW.here _) hS hs0 trivial Xj) ?_
  refine Zo rfl rfl rfl CellsOf.agg hS ps0 Zax (by kernel_rfl) rfl (fun w hS hB => ?_)
  refine Zb 1 rfl ?_
  refine Zg ?_
  refine Zc hK11 ?_
  refine Zk ?_
  refine Zi ?_
  refine Zl rfl (RV.cell rfl (Z3 X7 hS hs0 Xj) (RV.tmp rfl RV.nil)) rfl ?_
  obtain rfl := Option.some.inj H
  have hS := hS.nilRd
  replace hS := hS.cut 1
  exact ⟨none, 0, rfl, ⟨Nat.le_refl _, Nat.zero_le _⟩, hS⟩
 replace H := Zp H hb
 refine Zm [false, false, false, false, false, false, false, false, false, true, true, true, true] (by decide +kernel) (by repeat (first | exact PF.body | exact PF.round | apply PF.then | apply PF.inBlock | apply PF.jump)) ?_
 refine LtK.put rfl rfl rfl (Zn rfl) ?_
 refine LtK.put rfl rfl rfl (Xv rfl rfl) ?_
 refine LtK.put rfl rfl rfl (Zz rfl rfl rfl) ?_
 refine LtK.put rfl rfl rfl (Zn rfl) ?_
 refine LtK.nil ?_
 refine Y8 18 rfl (fun hb => ?_) (fun hb => ?_)
 ·replace H := Zq H hb
  refine Zm [false, false, false, false, false, false, false, false, false, false, false, false, false, true, true, true, true, true, true, true, true, true, true, true, true, true, true, true, true, true, true, true, true, true, true, true, true] (by decide +kernel) (by repeat (first | exact PF.body | exact PF.round | apply PF.then | apply PF.inBlock | apply PF.jump)) ?_
  refine LtK.skip rfl rfl rfl ?_
  refine LtK.skip rfl rfl rfl ?_
  refine LtK.skip rfl rfl rfl ?_
  refine LtK.skip rfl rfl rfl ?_
  refine LtK.put rfl rfl rfl (Zw rfl rfl rfl) ?_
  refine LtK.put rfl rfl rfl (Zn rfl) ?_
  refine LtK.skip rfl rfl rfl ?_
  refine LtK.skip rfl rfl rfl ?_
  refine LtK.skip rfl rfl rfl ?_
  refine LtK.skip rfl rfl rfl ?_
  refine LtK.put rfl rfl rfl (Zw rfl rfl rfl) ?_
  refine LtK.put rfl rfl rfl (Zn rfl) ?_
  refine LtK.skip rfl rfl rfl ?_
  refine LtK.skip rfl rfl rfl ?_
  refine LtK.skip rfl rfl rfl ?_
  refine LtK.skip rfl rfl rfl ?_
  refine LtK.skip rfl rfl rfl ?_
  refine LtK.skip rfl rfl rfl ?_
  refine LtK.skip rfl rfl rfl ?_
  refine LtK.skip rfl rfl rfl ?_
  refine LtK.skip rfl rfl rfl ?_
  refine LtK.skip rfl rfl rfl ?_
  refine LtK.skip rfl rfl rfl ?_
  refine LtK.put rfl rfl rfl (Zw rfl rfl rfl) ?_
  refine LtK.nil ?_
  refine Z8 (by kernel_rfl) ?_
  refine Zc hK7 ?_
  refine Zs rfl rfl ?_
  refine Zd (fun K hK12 => ?_)
  refine Zf ?_
  refine Za rfl rfl rfl (Zj X7 rfl (RW.here _) hS hs0 trivial Xj) ?_
  refine Zo rfl rfl rfl CellsOf.agg hS ps0 Zax (by kernel_rfl) rfl (fun w hS hB => ?_)
  refine Zb 1 rfl ?_
  refine Zg ?_
  refine Zc hK12 ?_
  refine Zk ?_
  refine Zi ?_
  refine Zl rfl (RV.cell rfl (Z3 X7 hS hs0 Xj) (RV.tmp rfl RV.nil)) rfl ?_
  obtain rfl := Option.some.inj H
  have hS := hS.nilRd
  replace hS := hS.cut 1
  exact ⟨none, 0, rfl, ⟨Nat.le_refl _, Nat.zero_le _⟩, hS⟩
 replace H := Zp H hb
 refine Zm [false, false, false, false, false, false, false, false, false, false, false, false, false, true, true, true, true, true, true] (by decide +kernel) (by repeat (first | exact PF.body | exact PF.round | apply PF.then | apply PF.inBlock | apply PF.jump)) ?_
 refine LtK.put rfl rfl rfl (Zn rfl) ?_
 refine LtK.put rfl rfl rfl (Ze Vy rfl) ?_
 refine LtK.put rfl rfl rfl (Zh Zx rfl (RW.below _) hS Xt trivial Vn) ?_
 refine LtK.put rfl rfl rfl (Xa rfl rfl) ?_
 refine LtK.put rfl rfl rfl (Zz rfl rfl rfl) ?_
 refine LtK.put rfl rfl rfl (Zn rfl) ?_
 refine LtK.nil ?_
 refine Y8 24 rfl (fun hb => ?_) (fun hb => ?_)
 ·replace H := Zq H hb
  refine Zm [false, false, false, false, false, false, false, false, false, false, false, false, false, false, false, false, false, false, false, true, true, true, true, true, true, true, true, true, true, true, true, true, true, true, true, true, true] (by decide +kernel) (by repeat (first | exact PF.body | exact PF.round | apply PF.then | apply PF.inBlock | apply PF.jump)) ?_
  refine LtK.skip rfl rfl rfl ?_
  refine LtK.skip rfl rfl rfl ?_
  refine LtK.skip rfl rfl rfl ?_
  refine LtK.skip rfl rfl rfl ?_
  refine LtK.put rfl rfl rfl (Zw rfl rfl rfl) ?_
  refine LtK.put rfl rfl rfl (Zn rfl) ?_
  refine LtK.skip rfl rfl rfl ?_
  refine LtK.skip rfl rfl rfl ?_
  refine LtK.skip rfl rfl rfl ?_
  refine LtK.skip rfl rfl rfl ?_
  refine LtK.skip rfl rfl rfl ?_
  refine LtK.skip rfl rfl rfl ?_
  refine LtK.skip rfl rfl rfl ?_
  refine LtK.skip rfl rfl rfl ?_
  refine LtK.skip rfl rfl rfl ?_
  refine LtK.skip rfl rfl rfl ?_
  refine LtK.skip rfl rfl rfl ?_
  refine LtK.put rfl rfl rfl (Zw rfl rfl rfl) ?_
  refine LtK.nil ?_
  refine Z8 (by kernel_rfl) ?_
  refine Zc hK7 ?_
  refine Zs rfl rfl ?_
  refine Zd (fun K hK13 => ?_)
  refine Zf ?_
  refine Za rfl rfl rfl (Zj X7 rfl (RW.here _) hS hs0 trivial Xj) ?_
  refine Zo rfl rfl rfl CellsOf.agg hS ps0 Zax (by kernel_rfl) rfl (fun w hS hB => ?_)
  refine Zb 1 rfl ?_
  refine Zg ?_
  refine Zc hK13 ?_
  refine Zk ?_
  refine Zi ?_
  refine Zl rfl (RV.cell rfl (Z3 X7 hS hs0 Xj) (RV.tmp rfl RV.nil)) rfl ?_
  obtain rfl := Option.some.inj H
  have hS := hS.nilRd
  replace hS := hS.cut 1
  exact ⟨none, 0, rfl, ⟨Nat.le_refl _, Nat.zero_le _⟩, hS⟩
 replace H := Zp H hb
 refine Zm [false, false, false, false, false, false, false, false, false, false, false, false, false, false, false, false, false, false, false, true, true, true, true, true, true] (by decide +kernel) (by repeat (first | exact PF.body | exact PF.round | apply PF.then | apply PF.inBlock | apply PF.jump)) ?_
 refine LtK.put rfl rfl rfl (Zn rfl) ?_
 refine LtK.put rfl rfl rfl (Ze Ji rfl) ?_
 refine LtK.put rfl rfl rfl (Zh Zx rfl (RW.below _) hS Xt trivial Y2) ?_
 refine LtK.put rfl rfl rfl (Yy rfl rfl) ?_
 refine LtK.put rfl rfl rfl (Zz rfl rfl rfl) ?_
 refine LtK.put rfl rfl rfl (Zn rfl) ?_
 refine LtK.nil ?_
 refine Y8 30 rfl (fun hb => ?_) (fun hb => ?_)
 ·replace H := Zq H hb
  refine Zm [false, false, false, false, false, false, false, false, false, false, false, false, false, false, false, false, false, false, false, false, false, false, false, false, false, true, true, true, true, true, true, true, true, true, true, true, true] (by decide +kernel) (by repeat (first | exact PF.body | exact PF.round | apply PF.then | apply PF.inBlock | apply PF.jump)) ?_
  refine LtK.skip rfl rfl rfl ?_
  refine LtK.skip rfl rfl rfl ?_
  refine LtK.skip rfl rfl rfl ?_
  refine LtK.skip rfl rfl rfl ?_
  refine LtK.skip rfl rfl rfl ?_
  refine LtK.skip rfl rfl rfl ?_
  refine LtK.skip rfl rfl rfl ?_
  refine LtK.skip rfl rfl rfl ?_
  refine LtK.skip rfl rfl rfl ?_
  refine LtK.skip rfl rfl rfl ?_
  refine LtK.skip rfl rfl rfl ?_
  refine LtK.put rfl rfl rfl (Zw rfl rfl rfl) ?_
  refine LtK.nil ?_
  refine Z8 (by kernel_rfl) ?_
  refine Zc hK7 ?_
  refine Zs rfl rfl ?_
  refine Zd (fun K hK14 => ?_)
  refine Zf ?_
  refine Za rfl rfl rfl (Zj X7 rfl (RW.here _) hS hs0 trivial Xj) ?_
  refine Zo rfl rfl rfl CellsOf.agg hS ps0 Zax (by kernel_rfl) rfl (fun w hS hB => ?_)
  refine Zb 1 rfl ?_
  refine Zg ?_
  refine Zc hK14 ?_
  refine Zk ?_
  refine Zi ?_
  refine Zl rfl (RV.cell rfl (Z3 X7 hS hs0 Xj) (RV.tmp rfl RV.nil)) rfl ?_
  obtain rfl := Option.some.inj H
  have hS := hS.nilRd
  replace hS := hS.cut 1
  exact ⟨none, 0, rfl, ⟨Nat.le_refl _, Nat.zero_le _⟩, hS⟩
 replace H := Zp H hb
 refine Zm [false, false, false, false, false, false, false, false, false, false, false, false, false, false, false, false, false, false, false, false, false, false, false, false, false, true, true, true, true, true, true, true, true, true, true, true, true] (by decide +kernel) (by repeat (first | exact PF.body | exact PF.round | apply PF.then | apply PF.inBlock | apply PF.jump)) ?_
 refine LtK.put rfl rfl rfl (Ze Zao rfl) ?_
 refine LtK.put rfl rfl rfl (Zh V1 rfl (RW.below _) hS Xt trivial Zdn) ?_
 refine LtK.put rfl rfl rfl (Zn rfl) ?_
 refine LtK.put rfl rfl rfl (Zct rfl rfl) ?_
 obtain ⟨e15, hi17, H⟩ := bind_some H
 obtain ⟨j16, hi17a, hi17b, hi17c⟩ := Y9 hi17
 refine LtK.put rfl rfl rfl (Xo Vd rfl rfl hi17a hi17c (Rd.el (hS.rd0 s2_.rd) Xd hi17b)) ?_
 refine LtK.put rfl rfl rfl (V4 Zx rfl (RW.below _) (Rd.el (hS.rd0 s2_.rd) Xd hi17b) rfl) ?_
 refine LtK.put rfl rfl rfl (Ze Yu rfl) ?_
 refine LtK.put rfl rfl rfl (Ze Yx rfl) ?_
 refine LtK.put rfl rfl rfl (Ze Z5 rfl) ?_
 refine LtK.put rfl rfl rfl (Zh Zx rfl (RW.below _) hS Xt trivial Zeg) ?_
 refine LtK.put rfl rfl rfl (Xa rfl rfl) ?_
 refine LtK.put rfl rfl rfl (Zz rfl rfl rfl) ?_
 refine LtK.nil ?_
 refine Z8 (by kernel_rfl) ?_
 refine Zc hK7 ?_
 refine Z0 rfl (fun hb => ?_) (fun hb => ?_)
 ·replace H := Zq H hb
  refine Zd (fun K hK18 => ?_)
  refine Zf ?_
  refine Za rfl rfl rfl (Zj X7 rfl (RW.here _) hS hs0 trivial Xj) ?_
  refine Zo rfl rfl rfl CellsOf.agg hS ps0 Zax (by kernel_rfl) rfl (fun w hS hB => ?_)
  refine Zb 1 rfl ?_
  refine Zg ?_
  refine Zc hK18 ?_
  refine Zk ?_
  refine Zi ?_
  refine Zl rfl (RV.cell rfl (Z3 X7 hS hs0 Xj) (RV.tmp rfl RV.nil)) rfl ?_
  obtain rfl := Option.some.inj H
  have hS := hS.nilRd
  replace hS := hS.cut 1
  exact ⟨none, 0, rfl, ⟨Nat.le_refl _, Nat.zero_le _⟩, hS⟩
 replace H := Zp H hb
 refine Zu ?_
 refine Zc hK6 ?_
 refine Zd (fun K hK19 => ?_)
 refine Zf ?_
 refine Za rfl rfl rfl (Ze Ji rfl) ?_
 refine Za rfl rfl rfl (Zh Zx rfl (RW.here _) hS Xt trivial Y2) ?_
 refine Zb 1 rfl ?_
 refine Za rfl rfl rfl (Ze Yu rfl) ?_
 refine Za rfl rfl rfl (Ze Xs rfl) ?_
 refine Za rfl rfl rfl (Zh Zx rfl (RW.here _) hS Xt trivial V0) ?_
 refine Za rfl rfl rfl (Ze Zdj rfl) ?_
 refine Za rfl rfl rfl (Zh Zx rfl (RW.here _) hS Xt trivial Zag) ?_
 refine Za rfl rfl rfl (Ze Yu rfl) ?_
 refine Za rfl rfl rfl (Ze Yx rfl) ?_
 refine Za rfl rfl rfl (Zj Yn rfl (RW.here _) hS Xt trivial sg4_5) ?_
 refine Za rfl rfl rfl (Xx (cells := [.int .u8 5, .int .i64 x0.id, .int .i64 x1, .int .i64 x0.tuple.term, .int .i64 x0.binary, .int .i64 0, .int .i64 0, .int .i64 0, .bool false, .slice none 0 0, .int .i64 x0.tuple.snap.index, .int .i64 x0.tuple.snap.term, .int .i64 x0.tuple.snap.sum, .int .i64 x0.tuple.snap.level, .bool x0.tuple.snap.final]) rfl (by kernel_rfl)) ?_
 refine Zo rfl rfl rfl CellsOf.agg hS ps0 Zax (by kernel_rfl) rfl (fun w hS hB => ?_)
 refine Zb 1 rfl ?_
 refine Zg ?_
 refine Zc hK19 ?_
 refine Zk ?_
 refine Zl rfl (RV.cell rfl (Z3 X7 hS hs0 Xj) (RV.tmp rfl RV.nil)) rfl ?_
 obtain rfl := Option.some.inj H
 have hS := hS.nilRd
 replace hS := hS.cut 1
 exact ⟨none, 0, rfl, ⟨Nat.le_refl _, Nat.zero_le _⟩, hS⟩
theorem c_msg_entries (x0 : Ms) (A0_ : Option Addr) (c0_ : Nat) (w0 : World) (s0_ : SlI w0 Jv A0_ c0_ x0.entries) {r : Bool} (H : Zcd x0 = some r) : Calls Try.prog 79 #[.agg #[.int .u8 x0.kind, .int .i64 x0.frm, .int .i64 x0.dst, .int .i64 x0.term, .int .i64 x0.cap, .int .i64 x0.last, .int .i64 x0.lastTerm, .int .i64 x0.commit, .bool x0.okk, .slice A0_ x0.entries.length c0_, .int .i64 x0.snap.index, .int .i64 x0.snap.term, .int .i64 x0.snap.sum, .int .i64 x0.snap.level, .bool x0.snap.final]] w0 fun e w' => e = .returned (.bool r) ∧ St0 All w0 w' [] := by
 unfold Zcd at H
 refine Yl Try.func79 rfl Try.ntmps79 rfl ?_
 have hS := St0.start All w0
 refine Zd (fun K hK1 => ?_)
 refine Zf ?_
 refine Z9 rfl rfl rfl CellsOf.agg hS (fun b2 w hS hB => ?_)
 refine Zb 1 rfl ?_
 refine Zg ?_
 refine Zc hK1 ?_
 refine Zd (fun K hK4 => ?_)
 refine Zf ?_
 refine Za rfl rfl rfl (Ze fo_32_6 rfl) ?_
 refine Za rfl rfl rfl (Zh Zx rfl (RW.here _) hS hs0 trivial sg6_1) ?_
 refine Zb 1 rfl ?_
 refine Zg ?_
 refine Zc hK4 ?_
 refine Zd (fun K hK5 => ?_)
 refine Zd (fun K hK6 => ?_)
 refine Zf ?_
 refine Za rfl rfl rfl (Ze Zb5 rfl) ?_
 refine Za rfl rfl rfl (Zh V8 rfl (RW.here _) hS hs0 trivial sg9_1) ?_
 refine Za rfl rfl rfl (Y1 Va rfl) ?_
 refine Zb 1 rfl ?_
 refine Zg ?_
 refine Zc hK6 ?_
 refine Yj ?_
 refine Jq (X := Nat × Bool × Int × Int) (fun x => (1, .pointer (some ⟨b2, 0, none⟩)) :: (2, .bool x.2.1) :: (3, .int .i64 x.2.2.1) :: (9, .slice A0_ x0.entries.length c0_) :: (10, .int .i64 (x0.entries.length : Int)) :: (11, .int .i64 x.2.2.2) :: []) (fun x w => St0 All w0 w (.box b2 [.int .u8 x0.kind, .int .i64 x0.frm, .int .i64 x0.dst, .int .i64 x0.term, .int .i64 x0.cap, .int .i64 x0.last, .int .i64 x0.lastTerm, .int .i64 x0.commit, .bool x0.okk, .slice A0_ x0.entries.length c0_, .int .i64 x0.snap.index, .int .i64 x0.snap.term, .int .i64 x0.snap.sum, .int .i64 x0.snap.level, .bool x0.snap.final] 32 :: []) ∧ Je x0 x.1 x.2.1 x.2.2.1 x.2.2.2 = some r) (fun x => x.1) (X6, false, x0.lastTerm, 0) (by repeat (first | exact Sub.nil | refine Sub.cons rfl ?_)) ⟨hS, H⟩ ?_
 rintro ⟨n, v7, v8, v9⟩ w ⟨hS, H⟩
 dsimp only at hS H ⊢
 obtain _ | n := n
 ·have H0 : none = some r := H
  cases H0
 rw [Je] at H
 refine Zd (fun K hK10 => ?_)
 refine Zf ?_
 refine Za rfl rfl rfl (Xv rfl rfl) ?_
 refine Zg ?_
 refine Zc hK10 ?_
 refine Zd (fun K hK11 => ?_)
 refine Z0 rfl (fun hb => ?_) (fun hb => ?_)
 rotate_left
 ·replace H := Zp H hb
  refine Vo ?_
  refine Ye ?_
  refine Ye ?_
  refine Xf ?_
  refine Zc hK5 ?_
  refine Zd (fun K hK27 => ?_)
  refine Zf ?_
  refine Za rfl rfl rfl (Ze Zb5 rfl) ?_
  refine Za rfl rfl rfl (Zh V8 rfl (RW.here _) hS hs0 trivial sg9_1) ?_
  refine Za rfl rfl rfl (Y1 Va rfl) ?_
  refine Za rfl rfl rfl (Za1 rfl rfl) ?_
  refine Zb 1 rfl ?_
  refine Zg ?_
  refine Zc hK27 ?_
  refine Zk ?_
  refine Zl rfl (RV.tmp rfl RV.nil) rfl ?_
  obtain rfl := Option.some.inj H
  replace hS := hS.cut 0
  exact ⟨rfl, hS⟩
 replace H := Zq H hb
 refine Zu ?_
 refine Zc hK11 ?_
 refine Zd (fun K hK12 => ?_)
 refine Yj ?_
 refine Zd (fun K hK13 => ?_)
 refine Zf ?_
 obtain ⟨e14, hi16, H⟩ := bind_some H
 obtain ⟨j15, hi16a, hi16b, hi16c⟩ := Y9 hi16
 refine Za rfl rfl rfl (Xo Va rfl rfl hi16a hi16c (Rd.el (hS.rd0 s0_.rd) Vi hi16b)) ?_
 refine Za rfl rfl rfl (Zei V3 rfl (RW.here _) (Rd.el (hS.rd0 s0_.rd) Vi hi16b) Zcl) ?_
 refine Z6 rfl rfl Zb6 hS (fun b17 w hS hB => ?_)
 refine Zo rfl rfl rfl CellsOf.agg hS ps0 st0_3 (by kernel_rfl) rfl (fun w hS hB => ?_)
 refine Zg ?_
 refine Zc hK13 ?_
 refine Zd (fun K hK19 => ?_)
 refine Zd (fun K hK20 => ?_)
 refine Zf ?_
 refine Za rfl rfl rfl (Zj V3 rfl (RW.here _) hS hs0 trivial Zcl) ?_
 obtain ⟨r21, hm22, H⟩ := bind_some H
 refine Zr rfl rfl rfl rfl (by kernel_rfl) rfl (c_entry_Right e14 _ hm22) ?_
 rintro e w ⟨rfl, hN⟩; refine ⟨_, rfl, ?_⟩; have hB := hN.pure; have hS := hS.join hN; clear hN
 refine Za rfl rfl rfl (Yt rfl) ?_
 refine Zb 1 rfl ?_
 refine Zt 18 rfl (fun hb => ?_) (fun hb => ?_)
 ·replace H := Zq H hb
  refine Zb 8 rfl ?_
  refine Zg ?_
  refine Zc hK20 ?_
  refine Zs rfl rfl ?_
  refine Zd (fun K hK23 => ?_)
  refine Zf ?_
  refine Zb 1 rfl ?_
  refine Zg ?_
  refine Zc hK23 ?_
  refine Zk ?_
  refine Zi ?_
  refine Zv ?_
  refine Zi ?_
  refine Zi ?_
  refine Zv ?_
  refine Zi ?_
  refine Zl rfl (RV.tmp rfl RV.nil) rfl ?_
  obtain rfl := Option.some.inj H
  replace hS := hS.cut 0
  exact ⟨rfl, hS⟩
 replace H := Zp H hb
 refine Za rfl rfl rfl (Ze Zaz rfl) ?_
 refine Za rfl rfl rfl (Zh Zx rfl (RW.here _) hS hs0 trivial Y2) ?_
 refine Zb 1 rfl ?_
 refine Za rfl rfl rfl (Ze Za8 rfl) ?_
 refine Za rfl rfl rfl (Zh Zx rfl (RW.here _) hS Xt trivial Zag) ?_
 obtain ⟨r24, hm25, H⟩ := bind_some H
 refine Zr rfl rfl rfl rfl (by kernel_rfl) rfl (J4 e14.term v8 x0.term _ hm25) ?_
 rintro e w ⟨rfl, hN⟩; refine ⟨_, rfl, ?_⟩; have hB := hN.pure; have hS := hS.join hN; clear hN
 refine Za rfl rfl rfl (Yt rfl) ?_
 refine Zb 1 rfl ?_
 refine Zg ?_
 refine Zc hK20 ?_
 refine Z0 rfl (fun hb => ?_) (fun hb => ?_)
 rotate_left
 ·replace H := Zp H hb
  refine Zu ?_
  refine Zc hK19 ?_
  refine Zf ?_
  refine Za rfl rfl rfl (Ze Zaz rfl) ?_
  refine Za rfl rfl rfl (Zh Zx rfl (RW.here _) hS hs0 trivial Y2) ?_
  refine Zb 1 rfl ?_
  refine Zg ?_
  refine Z1 ?_
  refine Zc hK12 ?_
  refine Zf ?_
  refine Za rfl rfl rfl (X1 rfl rfl) ?_
  refine Zb 1 rfl ?_
  refine Zg ?_
  exact Vp (n, v7, e14.term, (IntKind.wrap .i64 (v9 + 1))) (by repeat (first | exact Sub.nil | refine Sub.cons rfl ?_)) ⟨(hS.sub (List.Sublist.cons _ (List.Sublist.cons_cons _ List.Sublist.slnil))), H⟩ (Nat.lt_succ_self _)
 replace H := Zq H hb
 refine Zd (fun K hK26 => ?_)
 refine Zf ?_
 refine Zb 1 rfl ?_
 refine Zg ?_
 refine Zc hK26 ?_
 refine Zk ?_
 refine Zi ?_
 refine Zv ?_
 refine Zi ?_
 refine Zi ?_
 refine Zv ?_
 refine Zi ?_
 refine Zl rfl (RV.tmp rfl RV.nil) rfl ?_
 obtain rfl := Option.some.inj H
 replace hS := hS.cut 0
 exact ⟨rfl, hS⟩
theorem c_msg_Fine (x0 : Ms) (x1 : Int) (A0_ : Option Addr) (c0_ : Nat) (w0 : World) (s0_ : SlI w0 Jv A0_ c0_ x0.entries) {r : Bool} (H : Zdx x0 x1 = some r) : Calls Try.prog 50 #[.agg #[.int .u8 x0.kind, .int .i64 x0.frm, .int .i64 x0.dst, .int .i64 x0.term, .int .i64 x0.cap, .int .i64 x0.last, .int .i64 x0.lastTerm, .int .i64 x0.commit, .bool x0.okk, .slice A0_ x0.entries.length c0_, .int .i64 x0.snap.index, .int .i64 x0.snap.term, .int .i64 x0.snap.sum, .int .i64 x0.snap.level, .bool x0.snap.final], .int .i64 x1] w0 fun e w' => e = .returned (.bool r) ∧ St0 All w0 w' [] := by
 unfold Zdx at H
 refine Yw Try.func50 rfl Try.ntmps50 rfl ?_
 have hS := St0.start All w0
 refine Zd (fun K hK1 => ?_)
 refine Zf ?_
 refine Z9 rfl rfl rfl CellsOf.agg hS (fun b2 w hS hB => ?_)
 refine Zb 1 rfl ?_
 refine Zg ?_
 refine Zc hK1 ?_
 refine wpC_scope1 0 rfl ?_
 refine Zd (fun K hK4 => ?_)
 refine Zd (fun K hK5 => ?_)
 refine Zf ?_
 refine Zb 1 rfl ?_
 obtain ⟨r6, hm7, H⟩ := bind_some H
 refine Zr rfl rfl rfl rfl (by kernel_rfl) rfl (J4 x1 1 5 _ hm7) ?_
 rintro e w ⟨rfl, hN⟩; refine ⟨_, rfl, ?_⟩; have hB := hN.pure; have hS := hS.join hN; clear hN
 refine Za rfl rfl rfl (Yt rfl) ?_
 refine Zb 1 rfl ?_
 refine Zt 8 rfl (fun hb => ?_) (fun hb => ?_)
 ·replace H := Zq H hb
  refine Zb 16 rfl ?_
  refine Zg ?_
  refine Zc hK5 ?_
  refine Zs rfl rfl ?_
  refine Vv ?_
  refine Xr ?_
  refine Jr ?_
  refine Zd (fun K hK8 => ?_)
  refine Zu ?_
  refine Zc hK8 ?_
  refine Zd (fun K hK9 => ?_)
  refine Zf ?_
  refine Zb 1 rfl ?_
  refine Zg ?_
  refine Zc hK9 ?_
  refine Zk ?_
  refine Yd ?_
  refine Zl rfl (RV.tmp rfl RV.nil) rfl ?_
  obtain rfl := Option.some.inj H
  replace hS := hS.cut 0
  exact ⟨rfl, hS⟩
 replace H := Zp H hb
 refine Za rfl rfl rfl (Ze fo_32_1 rfl) ?_
 refine Za rfl rfl rfl (Zh Zx rfl (RW.here _) hS hs0 trivial Vn) ?_
 refine Za rfl rfl rfl (Ze Zdp rfl) ?_
 refine Za rfl rfl rfl (Zh Zx rfl (RW.here _) hS hs0 trivial J9) ?_
 refine Vq (ps := [(0, .tmp 10), (1, .tmp 12)]) [.int .i64 x0.frm, .int .i64 x0.dst] Vd zc_3 rfl rfl rfl rfl rfl (by kernel_rfl) hS (fun b10 w hS hB => ?_)
 refine Zb 1 rfl ?_
 obtain ⟨r12, hm13, H⟩ := bind_some H
 refine Zr rfl rfl rfl rfl (by kernel_rfl) rfl (Zes ([x0.frm, x0.dst] : List Int) 2 1 x1 (some ⟨b10, 0, none⟩) 2 _ (SlI.of_rd ⟨Nat.le_refl 2, by decide⟩ (hS.box_rd hs0) (hS.box_blk hs0)) hm13) ?_
 rintro e w ⟨rfl, hN⟩; refine ⟨_, rfl, ?_⟩; have hB := hN.pure; have hS := hS.join hN; clear hN
 refine Za rfl rfl rfl (Yt rfl) ?_
 refine Zb 2 rfl ?_
 refine Zt 18 rfl (fun hb => ?_) (fun hb => ?_)
 ·replace H := Zq H hb
  refine Zb 6 rfl ?_
  refine Zg ?_
  refine Zc hK5 ?_
  refine Zs rfl rfl ?_
  refine Vv ?_
  refine Xr ?_
  refine Jr ?_
  refine Zd (fun K hK14 => ?_)
  refine Zu ?_
  refine Zc hK14 ?_
  refine Zd (fun K hK15 => ?_)
  refine Zf ?_
  refine Zb 1 rfl ?_
  refine Zg ?_
  refine Zc hK15 ?_
  refine Zk ?_
  refine Yd ?_
  refine Zl rfl (RV.tmp rfl RV.nil) rfl ?_
  obtain rfl := Option.some.inj H
  replace hS := hS.cut 0
  exact ⟨rfl, hS⟩
 replace H := Zp H hb
 refine Za rfl rfl rfl (Ze fo_32_1 rfl) ?_
 refine Za rfl rfl rfl (Zh Zx rfl (RW.here _) hS Xt trivial Vn) ?_
 refine Za rfl rfl rfl (Ze Zdp rfl) ?_
 refine Za rfl rfl rfl (Zh Zx rfl (RW.here _) hS Xt trivial J9) ?_
 refine Za rfl rfl rfl (Yy rfl rfl) ?_
 refine Zb 1 rfl ?_
 refine Zg ?_
 refine Zc hK5 ?_
 refine Z0 rfl (fun hb => ?_) (fun hb => ?_)
 ·replace H := Zq H hb
  refine Vv ?_
  refine Xr ?_
  refine Jr ?_
  refine Zd (fun K hK16 => ?_)
  refine Zu ?_
  refine Zc hK16 ?_
  refine Zd (fun K hK17 => ?_)
  refine Zf ?_
  refine Zb 1 rfl ?_
  refine Zg ?_
  refine Zc hK17 ?_
  refine Zk ?_
  refine Yd ?_
  refine Zl rfl (RV.tmp rfl RV.nil) rfl ?_
  obtain rfl := Option.some.inj H
  replace hS := hS.cut 0
  exact ⟨rfl, hS⟩
 replace H := Zp H hb
 refine Zu ?_
 refine Zc hK4 ?_
 refine Zd (fun K hK18 => ?_)
 refine Zd (fun K hK19 => ?_)
 refine Zf ?_
 refine Za rfl rfl rfl (Ze Vf rfl) ?_
 refine Za rfl rfl rfl (Zh Zai rfl (RW.here _) hS Xt trivial Y2) ?_
 refine Za rfl rfl rfl (yx_conv (k' := .i64) (by kernel_rfl) (by kernel_rfl) rfl) ?_
 obtain ⟨r20, hm21, H⟩ := bind_some H
 refine Zr rfl rfl rfl rfl (by kernel_rfl) rfl (J4 (IntKind.wrap .i64 x0.kind) 1 5 _ hm21) ?_
 rintro e w ⟨rfl, hN⟩; refine ⟨_, rfl, ?_⟩; have hB := hN.pure; have hS := hS.join hN; clear hN
 refine Za rfl rfl rfl (Yt rfl) ?_
 refine Zb 1 rfl ?_
 refine Zt 30 rfl (fun hb => ?_) (fun hb => ?_)
 ·replace H := Zq H hb
  refine Zb 11 rfl ?_
  refine Zg ?_
  refine Zc hK19 ?_
  refine Zs rfl rfl ?_
  refine Vv ?_
  refine Xr ?_
  refine Jr ?_
  refine Zd (fun K hK22 => ?_)
  refine Zu ?_
  refine Zc hK22 ?_
  refine Zd (fun K hK23 => ?_)
  refine Zf ?_
  refine Zb 1 rfl ?_
  refine Zg ?_
  refine Zc hK23 ?_
  refine Zk ?_
  refine Yd ?_
  refine Zl rfl (RV.tmp rfl RV.nil) rfl ?_
  obtain rfl := Option.some.inj H
  replace hS := hS.cut 0
  exact ⟨rfl, hS⟩
 replace H := Zp H hb
 refine Za rfl rfl rfl (Ze Za8 rfl) ?_
 refine Za rfl rfl rfl (Zh Zx rfl (RW.here _) hS Xt trivial Zag) ?_
 obtain ⟨r24, hm25, H⟩ := bind_some H
 refine Zr rfl rfl rfl rfl (by kernel_rfl) rfl (J4 x0.term 1 1073741824 _ hm25) ?_
 rintro e w ⟨rfl, hN⟩; refine ⟨_, rfl, ?_⟩; have hB := hN.pure; have hS := hS.join hN; clear hN
 refine Za rfl rfl rfl (Yt rfl) ?_
 refine Zb 2 rfl ?_
 refine Zt 36 rfl (fun hb => ?_) (fun hb => ?_)
 ·replace H := Zq H hb
  refine Zb 5 rfl ?_
  refine Zg ?_
  refine Zc hK19 ?_
  refine Zs rfl rfl ?_
  refine Vv ?_
  refine Xr ?_
  refine Jr ?_
  refine Zd (fun K hK26 => ?_)
  refine Zu ?_
  refine Zc hK26 ?_
  refine Zd (fun K hK27 => ?_)
  refine Zf ?_
  refine Zb 1 rfl ?_
  refine Zg ?_
  refine Zc hK27 ?_
  refine Zk ?_
  refine Yd ?_
  refine Zl rfl (RV.tmp rfl RV.nil) rfl ?_
  obtain rfl := Option.some.inj H
  replace hS := hS.cut 0
  exact ⟨rfl, hS⟩
 replace H := Zp H hb
 refine Za rfl rfl rfl (Ze fo_32_4 rfl) ?_
 refine Za rfl rfl rfl (Zh Zx rfl (RW.here _) hS Xt trivial Zeg) ?_
 obtain ⟨r28, hm29, H⟩ := bind_some H
 refine Zr rfl rfl rfl rfl (by kernel_rfl) rfl (J4 x0.cap 1 2 _ hm29) ?_
 rintro e w ⟨rfl, hN⟩; refine ⟨_, rfl, ?_⟩; have hB := hN.pure; have hS := hS.join hN; clear hN
 refine Za rfl rfl rfl (Yt rfl) ?_
 refine Zb 1 rfl ?_
 refine Zg ?_
 refine Zc hK19 ?_
 refine Z0 rfl (fun hb => ?_) (fun hb => ?_)
 ·replace H := Zq H hb
  refine Vv ?_
  refine Xr ?_
  refine Jr ?_
  refine Zd (fun K hK30 => ?_)
  refine Zu ?_
  refine Zc hK30 ?_
  refine Zd (fun K hK31 => ?_)
  refine Zf ?_
  refine Zb 1 rfl ?_
  refine Zg ?_
  refine Zc hK31 ?_
  refine Zk ?_
  refine Yd ?_
  refine Zl rfl (RV.tmp rfl RV.nil) rfl ?_
  obtain rfl := Option.some.inj H
  replace hS := hS.cut 0
  exact ⟨rfl, hS⟩
 replace H := Zp H hb
 refine Zu ?_
 refine Zc hK18 ?_
 refine Zd (fun K hK32 => ?_)
 refine Zd (fun K hK33 => ?_)
 refine Zf ?_
 refine Za rfl rfl rfl (Ze fo_32_5 rfl) ?_
 refine Za rfl rfl rfl (Zh Zx rfl (RW.here _) hS Xt trivial Zdw) ?_
 refine Za rfl rfl rfl (Ze fo_32_6 rfl) ?_
 refine Za rfl rfl rfl (Zh Zx rfl (RW.here _) hS Xt trivial sg6_1) ?_
 refine Za rfl rfl rfl (Ze fo_32_7 rfl) ?_
 refine Za rfl rfl rfl (Zh Zx rfl (RW.here _) hS Xt trivial sg7_1) ?_
 refine Vq (ps := [(0, .tmp 43), (1, .tmp 45), (2, .tmp 47)]) [.int .i64 x0.last, .int .i64 x0.lastTerm, .int .i64 x0.commit] Vd zc_3 rfl rfl rfl rfl rfl (by kernel_rfl) hS (fun b34 w hS hB => ?_)
 obtain ⟨r36, hm37, H⟩ := bind_some H
 refine Zr rfl rfl rfl rfl (by kernel_rfl) rfl (Zes ([x0.last, x0.lastTerm, x0.commit] : List Int) 3 0 1073741824 (some ⟨b34, 0, none⟩) 3 _ (SlI.of_rd ⟨Nat.le_refl 3, by decide⟩ (hS.box_rd hs0) (hS.box_blk hs0)) hm37) ?_
 rintro e w ⟨rfl, hN⟩; refine ⟨_, rfl, ?_⟩; have hB := hN.pure; have hS := hS.join hN; clear hN
 refine Za rfl rfl rfl (Yt rfl) ?_
 refine Zb 1 rfl ?_
 refine Zt 51 rfl (fun hb => ?_) (fun hb => ?_)
 ·replace H := Zq H hb
  refine Zb 4 rfl ?_
  refine Zg ?_
  refine Zc hK33 ?_
  refine Zs rfl rfl ?_
  refine Vv ?_
  refine Xr ?_
  refine Jr ?_
  refine Zd (fun K hK38 => ?_)
  refine Zu ?_
  refine Zc hK38 ?_
  refine Zd (fun K hK39 => ?_)
  refine Zf ?_
  refine Zb 1 rfl ?_
  refine Zg ?_
  refine Zc hK39 ?_
  refine Zk ?_
  refine Yd ?_
  refine Zl rfl (RV.tmp rfl RV.nil) rfl ?_
  obtain rfl := Option.some.inj H
  replace hS := hS.cut 0
  exact ⟨rfl, hS⟩
 replace H := Zp H hb
 refine Za rfl rfl rfl (Zj X7 rfl (RW.here _) hS Vh trivial Xj) ?_
 obtain ⟨r40, hm41, H⟩ := bind_some H
 refine Zr rfl rfl rfl rfl (by kernel_rfl) rfl (c_msg_entries x0 A0_ c0_ _ (SlI.of_rd s0_.k (hS.rd0 s0_.rd) (hS.blk0 s0_.blk)) hm41) ?_
 rintro e w ⟨rfl, hN⟩; refine ⟨_, rfl, ?_⟩; have hB := hN.pure; have hS := hS.join hN; clear hN
 refine Za rfl rfl rfl (Yt rfl) ?_
 refine Zb 1 rfl ?_
 refine Zg ?_
 refine Zc hK33 ?_
 refine Z0 rfl (fun hb => ?_) (fun hb => ?_)
 ·replace H := Zq H hb
  refine Vv ?_
  refine Xr ?_
  refine Jr ?_
  refine Zd (fun K hK42 => ?_)
  refine Zu ?_
  refine Zc hK42 ?_
  refine Zd (fun K hK43 => ?_)
  refine Zf ?_
  refine Zb 1 rfl ?_
  refine Zg ?_
  refine Zc hK43 ?_
  refine Zk ?_
  refine Yd ?_
  refine Zl rfl (RV.tmp rfl RV.nil) rfl ?_
  obtain rfl := Option.some.inj H
  replace hS := hS.cut 0
  exact ⟨rfl, hS⟩
 replace H := Zp H hb
 refine Zu ?_
 refine Zc hK32 ?_
 refine Zd (fun K hK44 => ?_)
 refine Zd (fun K hK45 => ?_)
 refine Zf ?_
 refine Za rfl rfl rfl (Ze Vf rfl) ?_
 refine Za rfl rfl rfl (Zh Zai rfl (RW.here _) hS Vh trivial Y2) ?_
 refine Za rfl rfl rfl (Xk rfl rfl) ?_
 refine Zb 1 rfl ?_
 refine Zt 59 rfl (fun hb => ?_) (fun hb => ?_)
 rotate_left
 ·replace H := Zp H hb
  refine Zb 10 rfl ?_
  refine Zg ?_
  refine Zc hK45 ?_
  refine Yq rfl rfl ?_
  refine Zu ?_
  refine Zc hK44 ?_
  refine Zd (fun K hK75 => ?_)
  refine Zd (fun K hK76 => ?_)
  refine Zf ?_
  refine Za rfl rfl rfl (Ze fo_32_8 rfl) ?_
  refine Za rfl rfl rfl (Zh sc_4 rfl (RW.here _) hS Vh trivial sg8_1) ?_
  refine Zb 1 rfl ?_
  refine Zt 72 rfl (fun hb => ?_) (fun hb => ?_)
  rotate_left
  ·replace H := Zp H hb
   refine Zb 9 rfl ?_
   refine Zg ?_
   refine Zc hK76 ?_
   refine Yq rfl rfl ?_
   refine Zu ?_
   refine Zc hK75 ?_
   refine Zd (fun K hK93 => ?_)
   refine Zd (fun K hK94 => ?_)
   refine Zf ?_
   refine Za rfl rfl rfl (Ze Vf rfl) ?_
   refine Za rfl rfl rfl (Zh Zai rfl (RW.here _) hS Vh trivial Y2) ?_
   refine Za rfl rfl rfl (Yy rfl rfl) ?_
   refine Zg ?_
   refine Zc hK94 ?_
   refine Z0 rfl (fun hb => ?_) (fun hb => ?_)
   rotate_left
   ·replace H := Zp H hb
    refine Zu ?_
    refine Zc hK93 ?_
    refine Zd (fun K hK98 => ?_)
    refine Zd (fun K hK99 => ?_)
    refine Zf ?_
    refine Za rfl rfl rfl (Ze Y3 rfl) ?_
    refine Za rfl rfl rfl (Zj Yn rfl (RW.here _) hS Vh trivial Ja) ?_
    refine Za rfl rfl rfl (Xx (cells := [.int .i64 0, .int .i64 0, .int .i64 0, .int .i64 0, .bool false]) rfl (by kernel_rfl)) ?_
    refine Za rfl rfl rfl (Jb (by kernel_rfl) rfl rfl (Jg _ _ _ _ _ _ _ _ _ _)) ?_
    refine Zb 1 rfl ?_
    refine Zg ?_
    refine Zc hK99 ?_
    refine Zk ?_
    refine Zi ?_
    refine Yd ?_
    refine Zl rfl (RV.tmp rfl RV.nil) rfl ?_
    obtain rfl := Option.some.inj H
    replace hS := hS.cut 0
    exact ⟨rfl, hS⟩
   replace H := Zq H hb
   refine Zd (fun K hK95 => ?_)
   refine Zf ?_
   refine Za rfl rfl rfl (Ze Y3 rfl) ?_
   refine Za rfl rfl rfl (Ze Z5 rfl) ?_
   refine Za rfl rfl rfl (Zh Zx rfl (RW.here _) hS Vh trivial V0) ?_
   refine Za rfl rfl rfl (Xa rfl rfl) ?_
   refine Zb 1 rfl ?_
   refine Zt 89 rfl (fun hb => ?_) (fun hb => ?_)
   rotate_left
   ·replace H := Zp H hb
    refine Zb 5 rfl ?_
    refine Zg ?_
    refine Zc hK95 ?_
    refine Zk ?_
    refine Zi ?_
    refine Yd ?_
    refine Zl rfl (RV.tmp rfl RV.nil) rfl ?_
    obtain rfl := Option.some.inj H
    replace hS := hS.cut 0
    exact ⟨rfl, hS⟩
   replace H := Zq H hb
   refine Za rfl rfl rfl (Ze Y3 rfl) ?_
   refine Za rfl rfl rfl (Zj Yn rfl (RW.here _) hS Vh trivial Ja) ?_
   obtain ⟨r96, hm97, H⟩ := bind_some H
   refine Zr rfl rfl rfl rfl (by kernel_rfl) rfl (Zbx x0.snap _ hm97) ?_
   rintro e w ⟨rfl, hN⟩; refine ⟨_, rfl, ?_⟩; have hB := hN.pure; have hS := hS.join hN; clear hN
   refine Zb 2 rfl ?_
   refine Zg ?_
   refine Zc hK95 ?_
   refine Zk ?_
   refine Zi ?_
   refine Yd ?_
   refine Zl rfl (RV.tmp rfl RV.nil) rfl ?_
   obtain rfl := Option.some.inj H
   replace hS := hS.cut 0
   exact ⟨rfl, hS⟩
  replace H := Zq H hb
  refine Za rfl rfl rfl (Ze Vf rfl) ?_
  refine Za rfl rfl rfl (Zh Zai rfl (RW.here _) hS Vh trivial Y2) ?_
  refine Za rfl rfl rfl (Xk rfl rfl) ?_
  refine Zb 2 rfl ?_
  refine Zt 77 rfl (fun hb => ?_) (fun hb => ?_)
  rotate_left
  ·replace H := Zp H hb
   refine Zb 4 rfl ?_
   refine Zg ?_
   refine Zc hK76 ?_
   refine Yq rfl rfl ?_
   refine Zu ?_
   refine Zc hK75 ?_
   refine Zd (fun K hK86 => ?_)
   refine Zd (fun K hK87 => ?_)
   refine Zf ?_
   refine Za rfl rfl rfl (Ze Vf rfl) ?_
   refine Za rfl rfl rfl (Zh Zai rfl (RW.here _) hS Vh trivial Y2) ?_
   refine Za rfl rfl rfl (Yy rfl rfl) ?_
   refine Zg ?_
   refine Zc hK87 ?_
   refine Z0 rfl (fun hb => ?_) (fun hb => ?_)
   rotate_left
   ·replace H := Zp H hb
    refine Zu ?_
    refine Zc hK86 ?_
    refine Zd (fun K hK91 => ?_)
    refine Zd (fun K hK92 => ?_)
    refine Zf ?_
    refine Za rfl rfl rfl (Ze Y3 rfl) ?_
    refine Za rfl rfl rfl (Zj Yn rfl (RW.here _) hS Vh trivial Ja) ?_
    refine Za rfl rfl rfl (Xx (cells := [.int .i64 0, .int .i64 0, .int .i64 0, .int .i64 0, .bool false]) rfl (by kernel_rfl)) ?_
    refine Za rfl rfl rfl (Jb (by kernel_rfl) rfl rfl (Jg _ _ _ _ _ _ _ _ _ _)) ?_
    refine Zb 1 rfl ?_
    refine Zg ?_
    refine Zc hK92 ?_
    refine Zk ?_
    refine Zi ?_
    refine Yd ?_
    refine Zl rfl (RV.tmp rfl RV.nil) rfl ?_
    obtain rfl := Option.some.inj H
    replace hS := hS.cut 0
    exact ⟨rfl, hS⟩
   replace H := Zq H hb
   refine Zd (fun K hK88 => ?_)
   refine Zf ?_
   refine Za rfl rfl rfl (Ze Y3 rfl) ?_
   refine Za rfl rfl rfl (Ze Z5 rfl) ?_
   refine Za rfl rfl rfl (Zh Zx rfl (RW.here _) hS Vh trivial V0) ?_
   refine Za rfl rfl rfl (Xa rfl rfl) ?_
   refine Zb 1 rfl ?_
   refine Zt 89 rfl (fun hb => ?_) (fun hb => ?_)
   rotate_left
   ·replace H := Zp H hb
    refine Zb 5 rfl ?_
    refine Zg ?_
    refine Zc hK88 ?_
    refine Zk ?_
    refine Zi ?_
    refine Yd ?_
    refine Zl rfl (RV.tmp rfl RV.nil) rfl ?_
    obtain rfl := Option.some.inj H
    replace hS := hS.cut 0
    exact ⟨rfl, hS⟩
   replace H := Zq H hb
   refine Za rfl rfl rfl (Ze Y3 rfl) ?_
   refine Za rfl rfl rfl (Zj Yn rfl (RW.here _) hS Vh trivial Ja) ?_
   obtain ⟨r89, hm90, H⟩ := bind_some H
   refine Zr rfl rfl rfl rfl (by kernel_rfl) rfl (Zbx x0.snap _ hm90) ?_
   rintro e w ⟨rfl, hN⟩; refine ⟨_, rfl, ?_⟩; have hB := hN.pure; have hS := hS.join hN; clear hN
   refine Zb 2 rfl ?_
   refine Zg ?_
   refine Zc hK88 ?_
   refine Zk ?_
   refine Zi ?_
   refine Yd ?_
   refine Zl rfl (RV.tmp rfl RV.nil) rfl ?_
   obtain rfl := Option.some.inj H
   replace hS := hS.cut 0
   exact ⟨rfl, hS⟩
  replace H := Zq H hb
  refine Za rfl rfl rfl (Ze Vf rfl) ?_
  refine Za rfl rfl rfl (Zh Zai rfl (RW.here _) hS Vh trivial Y2) ?_
  refine Za rfl rfl rfl (Xk rfl rfl) ?_
  refine Zb 1 rfl ?_
  refine Zg ?_
  refine Zc hK76 ?_
  refine Z0 rfl (fun hb => ?_) (fun hb => ?_)
  ·replace H := Zq H hb
   refine Vv ?_
   refine Xr ?_
   refine Jr ?_
   refine Zd (fun K hK77 => ?_)
   refine Zu ?_
   refine Zc hK77 ?_
   refine Zd (fun K hK78 => ?_)
   refine Zf ?_
   refine Zb 1 rfl ?_
   refine Zg ?_
   refine Zc hK78 ?_
   refine Zk ?_
   refine Yd ?_
   refine Zl rfl (RV.tmp rfl RV.nil) rfl ?_
   obtain rfl := Option.some.inj H
   replace hS := hS.cut 0
   exact ⟨rfl, hS⟩
  replace H := Zp H hb
  refine Zu ?_
  refine Zc hK75 ?_
  refine Zd (fun K hK79 => ?_)
  refine Zd (fun K hK80 => ?_)
  refine Zf ?_
  refine Za rfl rfl rfl (Ze Vf rfl) ?_
  refine Za rfl rfl rfl (Zh Zai rfl (RW.here _) hS Vh trivial Y2) ?_
  refine Za rfl rfl rfl (Yy rfl rfl) ?_
  refine Zg ?_
  refine Zc hK80 ?_
  refine Z0 rfl (fun hb => ?_) (fun hb => ?_)
  rotate_left
  ·replace H := Zp H hb
   refine Zu ?_
   refine Zc hK79 ?_
   refine Zd (fun K hK84 => ?_)
   refine Zd (fun K hK85 => ?_)
   refine Zf ?_
   refine Za rfl rfl rfl (Ze Y3 rfl) ?_
   refine Za rfl rfl rfl (Zj Yn rfl (RW.here _) hS Vh trivial Ja) ?_
   refine Za rfl rfl rfl (Xx (cells := [.int .i64 0, .int .i64 0, .int .i64 0, .int .i64 0, .bool false]) rfl (by kernel_rfl)) ?_
   refine Za rfl rfl rfl (Jb (by kernel_rfl) rfl rfl (Jg _ _ _ _ _ _ _ _ _ _)) ?_
   refine Zb 1 rfl ?_
   refine Zg ?_
   refine Zc hK85 ?_
   refine Zk ?_
   refine Zi ?_
   refine Yd ?_
   refine Zl rfl (RV.tmp rfl RV.nil) rfl ?_
   obtain rfl := Option.some.inj H
   replace hS := hS.cut 0
   exact ⟨rfl, hS⟩
  replace H := Zq H hb
  refine Zd (fun K hK81 => ?_)
  refine Zf ?_
  refine Za rfl rfl rfl (Ze Y3 rfl) ?_
  refine Za rfl rfl rfl (Ze Z5 rfl) ?_
  refine Za rfl rfl rfl (Zh Zx rfl (RW.here _) hS Vh trivial V0) ?_
  refine Za rfl rfl rfl (Xa rfl rfl) ?_
  refine Zb 1 rfl ?_
  refine Zt 89 rfl (fun hb => ?_) (fun hb => ?_)
  rotate_left
  ·replace H := Zp H hb
   refine Zb 5 rfl ?_
   refine Zg ?_
   refine Zc hK81 ?_
   refine Zk ?_
   refine Zi ?_
   refine Yd ?_
   refine Zl rfl (RV.tmp rfl RV.nil) rfl ?_
   obtain rfl := Option.some.inj H
   replace hS := hS.cut 0
   exact ⟨rfl, hS⟩
  replace H := Zq H hb
  refine Za rfl rfl rfl (Ze Y3 rfl) ?_
  refine Za rfl rfl rfl (Zj Yn rfl (RW.here _) hS Vh trivial Ja) ?_
  obtain ⟨r82, hm83, H⟩ := bind_some H
  refine Zr rfl rfl rfl rfl (by kernel_rfl) rfl (Zbx x0.snap _ hm83) ?_
  rintro e w ⟨rfl, hN⟩; refine ⟨_, rfl, ?_⟩; have hB := hN.pure; have hS := hS.join hN; clear hN
  refine Zb 2 rfl ?_
  refine Zg ?_
  refine Zc hK81 ?_
  refine Zk ?_
  refine Zi ?_
  refine Yd ?_
  refine Zl rfl (RV.tmp rfl RV.nil) rfl ?_
  obtain rfl := Option.some.inj H
  replace hS := hS.cut 0
  exact ⟨rfl, hS⟩
 replace H := Zq H hb
 refine Za rfl rfl rfl (Ze Zb5 rfl) ?_
 refine Za rfl rfl rfl (Zh V8 rfl (RW.here _) hS Vh trivial sg9_1) ?_
 refine Za rfl rfl rfl (Y1 Va rfl) ?_
 refine Za rfl rfl rfl (Xa rfl rfl) ?_
 refine Zb 1 rfl ?_
 refine Zt 64 rfl (fun hb => ?_) (fun hb => ?_)
 ·replace H := Zq H hb
  refine Zb 5 rfl ?_
  refine Zg ?_
  refine Zc hK45 ?_
  refine Zs rfl rfl ?_
  refine Vv ?_
  refine Xr ?_
  refine Jr ?_
  refine Zd (fun K hK46 => ?_)
  refine Zu ?_
  refine Zc hK46 ?_
  refine Zd (fun K hK47 => ?_)
  refine Zf ?_
  refine Zb 1 rfl ?_
  refine Zg ?_
  refine Zc hK47 ?_
  refine Zk ?_
  refine Yd ?_
  refine Zl rfl (RV.tmp rfl RV.nil) rfl ?_
  obtain rfl := Option.some.inj H
  replace hS := hS.cut 0
  exact ⟨rfl, hS⟩
 replace H := Zp H hb
 refine Za rfl rfl rfl (Ze fo_32_7 rfl) ?_
 refine Za rfl rfl rfl (Zh Zx rfl (RW.here _) hS Vh trivial sg7_1) ?_
 refine Za rfl rfl rfl (Xa rfl rfl) ?_
 refine Zb 2 rfl ?_
 refine Zg ?_
 refine Zc hK45 ?_
 refine Z0 rfl (fun hb => ?_) (fun hb => ?_)
 ·replace H := Zq H hb
  refine Vv ?_
  refine Xr ?_
  refine Jr ?_
  refine Zd (fun K hK48 => ?_)
  refine Zu ?_
  refine Zc hK48 ?_
  refine Zd (fun K hK49 => ?_)
  refine Zf ?_
  refine Zb 1 rfl ?_
  refine Zg ?_
  refine Zc hK49 ?_
  refine Zk ?_
  refine Yd ?_
  refine Zl rfl (RV.tmp rfl RV.nil) rfl ?_
  obtain rfl := Option.some.inj H
  replace hS := hS.cut 0
  exact ⟨rfl, hS⟩
 replace H := Zp H hb
 refine Zu ?_
 refine Zc hK44 ?_
 refine Zd (fun K hK50 => ?_)
 refine Zd (fun K hK51 => ?_)
 refine Zf ?_
 refine Za rfl rfl rfl (Ze fo_32_8 rfl) ?_
 refine Za rfl rfl rfl (Zh sc_4 rfl (RW.here _) hS Vh trivial sg8_1) ?_
 refine Zb 1 rfl ?_
 refine Zt 72 rfl (fun hb => ?_) (fun hb => ?_)
 rotate_left
 ·replace H := Zp H hb
  refine Zb 9 rfl ?_
  refine Zg ?_
  refine Zc hK51 ?_
  refine Yq rfl rfl ?_
  refine Zu ?_
  refine Zc hK50 ?_
  refine Zd (fun K hK68 => ?_)
  refine Zd (fun K hK69 => ?_)
  refine Zf ?_
  refine Za rfl rfl rfl (Ze Vf rfl) ?_
  refine Za rfl rfl rfl (Zh Zai rfl (RW.here _) hS Vh trivial Y2) ?_
  refine Za rfl rfl rfl (Yy rfl rfl) ?_
  refine Zg ?_
  refine Zc hK69 ?_
  refine Z0 rfl (fun hb => ?_) (fun hb => ?_)
  rotate_left
  ·replace H := Zp H hb
   refine Zu ?_
   refine Zc hK68 ?_
   refine Zd (fun K hK73 => ?_)
   refine Zd (fun K hK74 => ?_)
   refine Zf ?_
   refine Za rfl rfl rfl (Ze Y3 rfl) ?_
   refine Za rfl rfl rfl (Zj Yn rfl (RW.here _) hS Vh trivial Ja) ?_
   refine Za rfl rfl rfl (Xx (cells := [.int .i64 0, .int .i64 0, .int .i64 0, .int .i64 0, .bool false]) rfl (by kernel_rfl)) ?_
   refine Za rfl rfl rfl (Jb (by kernel_rfl) rfl rfl (Jg _ _ _ _ _ _ _ _ _ _)) ?_
   refine Zb 1 rfl ?_
   refine Zg ?_
   refine Zc hK74 ?_
   refine Zk ?_
   refine Zi ?_
   refine Yd ?_
   refine Zl rfl (RV.tmp rfl RV.nil) rfl ?_
   obtain rfl := Option.some.inj H
   replace hS := hS.cut 0
   exact ⟨rfl, hS⟩
  replace H := Zq H hb
  refine Zd (fun K hK70 => ?_)
  refine Zf ?_
  refine Za rfl rfl rfl (Ze Y3 rfl) ?_
  refine Za rfl rfl rfl (Ze Z5 rfl) ?_
  refine Za rfl rfl rfl (Zh Zx rfl (RW.here _) hS Vh trivial V0) ?_
  refine Za rfl rfl rfl (Xa rfl rfl) ?_
  refine Zb 1 rfl ?_
  refine Zt 89 rfl (fun hb => ?_) (fun hb => ?_)
  rotate_left
  ·replace H := Zp H hb
   refine Zb 5 rfl ?_
   refine Zg ?_
   refine Zc hK70 ?_
   refine Zk ?_
   refine Zi ?_
   refine Yd ?_
   refine Zl rfl (RV.tmp rfl RV.nil) rfl ?_
   obtain rfl := Option.some.inj H
   replace hS := hS.cut 0
   exact ⟨rfl, hS⟩
  replace H := Zq H hb
  refine Za rfl rfl rfl (Ze Y3 rfl) ?_
  refine Za rfl rfl rfl (Zj Yn rfl (RW.here _) hS Vh trivial Ja) ?_
  obtain ⟨r71, hm72, H⟩ := bind_some H
  refine Zr rfl rfl rfl rfl (by kernel_rfl) rfl (Zbx x0.snap _ hm72) ?_
  rintro e w ⟨rfl, hN⟩; refine ⟨_, rfl, ?_⟩; have hB := hN.pure; have hS := hS.join hN; clear hN
  refine Zb 2 rfl ?_
  refine Zg ?_
  refine Zc hK70 ?_
  refine Zk ?_
  refine Zi ?_
  refine Yd ?_
  refine Zl rfl (RV.tmp rfl RV.nil) rfl ?_
  obtain rfl := Option.some.inj H
  replace hS := hS.cut 0
  exact ⟨rfl, hS⟩
 replace H := Zq H hb
 refine Za rfl rfl rfl (Ze Vf rfl) ?_
 refine Za rfl rfl rfl (Zh Zai rfl (RW.here _) hS Vh trivial Y2) ?_
 refine Za rfl rfl rfl (Xk rfl rfl) ?_
 refine Zb 2 rfl ?_
 refine Zt 77 rfl (fun hb => ?_) (fun hb => ?_)
 rotate_left
 ·replace H := Zp H hb
  refine Zb 4 rfl ?_
  refine Zg ?_
  refine Zc hK51 ?_
  refine Yq rfl rfl ?_
  refine Zu ?_
  refine Zc hK50 ?_
  refine Zd (fun K hK61 => ?_)
  refine Zd (fun K hK62 => ?_)
  refine Zf ?_
  refine Za rfl rfl rfl (Ze Vf rfl) ?_
  refine Za rfl rfl rfl (Zh Zai rfl (RW.here _) hS Vh trivial Y2) ?_
  refine Za rfl rfl rfl (Yy rfl rfl) ?_
  refine Zg ?_
  refine Zc hK62 ?_
  refine Z0 rfl (fun hb => ?_) (fun hb => ?_)
  rotate_left
  ·replace H := Zp H hb
   refine Zu ?_
   refine Zc hK61 ?_
   refine Zd (fun K hK66 => ?_)
   refine Zd (fun K hK67 => ?_)
   refine Zf ?_
   refine Za rfl rfl rfl (Ze Y3 rfl) ?_
   refine Za rfl rfl rfl (Zj Yn rfl (RW.here _) hS Vh trivial Ja) ?_
   refine Za rfl rfl rfl (Xx (cells := [.int .i64 0, .int .i64 0, .int .i64 0, .int .i64 0, .bool false]) rfl (by kernel_rfl)) ?_
   refine Za rfl rfl rfl (Jb (by kernel_rfl) rfl rfl (Jg _ _ _ _ _ _ _ _ _ _)) ?_
   refine Zb 1 rfl ?_
   refine Zg ?_
   refine Zc hK67 ?_
   refine Zk ?_
   refine Zi ?_
   refine Yd ?_
   refine Zl rfl (RV.tmp rfl RV.nil) rfl ?_
   obtain rfl := Option.some.inj H
   replace hS := hS.cut 0
   exact ⟨rfl, hS⟩
  replace H := Zq H hb
  refine Zd (fun K hK63 => ?_)
  refine Zf ?_
  refine Za rfl rfl rfl (Ze Y3 rfl) ?_
  refine Za rfl rfl rfl (Ze Z5 rfl) ?_
  refine Za rfl rfl rfl (Zh Zx rfl (RW.here _) hS Vh trivial V0) ?_
  refine Za rfl rfl rfl (Xa rfl rfl) ?_
  refine Zb 1 rfl ?_
  refine Zt 89 rfl (fun hb => ?_) (fun hb => ?_)
  rotate_left
  ·replace H := Zp H hb
   refine Zb 5 rfl ?_
   refine Zg ?_
   refine Zc hK63 ?_
   refine Zk ?_
   refine Zi ?_
   refine Yd ?_
   refine Zl rfl (RV.tmp rfl RV.nil) rfl ?_
   obtain rfl := Option.some.inj H
   replace hS := hS.cut 0
   exact ⟨rfl, hS⟩
  replace H := Zq H hb
  refine Za rfl rfl rfl (Ze Y3 rfl) ?_
  refine Za rfl rfl rfl (Zj Yn rfl (RW.here _) hS Vh trivial Ja) ?_
  obtain ⟨r64, hm65, H⟩ := bind_some H
  refine Zr rfl rfl rfl rfl (by kernel_rfl) rfl (Zbx x0.snap _ hm65) ?_
  rintro e w ⟨rfl, hN⟩; refine ⟨_, rfl, ?_⟩; have hB := hN.pure; have hS := hS.join hN; clear hN
  refine Zb 2 rfl ?_
  refine Zg ?_
  refine Zc hK63 ?_
  refine Zk ?_
  refine Zi ?_
  refine Yd ?_
  refine Zl rfl (RV.tmp rfl RV.nil) rfl ?_
  obtain rfl := Option.some.inj H
  replace hS := hS.cut 0
  exact ⟨rfl, hS⟩
 replace H := Zq H hb
 refine Za rfl rfl rfl (Ze Vf rfl) ?_
 refine Za rfl rfl rfl (Zh Zai rfl (RW.here _) hS Vh trivial Y2) ?_
 refine Za rfl rfl rfl (Xk rfl rfl) ?_
 refine Zb 1 rfl ?_
 refine Zg ?_
 refine Zc hK51 ?_
 refine Z0 rfl (fun hb => ?_) (fun hb => ?_)
 ·replace H := Zq H hb
  refine Vv ?_
  refine Xr ?_
  refine Jr ?_
  refine Zd (fun K hK52 => ?_)
  refine Zu ?_
  refine Zc hK52 ?_
  refine Zd (fun K hK53 => ?_)
  refine Zf ?_
  refine Zb 1 rfl ?_
  refine Zg ?_
  refine Zc hK53 ?_
  refine Zk ?_
  refine Yd ?_
  refine Zl rfl (RV.tmp rfl RV.nil) rfl ?_
  obtain rfl := Option.some.inj H
  replace hS := hS.cut 0
  exact ⟨rfl, hS⟩
 replace H := Zp H hb
 refine Zu ?_
 refine Zc hK50 ?_
 refine Zd (fun K hK54 => ?_)
 refine Zd (fun K hK55 => ?_)
 refine Zf ?_
 refine Za rfl rfl rfl (Ze Vf rfl) ?_
 refine Za rfl rfl rfl (Zh Zai rfl (RW.here _) hS Vh trivial Y2) ?_
 refine Za rfl rfl rfl (Yy rfl rfl) ?_
 refine Zg ?_
 refine Zc hK55 ?_
 refine Z0 rfl (fun hb => ?_) (fun hb => ?_)
 rotate_left
 ·replace H := Zp H hb
  refine Zu ?_
  refine Zc hK54 ?_
  refine Zd (fun K hK59 => ?_)
  refine Zd (fun K hK60 => ?_)
  refine Zf ?_
  refine Za rfl rfl rfl (Ze Y3 rfl) ?_
  refine Za rfl rfl rfl (Zj Yn rfl (RW.here _) hS Vh trivial Ja) ?_
  refine Za rfl rfl rfl (Xx (cells := [.int .i64 0, .int .i64 0, .int .i64 0, .int .i64 0, .bool false]) rfl (by kernel_rfl)) ?_
  refine Za rfl rfl rfl (Jb (by kernel_rfl) rfl rfl (Jg _ _ _ _ _ _ _ _ _ _)) ?_
  refine Zb 1 rfl ?_
  refine Zg ?_
  refine Zc hK60 ?_
  refine Zk ?_
  refine Zi ?_
  refine Yd ?_
  refine Zl rfl (RV.tmp rfl RV.nil) rfl ?_
  obtain rfl := Option.some.inj H
  replace hS := hS.cut 0
  exact ⟨rfl, hS⟩
 replace H := Zq H hb
 refine Zd (fun K hK56 => ?_)
 refine Zf ?_
 refine Za rfl rfl rfl (Ze Y3 rfl) ?_
 refine Za rfl rfl rfl (Ze Z5 rfl) ?_
 refine Za rfl rfl rfl (Zh Zx rfl (RW.here _) hS Vh trivial V0) ?_
 refine Za rfl rfl rfl (Xa rfl rfl) ?_
 refine Zb 1 rfl ?_
 refine Zt 89 rfl (fun hb => ?_) (fun hb => ?_)
 rotate_left
 ·replace H := Zp H hb
  refine Zb 5 rfl ?_
  refine Zg ?_
  refine Zc hK56 ?_
  refine Zk ?_
  refine Zi ?_
  refine Yd ?_
  refine Zl rfl (RV.tmp rfl RV.nil) rfl ?_
  obtain rfl := Option.some.inj H
  replace hS := hS.cut 0
  exact ⟨rfl, hS⟩
 replace H := Zq H hb
 refine Za rfl rfl rfl (Ze Y3 rfl) ?_
 refine Za rfl rfl rfl (Zj Yn rfl (RW.here _) hS Vh trivial Ja) ?_
 obtain ⟨r57, hm58, H⟩ := bind_some H
 refine Zr rfl rfl rfl rfl (by kernel_rfl) rfl (Zbx x0.snap _ hm58) ?_
 rintro e w ⟨rfl, hN⟩; refine ⟨_, rfl, ?_⟩; have hB := hN.pure; have hS := hS.join hN; clear hN
 refine Zb 2 rfl ?_
 refine Zg ?_
 refine Zc hK56 ?_
 refine Zk ?_
 refine Zi ?_
 refine Yd ?_
 refine Zl rfl (RV.tmp rfl RV.nil) rfl ?_
 obtain rfl := Option.some.inj H
 replace hS := hS.cut 0
 exact ⟨rfl, hS⟩
theorem c_advert_To (x0 : Co) (x1 : Ms) (A0_ : Option Addr) (c0_ : Nat) (A1_ : Option Addr) (c1_ : Nat) (A2_ : Option Addr) (c2_ : Nat) (A3_ : Option Addr) (c3_ : Nat) (A4_ : Option Addr) (c4_ : Nat) (A5_ : Option Addr) (c5_ : Nat) (w0 : World) (s0_ : SlI w0 Jv A0_ c0_ x0.tuple.log) (s1_ : SlI w0 enO A1_ c1_ x0.votes) (s2_ : SlI w0 Vu A2_ c2_ x0.next) (s3_ : SlI w0 Vu A3_ c3_ x0.mtch) (s4_ : SlI w0 Vu A4_ c4_ x0.caps) (s5_ : SlI w0 Jv A5_ c5_ x1.entries) {r : Bool} (H : Zc5 x0 x1 = some r) : Calls Try.prog 27 #[.agg #[.int .i64 x0.id, .int .i64 x0.n, .int .u8 x0.role, .int .i64 x0.binary, .int .i64 x0.tuple.snap.index, .int .i64 x0.tuple.snap.term, .int .i64 x0.tuple.snap.sum, .int .i64 x0.tuple.snap.level, .bool x0.tuple.snap.final, .slice A0_ x0.tuple.log.length c0_, .int .i64 x0.tuple.term, .int .i64 x0.tuple.vote, .int .i64 x0.commit, .int .i64 x0.applied.index, .int .i64 x0.applied.term, .int .i64 x0.applied.sum, .int .i64 x0.applied.level, .bool x0.applied.final, .slice A1_ x0.votes.length c1_, .slice A2_ x0.next.length c2_, .slice A3_ x0.mtch.length c3_, .slice A4_ x0.caps.length c4_], .agg #[.int .u8 x1.kind, .int .i64 x1.frm, .int .i64 x1.dst, .int .i64 x1.term, .int .i64 x1.cap, .int .i64 x1.last, .int .i64 x1.lastTerm, .int .i64 x1.commit, .bool x1.okk, .slice A5_ x1.entries.length c5_, .int .i64 x1.snap.index, .int .i64 x1.snap.term, .int .i64 x1.snap.sum, .int .i64 x1.snap.level, .bool x1.snap.final]] w0 fun e w' => e = .returned (.bool r) ∧ St0 All w0 w' [] := by
 unfold Zc5 at H
 refine Yw Try.func27 rfl Try.ntmps27 rfl ?_
 have hS := St0.start All w0
 refine Zd (fun K hK1 => ?_)
 refine Zf ?_
 refine Z9 rfl rfl rfl CellsOf.agg hS (fun b2 w hS hB => ?_)
 refine Z9 rfl rfl rfl CellsOf.agg hS (fun b4 w hS hB => ?_)
 refine Zb 1 rfl ?_
 refine Zg ?_
 refine Zc hK1 ?_
 refine wpC_scope1 0 rfl ?_
 refine Zd (fun K hK6 => ?_)
 refine Zd (fun K hK7 => ?_)
 refine Zf ?_
 refine Za rfl rfl rfl (Ze Zdp rfl) ?_
 refine Za rfl rfl rfl (Zh Zx rfl (RW.here _) hS hs0 trivial J9) ?_
 refine Za rfl rfl rfl (Ze Ji rfl) ?_
 refine Za rfl rfl rfl (Zh Zx rfl (RW.here _) hS Xt trivial Y2) ?_
 refine Za rfl rfl rfl (Xk rfl rfl) ?_
 refine Zb 1 rfl ?_
 refine Zt 10 rfl (fun hb => ?_) (fun hb => ?_)
 ·replace H := Zq H hb
  refine Zb 4 rfl ?_
  refine Zg ?_
  refine Zc hK7 ?_
  refine Zs rfl rfl ?_
  refine Vv ?_
  refine Xr ?_
  refine Jr ?_
  refine Zd (fun K hK8 => ?_)
  refine Zu ?_
  refine Zc hK8 ?_
  refine Zd (fun K hK9 => ?_)
  refine Zf ?_
  refine Zb 2 rfl ?_
  refine Zg ?_
  refine Zc hK9 ?_
  refine Zk ?_
  refine Yd ?_
  refine Zl rfl (RV.tmp rfl RV.nil) rfl ?_
  obtain rfl := Option.some.inj H
  replace hS := hS.cut 0
  exact ⟨rfl, hS⟩
 replace H := Zp H hb
 refine Za rfl rfl rfl (Zj Yp rfl (RW.here _) hS Xt trivial Yb) ?_
 obtain ⟨r10, hm11, H⟩ := bind_some H
 refine Zr rfl rfl rfl rfl (by kernel_rfl) rfl (Zc3 x0 A0_ c0_ A1_ c1_ A2_ c2_ A3_ c3_ A4_ c4_ _ (SlI.of_rd s0_.k (hS.rd0 s0_.rd) (hS.blk0 s0_.blk)) (SlI.of_rd s1_.k (hS.rd0 s1_.rd) (hS.blk0 s1_.blk)) (SlI.of_rd s2_.k (hS.rd0 s2_.rd) (hS.blk0 s2_.blk)) (SlI.of_rd s3_.k (hS.rd0 s3_.rd) (hS.blk0 s3_.blk)) (SlI.of_rd s4_.k (hS.rd0 s4_.rd) (hS.blk0 s4_.blk)) hm11) ?_
 rintro e w ⟨rfl, hN⟩; refine ⟨_, rfl, ?_⟩; have hB := hN.pure; have hS := hS.join hN; clear hN
 refine Za rfl rfl rfl (Yt rfl) ?_
 refine Zb 1 rfl ?_
 refine Zg ?_
 refine Zc hK7 ?_
 refine Z0 rfl (fun hb => ?_) (fun hb => ?_)
 ·replace H := Zq H hb
  refine Vv ?_
  refine Xr ?_
  refine Jr ?_
  refine Zd (fun K hK12 => ?_)
  refine Zu ?_
  refine Zc hK12 ?_
  refine Zd (fun K hK13 => ?_)
  refine Zf ?_
  refine Zb 2 rfl ?_
  refine Zg ?_
  refine Zc hK13 ?_
  refine Zk ?_
  refine Yd ?_
  refine Zl rfl (RV.tmp rfl RV.nil) rfl ?_
  obtain rfl := Option.some.inj H
  replace hS := hS.cut 0
  exact ⟨rfl, hS⟩
 replace H := Zp H hb
 refine Zu ?_
 refine Zc hK6 ?_
 refine Zd (fun K hK14 => ?_)
 refine Zf ?_
 refine Za rfl rfl rfl (Zj X7 rfl (RW.here _) hS hs0 trivial Xj) ?_
 refine Za rfl rfl rfl (Ze Vy rfl) ?_
 refine Za rfl rfl rfl (Zh Zx rfl (RW.here _) hS Xt trivial Vn) ?_
 obtain ⟨r15, hm16, H⟩ := bind_some H
 refine Zr rfl rfl rfl rfl (by kernel_rfl) rfl (c_msg_Fine x1 x0.n A5_ c5_ _ (SlI.of_rd s5_.k (hS.rd0 s5_.rd) (hS.blk0 s5_.blk)) hm16) ?_
 rintro e w ⟨rfl, hN⟩; refine ⟨_, rfl, ?_⟩; have hB := hN.pure; have hS := hS.join hN; clear hN
 refine Zb 1 rfl ?_
 refine Zg ?_
 refine Zc hK14 ?_
 refine Zd (fun K hK17 => ?_)
 refine Zc2 ?_
 refine Zc hK17 ?_
 refine Zd (fun K hK18 => ?_)
 refine Zf ?_
 refine Zb 2 rfl ?_
 refine Zg ?_
 refine Zc hK18 ?_
 refine Zk ?_
 refine Yd ?_
 refine Zl rfl (RV.tmp rfl RV.nil) rfl ?_
 obtain rfl := Option.some.inj H
 replace hS := hS.cut 0
 exact ⟨rfl, hS⟩
theorem c_elect_fits (x0 : Co) (x1 : Ms) (A0_ : Option Addr) (c0_ : Nat) (A1_ : Option Addr) (c1_ : Nat) (A2_ : Option Addr) (c2_ : Nat) (A3_ : Option Addr) (c3_ : Nat) (A4_ : Option Addr) (c4_ : Nat) (A5_ : Option Addr) (c5_ : Nat) (w0 : World) (s0_ : SlI w0 Jv A0_ c0_ x0.tuple.log) (s1_ : SlI w0 enO A1_ c1_ x0.votes) (s2_ : SlI w0 Vu A2_ c2_ x0.next) (s3_ : SlI w0 Vu A3_ c3_ x0.mtch) (s4_ : SlI w0 Vu A4_ c4_ x0.caps) (s5_ : SlI w0 Jv A5_ c5_ x1.entries) {r : Bool} (H : Zdo x0 x1 = some r) : Calls Try.prog 54 #[.agg #[.int .i64 x0.id, .int .i64 x0.n, .int .u8 x0.role, .int .i64 x0.binary, .int .i64 x0.tuple.snap.index, .int .i64 x0.tuple.snap.term, .int .i64 x0.tuple.snap.sum, .int .i64 x0.tuple.snap.level, .bool x0.tuple.snap.final, .slice A0_ x0.tuple.log.length c0_, .int .i64 x0.tuple.term, .int .i64 x0.tuple.vote, .int .i64 x0.commit, .int .i64 x0.applied.index, .int .i64 x0.applied.term, .int .i64 x0.applied.sum, .int .i64 x0.applied.level, .bool x0.applied.final, .slice A1_ x0.votes.length c1_, .slice A2_ x0.next.length c2_, .slice A3_ x0.mtch.length c3_, .slice A4_ x0.caps.length c4_], .agg #[.int .u8 x1.kind, .int .i64 x1.frm, .int .i64 x1.dst, .int .i64 x1.term, .int .i64 x1.cap, .int .i64 x1.last, .int .i64 x1.lastTerm, .int .i64 x1.commit, .bool x1.okk, .slice A5_ x1.entries.length c5_, .int .i64 x1.snap.index, .int .i64 x1.snap.term, .int .i64 x1.snap.sum, .int .i64 x1.snap.level, .bool x1.snap.final]] w0 fun e w' => e = .returned (.bool r) ∧ St0 All w0 w' [] := by
 unfold Zdo at H
 refine Yw Try.func54 rfl Try.ntmps54 rfl ?_
 have hS := St0.start All w0
 refine Zd (fun K hK1 => ?_)
 refine Zf ?_
 refine Z9 rfl rfl rfl CellsOf.agg hS (fun b2 w hS hB => ?_)
 refine Z9 rfl rfl rfl CellsOf.agg hS (fun b4 w hS hB => ?_)
 refine Zb 1 rfl ?_
 refine Zg ?_
 refine Zc hK1 ?_
 refine Zd (fun K hK6 => ?_)
 refine Zf ?_
 refine Za rfl rfl rfl (Ze Zdp rfl) ?_
 refine Za rfl rfl rfl (Zh Zx rfl (RW.here _) hS hs0 trivial J9) ?_
 refine Za rfl rfl rfl (Ze Ji rfl) ?_
 refine Za rfl rfl rfl (Zh Zx rfl (RW.here _) hS Xt trivial Y2) ?_
 refine Za rfl rfl rfl (Yy rfl rfl) ?_
 refine Zb 1 rfl ?_
 refine Zt 10 rfl (fun hb => ?_) (fun hb => ?_)
 rotate_left
 ·replace H := Zp H hb
  refine Zb 10 rfl ?_
  refine Zg ?_
  refine Zc hK6 ?_
  refine Zk ?_
  refine Zl rfl (RV.tmp rfl RV.nil) rfl ?_
  obtain rfl := Option.some.inj H
  replace hS := hS.cut 0
  exact ⟨rfl, hS⟩
 replace H := Zq H hb
 refine Za rfl rfl rfl (Zj X7 rfl (RW.here _) hS hs0 trivial Xj) ?_
 refine Za rfl rfl rfl (Ze Vy rfl) ?_
 refine Za rfl rfl rfl (Zh Zx rfl (RW.here _) hS Xt trivial Vn) ?_
 obtain ⟨r7, hm8, H⟩ := bind_some H
 refine Zr rfl rfl rfl rfl (by kernel_rfl) rfl (c_msg_Fine x1 x0.n A5_ c5_ _ (SlI.of_rd s5_.k (hS.rd0 s5_.rd) (hS.blk0 s5_.blk)) hm8) ?_
 rintro e w ⟨rfl, hN⟩; refine ⟨_, rfl, ?_⟩; have hB := hN.pure; have hS := hS.join hN; clear hN
 refine Zb 2 rfl ?_
 refine Zt 16 rfl (fun hb => ?_) (fun hb => ?_)
 rotate_left
 ·replace H := Zp H hb
  refine Zb 4 rfl ?_
  refine Zg ?_
  refine Zc hK6 ?_
  refine Zk ?_
  refine Zl rfl (RV.tmp rfl RV.nil) rfl ?_
  obtain rfl := Option.some.inj H
  replace hS := hS.cut 0
  exact ⟨rfl, hS⟩
 replace H := Zq H hb
 refine Za rfl rfl rfl (Zj Yp rfl (RW.here _) hS Xt trivial Yb) ?_
 obtain ⟨r9, hm10, H⟩ := bind_some H
 refine Zr rfl rfl rfl rfl (by kernel_rfl) rfl (Zc3 x0 A0_ c0_ A1_ c1_ A2_ c2_ A3_ c3_ A4_ c4_ _ (SlI.of_rd s0_.k (hS.rd0 s0_.rd) (hS.blk0 s0_.blk)) (SlI.of_rd s1_.k (hS.rd0 s1_.rd) (hS.blk0 s1_.blk)) (SlI.of_rd s2_.k (hS.rd0 s2_.rd) (hS.blk0 s2_.blk)) (SlI.of_rd s3_.k (hS.rd0 s3_.rd) (hS.blk0 s3_.blk)) (SlI.of_rd s4_.k (hS.rd0 s4_.rd) (hS.blk0 s4_.blk)) hm10) ?_
 rintro e w ⟨rfl, hN⟩; refine ⟨_, rfl, ?_⟩; have hB := hN.pure; have hS := hS.join hN; clear hN
 refine Zb 2 rfl ?_
 refine Zg ?_
 refine Zc hK6 ?_
 refine Zk ?_
 refine Zl rfl (RV.tmp rfl RV.nil) rfl ?_
 obtain rfl := Option.some.inj H
 replace hS := hS.cut 0
 exact ⟨rfl, hS⟩
theorem c_advert_Hear (x0 : Co) (x1 : Ms) (A0_ : Option Addr) (c0_ : Nat) (A1_ : Option Addr) (c1_ : Nat) (A2_ : Option Addr) (c2_ : Nat) (A3_ : Option Addr) (c3_ : Nat) (A4_ : Option Addr) (c4_ : Nat) (A5_ : Option Addr) (c5_ : Nat) (w0 : World) (s0_ : SlI w0 Jv A0_ c0_ x0.tuple.log) (s1_ : SlI w0 enO A1_ c1_ x0.votes) (s2_ : SlI w0 Vu A2_ c2_ x0.next) (s3_ : SlI w0 Vu A3_ c3_ x0.mtch) (s4_ : SlI w0 Vu A4_ c4_ x0.caps) (s5_ : SlI w0 Jv A5_ c5_ x1.entries) {r : Co} (H : Zci x0 x1 = some r) : Calls Try.prog 55 #[.agg #[.int .i64 x0.id, .int .i64 x0.n, .int .u8 x0.role, .int .i64 x0.binary, .int .i64 x0.tuple.snap.index, .int .i64 x0.tuple.snap.term, .int .i64 x0.tuple.snap.sum, .int .i64 x0.tuple.snap.level, .bool x0.tuple.snap.final, .slice A0_ x0.tuple.log.length c0_, .int .i64 x0.tuple.term, .int .i64 x0.tuple.vote, .int .i64 x0.commit, .int .i64 x0.applied.index, .int .i64 x0.applied.term, .int .i64 x0.applied.sum, .int .i64 x0.applied.level, .bool x0.applied.final, .slice A1_ x0.votes.length c1_, .slice A2_ x0.next.length c2_, .slice A3_ x0.mtch.length c3_, .slice A4_ x0.caps.length c4_], .agg #[.int .u8 x1.kind, .int .i64 x1.frm, .int .i64 x1.dst, .int .i64 x1.term, .int .i64 x1.cap, .int .i64 x1.last, .int .i64 x1.lastTerm, .int .i64 x1.commit, .bool x1.okk, .slice A5_ x1.entries.length c5_, .int .i64 x1.snap.index, .int .i64 x1.snap.term, .int .i64 x1.snap.sum, .int .i64 x1.snap.level, .bool x1.snap.final]] w0 fun e w' => ∃ (A0 : Option Addr) (c0 : Nat) (A1 : Option Addr) (c1 : Nat) (A2 : Option Addr) (c2 : Nat) (A3 : Option Addr) (c3 : Nat) (A4 : Option Addr) (c4 : Nat), e = .returned (.agg #[.int .i64 r.id, .int .i64 r.n, .int .u8 r.role, .int .i64 r.binary, .int .i64 r.tuple.snap.index, .int .i64 r.tuple.snap.term, .int .i64 r.tuple.snap.sum, .int .i64 r.tuple.snap.level, .bool r.tuple.snap.final, .slice A0 r.tuple.log.length c0, .int .i64 r.tuple.term, .int .i64 r.tuple.vote, .int .i64 r.commit, .int .i64 r.applied.index, .int .i64 r.applied.term, .int .i64 r.applied.sum, .int .i64 r.applied.level, .bool r.applied.final, .slice A1 r.votes.length c1, .slice A2 r.next.length c2, .slice A3 r.mtch.length c3, .slice A4 r.caps.length c4]) ∧ (r.tuple.log.length ≤ c0 ∧ c0 ≤ maxLen) ∧ (r.votes.length ≤ c1 ∧ c1 ≤ maxLen) ∧ (r.next.length ≤ c2 ∧ c2 ≤ maxLen) ∧ (r.mtch.length ≤ c3 ∧ c3 ≤ maxLen) ∧ (r.caps.length ≤ c4 ∧ c4 ≤ maxLen) ∧ St0 All w0 w' [.row (.slice A0 r.tuple.log.length c0) 46 3 r.tuple.log.length (Ym Jv r.tuple.log), .row (.slice A1 r.votes.length c1) 4 1 r.votes.length (Ym enO r.votes), .row (.slice A2 r.next.length c2) 3 1 r.next.length (Ym Vu r.next), .row (.slice A3 r.mtch.length c3) 3 1 r.mtch.length (Ym Vu r.mtch), .row (.slice A4 r.caps.length c4) 3 1 r.caps.length (Ym Vu r.caps)] := by
 unfold Zci at H
 refine Yw Try.func55 rfl Try.ntmps55 rfl ?_
 have hS := St0.start All w0
 refine Zd (fun K hK1 => ?_)
 refine Zf ?_
 refine Z9 rfl rfl rfl CellsOf.agg hS (fun b2 w hS hB => ?_)
 refine Z9 rfl rfl rfl CellsOf.agg hS (fun b4 w hS hB => ?_)
 refine Z6 rfl rfl Zc0 hS (fun b6 w hS hB => ?_)
 refine Zg ?_
 refine Zc hK1 ?_
 refine Zd (fun K hK8 => ?_)
 refine Yo 7 [6] (fun i b => (i = 6 → b ≠ b6)) ⟨by kernel_rfl, by kernel_rfl⟩ hS (fun w hS hB => ?_)
 refine Zm [true, true, true, false, true] (by decide +kernel) (by repeat (first | exact PF.body | exact PF.round | apply PF.then | apply PF.inBlock | apply PF.jump)) ?_
 refine LtK.put rfl rfl rfl (Zj Yp rfl (RW.below _) hS Vh trivial Yb) ?_
 refine LtK.put rfl rfl rfl (Zj Yp rfl (RW.below _) hS Vh trivial Yb) ?_
 refine LtK.put rfl rfl rfl (Zj X7 rfl (RW.below _) hS Xt trivial Xj) ?_
 refine LtK.put rfl rfl rfl (X9 rfl rfl) ?_
 refine LtK.nil ?_
 refine Z7 [false, false, false, true] 3 ⟨by decide, by kernel_rfl, by kernel_rfl⟩ rfl rfl ?_
 try dsimp only [Z2]
 obtain ⟨r9, hm10, H⟩ := bind_some H
 refine Zr rfl rfl rfl rfl (by kernel_rfl) rfl (c_advert_To x0 x1 A0_ c0_ A1_ c1_ A2_ c2_ A3_ c3_ A4_ c4_ A5_ c5_ _ (SlI.of_rd s0_.k (hS.rd0 s0_.rd) (hS.blk0 s0_.blk)) (SlI.of_rd s1_.k (hS.rd0 s1_.rd) (hS.blk0 s1_.blk)) (SlI.of_rd s2_.k (hS.rd0 s2_.rd) (hS.blk0 s2_.blk)) (SlI.of_rd s3_.k (hS.rd0 s3_.rd) (hS.blk0 s3_.blk)) (SlI.of_rd s4_.k (hS.rd0 s4_.rd) (hS.blk0 s4_.blk)) (SlI.of_rd s5_.k (hS.rd0 s5_.rd) (hS.blk0 s5_.blk)) hm10) ?_
 rintro e w ⟨rfl, hN⟩; refine ⟨_, rfl, ?_⟩; have hB := hN.pure; have hS := hS.join hN; clear hN
 refine Zg ?_
 refine Yf hB ?_
 refine Z7 [false, false, false, false, false, true] 5 ⟨by decide, by kernel_rfl, by kernel_rfl⟩ rfl rfl ?_
 try dsimp only [Z2]
 have hO11 := hS
 rename World => wS12
 have hS := St0.start All wS12
 refine Zbi rfl rfl rfl rfl (by kernel_rfl) rfl ?_
 show Calls _ _ #[_, _, _] _ _
 refine Zb1 Try.func82 rfl Try.ntmps82 rfl ?_
 refine Zd (fun K hK13 => ?_)
 refine Zf ?_
 refine Z9 rfl rfl rfl CellsOf.agg hS (fun b14 w hS hB => ?_)
 refine Z6 rfl rfl Zc0 hS (fun b16 w hS hB => ?_)
 refine Zg ?_
 refine Zc hK13 ?_
 refine Zd (fun K hK18 => ?_)
 refine Zf ?_
 refine Za rfl rfl rfl (Zj Yp rfl (RW.here _) (hO11.join hS) Xt trivial Yb) ?_
 obtain ⟨r19, hm20, H⟩ := bind_some H
 refine Zr rfl rfl rfl rfl (by kernel_rfl) rfl (Zeo x0 A0_ c0_ A1_ c1_ A2_ c2_ A3_ c3_ A4_ c4_ _ (SlI.of_rd s0_.k ((hO11.join hS).rd0 s0_.rd) ((hO11.join hS).blk0 s0_.blk)) (SlI.of_rd s1_.k ((hO11.join hS).rd0 s1_.rd) ((hO11.join hS).blk0 s1_.blk)) (SlI.of_rd s2_.k ((hO11.join hS).rd0 s2_.rd) ((hO11.join hS).blk0 s2_.blk)) (SlI.of_rd s3_.k ((hO11.join hS).rd0 s3_.rd) ((hO11.join hS).blk0 s3_.blk)) (SlI.of_rd s4_.k ((hO11.join hS).rd0 s4_.rd) ((hO11.join hS).blk0 s4_.blk)) hm20) ?_
 rintro e w ⟨A21, c22, A25, c26, A29, c30, A33, c34, A37, c38, rfl, k23, k27, k31, k35, k39, hN⟩; refine ⟨_, rfl, ?_⟩; have hB := hN.pure; have hS := hS.join hN; clear hN
 refine Zo rfl rfl rfl CellsOf.agg hS ps6 Xq (by kernel_rfl) rfl (fun w hS hB => ?_)
 refine Zg ?_
 refine Zc hK18 ?_
 refine Zd (fun K hK41 => ?_)
 refine Zd (fun K hK42 => ?_)
 refine Zf ?_
 refine Zb 2 rfl ?_
 refine Zt 10 rfl (fun hb => ?_) (fun hb => ?_)
 rotate_left
 ·replace H := Zp H hb
  refine Zb 3 rfl ?_
  refine Zg ?_
  refine Zc hK42 ?_
  refine Yq rfl rfl ?_
  refine Zu ?_
  refine Zc hK41 ?_
  refine Zd (fun K hK50 => ?_)
  refine Zf ?_
  refine Za rfl rfl rfl (Zj Yp rfl (RW.here _) (hO11.join hS) hs6 trivial Yb) ?_
  refine Zo rfl rfl rfl CellsOf.agg hS ps5 Xq (by kernel_rfl) rfl (fun w hS hB => ?_)
  refine Zg ?_
  refine Zc hK50 ?_
  refine Zk ?_
  refine Zl rfl (RV.cell rfl (Z3 Yp (hO11.join hS) hs5 Yb) RV.nil) rfl ?_
  refine ⟨_, rfl, ?_⟩
  have hB := hS.pure
  have hS := hO11.join hS
  dsimp only [List.cons_append, List.nil_append] at hS
  refine Zg ?_
  refine Yf hB ?_
  refine Xh [false, false, false, false, false, false, true] 6 ⟨by decide, by kernel_rfl, by kernel_rfl⟩ rfl rfl ?_
  try dsimp only [Z2]
  refine Zo rfl rfl rfl CellsOf.agg hS ps7 Xq (by kernel_rfl) rfl (fun w hS hB => ?_)
  refine Zg ?_
  refine Xc (hB.sub (fun _ _ h => by simpa using h)) ?_
  refine Z8 (by kernel_rfl) ?_
  refine Zc hK8 ?_
  refine Zk ?_
  refine Zl rfl (RV.cell rfl (Z3 Yp hS hs7 Yb) RV.nil) rfl ?_
  obtain rfl := Option.some.inj H
  have hS := hS.front 4 rfl
  have hS := hS.front 4 rfl
  have hS := hS.front 4 rfl
  have hS := hS.front 4 rfl
  have hS := hS.front 4 rfl
  replace hS := hS.cut 5
  exact ⟨A21, c22, A25, c26, A29, c30, A33, c34, A37, c38, rfl, k23, k27, k31, k35, k39, hS⟩
 replace H := Zq H hb
 refine Za rfl rfl rfl (Zj Yp rfl (RW.here _) (hO11.join hS) hs6 trivial Yb) ?_
 obtain ⟨r43, hm44, H⟩ := bind_some H
 refine Zr rfl rfl rfl rfl (by kernel_rfl) rfl (Zc3 r19 A21 c22 A25 c26 A29 c30 A33 c34 A37 c38 _ (SlI.of_rd k23 ((hO11.join hS).row_rd hs0) ((hO11.join hS).row_blk hs0)) (SlI.of_rd k27 ((hO11.join hS).row_rd Xt) ((hO11.join hS).row_blk Xt)) (SlI.of_rd k31 ((hO11.join hS).row_rd Vh) ((hO11.join hS).row_blk Vh)) (SlI.of_rd k35 ((hO11.join hS).row_rd hs3) ((hO11.join hS).row_blk hs3)) (SlI.of_rd k39 ((hO11.join hS).row_rd hs4) ((hO11.join hS).row_blk hs4)) hm44) ?_
 rintro e w ⟨rfl, hN⟩; refine ⟨_, rfl, ?_⟩; have hB := hN.pure; have hS := hS.join hN; clear hN
 refine Zb 1 rfl ?_
 refine Zg ?_
 refine Zc hK42 ?_
 refine Z0 rfl (fun hb => ?_) (fun hb => ?_)
 rotate_left
 ·replace H := Zp H hb
  refine Zu ?_
  refine Zc hK41 ?_
  refine Zd (fun K hK49 => ?_)
  refine Zf ?_
  refine Za rfl rfl rfl (Zj Yp rfl (RW.here _) (hO11.join hS) hs6 trivial Yb) ?_
  refine Zo rfl rfl rfl CellsOf.agg hS ps5 Xq (by kernel_rfl) rfl (fun w hS hB => ?_)
  refine Zg ?_
  refine Zc hK49 ?_
  refine Zk ?_
  refine Zl rfl (RV.cell rfl (Z3 Yp (hO11.join hS) hs5 Yb) RV.nil) rfl ?_
  refine ⟨_, rfl, ?_⟩
  have hB := hS.pure
  have hS := hO11.join hS
  dsimp only [List.cons_append, List.nil_append] at hS
  refine Zg ?_
  refine Yf hB ?_
  refine Xh [false, false, false, false, false, false, true] 6 ⟨by decide, by kernel_rfl, by kernel_rfl⟩ rfl rfl ?_
  try dsimp only [Z2]
  refine Zo rfl rfl rfl CellsOf.agg hS ps7 Xq (by kernel_rfl) rfl (fun w hS hB => ?_)
  refine Zg ?_
  refine Xc (hB.sub (fun _ _ h => by simpa using h)) ?_
  refine Z8 (by kernel_rfl) ?_
  refine Zc hK8 ?_
  refine Zk ?_
  refine Zl rfl (RV.cell rfl (Z3 Yp hS hs7 Yb) RV.nil) rfl ?_
  obtain rfl := Option.some.inj H
  have hS := hS.front 4 rfl
  have hS := hS.front 4 rfl
  have hS := hS.front 4 rfl
  have hS := hS.front 4 rfl
  have hS := hS.front 4 rfl
  replace hS := hS.cut 5
  exact ⟨A21, c22, A25, c26, A29, c30, A33, c34, A37, c38, rfl, k23, k27, k31, k35, k39, hS⟩
 replace H := Zq H hb
 refine Zf ?_
 refine Zb 1 rfl ?_
 refine Zbi rfl rfl rfl rfl (by kernel_rfl) rfl ?_
 show Calls _ _ #[_, _] _ _
 refine Yw Try.func83 rfl Try.ntmps83 rfl ?_
 refine Yo 11 [10] (fun i b => (i = 10 → False)) ⟨by kernel_rfl, by kernel_rfl⟩ hS (fun w hS hB => ?_)
 refine Zm [true, true, true, true, true, true, true, true, true, true] (by decide +kernel) (by repeat (first | exact PF.body | exact PF.round | apply PF.then | apply PF.inBlock | apply PF.jump)) ?_
 refine LtK.put rfl rfl rfl (Zn rfl) ?_
 refine LtK.put rfl rfl rfl (Y0 rfl) ?_
 refine LtK.put rfl rfl rfl (Ze J3 rfl) ?_
 refine LtK.put rfl rfl rfl (Zh V1 rfl (RW.below _) (hO11.join hS) hs6 trivial Zc9) ?_
 refine LtK.put rfl rfl rfl (Ze fo_32_1 rfl) ?_
 refine LtK.put rfl rfl rfl (Zh Zx rfl (RW.below _) (hO11.join hS) hs8 trivial Vn) ?_
 refine LtK.put rfl rfl rfl (Zct rfl rfl) ?_
 refine LtK.put rfl rfl rfl (Ze fo_32_4 rfl) ?_
 refine LtK.put rfl rfl rfl (Zh Zx rfl (RW.below _) (hO11.join hS) hs8 trivial Zeg) ?_
 obtain ⟨e45, hi47, H⟩ := bind_some H
 obtain ⟨j46, hi47a, hi47b, hi47c⟩ := Y9 hi47
 refine LtK.put rfl rfl rfl (Xo Vd rfl rfl hi47a hi47c (Rd.el ((hO11.join hS).row_rd hs4) Xd hi47b)) ?_
 refine LtK.nil ?_
 refine Xh [false, false, false, false, false, false, false, false, false, false, true] 10 ⟨by decide, by kernel_rfl, by kernel_rfl⟩ rfl rfl ?_
 try dsimp only [Z2]
 refine wpX_storeR2 (a' := x1.cap) (zs := (setI r19.caps (IntKind.wrap .i64 (x1.frm - 1)) x1.cap)) Xd rfl rfl rfl CellsOf.int hS ps4 (Rd.el ((hO11.join hS).row_rd hs4) Xd hi47b) hi47a hi47b rfl st0_1 (by kernel_rfl) rfl (fun w hS hB => ?_)
 refine Zg ?_
 refine Xc (hB.sub (fun _ _ h => by simp at h)) ?_
 refine Z8 (by kernel_rfl) ?_
 refine Zb9 rfl RV.nil rfl ?_
 refine ⟨_, rfl, ?_⟩
 refine Zg ?_
 refine Zc hK41 ?_
 refine Zd (fun K hK48 => ?_)
 refine Zf ?_
 refine Za rfl rfl rfl (Zj Yp rfl (RW.here _) (hO11.join hS) hs6 trivial Yb) ?_
 refine Zo rfl rfl rfl CellsOf.agg hS ps5 Xq (by kernel_rfl) rfl (fun w hS hB => ?_)
 refine Zg ?_
 refine Zc hK48 ?_
 refine Zk ?_
 refine Zl rfl (RV.cell rfl (Z3 Yp (hO11.join hS) hs5 Yb) RV.nil) rfl ?_
 refine ⟨_, rfl, ?_⟩
 have hB := hS.pure
 have hS := hO11.join hS
 dsimp only [List.cons_append, List.nil_append] at hS
 refine Zg ?_
 refine Yf hB ?_
 refine Xh [false, false, false, false, false, false, true] 6 ⟨by decide, by kernel_rfl, by kernel_rfl⟩ rfl rfl ?_
 try dsimp only [Z2]
 refine Zo rfl rfl rfl CellsOf.agg hS ps7 Xq (by kernel_rfl) rfl (fun w hS hB => ?_)
 refine Zg ?_
 refine Xc (hB.sub (fun _ _ h => by simpa using h)) ?_
 refine Z8 (by kernel_rfl) ?_
 refine Zc hK8 ?_
 refine Zk ?_
 refine Zl rfl (RV.cell rfl (Z3 Yp hS hs7 Yb) RV.nil) rfl ?_
 obtain rfl := Option.some.inj H
 have hS := hS.front 4 rfl
 have hS := hS.front 4 rfl
 have hS := hS.front 4 rfl
 have hS := hS.front 4 rfl
 have hS := hS.front 4 rfl
 replace hS := hS.cut 5
 exact ⟨A21, c22, A25, c26, A29, c30, A33, c34, A37, c38, by rw [(Zeq rfl)]; rfl, k23, k27, k31, k35, (k_set k39), hS.eqv (by rw [(Zeq rfl)]; rfl)⟩
theorem c_elect_Meet (x0 : Co) (x1 : Ms) (A0_ : Option Addr) (c0_ : Nat) (A1_ : Option Addr) (c1_ : Nat) (A2_ : Option Addr) (c2_ : Nat) (A3_ : Option Addr) (c3_ : Nat) (A4_ : Option Addr) (c4_ : Nat) (A5_ : Option Addr) (c5_ : Nat) (w0 : World) (s0_ : SlI w0 Jv A0_ c0_ x0.tuple.log) (s1_ : SlI w0 enO A1_ c1_ x0.votes) (s2_ : SlI w0 Vu A2_ c2_ x0.next) (s3_ : SlI w0 Vu A3_ c3_ x0.mtch) (s4_ : SlI w0 Vu A4_ c4_ x0.caps) (s5_ : SlI w0 Jv A5_ c5_ x1.entries) {r : Co} (H : Zdi x0 x1 = some r) : Calls Try.prog 29 #[.agg #[.int .i64 x0.id, .int .i64 x0.n, .int .u8 x0.role, .int .i64 x0.binary, .int .i64 x0.tuple.snap.index, .int .i64 x0.tuple.snap.term, .int .i64 x0.tuple.snap.sum, .int .i64 x0.tuple.snap.level, .bool x0.tuple.snap.final, .slice A0_ x0.tuple.log.length c0_, .int .i64 x0.tuple.term, .int .i64 x0.tuple.vote, .int .i64 x0.commit, .int .i64 x0.applied.index, .int .i64 x0.applied.term, .int .i64 x0.applied.sum, .int .i64 x0.applied.level, .bool x0.applied.final, .slice A1_ x0.votes.length c1_, .slice A2_ x0.next.length c2_, .slice A3_ x0.mtch.length c3_, .slice A4_ x0.caps.length c4_], .agg #[.int .u8 x1.kind, .int .i64 x1.frm, .int .i64 x1.dst, .int .i64 x1.term, .int .i64 x1.cap, .int .i64 x1.last, .int .i64 x1.lastTerm, .int .i64 x1.commit, .bool x1.okk, .slice A5_ x1.entries.length c5_, .int .i64 x1.snap.index, .int .i64 x1.snap.term, .int .i64 x1.snap.sum, .int .i64 x1.snap.level, .bool x1.snap.final]] w0 fun e w' => ∃ (A0 : Option Addr) (c0 : Nat) (A1 : Option Addr) (c1 : Nat) (A2 : Option Addr) (c2 : Nat) (A3 : Option Addr) (c3 : Nat) (A4 : Option Addr) (c4 : Nat), e = .returned (.agg #[.int .i64 r.id, .int .i64 r.n, .int .u8 r.role, .int .i64 r.binary, .int .i64 r.tuple.snap.index, .int .i64 r.tuple.snap.term, .int .i64 r.tuple.snap.sum, .int .i64 r.tuple.snap.level, .bool r.tuple.snap.final, .slice A0 r.tuple.log.length c0, .int .i64 r.tuple.term, .int .i64 r.tuple.vote, .int .i64 r.commit, .int .i64 r.applied.index, .int .i64 r.applied.term, .int .i64 r.applied.sum, .int .i64 r.applied.level, .bool r.applied.final, .slice A1 r.votes.length c1, .slice A2 r.next.length c2, .slice A3 r.mtch.length c3, .slice A4 r.caps.length c4]) ∧ (r.tuple.log.length ≤ c0 ∧ c0 ≤ maxLen) ∧ (r.votes.length ≤ c1 ∧ c1 ≤ maxLen) ∧ (r.next.length ≤ c2 ∧ c2 ≤ maxLen) ∧ (r.mtch.length ≤ c3 ∧ c3 ≤ maxLen) ∧ (r.caps.length ≤ c4 ∧ c4 ≤ maxLen) ∧ St0 All w0 w' [.rd A0 (Ym Jv r.tuple.log), .row (.slice A1 r.votes.length c1) 4 1 r.votes.length (Ym enO r.votes), .row (.slice A2 r.next.length c2) 3 1 r.next.length (Ym Vu r.next), .row (.slice A3 r.mtch.length c3) 3 1 r.mtch.length (Ym Vu r.mtch), .row (.slice A4 r.caps.length c4) 3 1 r.caps.length (Ym Vu r.caps)] := by
 unfold Zdi at H
 refine Yw Try.func29 rfl Try.ntmps29 rfl ?_
 have hS := St0.start All w0
 refine Zd (fun K hK1 => ?_)
 refine Zf ?_
 refine Z9 rfl rfl rfl CellsOf.agg hS (fun b2 w hS hB => ?_)
 refine Z9 rfl rfl rfl CellsOf.agg hS (fun b4 w hS hB => ?_)
 refine Z6 rfl rfl Zc0 hS (fun b6 w hS hB => ?_)
 refine Zg ?_
 refine Zc hK1 ?_
 refine wpC_scope1 0 rfl ?_
 refine Zd (fun K hK8 => ?_)
 refine Zf ?_
 refine Za rfl rfl rfl (Zj Yp rfl (RW.here _) hS Vh trivial Yb) ?_
 obtain ⟨r9, hm10, H⟩ := bind_some H
 refine Zr rfl rfl rfl rfl (by kernel_rfl) rfl (Zeo x0 A0_ c0_ A1_ c1_ A2_ c2_ A3_ c3_ A4_ c4_ _ (SlI.of_rd s0_.k (hS.rd0 s0_.rd) (hS.blk0 s0_.blk)) (SlI.of_rd s1_.k (hS.rd0 s1_.rd) (hS.blk0 s1_.blk)) (SlI.of_rd s2_.k (hS.rd0 s2_.rd) (hS.blk0 s2_.blk)) (SlI.of_rd s3_.k (hS.rd0 s3_.rd) (hS.blk0 s3_.blk)) (SlI.of_rd s4_.k (hS.rd0 s4_.rd) (hS.blk0 s4_.blk)) hm10) ?_
 rintro e w ⟨A11, c12, A15, c16, A19, c20, A23, c24, A27, c28, rfl, k13, k17, k21, k25, k29, hN⟩; refine ⟨_, rfl, ?_⟩; have hB := hN.pure; have hS := hS.join hN; clear hN
 refine Zo rfl rfl rfl CellsOf.agg hS ps7 Xq (by kernel_rfl) rfl (fun w hS hB => ?_)
 refine Zg ?_
 refine Zc hK8 ?_
 refine Zd (fun K hK31 => ?_)
 refine Zd (fun K hK32 => ?_)
 refine Zf ?_
 refine Za rfl rfl rfl (Zj Yp rfl (RW.here _) hS hs7 trivial Yb) ?_
 refine Za rfl rfl rfl (Zj X7 rfl (RW.here _) hS hs6 trivial Xj) ?_
 obtain ⟨r33, hm34, H⟩ := bind_some H
 refine Zr rfl rfl rfl rfl (by kernel_rfl) rfl (c_elect_fits r9 x1 A11 c12 A15 c16 A19 c20 A23 c24 A27 c28 A5_ c5_ _ (SlI.of_rd k13 (hS.row_rd hs0) (hS.row_blk hs0)) (SlI.of_rd k17 (hS.row_rd Xt) (hS.row_blk Xt)) (SlI.of_rd k21 (hS.row_rd Vh) (hS.row_blk Vh)) (SlI.of_rd k25 (hS.row_rd hs3) (hS.row_blk hs3)) (SlI.of_rd k29 (hS.row_rd hs4) (hS.row_blk hs4)) (SlI.of_rd s5_.k (hS.rd0 s5_.rd) (hS.blk0 s5_.blk)) hm34) ?_
 rintro e w ⟨rfl, hN⟩; refine ⟨_, rfl, ?_⟩; have hB := hN.pure; have hS := hS.join hN; clear hN
 refine Za rfl rfl rfl (Yt rfl) ?_
 refine Zg ?_
 refine Zc hK32 ?_
 refine Z0 rfl (fun hb => ?_) (fun hb => ?_)
 ·replace H := Zq H hb
  refine Vv ?_
  refine Xr ?_
  refine Jr ?_
  refine Zd (fun K hK35 => ?_)
  refine Zu ?_
  refine Zc hK35 ?_
  refine Zd (fun K hK36 => ?_)
  refine Zf ?_
  refine Za rfl rfl rfl (Zj Yp rfl (RW.here _) hS hs7 trivial Yb) ?_
  refine Zo rfl rfl rfl CellsOf.agg hS ps5 Xq (by kernel_rfl) rfl (fun w hS hB => ?_)
  refine Zg ?_
  refine Zc hK36 ?_
  refine Zk ?_
  refine Yd ?_
  refine Zl rfl (RV.cell rfl (Z3 Yp hS hs5 Yb) RV.nil) rfl ?_
  obtain rfl := Option.some.inj H
  have hS := hS.front 4 rfl
  have hS := hS.front 4 rfl
  have hS := hS.front 4 rfl
  have hS := hS.front 4 rfl
  have hS := hS.front 4 rfl
  replace hS := hS.weak Weak.rowRd
  replace hS := hS.cut 5
  exact ⟨A11, c12, A15, c16, A19, c20, A23, c24, A27, c28, rfl, k13, k17, k21, k25, k29, hS⟩
 replace H := Zp H hb
 refine Zu ?_
 refine Zc hK31 ?_
 refine Zd (fun K hK37 => ?_)
 refine Zd (fun K hK38 => ?_)
 refine Zf ?_
 refine Za rfl rfl rfl (Zj Yp rfl (RW.here _) hS hs7 trivial Yb) ?_
 refine Za rfl rfl rfl (Zj X7 rfl (RW.here _) hS hs6 trivial Xj) ?_
 obtain ⟨r39, hm40, H⟩ := bind_some H
 refine Zr rfl rfl rfl rfl (by kernel_rfl) rfl (c_advert_Hear r9 x1 A11 c12 A15 c16 A19 c20 A23 c24 A27 c28 A5_ c5_ _ (SlI.of_rd k13 (hS.row_rd hs0) (hS.row_blk hs0)) (SlI.of_rd k17 (hS.row_rd Xt) (hS.row_blk Xt)) (SlI.of_rd k21 (hS.row_rd Vh) (hS.row_blk Vh)) (SlI.of_rd k25 (hS.row_rd hs3) (hS.row_blk hs3)) (SlI.of_rd k29 (hS.row_rd hs4) (hS.row_blk hs4)) (SlI.of_rd s5_.k (hS.rd0 s5_.rd) (hS.blk0 s5_.blk)) hm40) ?_
 rintro e w ⟨A41, c42, A45, c46, A49, c50, A53, c54, A57, c58, rfl, k43, k47, k51, k55, k59, hN⟩; refine ⟨_, rfl, ?_⟩; have hB := hN.pure; have hS := hS.join hN; clear hN
 refine Zo rfl rfl rfl CellsOf.agg hS ps12 Xq (by kernel_rfl) rfl (fun w hS hB => ?_)
 refine Zg ?_
 refine Zc hK38 ?_
 refine Zd (fun K hK61 => ?_)
 refine Zf ?_
 refine Za rfl rfl rfl (Ze Za8 rfl) ?_
 refine Za rfl rfl rfl (Zh Zx rfl (RW.here _) hS hs11 trivial Zag) ?_
 refine Za rfl rfl rfl (Ze Yu rfl) ?_
 refine Za rfl rfl rfl (Ze Xs rfl) ?_
 refine Za rfl rfl rfl (Zh Zx rfl (RW.here _) hS hs12 trivial V0) ?_
 refine Za rfl rfl rfl (Xa rfl rfl) ?_
 refine Zg ?_
 refine Zc hK61 ?_
 refine Z0 rfl (fun hb => ?_) (fun hb => ?_)
 rotate_left
 ·replace H := Zp H hb
  refine Zu ?_
  refine Zc hK37 ?_
  refine Zd (fun K hK88 => ?_)
  refine Zc2 ?_
  refine Zc hK88 ?_
  refine Zd (fun K hK89 => ?_)
  refine Zf ?_
  refine Za rfl rfl rfl (Zj Yp rfl (RW.here _) hS hs12 trivial Yb) ?_
  refine Zo rfl rfl rfl CellsOf.agg hS ps10 Xq (by kernel_rfl) rfl (fun w hS hB => ?_)
  refine Zg ?_
  refine Zc hK89 ?_
  refine Zk ?_
  refine Yd ?_
  refine Zl rfl (RV.cell rfl (Z3 Yp hS hs10 Yb) RV.nil) rfl ?_
  obtain rfl := Option.some.inj H
  have hS := hS.front 4 rfl
  have hS := hS.front 4 rfl
  have hS := hS.front 4 rfl
  have hS := hS.front 4 rfl
  have hS := hS.front 4 rfl
  replace hS := hS.weak Weak.rowRd
  replace hS := hS.cut 5
  exact ⟨A41, c42, A45, c46, A49, c50, A53, c54, A57, c58, rfl, k43, k47, k51, k55, k59, hS⟩
 replace H := Zq H hb
 refine Zf ?_
 refine Za rfl rfl rfl (Zj Yp rfl (RW.here _) hS hs12 trivial Yb) ?_
 refine Za rfl rfl rfl (Ze Za8 rfl) ?_
 refine Za rfl rfl rfl (Zh Zx rfl (RW.here _) hS hs11 trivial Zag) ?_
 refine Zbi rfl rfl rfl rfl (by kernel_rfl) rfl ?_
 show Calls _ _ #[_, _, _, _, _] _ _
 refine gw_enter5 Try.func56 rfl Try.ntmps56 rfl ?_
 refine Zd (fun K hK62 => ?_)
 refine Zf ?_
 refine Z9 rfl rfl rfl CellsOf.agg hS (fun b63 w hS hB => ?_)
 refine Z6 rfl rfl Zc0 hS (fun b65 w hS hB => ?_)
 refine Zg ?_
 refine Zc hK62 ?_
 refine Zd (fun K hK67 => ?_)
 refine Zf ?_
 refine Za rfl rfl rfl (Ze Yu rfl) ?_
 refine Za rfl rfl rfl (Zj Xg rfl (RW.here _) hS Xt trivial Zbl) ?_
 refine Zb 2 rfl ?_
 obtain ⟨r68, hm69, H⟩ := bind_some H
 refine Zr rfl rfl rfl rfl (by kernel_rfl) rfl (c_tuple_Hard r39.tuple x1.term 0 A41 c42 _ (SlI.of_rd k43 (hS.row_rd Vh) (hS.row_blk Vh)) hm69) ?_
 rintro e w ⟨A70, c71, rfl, k72, hN⟩; refine ⟨_, rfl, ?_⟩; have hB := hN.pure; have hS := hS.join hN; clear hN
 refine Zb 1 rfl ?_
 refine Za rfl rfl rfl (Ya rfl rfl) ?_
 refine Za rfl rfl rfl (Ya rfl rfl) ?_
 refine Za rfl rfl rfl (Ze Yu rfl) ?_
 refine Zo rfl rfl rfl CellsOf.agg hS ps2 st4_8 (by kernel_rfl) rfl (fun w hS hB => ?_)
 refine Zg ?_
 refine Zc hK67 ?_
 refine Zd (fun K hK74 => ?_)
 refine Yo 8 [5, 7] (fun i b => (i = 5 → b ≠ b63) ∧ (i = 7 → b ≠ b63)) ⟨by kernel_rfl, by kernel_rfl⟩ hS (fun w hS hB => ?_)
 refine Zm [true, true, true, false, true] (by decide +kernel) (by repeat (first | exact PF.body | exact PF.round | apply PF.then | apply PF.inBlock | apply PF.jump)) ?_
 refine LtK.put rfl rfl rfl (Zn rfl) ?_
 refine LtK.put rfl rfl rfl (Ze Vy rfl) ?_
 refine LtK.put rfl rfl rfl (Zh Zx rfl (RW.below _) hS Vh trivial Vn) ?_
 refine LtK.put rfl rfl rfl (Ze J6 rfl) ?_
 refine LtK.nil ?_
 refine wpR_many [3, 5] ⟨by decide, by kernel_rfl⟩ rfl (.call [false, false, false, true] 3 rfl rfl rfl ?_ (.put [false, false, false, false, false, true] 5 rfl rfl rfl ?_ .nil))
 ·try dsimp only [Z2]
  obtain ⟨l75, hm76, H⟩ := bind_some H
  refine wpX_make he_enO em_27 rfl (by decide) rfl rfl rfl rfl hS hm76 (fun A77 c78 w k79 hS hB => ?_)
  refine Zg ?_
  refine Yf hB ?_
  refine Xh [false, false, false, false, false, true] 5 ⟨by decide, by kernel_rfl, by kernel_rfl⟩ rfl rfl ?_
  try dsimp only [Z2]
  refine Zo rfl rfl rfl CellsOf.int hS ps3 st2_1 (by kernel_rfl) rfl (fun w hS hB => ?_)
  refine Zg ?_
  refine Xc (hB.sub (fun _ _ h => by simpa using h)) ?_
  refine Zm [false, false, false, false, false, false, true] (by decide +kernel) (by repeat (first | exact PF.body | exact PF.round | apply PF.then | apply PF.inBlock | apply PF.jump)) ?_
  refine LtK.put rfl rfl rfl (Ze Zbm rfl) ?_
  refine LtK.nil ?_
  refine Xh [false, false, false, false, false, false, false, true] 7 ⟨by decide, by kernel_rfl, by kernel_rfl⟩ rfl rfl ?_
  try dsimp only [Z2]
  refine Zo rfl rfl rfl CellsOf.slice hS ps3 st18_1 (by kernel_rfl) rfl (fun w hS hB => ?_)
  refine Zg ?_
  refine Xc (hB.sub (fun _ _ h => by simpa using h)) ?_
  refine Z8 (by kernel_rfl) ?_
  refine Zc hK74 ?_
  refine Zd (fun K hK81 => ?_)
  refine Zd (fun K hK82 => ?_)
  refine Zf ?_
  refine Zb 1 rfl ?_
  refine Za rfl rfl rfl (Y1 Vd rfl) ?_
  refine Zb 1 rfl ?_
  refine Zg ?_
  refine Zc hK82 ?_
  refine Yj ?_
  refine wpC_rounds 60 ?_
  refine Zd (fun K hK83 => ?_)
  refine Zf ?_
  refine Za rfl rfl rfl (Xv rfl rfl) ?_
  refine Zg ?_
  refine Zc hK83 ?_
  refine Zd (fun K hK84 => ?_)
  refine Yq rfl rfl ?_
  refine Vo ?_
  refine Ye ?_
  refine Ye ?_
  refine Xf ?_
  refine Zc hK81 ?_
  refine Zd (fun K hK85 => ?_)
  refine Zf ?_
  refine Za rfl rfl rfl (Zj Yp rfl (RW.here _) hS hs3 trivial Yb) ?_
  refine Zo rfl rfl rfl CellsOf.agg hS ps2 Xq (by kernel_rfl) rfl (fun w hS hB => ?_)
  refine Zg ?_
  refine Zc hK85 ?_
  refine Zk ?_
  refine Zl rfl (RV.cell rfl (Z3 Yp hS Vh Yb) RV.nil) rfl ?_
  refine ⟨_, rfl, ?_⟩
  refine Zo rfl rfl rfl CellsOf.agg hS ps16 Xq (by kernel_rfl) rfl (fun w hS hB => ?_)
  refine Zg ?_
  refine Zc hK37 ?_
  refine Zd (fun K hK86 => ?_)
  refine Zc2 ?_
  refine Zc hK86 ?_
  refine Zd (fun K hK87 => ?_)
  refine Zf ?_
  refine Za rfl rfl rfl (Zj Yp rfl (RW.here _) hS hs16 trivial Yb) ?_
  refine Zo rfl rfl rfl CellsOf.agg hS ps14 Xq (by kernel_rfl) rfl (fun w hS hB => ?_)
  refine Zg ?_
  refine Zc hK87 ?_
  refine Zk ?_
  refine Yd ?_
  refine Zl rfl (RV.cell rfl (Z3 Yp hS hs14 Yb) RV.nil) rfl ?_
  obtain rfl := Option.some.inj H
  have hS := hS.front 8 rfl
  have hS := hS.front 8 rfl
  have hS := hS.front 8 rfl
  have hS := hS.front 3 rfl
  have hS := hS.front 4 rfl
  replace hS := hS.cut 5
  exact ⟨A70, c71, A77, c78, A49, c50, A53, c54, A57, c58, rfl, k72, k79, k51, k55, k59, hS⟩
 ·try dsimp only [Z2]
  refine Zo rfl rfl rfl CellsOf.int hS ps2 st2_1 (by kernel_rfl) rfl (fun w hS hB => ?_)
  refine Zg ?_
  refine Xc (hB.sub (fun _ _ h => by simpa using h)) ?_
  refine Z7 [false, false, false, true] 3 ⟨by decide, by kernel_rfl, by kernel_rfl⟩ rfl rfl ?_
  try dsimp only [Z2]
  obtain ⟨l75, hm76, H⟩ := bind_some H
  refine wpX_make he_enO em_27 rfl (by decide) rfl rfl rfl rfl hS hm76 (fun A77 c78 w k79 hS hB => ?_)
  refine Zg ?_
  refine Yf hB ?_
  refine Zm [false, false, false, false, false, false, true] (by decide +kernel) (by repeat (first | exact PF.body | exact PF.round | apply PF.then | apply PF.inBlock | apply PF.jump)) ?_
  refine LtK.put rfl rfl rfl (Ze Zbm rfl) ?_
  refine LtK.nil ?_
  refine Xh [false, false, false, false, false, false, false, true] 7 ⟨by decide, by kernel_rfl, by kernel_rfl⟩ rfl rfl ?_
  try dsimp only [Z2]
  refine Zo rfl rfl rfl CellsOf.slice hS ps3 st18_1 (by kernel_rfl) rfl (fun w hS hB => ?_)
  refine Zg ?_
  refine Xc (hB.sub (fun _ _ h => by simpa using h)) ?_
  refine Z8 (by kernel_rfl) ?_
  refine Zc hK74 ?_
  refine Zd (fun K hK81 => ?_)
  refine Zd (fun K hK82 => ?_)
  refine Zf ?_
  refine Zb 1 rfl ?_
  refine Za rfl rfl rfl (Y1 Vd rfl) ?_
  refine Zb 1 rfl ?_
  refine Zg ?_
  refine Zc hK82 ?_
  refine Yj ?_
  refine wpC_rounds 60 ?_
  refine Zd (fun K hK83 => ?_)
  refine Zf ?_
  refine Za rfl rfl rfl (Xv rfl rfl) ?_
  refine Zg ?_
  refine Zc hK83 ?_
  refine Zd (fun K hK84 => ?_)
  refine Yq rfl rfl ?_
  refine Vo ?_
  refine Ye ?_
  refine Ye ?_
  refine Xf ?_
  refine Zc hK81 ?_
  refine Zd (fun K hK85 => ?_)
  refine Zf ?_
  refine Za rfl rfl rfl (Zj Yp rfl (RW.here _) hS hs3 trivial Yb) ?_
  refine Zo rfl rfl rfl CellsOf.agg hS ps2 Xq (by kernel_rfl) rfl (fun w hS hB => ?_)
  refine Zg ?_
  refine Zc hK85 ?_
  refine Zk ?_
  refine Zl rfl (RV.cell rfl (Z3 Yp hS Vh Yb) RV.nil) rfl ?_
  refine ⟨_, rfl, ?_⟩
  refine Zo rfl rfl rfl CellsOf.agg hS ps16 Xq (by kernel_rfl) rfl (fun w hS hB => ?_)
  refine Zg ?_
  refine Zc hK37 ?_
  refine Zd (fun K hK86 => ?_)
  refine Zc2 ?_
  refine Zc hK86 ?_
  refine Zd (fun K hK87 => ?_)
  refine Zf ?_
  refine Za rfl rfl rfl (Zj Yp rfl (RW.here _) hS hs16 trivial Yb) ?_
  refine Zo rfl rfl rfl CellsOf.agg hS ps14 Xq (by kernel_rfl) rfl (fun w hS hB => ?_)
  refine Zg ?_
  refine Zc hK87 ?_
  refine Zk ?_
  refine Yd ?_
  refine Zl rfl (RV.cell rfl (Z3 Yp hS hs14 Yb) RV.nil) rfl ?_
  obtain rfl := Option.some.inj H
  have hS := hS.front 8 rfl
  have hS := hS.front 8 rfl
  have hS := hS.front 8 rfl
  have hS := hS.front 3 rfl
  have hS := hS.front 4 rfl
  replace hS := hS.cut 5
  exact ⟨A70, c71, A77, c78, A49, c50, A53, c54, A57, c58, rfl, k72, k79, k51, k55, k59, hS⟩
theorem c_msg_Back (x0 : Co) (x1 : Ms) (x2 : Int) (x3 : Bool) (x4 : Int) (A0_ : Option Addr) (c0_ : Nat) (A1_ : Option Addr) (c1_ : Nat) (A2_ : Option Addr) (c2_ : Nat) (A3_ : Option Addr) (c3_ : Nat) (A4_ : Option Addr) (c4_ : Nat) (A5_ : Option Addr) (c5_ : Nat) (w0 : World) (s0_ : SlI w0 Jv A0_ c0_ x0.tuple.log) (s1_ : SlI w0 enO A1_ c1_ x0.votes) (s2_ : SlI w0 Vu A2_ c2_ x0.next) (s3_ : SlI w0 Vu A3_ c3_ x0.mtch) (s4_ : SlI w0 Vu A4_ c4_ x0.caps) (s5_ : SlI w0 Jv A5_ c5_ x1.entries) {r : Ms} (H : Zcr x0 x1 x2 x3 x4 = some r) : Calls Try.prog 31 #[.agg #[.int .i64 x0.id, .int .i64 x0.n, .int .u8 x0.role, .int .i64 x0.binary, .int .i64 x0.tuple.snap.index, .int .i64 x0.tuple.snap.term, .int .i64 x0.tuple.snap.sum, .int .i64 x0.tuple.snap.level, .bool x0.tuple.snap.final, .slice A0_ x0.tuple.log.length c0_, .int .i64 x0.tuple.term, .int .i64 x0.tuple.vote, .int .i64 x0.commit, .int .i64 x0.applied.index, .int .i64 x0.applied.term, .int .i64 x0.applied.sum, .int .i64 x0.applied.level, .bool x0.applied.final, .slice A1_ x0.votes.length c1_, .slice A2_ x0.next.length c2_, .slice A3_ x0.mtch.length c3_, .slice A4_ x0.caps.length c4_], .agg #[.int .u8 x1.kind, .int .i64 x1.frm, .int .i64 x1.dst, .int .i64 x1.term, .int .i64 x1.cap, .int .i64 x1.last, .int .i64 x1.lastTerm, .int .i64 x1.commit, .bool x1.okk, .slice A5_ x1.entries.length c5_, .int .i64 x1.snap.index, .int .i64 x1.snap.term, .int .i64 x1.snap.sum, .int .i64 x1.snap.level, .bool x1.snap.final], .int .u8 x2, .bool x3, .int .i64 x4] w0 fun e w' => ∃ (A0 : Option Addr) (c0 : Nat), e = .returned (.agg #[.int .u8 r.kind, .int .i64 r.frm, .int .i64 r.dst, .int .i64 r.term, .int .i64 r.cap, .int .i64 r.last, .int .i64 r.lastTerm, .int .i64 r.commit, .bool r.okk, .slice A0 r.entries.length c0, .int .i64 r.snap.index, .int .i64 r.snap.term, .int .i64 r.snap.sum, .int .i64 r.snap.level, .bool r.snap.final]) ∧ (r.entries.length ≤ c0 ∧ c0 ≤ maxLen) ∧ St0 All w0 w' [.rd A0 (Ym Jv r.entries)] := by
 unfold Zcr at H
 refine gw_enter5 Try.func31 rfl Try.ntmps31 rfl ?_
 have hS := St0.start All w0
 refine Zd (fun K hK1 => ?_)
 refine Zf ?_
 refine Z9 rfl rfl rfl CellsOf.agg hS (fun b2 w hS hB => ?_)
 refine Z9 rfl rfl rfl CellsOf.agg hS (fun b4 w hS hB => ?_)
 refine Z6 rfl rfl Zfy hS (fun b6 w hS hB => ?_)
 refine Zg ?_
 refine Zc hK1 ?_
 refine Zd (fun K hK8 => ?_)
 refine Zf ?_
 refine Zb 1 rfl ?_
 refine Za rfl rfl rfl (Ze Ji rfl) ?_
 refine Za rfl rfl rfl (Zh Zx rfl (RW.here _) hS Vh trivial Y2) ?_
 refine Za rfl rfl rfl (Ze fo_32_1 rfl) ?_
 refine Za rfl rfl rfl (Zh Zx rfl (RW.here _) hS Xt trivial Vn) ?_
 refine Za rfl rfl rfl (Ze Yu rfl) ?_
 refine Za rfl rfl rfl (Ze Xs rfl) ?_
 refine Za rfl rfl rfl (Zh Zx rfl (RW.here _) hS Vh trivial V0) ?_
 refine Za rfl rfl rfl (Ze Zdj rfl) ?_
 refine Za rfl rfl rfl (Zh Zx rfl (RW.here _) hS Vh trivial Zag) ?_
 refine Zb 2 rfl ?_
 refine Za rfl rfl rfl (Xx (cells := [.int .u8 x2, .int .i64 x0.id, .int .i64 x1.frm, .int .i64 x0.tuple.term, .int .i64 x0.binary, .int .i64 x4, .int .i64 0, .int .i64 0, .bool x3, .slice none 0 0, .int .i64 0, .int .i64 0, .int .i64 0, .int .i64 0, .bool false]) rfl (by kernel_rfl)) ?_
 refine Zo rfl rfl rfl CellsOf.agg hS ps0 Zax (by kernel_rfl) rfl (fun w hS hB => ?_)
 refine Zg ?_
 refine Zc hK8 ?_
 refine Zk ?_
 refine Zl rfl (RV.cell rfl (Z3 X7 hS hs0 Xj) RV.nil) rfl ?_
 obtain rfl := Option.some.inj H
 have hS := hS.nilRd
 replace hS := hS.cut 1
 exact ⟨none, 0, rfl, ⟨Nat.le_refl _, Nat.zero_le _⟩, hS⟩
theorem c_repl_Fit (x0 : Co) (A0_ : Option Addr) (c0_ : Nat) (A1_ : Option Addr) (c1_ : Nat) (A2_ : Option Addr) (c2_ : Nat) (A3_ : Option Addr) (c3_ : Nat) (A4_ : Option Addr) (c4_ : Nat) (w0 : World) (s0_ : SlI w0 Jv A0_ c0_ x0.tuple.log) (s1_ : SlI w0 enO A1_ c1_ x0.votes) (s2_ : SlI w0 Vu A2_ c2_ x0.next) (s3_ : SlI w0 Vu A3_ c3_ x0.mtch) (s4_ : SlI w0 Vu A4_ c4_ x0.caps) {r : Co} (H : Zew x0 = some r) : Calls Try.prog 33 #[.agg #[.int .i64 x0.id, .int .i64 x0.n, .int .u8 x0.role, .int .i64 x0.binary, .int .i64 x0.tuple.snap.index, .int .i64 x0.tuple.snap.term, .int .i64 x0.tuple.snap.sum, .int .i64 x0.tuple.snap.level, .bool x0.tuple.snap.final, .slice A0_ x0.tuple.log.length c0_, .int .i64 x0.tuple.term, .int .i64 x0.tuple.vote, .int .i64 x0.commit, .int .i64 x0.applied.index, .int .i64 x0.applied.term, .int .i64 x0.applied.sum, .int .i64 x0.applied.level, .bool x0.applied.final, .slice A1_ x0.votes.length c1_, .slice A2_ x0.next.length c2_, .slice A3_ x0.mtch.length c3_, .slice A4_ x0.caps.length c4_]] w0 fun e w' => ∃ (A0 : Option Addr) (c0 : Nat) (A1 : Option Addr) (c1 : Nat) (A2 : Option Addr) (c2 : Nat) (A3 : Option Addr) (c3 : Nat) (A4 : Option Addr) (c4 : Nat), e = .returned (.agg #[.int .i64 r.id, .int .i64 r.n, .int .u8 r.role, .int .i64 r.binary, .int .i64 r.tuple.snap.index, .int .i64 r.tuple.snap.term, .int .i64 r.tuple.snap.sum, .int .i64 r.tuple.snap.level, .bool r.tuple.snap.final, .slice A0 r.tuple.log.length c0, .int .i64 r.tuple.term, .int .i64 r.tuple.vote, .int .i64 r.commit, .int .i64 r.applied.index, .int .i64 r.applied.term, .int .i64 r.applied.sum, .int .i64 r.applied.level, .bool r.applied.final, .slice A1 r.votes.length c1, .slice A2 r.next.length c2, .slice A3 r.mtch.length c3, .slice A4 r.caps.length c4]) ∧ (r.tuple.log.length ≤ c0 ∧ c0 ≤ maxLen) ∧ (r.votes.length ≤ c1 ∧ c1 ≤ maxLen) ∧ (r.next.length ≤ c2 ∧ c2 ≤ maxLen) ∧ (r.mtch.length ≤ c3 ∧ c3 ≤ maxLen) ∧ (r.caps.length ≤ c4 ∧ c4 ≤ maxLen) ∧ St0 All w0 w' [.row (.slice A0 r.tuple.log.length c0) 46 3 r.tuple.log.length (Ym Jv r.tuple.log), .row (.slice A1 r.votes.length c1) 4 1 r.votes.length (Ym enO r.votes), .row (.slice A2 r.next.length c2) 3 1 r.next.length (Ym Vu r.next), .row (.slice A3 r.mtch.length c3) 3 1 r.mtch.length (Ym Vu r.mtch), .row (.slice A4 r.caps.length c4) 3 1 r.caps.length (Ym Vu r.caps)] := by
 unfold Zew at H
 refine Yl Try.func33 rfl Try.ntmps33 rfl ?_
 have hS := St0.start All w0
 refine Zd (fun K hK1 => ?_)
 refine Zf ?_
 refine Z9 rfl rfl rfl CellsOf.agg hS (fun b2 w hS hB => ?_)
 refine Z6 rfl rfl Zc0 hS (fun b4 w hS hB => ?_)
 refine Zg ?_
 refine Zc hK1 ?_
 refine Zd (fun K hK6 => ?_)
 refine Zf ?_
 refine Za rfl rfl rfl (Zj Yp rfl (RW.here _) hS Xt trivial Yb) ?_
 obtain ⟨r7, hm8, H⟩ := bind_some H
 refine Zr rfl rfl rfl rfl (by kernel_rfl) rfl (Zeo x0 A0_ c0_ A1_ c1_ A2_ c2_ A3_ c3_ A4_ c4_ _ (SlI.of_rd s0_.k (hS.rd0 s0_.rd) (hS.blk0 s0_.blk)) (SlI.of_rd s1_.k (hS.rd0 s1_.rd) (hS.blk0 s1_.blk)) (SlI.of_rd s2_.k (hS.rd0 s2_.rd) (hS.blk0 s2_.blk)) (SlI.of_rd s3_.k (hS.rd0 s3_.rd) (hS.blk0 s3_.blk)) (SlI.of_rd s4_.k (hS.rd0 s4_.rd) (hS.blk0 s4_.blk)) hm8) ?_
 rintro e w ⟨A9, c10, A13, c14, A17, c18, A21, c22, A25, c26, rfl, k11, k15, k19, k23, k27, hN⟩; refine ⟨_, rfl, ?_⟩; have hB := hN.pure; have hS := hS.join hN; clear hN
 refine Zo rfl rfl rfl CellsOf.agg hS ps6 Xq (by kernel_rfl) rfl (fun w hS hB => ?_)
 refine Zg ?_
 refine Zc hK6 ?_
 refine Zd (fun K hK29 => ?_)
 refine Zf ?_
 refine Za rfl rfl rfl (Ze Yu rfl) ?_
 refine Za rfl rfl rfl (Zj Xg rfl (RW.here _) hS hs6 trivial Zbl) ?_
 obtain ⟨r30, hm31, H⟩ := bind_some H
 refine Zr rfl rfl rfl rfl (by kernel_rfl) rfl (Zdh r7.tuple A9 c10 _ (SlI.of_rd k11 (hS.row_rd hs0) (hS.row_blk hs0)) hm31) ?_
 rintro e w ⟨rfl, hN⟩; refine ⟨_, rfl, ?_⟩; have hB := hN.pure; have hS := hS.join hN; clear hN
 refine Zb 1 rfl ?_
 refine Zg ?_
 refine Zc hK29 ?_
 refine Zd (fun K hK32 => ?_)
 refine Zf ?_
 refine Zb 1 rfl ?_
 refine Zg ?_
 refine Zc hK32 ?_
 refine Zd (fun K hK33 => ?_)
 refine Zf ?_
 refine Zb 1 rfl ?_
 refine Za rfl rfl rfl (Ze Zao rfl) ?_
 refine Za rfl rfl rfl (Zh V1 rfl (RW.here _) hS hs6 trivial Zdn) ?_
 refine Zb 1 rfl ?_
 refine Za rfl rfl rfl (X1 rfl rfl) ?_
 refine Zbi rfl rfl rfl rfl (by kernel_rfl) rfl ?_
 show Calls _ _ #[_, _] _ _
 refine Yw Try.func62 rfl Try.ntmps62 rfl ?_
 refine Zd (fun K hK34 => ?_)
 refine Zf ?_
 refine Zb 1 rfl ?_
 refine Za rfl rfl rfl (Y1 Vd rfl) ?_
 refine Zb 1 rfl ?_
 refine Zg ?_
 refine Zc hK34 ?_
 refine Yj ?_
 refine Jq (X := Nat × Int × List Int) (fun x => (0, .slice A17 r7.next.length c18) :: (1, .int .i64 (IntKind.wrap .i64 (r30 + 1))) :: (6, .int .i64 (r7.next.length : Int)) :: (7, .int .i64 x.2.1) :: []) (fun x w => St0 All w0 w (.row (.slice A9 r7.tuple.log.length c10) 46 3 r7.tuple.log.length (Ym Jv r7.tuple.log) :: .row (.slice A13 r7.votes.length c14) 4 1 r7.votes.length (Ym enO r7.votes) :: .row (.slice A17 r7.next.length c18) 3 1 r7.next.length (Ym Vu x.2.2) :: .row (.slice A21 r7.mtch.length c22) 3 1 r7.mtch.length (Ym Vu r7.mtch) :: .row (.slice A25 r7.caps.length c26) 3 1 r7.caps.length (Ym Vu r7.caps) :: .box b4 [.int .i64 0, .int .i64 0, .int .u8 0, .int .i64 0, .int .i64 0, .int .i64 0, .int .i64 0, .int .i64 0, .bool false, .slice none 0 0, .int .i64 0, .int .i64 0, .int .i64 0, .int .i64 0, .int .i64 0, .int .i64 0, .int .i64 0, .bool false, .slice none 0 0, .slice none 0 0, .slice none 0 0, .slice none 0 0] 30 :: .box b2 [.int .i64 r7.id, .int .i64 r7.n, .int .u8 r7.role, .int .i64 r7.binary, .int .i64 r7.tuple.snap.index, .int .i64 r7.tuple.snap.term, .int .i64 r7.tuple.snap.sum, .int .i64 r7.tuple.snap.level, .bool r7.tuple.snap.final, .slice A9 r7.tuple.log.length c10, .int .i64 r7.tuple.term, .int .i64 r7.tuple.vote, .int .i64 r7.commit, .int .i64 r7.applied.index, .int .i64 r7.applied.term, .int .i64 r7.applied.sum, .int .i64 r7.applied.level, .bool r7.applied.final, .slice A13 r7.votes.length c14, .slice A17 r7.next.length c18, .slice A21 r7.mtch.length c22, .slice A25 r7.caps.length c26] 30 :: []) ∧ (x.2.2.length ≤ c18 ∧ c18 ≤ maxLen) ∧ (x.2.2.length = r7.next.length) ∧ Zat r7 r30 x.1 x.2.1 x.2.2 = some r) (fun x => x.1) (X6, 0, r7.next) (by repeat (first | exact Sub.nil | refine Sub.cons rfl ?_)) ⟨hS, k19, rfl, H⟩ ?_
 rintro ⟨n, v35, v36⟩ w ⟨hS, k37, hl38, H⟩
 dsimp only at hS k37 hl38 H ⊢
 obtain _ | n := n
 ·have H0 : none = some r := H
  cases H0
 rw [Zat] at H
 refine Zd (fun K hK39 => ?_)
 refine Zf ?_
 refine Za rfl rfl rfl (Xv rfl rfl) ?_
 refine Zg ?_
 refine Zc hK39 ?_
 refine Zd (fun K hK40 => ?_)
 refine Z0 rfl (fun hb => ?_) (fun hb => ?_)
 ·replace H := Zq H hb
  refine Zu ?_
  refine Zc hK40 ?_
  refine Zd (fun K hK41 => ?_)
  refine Yj ?_
  refine Zd (fun K hK42 => ?_)
  refine Zf ?_
  refine Zb 2 rfl ?_
  refine Zg ?_
  refine Zc hK42 ?_
  refine Zf ?_
  refine Zb 4 rfl ?_
  obtain ⟨e43, hi45, H⟩ := bind_some H
  obtain ⟨j44, hi45a, hi45b, hi45c⟩ := Y9 hi45
  refine Za rfl rfl rfl (Xo Vd rfl rfl hi45a (Nat.lt_of_lt_of_eq hi45c hl38) (Rd.el (hS.row_rd Vh) Xd hi45b)) ?_
  refine Za rfl rfl rfl (V4 Zx rfl (RW.here _) (Rd.el (hS.row_rd Vh) Xd hi45b) rfl) ?_
  refine Zb 1 rfl ?_
  refine Za rfl rfl rfl (yv_min rfl rfl) ?_
  obtain ⟨e46, hi48, H⟩ := bind_some H
  obtain ⟨j47, hi48a, hi48b, hi48c⟩ := Y9 hi48
  refine Za rfl rfl rfl (Xo Vd rfl rfl hi48a (Nat.lt_of_lt_of_eq hi48c hl38) (Rd.el (hS.row_rd Vh) Xd hi48b)) ?_
  refine wpX_storeR (a' := (min e43 (IntKind.wrap .i64 (r30 + 1)))) (zs := (setI v36 v35 (min e43 (IntKind.wrap .i64 (r30 + 1))))) Xd rfl rfl rfl CellsOf.int hS ps2 (Rd.el (hS.row_rd Vh) Xd hi48b) hi48a hi48b rfl st0_1 (by kernel_rfl) rfl (fun w hS => ?_)
  refine Zg ?_
  refine Z1 ?_
  refine Zc hK41 ?_
  refine Zf ?_
  refine Za rfl rfl rfl (X1 rfl rfl) ?_
  refine Zb 1 rfl ?_
  refine Zg ?_
  exact Vp (n, (IntKind.wrap .i64 (v35 + 1)), (setI v36 v35 (min e43 (IntKind.wrap .i64 (r30 + 1))))) (by repeat (first | exact Sub.nil | refine Sub.cons rfl ?_)) ⟨hS, (k_set k37), (Zeq hl38), H⟩ (Nat.lt_succ_self _)
 replace H := Zp H hb
 refine Vo ?_
 refine Ye ?_
 refine Ye ?_
 refine Xf ?_
 refine Zb9 rfl RV.nil rfl ?_
 refine ⟨_, rfl, ?_⟩
 refine Zg ?_
 refine Zc hK33 ?_
 refine Zd (fun K hK49 => ?_)
 refine Zf ?_
 refine Zb 1 rfl ?_
 refine Za rfl rfl rfl (Ze Zco rfl) ?_
 refine Za rfl rfl rfl (Zh V1 rfl (RW.here _) hS hs6 trivial Zfg) ?_
 refine Zb 1 rfl ?_
 refine Zbi rfl rfl rfl rfl (by kernel_rfl) rfl ?_
 show Calls _ _ #[_, _] _ _
 refine Yw Try.func62 rfl Try.ntmps62 rfl ?_
 refine Zd (fun K hK50 => ?_)
 refine Zf ?_
 refine Zb 1 rfl ?_
 refine Za rfl rfl rfl (Y1 Vd rfl) ?_
 refine Zb 1 rfl ?_
 refine Zg ?_
 refine Zc hK50 ?_
 refine Yj ?_
 refine Jq (X := Nat × Int × List Int) (fun x => (0, .slice A21 r7.mtch.length c22) :: (1, .int .i64 r30) :: (6, .int .i64 (r7.mtch.length : Int)) :: (7, .int .i64 x.2.1) :: []) (fun x w => St0 All w0 w (.row (.slice A9 r7.tuple.log.length c10) 46 3 r7.tuple.log.length (Ym Jv r7.tuple.log) :: .row (.slice A13 r7.votes.length c14) 4 1 r7.votes.length (Ym enO r7.votes) :: .row (.slice A17 r7.next.length c18) 3 1 r7.next.length (Ym Vu v36) :: .row (.slice A21 r7.mtch.length c22) 3 1 r7.mtch.length (Ym Vu x.2.2) :: .row (.slice A25 r7.caps.length c26) 3 1 r7.caps.length (Ym Vu r7.caps) :: .box b4 [.int .i64 0, .int .i64 0, .int .u8 0, .int .i64 0, .int .i64 0, .int .i64 0, .int .i64 0, .int .i64 0, .bool false, .slice none 0 0, .int .i64 0, .int .i64 0, .int .i64 0, .int .i64 0, .int .i64 0, .int .i64 0, .int .i64 0, .bool false, .slice none 0 0, .slice none 0 0, .slice none 0 0, .slice none 0 0] 30 :: .box b2 [.int .i64 r7.id, .int .i64 r7.n, .int .u8 r7.role, .int .i64 r7.binary, .int .i64 r7.tuple.snap.index, .int .i64 r7.tuple.snap.term, .int .i64 r7.tuple.snap.sum, .int .i64 r7.tuple.snap.level, .bool r7.tuple.snap.final, .slice A9 r7.tuple.log.length c10, .int .i64 r7.tuple.term, .int .i64 r7.tuple.vote, .int .i64 r7.commit, .int .i64 r7.applied.index, .int .i64 r7.applied.term, .int .i64 r7.applied.sum, .int .i64 r7.applied.level, .bool r7.applied.final, .slice A13 r7.votes.length c14, .slice A17 r7.next.length c18, .slice A21 r7.mtch.length c22, .slice A25 r7.caps.length c26] 30 :: []) ∧ (x.2.2.length ≤ c22 ∧ c22 ≤ maxLen) ∧ (x.2.2.length = r7.mtch.length) ∧ Zau r7 r30 v36 x.1 x.2.1 x.2.2 = some r) (fun x => x.1) (X6, 0, r7.mtch) (by repeat (first | exact Sub.nil | refine Sub.cons rfl ?_)) ⟨hS, k23, rfl, H⟩ ?_
 rintro ⟨n, v51, v52⟩ w ⟨hS, k53, hl54, H⟩
 dsimp only at hS k53 hl54 H ⊢
 obtain _ | n := n
 ·have H0 : none = some r := H
  cases H0
 rw [Zau] at H
 refine Zd (fun K hK55 => ?_)
 refine Zf ?_
 refine Za rfl rfl rfl (Xv rfl rfl) ?_
 refine Zg ?_
 refine Zc hK55 ?_
 refine Zd (fun K hK56 => ?_)
 refine Z0 rfl (fun hb => ?_) (fun hb => ?_)
 ·replace H := Zq H hb
  refine Zu ?_
  refine Zc hK56 ?_
  refine Zd (fun K hK57 => ?_)
  refine Yj ?_
  refine Zd (fun K hK58 => ?_)
  refine Zf ?_
  refine Zb 2 rfl ?_
  refine Zg ?_
  refine Zc hK58 ?_
  refine Zf ?_
  refine Zb 4 rfl ?_
  obtain ⟨e59, hi61, H⟩ := bind_some H
  obtain ⟨j60, hi61a, hi61b, hi61c⟩ := Y9 hi61
  refine Za rfl rfl rfl (Xo Vd rfl rfl hi61a (Nat.lt_of_lt_of_eq hi61c hl54) (Rd.el (hS.row_rd hs3) Xd hi61b)) ?_
  refine Za rfl rfl rfl (V4 Zx rfl (RW.here _) (Rd.el (hS.row_rd hs3) Xd hi61b) rfl) ?_
  refine Zb 1 rfl ?_
  refine Za rfl rfl rfl (yv_min rfl rfl) ?_
  obtain ⟨e62, hi64, H⟩ := bind_some H
  obtain ⟨j63, hi64a, hi64b, hi64c⟩ := Y9 hi64
  refine Za rfl rfl rfl (Xo Vd rfl rfl hi64a (Nat.lt_of_lt_of_eq hi64c hl54) (Rd.el (hS.row_rd hs3) Xd hi64b)) ?_
  refine wpX_storeR (a' := (min e59 r30)) (zs := (setI v52 v51 (min e59 r30))) Xd rfl rfl rfl CellsOf.int hS ps3 (Rd.el (hS.row_rd hs3) Xd hi64b) hi64a hi64b rfl st0_1 (by kernel_rfl) rfl (fun w hS => ?_)
  refine Zg ?_
  refine Z1 ?_
  refine Zc hK57 ?_
  refine Zf ?_
  refine Za rfl rfl rfl (X1 rfl rfl) ?_
  refine Zb 1 rfl ?_
  refine Zg ?_
  exact Vp (n, (IntKind.wrap .i64 (v51 + 1)), (setI v52 v51 (min e59 r30))) (by repeat (first | exact Sub.nil | refine Sub.cons rfl ?_)) ⟨hS, (k_set k53), (Zeq hl54), H⟩ (Nat.lt_succ_self _)
 replace H := Zp H hb
 refine Vo ?_
 refine Ye ?_
 refine Ye ?_
 refine Xf ?_
 refine Zb9 rfl RV.nil rfl ?_
 refine ⟨_, rfl, ?_⟩
 refine Zg ?_
 refine Zc hK49 ?_
 refine Zd (fun K hK65 => ?_)
 refine Zf ?_
 refine Za rfl rfl rfl (Zj Yp rfl (RW.here _) hS hs6 trivial Yb) ?_
 refine Zo rfl rfl rfl CellsOf.agg hS ps5 Xq (by kernel_rfl) rfl (fun w hS hB => ?_)
 refine Zg ?_
 refine Zc hK65 ?_
 refine Zk ?_
 refine Zl rfl (RV.cell rfl (Z3 Yp hS hs5 Yb) RV.nil) rfl ?_
 obtain rfl := Option.some.inj H
 have hS := hS.front 4 rfl
 have hS := hS.front 4 rfl
 have hS := hS.front 4 rfl
 have hS := hS.front 4 rfl
 have hS := hS.front 4 rfl
 replace hS := hS.cut 5
 exact ⟨A9, c10, A13, c14, A17, c18, A21, c22, A25, c26, by rw [hl38, hl54]; rfl, k11, k15, k37, k53, k27, hS.eqv (by rw [hl38, hl54]; rfl)⟩
end Go.Proofs.Ytenagnncpaabdaa
