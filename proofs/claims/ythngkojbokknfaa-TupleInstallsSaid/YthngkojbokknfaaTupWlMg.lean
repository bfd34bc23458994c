/- The walks of tuples: wakes. -/
import Derived.Test.YthngkojbokknfaaTupWkMg
namespace Go.Proofs.Ythngkojbokknfaa
open Go Go.RowKit
set_option maxRecDepth 10000
set_option maxHeartbeats 2000000

theorem wk4 (A : Option Addr) (c : Nat) (w0 : World) (hx : LI w0 A 2 c [⟨2, 1, 5⟩, ⟨2, 1, 6⟩]) :
    PureC Try.prog 12 #[.agg #[.int .i64 0, .int .i64 0, .int .i64 0, .int .i64 1, .bool false, .slice A 2 c, .int .i64 3, .int .i64 2], .int .i64 1] w0 (.tuple #[.agg #[.int .i64 1, .int .i64 2, .int .i64 6, .int .i64 1, .bool false], .bool true]) := by
  have h := state_yes ⟨⟨0, 0, 0, 1, false⟩, [⟨2, 1, 5⟩, ⟨2, 1, 6⟩], 3, 2⟩ A c 1 w0 (by decide) hx 1 rfl (by decide)
  have e : allS (⟨⟨0, 0, 0, 1, false⟩, [⟨2, 1, 5⟩, ⟨2, 1, 6⟩], 3, 2⟩ : Tu).snap ((⟨⟨0, 0, 0, 1, false⟩, [⟨2, 1, 5⟩, ⟨2, 1, 6⟩], 3, 2⟩ : Tu).log.take 1) = ⟨1, 2, 6, 1, false⟩ := by decide +kernel
  rw [e] at h
  exact h
theorem wk9 (A : Option Addr) (c : Nat) (w0 : World) (hx : LI w0 A 1 c [⟨2, 1, 6⟩]) :
    PureC Try.prog 14 #[.agg #[.int .i64 1, .int .i64 2, .int .i64 6, .int .i64 1, .bool false, .slice A 1 c, .int .i64 3, .int .i64 2], .int .i64 2] w0 (.tuple #[.int .i64 2, .bool true]) := by
  have h := term_any ⟨⟨1, 2, 6, 1, false⟩, [⟨2, 1, 6⟩], 3, 2⟩ A c 2 w0 (by decide) hx
  have e : termAt ⟨⟨1, 2, 6, 1, false⟩, [⟨2, 1, 6⟩], 3, 2⟩ 2 = some 2 := by decide +kernel
  rw [e] at h
  exact h
theorem wkR (A : Option Addr) (c : Nat) (w0 : World) (hx : LI w0 A 0 c []) (hA : ∀ a, A = some a → a.block < w0.heap.size) :
    PureC Try.prog 32 #[.agg #[.int .i64 9, .int .i64 3, .int .i64 0, .int .i64 2, .bool false, .slice A 0 c, .int .i64 3, .int .i64 2]] w0 (.bool true) := by
  have h := right_any2 ⟨9, 3, 0, 2, false⟩ A 0 c [] 3 2 w0 hx (by decide) hA
  have e : tupB ⟨⟨9, 3, 0, 2, false⟩, [], 3, 2⟩ = true := by decide +kernel
  rw [e] at h
  exact h
theorem wkZ (w0 : World) :
    PureC Try.prog 32 #[.agg #[.int .i64 0, .int .i64 0, .int .i64 0, .int .i64 0, .bool false, .slice none 0 0, .int .i64 0, .int .i64 0]] w0 (.bool false) := by
  have h := right_any2 ⟨0, 0, 0, 0, false⟩ none 0 0 [] 0 0 w0 ⟨rfl, by decide, by decide, by decide, Rd.nil _ _⟩ (by decide) (fun _ h => by cases h)
  have e : tupB ⟨⟨0, 0, 0, 0, false⟩, [], 0, 0⟩ = false := by decide +kernel
  rw [e] at h
  exact h
theorem built_zero : Try.prog.built 26 [] = some [.int .i64 0, .int .i64 0, .int .i64 0, .int .i64 0, .bool false, .slice none 0 0, .int .i64 0, .int .i64 0].toArray := by kernel_rfl
theorem built_s9 : Try.prog.built 23 [(0, .int .i64 9), (1, .int .i64 3), (3, .int .i64 2)] = some [.int .i64 9, .int .i64 3, .int .i64 0, .int .i64 2, .bool false].toArray := by kernel_rfl
theorem yv_g_eqSt {P : Program} {L : List (Nat × Value)} {R : World → Prop} {d : Option Nat} {x y : Operand} {v : Value} {t' ty : TypeId} {pos : String} {af : Array Edge} {g : Option (Nat × Bool)} (h : Yv P L R ⟨d, .binOp .eql 23 x y t', ty, pos, af, g⟩ v) : Yv P L R ⟨d, .binOp .eql 23 x y t', ty, pos, af, g⟩ v := h
/-- Where ways meet in wakes. -/
structure XW where
  b : Nat
  A : Option Addr
  c : Nat
theorem wakes12_any (w0 : World) : PureC Try.prog 9 #[] w0 (.bool true) := by
  refine PureC.mk ?_
  refine gw_enter0 Try.func9 rfl Try.ntmps9 rfl ?_
  have hS := St0.start All w0
  repeat (first | apply wpS_nil | (apply QH_seq_k; assumption) | (apply wpC_seq_k; intro K hK) | apply wpC_region | (apply wpS_g_call; first | refine wpS_callP rfl rfl rfl (by kernel_rfl) rfl (first_any _) hS (fun w hS hB => ?_)) | (apply wpS_g; refine wpS_put rfl rfl rfl (by first | exact yv_assign rfl) ?_))
  refine wpS_call rfl rfl rfl rfl (by kernel_rfl) rfl (wk1 none 0 _ ⟨rfl, by decide, by decide, by decide, Rd.nil _ _⟩ (fun _ h => by cases h)) ?_
  rintro e w1 ⟨At, ct, ⟨rfl, hst⟩, hB⟩
  refine ⟨_, rfl, ?_⟩
  replace hS := hS.slice hst hB
  have ht1 := hst.le
  have ht2 := hst.cap
  clear hst
  repeat (first | (apply wpS_g; refine wpS_put rfl rfl rfl (by first | exact yv_move rfl | exact yv_extract rfl rfl) ?_))
  first | (apply wpS_g_alloc; refine wpS_alloc rfl rfl (by first | exact zc_26) hS (fun bt w hS hB => ?_))
  repeat (first | apply wpS_nil | (apply QH_seq_k; assumption) | (apply wpC_seq_k; intro K hK) | (apply wpS_g_store; refine wpS_store rfl rfl rfl (by first | exact CellsOf.agg) hS (by repeat (first | exact Pos.head)) (by repeat (first | exact SetC.here (by repeat (first | exact Ovr.nil | apply Ovr.cons)))) (by kernel_rfl) rfl (fun w hS hB => ?_)) | (apply wpS_g; refine wpS_put rfl rfl rfl (by first | exact yv_assign rfl) ?_))
  refine wpC_meet (X := XW) (fun z => [(4, .int .i64 0), (3, .pointer (some ⟨z.b, 0, none⟩)), (2, .int .i64 0), (1, .pointer (some ⟨bt, 0, none⟩)), (0, .bool false)]) (fun z w => St0 All w0 w [.rd z.A (ens [⟨2, 1, 5⟩, ⟨2, 1, 6⟩, ⟨2, 1, 7⟩]), .box z.b [.int .i64 0, .int .i64 0, .int .i64 0, .int .i64 1, .bool false, .slice z.A 3 z.c, .int .i64 3, .int .i64 2] 26, .box bt [.int .i64 0, .int .i64 0, .int .i64 0, .int .i64 1, .bool false, .slice At 0 ct, .int .i64 3, .int .i64 2] 26, .rd At (ens [])] ∧ 3 ≤ z.c ∧ z.c ≤ maxLen) hK ?_ ?_
  · refine wpC_draw 10 [8] (fun i b => (i = 8 → False)) ⟨by kernel_rfl, by kernel_rfl⟩ hS (fun w hS hB => ?_)
    refine wpR_batch [true] (by decide +kernel) (by repeat (first | exact PF.body | apply PF.then)) ?_
    repeat (first | refine LtK.put rfl rfl rfl (by first | (apply yv_g_load; first | exact yv_load_boxA (by first | exact ag_23 | exact ag_26) rfl (RW.below _) hS (by repeat (first | exact Has.head)) (by first | trivial) (by repeat (first | exact Seg.here (by repeat (first | exact Pre.zero | apply Pre.succ)))))) ?_)
    refine LtK.nil ?_
    refine wpR_two [false, true] [false, false, false, false, false, false, false, true] 1 7 ⟨by decide, by kernel_rfl, by kernel_rfl, by kernel_rfl⟩ rfl rfl rfl rfl ?_ ?_
    · dsimp only [pickL]
      repeat (first | apply wpS_nil | (apply wpS_g; refine wpS_sliceM [.int .i64 5, .int .i64 6, .int .i64 7] (by first | exact el_74) (by first | exact zc_3) rfl rfl rfl rfl rfl (by kernel_rfl) hS ?_; rintro bq w hS hB))
      refine QH_step (by first | assumption) ?_
      refine wpR_two [false, false, true] [false, false, false, false, false, false, false, true] 2 7 ⟨by decide, by kernel_rfl, by kernel_rfl, by kernel_rfl⟩ rfl rfl rfl rfl ?_ ?_
      · dsimp only [pickL]
        repeat (first | apply wpS_nil | (apply wpS_g_call; refine wpS_call rfl rfl rfl rfl (by kernel_rfl) rfl (some_any 2 (some ⟨bq, 0, none⟩) 3 3 [5, 6, 7] _ rfl (by decide) (hS.box_rd (b := bq) (by repeat (first | exact Has.head)))) ?_; rintro e w1 ⟨Aq, cq, ⟨rfl, hsq⟩, hB⟩; refine ⟨_, rfl, ?_⟩; have hS := hS.slice hsq hB))
        refine QH_step (by first | assumption) ?_
        refine wpR_two [false, false, false, true] [false, false, false, false, false, false, false, true] 3 7 ⟨by decide, by kernel_rfl, by kernel_rfl, by kernel_rfl⟩ rfl rfl rfl rfl ?_ ?_
        · dsimp only [pickL]
          repeat (first | apply wpS_nil | (apply wpS_g_call; refine wpS_call rfl rfl rfl rfl (by kernel_rfl) rfl (wk2 At ct Aq cq _ ⟨rfl, by decide, ht1, ht2, hS.rd (by repeat (first | exact Has.head | apply Has.tail))⟩ (fun a ha => (hS.rd_rng (by repeat (first | exact Has.head | apply Has.tail)) a ha).2) ⟨rfl, by decide, hsq.le, hsq.cap, hS.rd (by repeat (first | exact Has.head))⟩) ?_; rintro e w1 ⟨Au, cu, ⟨rfl, hsu⟩, hB⟩; refine ⟨_, rfl, ?_⟩; have hS := hS.slice hsu hB))
          refine QH_step (by first | assumption) ?_
          refine wpR_batch [false, false, false, false, true, true] (by decide +kernel) (by repeat (first | exact PF.body | apply PF.then)) ?_
          repeat (first | refine LtK.put rfl rfl rfl (by first | exact yv_move rfl | exact yv_extract rfl rfl) ?_)
          refine LtK.nil ?_
          refine wpR_batchG [false, false, false, false, false, false, true] [8] (fun _ => False) (by decide +kernel) (by intro j hj b hb; simp only [List.mem_cons, List.not_mem_nil, or_false] at hj; (try rcases hj with rfl | rfl) <;> simp_all) (by repeat (first | exact PF.body | apply PF.then)) ?_
          repeat (first | refine LtK.put rfl rfl rfl (by first | exact yv_extract rfl rfl) ?_)
          refine LtK.nil ?_
          refine wpR_call [false, false, false, false, false, false, false, true] 7 ⟨by decide, by kernel_rfl, by kernel_rfl⟩ rfl rfl ?_
          dsimp only [pickL]
          repeat (first | apply wpS_nil | (apply wpS_g_alloc; refine wpS_alloc rfl rfl (by first | exact zc_26) hS (fun b w hS hB => ?_)))
          refine QH_step (by first | assumption) ?_
          refine wpR_seal [false, false, false, false, false, false, false, false, true] 8 ⟨by decide, by kernel_rfl, by kernel_rfl⟩ rfl rfl ?_
          dsimp only [pickL]
          repeat (first | apply wpS_nil | (apply wpS_g_store; refine wpS_store rfl rfl rfl (by first | exact CellsOf.agg) hS (by repeat (first | exact Pos.head)) (by repeat (first | exact SetC.here (by repeat (first | exact Ovr.nil | apply Ovr.cons)))) (by kernel_rfl) rfl (fun w hS hB => ?_)))
          refine QH_stepG (hB.sub (fun _ _ h => (h rfl).elim)) ?_
          refine wpR_batch [false, false, false, false, false, false, false, false, false, true] (by decide +kernel) (by repeat (first | exact PF.body | apply PF.then)) ?_
          repeat (first | refine LtK.put rfl rfl rfl (by first | exact yv_assign rfl) ?_)
          refine LtK.nil ?_
          refine wpR_end (by kernel_rfl) ?_
          refine QH_arr ⟨b, Au, cu⟩ (by repeat (first | exact Sub.nil | refine Sub.cons rfl ?_)) ⟨by first | (refine hS.subSwap ?_; ((try dsimp only); (repeat (first | exact List.Sublist.refl _ | (refine List.Sublist.cons_cons _ ?_) | (refine List.Sublist.cons _ ?_))); done)), hsu.le, hsu.cap⟩
        · dsimp only [pickL]
          repeat (first | apply wpS_nil | (apply wpS_g_alloc; refine wpS_alloc rfl rfl (by first | exact zc_26) hS (fun b w hS hB => ?_)))
          refine QH_step (by first | assumption) ?_
          refine wpR_call [false, false, false, true] 3 ⟨by decide, by kernel_rfl, by kernel_rfl⟩ rfl rfl ?_
          dsimp only [pickL]
          repeat (first | apply wpS_nil | (apply wpS_g_call; refine wpS_call rfl rfl rfl rfl (by kernel_rfl) rfl (wk2 At ct Aq cq _ ⟨rfl, by decide, ht1, ht2, hS.rd (by repeat (first | exact Has.head | apply Has.tail))⟩ (fun a ha => (hS.rd_rng (by repeat (first | exact Has.head | apply Has.tail)) a ha).2) ⟨rfl, by decide, hsq.le, hsq.cap, hS.rd (by repeat (first | exact Has.head | apply Has.tail))⟩) ?_; rintro e w1 ⟨Au, cu, ⟨rfl, hsu⟩, hB⟩; refine ⟨_, rfl, ?_⟩; have hS := hS.slice hsu hB))
          refine QH_step (by first | assumption) ?_
          refine wpR_batch [false, false, false, false, true, true] (by decide +kernel) (by repeat (first | exact PF.body | apply PF.then)) ?_
          repeat (first | refine LtK.put rfl rfl rfl (by first | exact yv_move rfl | exact yv_extract rfl rfl) ?_)
          refine LtK.nil ?_
          refine wpR_batchG [false, false, false, false, false, false, true] [8] (fun _ => False) (by decide +kernel) (by intro j hj b hb; simp only [List.mem_cons, List.not_mem_nil, or_false] at hj; (try rcases hj with rfl | rfl) <;> simp_all) (by repeat (first | exact PF.body | apply PF.then)) ?_
          repeat (first | refine LtK.put rfl rfl rfl (by first | exact yv_extract rfl rfl) ?_)
          refine LtK.nil ?_
          refine wpR_seal [false, false, false, false, false, false, false, false, true] 8 ⟨by decide, by kernel_rfl, by kernel_rfl⟩ rfl rfl ?_
          dsimp only [pickL]
          repeat (first | apply wpS_nil | (apply wpS_g_store; refine wpS_store rfl rfl rfl (by first | exact CellsOf.agg) hS (by repeat (first | exact Pos.head | apply Pos.tail)) (by repeat (first | exact SetC.here (by repeat (first | exact Ovr.nil | apply Ovr.cons)))) (by kernel_rfl) rfl (fun w hS hB => ?_)))
          refine QH_stepG (hB.sub (fun _ _ h => (h rfl).elim)) ?_
          refine wpR_batch [false, false, false, false, false, false, false, false, false, true] (by decide +kernel) (by repeat (first | exact PF.body | apply PF.then)) ?_
          repeat (first | refine LtK.put rfl rfl rfl (by first | exact yv_assign rfl) ?_)
          refine LtK.nil ?_
          refine wpR_end (by kernel_rfl) ?_
          refine QH_arr ⟨b, Au, cu⟩ (by repeat (first | exact Sub.nil | refine Sub.cons rfl ?_)) ⟨by first | (refine hS.sub ?_; ((try dsimp only); (repeat (first | exact List.Sublist.refl _ | (refine List.Sublist.cons_cons _ ?_) | (refine List.Sublist.cons _ ?_))); done)), hsu.le, hsu.cap⟩
      · dsimp only [pickL]
        repeat (first | apply wpS_nil | (apply wpS_g_alloc; refine wpS_alloc rfl rfl (by first | exact zc_26) hS (fun b w hS hB => ?_)))
        refine QH_step (by first | assumption) ?_
        refine wpR_call [false, false, true] 2 ⟨by decide, by kernel_rfl, by kernel_rfl⟩ rfl rfl ?_
        dsimp only [pickL]
        repeat (first | apply wpS_nil | (apply wpS_g_call; refine wpS_call rfl rfl rfl rfl (by kernel_rfl) rfl (some_any 2 (some ⟨bq, 0, none⟩) 3 3 [5, 6, 7] _ rfl (by decide) (hS.box_rd (b := bq) (by repeat (first | exact Has.head | apply Has.tail)))) ?_; rintro e w1 ⟨Aq, cq, ⟨rfl, hsq⟩, hB⟩; refine ⟨_, rfl, ?_⟩; have hS := hS.slice hsq hB))
        refine QH_step (by first | assumption) ?_
        refine wpR_call [false, false, false, true] 3 ⟨by decide, by kernel_rfl, by kernel_rfl⟩ rfl rfl ?_
        dsimp only [pickL]
        repeat (first | apply wpS_nil | (apply wpS_g_call; refine wpS_call rfl rfl rfl rfl (by kernel_rfl) rfl (wk2 At ct Aq cq _ ⟨rfl, by decide, ht1, ht2, hS.rd (by repeat (first | exact Has.head | apply Has.tail))⟩ (fun a ha => (hS.rd_rng (by repeat (first | exact Has.head | apply Has.tail)) a ha).2) ⟨rfl, by decide, hsq.le, hsq.cap, hS.rd (by repeat (first | exact Has.head))⟩) ?_; rintro e w1 ⟨Au, cu, ⟨rfl, hsu⟩, hB⟩; refine ⟨_, rfl, ?_⟩; have hS := hS.slice hsu hB))
        refine QH_step (by first | assumption) ?_
        refine wpR_batch [false, false, false, false, true, true] (by decide +kernel) (by repeat (first | exact PF.body | apply PF.then)) ?_
        repeat (first | refine LtK.put rfl rfl rfl (by first | exact yv_move rfl | exact yv_extract rfl rfl) ?_)
        refine LtK.nil ?_
        refine wpR_batchG [false, false, false, false, false, false, true] [8] (fun _ => False) (by decide +kernel) (by intro j hj b hb; simp only [List.mem_cons, List.not_mem_nil, or_false] at hj; (try rcases hj with rfl | rfl) <;> simp_all) (by repeat (first | exact PF.body | apply PF.then)) ?_
        repeat (first | refine LtK.put rfl rfl rfl (by first | exact yv_extract rfl rfl) ?_)
        refine LtK.nil ?_
        refine wpR_seal [false, false, false, false, false, false, false, false, true] 8 ⟨by decide, by kernel_rfl, by kernel_rfl⟩ rfl rfl ?_
        dsimp only [pickL]
        repeat (first | apply wpS_nil | (apply wpS_g_store; refine wpS_store rfl rfl rfl (by first | exact CellsOf.agg) hS (by repeat (first | exact Pos.head | apply Pos.tail)) (by repeat (first | exact SetC.here (by repeat (first | exact Ovr.nil | apply Ovr.cons)))) (by kernel_rfl) rfl (fun w hS hB => ?_)))
        refine QH_stepG (hB.sub (fun _ _ h => (h rfl).elim)) ?_
        refine wpR_batch [false, false, false, false, false, false, false, false, false, true] (by decide +kernel) (by repeat (first | exact PF.body | apply PF.then)) ?_
        repeat (first | refine LtK.put rfl rfl rfl (by first | exact yv_assign rfl) ?_)
        refine LtK.nil ?_
        refine wpR_end (by kernel_rfl) ?_
        refine QH_arr ⟨b, Au, cu⟩ (by repeat (first | exact Sub.nil | refine Sub.cons rfl ?_)) ⟨by first | (refine hS.sub ?_; ((try dsimp only); (repeat (first | exact List.Sublist.refl _ | (refine List.Sublist.cons_cons _ ?_) | (refine List.Sublist.cons _ ?_))); done)), hsu.le, hsu.cap⟩
    · dsimp only [pickL]
      repeat (first | apply wpS_nil | (apply wpS_g_alloc; refine wpS_alloc rfl rfl (by first | exact zc_26) hS (fun b w hS hB => ?_)))
      refine QH_step (by first | assumption) ?_
      refine wpR_call [false, true] 1 ⟨by decide, by kernel_rfl, by kernel_rfl⟩ rfl rfl ?_
      dsimp only [pickL]
      repeat (first | apply wpS_nil | (apply wpS_g; refine wpS_sliceM [.int .i64 5, .int .i64 6, .int .i64 7] (by first | exact el_74) (by first | exact zc_3) rfl rfl rfl rfl rfl (by kernel_rfl) hS ?_; rintro bq w hS hB))
      refine QH_step (by first | assumption) ?_
      refine wpR_call [false, false, true] 2 ⟨by decide, by kernel_rfl, by kernel_rfl⟩ rfl rfl ?_
      dsimp only [pickL]
      repeat (first | apply wpS_nil | (apply wpS_g_call; refine wpS_call rfl rfl rfl rfl (by kernel_rfl) rfl (some_any 2 (some ⟨bq, 0, none⟩) 3 3 [5, 6, 7] _ rfl (by decide) (hS.box_rd (b := bq) (by repeat (first | exact Has.head)))) ?_; rintro e w1 ⟨Aq, cq, ⟨rfl, hsq⟩, hB⟩; refine ⟨_, rfl, ?_⟩; have hS := hS.slice hsq hB))
      refine QH_step (by first | assumption) ?_
      refine wpR_call [false, false, false, true] 3 ⟨by decide, by kernel_rfl, by kernel_rfl⟩ rfl rfl ?_
      dsimp only [pickL]
      repeat (first | apply wpS_nil | (apply wpS_g_call; refine wpS_call rfl rfl rfl rfl (by kernel_rfl) rfl (wk2 At ct Aq cq _ ⟨rfl, by decide, ht1, ht2, hS.rd (by repeat (first | exact Has.head | apply Has.tail))⟩ (fun a ha => (hS.rd_rng (by repeat (first | exact Has.head | apply Has.tail)) a ha).2) ⟨rfl, by decide, hsq.le, hsq.cap, hS.rd (by repeat (first | exact Has.head))⟩) ?_; rintro e w1 ⟨Au, cu, ⟨rfl, hsu⟩, hB⟩; refine ⟨_, rfl, ?_⟩; have hS := hS.slice hsu hB))
      refine QH_step (by first | assumption) ?_
      refine wpR_batch [false, false, false, false, true, true] (by decide +kernel) (by repeat (first | exact PF.body | apply PF.then)) ?_
      repeat (first | refine LtK.put rfl rfl rfl (by first | exact yv_move rfl | exact yv_extract rfl rfl) ?_)
      refine LtK.nil ?_
      refine wpR_batchG [false, false, false, false, false, false, true] [8] (fun _ => False) (by decide +kernel) (by intro j hj b hb; simp only [List.mem_cons, List.not_mem_nil, or_false] at hj; (try rcases hj with rfl | rfl) <;> simp_all) (by repeat (first | exact PF.body | apply PF.then)) ?_
      repeat (first | refine LtK.put rfl rfl rfl (by first | exact yv_extract rfl rfl) ?_)
      refine LtK.nil ?_
      refine wpR_seal [false, false, false, false, false, false, false, false, true] 8 ⟨by decide, by kernel_rfl, by kernel_rfl⟩ rfl rfl ?_
      dsimp only [pickL]
      repeat (first | apply wpS_nil | (apply wpS_g_store; refine wpS_store rfl rfl rfl (by first | exact CellsOf.agg) hS (by repeat (first | exact Pos.head | apply Pos.tail)) (by repeat (first | exact SetC.here (by repeat (first | exact Ovr.nil | apply Ovr.cons)))) (by kernel_rfl) rfl (fun w hS hB => ?_)))
      refine QH_stepG (hB.sub (fun _ _ h => (h rfl).elim)) ?_
      refine wpR_batch [false, false, false, false, false, false, false, false, false, true] (by decide +kernel) (by repeat (first | exact PF.body | apply PF.then)) ?_
      repeat (first | refine LtK.put rfl rfl rfl (by first | exact yv_assign rfl) ?_)
      refine LtK.nil ?_
      refine wpR_end (by kernel_rfl) ?_
      refine QH_arr ⟨b, Au, cu⟩ (by repeat (first | exact Sub.nil | refine Sub.cons rfl ?_)) ⟨by first | (refine hS.sub ?_; ((try dsimp only); (repeat (first | exact List.Sublist.refl _ | (refine List.Sublist.cons_cons _ ?_) | (refine List.Sublist.cons _ ?_))); done)), hsu.le, hsu.cap⟩
  rintro ⟨bu, Au, cu⟩ w ⟨hS, hu1, hu2⟩
  dsimp only at hS hu1 hu2 ⊢
  repeat (first | (apply wpC_seq_k; intro K hK) | apply wpC_region | (apply wpS_g; refine wpS_put rfl rfl rfl (by first | (apply yv_g_load; first | exact yv_load_boxA (by first | exact ag_26) rfl (RW.here _) hS (by repeat (first | exact Has.head | apply Has.tail)) (by first | trivial) (by repeat (first | exact Seg.here (by repeat (first | exact Pre.zero | apply Pre.succ)))))) ?_))
  refine wpS_call rfl rfl rfl rfl (by kernel_rfl) rfl (wk3 Au cu _ ⟨rfl, by decide, hu1, hu2, hS.rd (by repeat (first | exact Has.head))⟩ (fun a ha => (hS.rd_rng (by repeat (first | exact Has.head)) a ha).2)) ?_
  rintro e w1 ⟨Av, cv, ⟨rfl, hs⟩, hB⟩
  refine ⟨_, rfl, ?_⟩
  replace hS := hS.slice hs hB
  have hv1 := hs.le
  have hv2 := hs.cap
  clear hs
  repeat (first | (apply wpS_g; refine wpS_put rfl rfl rfl (by first | exact yv_move rfl | exact yv_extract rfl rfl) ?_))
  first | (apply wpS_g_alloc; refine wpS_alloc rfl rfl (by first | exact zc_26) hS (fun bv w hS hB => ?_))
  repeat (first | apply wpS_nil | (apply QH_seq_k; assumption) | (apply wpC_seq_k; intro K hK) | apply wpC_region | (apply wpS_g_store; refine wpS_store rfl rfl rfl (by first | exact CellsOf.agg) hS (by repeat (first | exact Pos.head)) (by repeat (first | exact SetC.here (by repeat (first | exact Ovr.nil | apply Ovr.cons)))) (by kernel_rfl) rfl (fun w hS hB => ?_)) | (apply wpS_g; refine wpS_put rfl rfl rfl (by first | exact yv_assign rfl | (apply yv_g_load; first | exact yv_load_boxA (by first | exact ag_26) rfl (RW.here _) hS (by repeat (first | exact Has.head)) (by first | trivial) (by repeat (first | exact Seg.here (by repeat (first | exact Pre.zero | apply Pre.succ)))))) ?_))
  refine wpS_callP rfl rfl rfl (by kernel_rfl) rfl (wk4 Av cv _ ⟨rfl, by decide, hv1, hv2, hS.rd (by repeat (first | exact Has.head | apply Has.tail))⟩) hS (fun w hS hB => ?_)
  repeat (first | (apply wpS_g; refine wpS_put rfl rfl rfl (by first | exact yv_move rfl | exact yv_extract rfl rfl) ?_))
  first | (apply wpS_g_alloc; refine wpS_alloc rfl rfl (by first | exact zc_23) hS (fun bs w hS hB => ?_))
  repeat (first | apply wpS_nil | (apply QH_seq_k; assumption) | (apply wpC_seq_k; intro K hK) | apply wpC_region | (apply wpS_g_store; refine wpS_store rfl rfl rfl (by first | exact CellsOf.agg) hS (by repeat (first | exact Pos.head)) (by repeat (first | exact SetC.here (by repeat (first | exact Ovr.nil | apply Ovr.cons)))) (by kernel_rfl) rfl (fun w hS hB => ?_)) | (apply wpS_g; refine wpS_put rfl rfl rfl (by first | exact yv_assign rfl | (apply yv_g_load; first | exact yv_load_boxA (by first | exact ag_23 | exact ag_26) rfl (RW.here _) hS (by repeat (first | exact Has.head | apply Has.tail)) (by first | trivial) (by repeat (first | exact Seg.here (by repeat (first | exact Pre.zero | apply Pre.succ)))))) ?_))
  refine wpS_call rfl rfl rfl rfl (by kernel_rfl) rfl (wk5 Av cv _ ⟨rfl, by decide, hv1, hv2, hS.rd (by repeat (first | exact Has.head | apply Has.tail))⟩ (fun a ha => (hS.rd_rng (by repeat (first | exact Has.head | apply Has.tail)) a ha).2)) ?_
  rintro e w1 ⟨Aw, cw, ⟨rfl, hs⟩, hB⟩
  refine ⟨_, rfl, ?_⟩
  replace hS := hS.slice hs hB
  have hw1 := hs.le
  have hw2 := hs.cap
  clear hs
  repeat (first | (apply wpS_g; refine wpS_put rfl rfl rfl (by first | exact yv_move rfl | exact yv_extract rfl rfl) ?_))
  first | (apply wpS_g_alloc; refine wpS_alloc rfl rfl (by first | exact zc_26) hS (fun bw w hS hB => ?_))
  repeat (first | apply wpS_nil | (apply QH_seq_k; assumption) | (apply wpC_seq_k; intro K hK) | apply wpC_region | (apply wpS_g_store; refine wpS_store rfl rfl rfl (by first | exact CellsOf.agg) hS (by repeat (first | exact Pos.head)) (by repeat (first | exact SetC.here (by repeat (first | exact Ovr.nil | apply Ovr.cons)))) (by kernel_rfl) rfl (fun w hS hB => ?_)) | (apply wpS_g; refine wpS_put rfl rfl rfl (by apply yv_g_build; exact yv_build rfl built_s9) ?_) | (apply wpS_g; refine wpS_put rfl rfl rfl (by first | exact yv_assign rfl | (apply yv_g_load; first | exact yv_load_boxA (by first | exact ag_26) rfl (RW.here _) hS (by repeat (first | exact Has.head)) (by first | trivial) (by repeat (first | exact Seg.here (by repeat (first | exact Pre.zero | apply Pre.succ)))))) ?_))
  refine wpS_call rfl rfl rfl rfl (by kernel_rfl) rfl (wk6 Aw cw _ ⟨rfl, by decide, hw1, hw2, hS.rd (by repeat (first | exact Has.head | apply Has.tail))⟩ (fun a ha => (hS.rd_rng (by repeat (first | exact Has.head | apply Has.tail)) a ha).2)) ?_
  rintro e w1 ⟨Ax, cx, ⟨rfl, hs⟩, hB⟩
  refine ⟨_, rfl, ?_⟩
  replace hS := hS.slice hs hB
  have hx1 := hs.le
  have hx2 := hs.cap
  clear hs
  repeat (first | (apply wpS_g; refine wpS_put rfl rfl rfl (by first | exact yv_move rfl | exact yv_extract rfl rfl) ?_))
  first | (apply wpS_g_alloc; refine wpS_alloc rfl rfl (by first | exact zc_26) hS (fun bx w hS hB => ?_))
  repeat (first | apply wpS_nil | (apply QH_seq_k; assumption) | (apply wpC_seq_k; intro K hK) | apply wpC_region | (apply wpS_g_store; refine wpS_store rfl rfl rfl (by first | exact CellsOf.agg) hS (by repeat (first | exact Pos.head)) (by repeat (first | exact SetC.here (by repeat (first | exact Ovr.nil | apply Ovr.cons)))) (by kernel_rfl) rfl (fun w hS hB => ?_)) | (apply wpS_g; refine wpS_put rfl rfl rfl (by first | exact yv_assign rfl | (apply yv_g_load; first | exact yv_load_boxA (by first | exact ag_26) rfl (RW.here _) hS (by repeat (first | exact Has.head | apply Has.tail)) (by first | trivial) (by repeat (first | exact Seg.here (by repeat (first | exact Pre.zero | apply Pre.succ)))))) ?_))
  refine wpS_call rfl rfl rfl rfl (by kernel_rfl) rfl (wk7 At ct _ ⟨rfl, by decide, ht1, ht2, hS.rd (by repeat (first | exact Has.head | apply Has.tail))⟩ (fun a ha => (hS.rd_rng (by repeat (first | exact Has.head | apply Has.tail)) a ha).2)) ?_
  rintro e w1 ⟨A7, c7, ⟨rfl, hs⟩, hB⟩
  refine ⟨_, rfl, ?_⟩
  replace hS := hS.slice hs hB
  have h71 := hs.le
  have h72 := hs.cap
  clear hs
  repeat (first | (apply wpS_g; refine wpS_put rfl rfl rfl (by first | exact yv_move rfl | exact yv_extract rfl rfl) ?_))
  first | (apply wpS_g_alloc; refine wpS_alloc rfl rfl (by first | exact zc_26) hS (fun b7 w hS hB => ?_))
  repeat (first | apply wpS_nil | (apply QH_seq_k; assumption) | (apply wpC_seq_k; intro K hK) | (apply wpS_g_store; refine wpS_store rfl rfl rfl (by first | exact CellsOf.agg) hS (by repeat (first | exact Pos.head)) (by repeat (first | exact SetC.here (by repeat (first | exact Ovr.nil | apply Ovr.cons)))) (by kernel_rfl) rfl (fun w hS hB => ?_)) | (apply wpS_g; refine wpS_put rfl rfl rfl (by first | exact yv_assign rfl) ?_))
  refine wpC_meet (X := XW) (fun z => [(16, .int .i64 2), (14, .int .i64 2), (12, .int .i64 0), (11, .pointer (some ⟨bx, 0, none⟩)), (10, .int .i64 0), (9, .pointer (some ⟨bw, 0, none⟩)), (8, .bool true), (7, .pointer (some ⟨bs, 0, none⟩)), (6, .int .i64 0), (5, .pointer (some ⟨bv, 0, none⟩)), (4, .int .i64 0), (3, .pointer (some ⟨bu, 0, none⟩)), (2, .int .i64 0), (0, .bool false)]) (fun z w => St0 All w0 w [.box bx [.int .i64 9, .int .i64 3, .int .i64 0, .int .i64 2, .bool false, .slice Ax 0 cx, .int .i64 3, .int .i64 2] 26, .rd Ax (ens []), .box bw [.int .i64 1, .int .i64 2, .int .i64 6, .int .i64 1, .bool false, .slice Aw 1 cw, .int .i64 3, .int .i64 2] 26, .rd Aw (ens [⟨2, 1, 6⟩]), .box bs [.int .i64 1, .int .i64 2, .int .i64 6, .int .i64 1, .bool false] 23, .box bv [.int .i64 0, .int .i64 0, .int .i64 0, .int .i64 1, .bool false, .slice Av 2 cv, .int .i64 3, .int .i64 2] 26, .box bu [.int .i64 0, .int .i64 0, .int .i64 0, .int .i64 1, .bool false, .slice Au 3 cu, .int .i64 3, .int .i64 2] 26] ∧ 0 ≤ z.c ∧ z.c ≤ maxLen) hK ?_ ?_
  · refine wpC_draw 10 [8] (fun i b => (i = 8 → False)) ⟨by kernel_rfl, by kernel_rfl⟩ hS (fun w hS hB => ?_)
    refine wpR_batch [true] (by decide +kernel) (by repeat (first | exact PF.body | apply PF.then)) ?_
    repeat (first | refine LtK.put rfl rfl rfl (by first | (apply yv_g_load; first | exact yv_load_boxA (by first | exact ag_23 | exact ag_26) rfl (RW.below _) hS (by repeat (first | exact Has.head | apply Has.tail)) (by first | trivial) (by repeat (first | exact Seg.here (by repeat (first | exact Pre.zero | apply Pre.succ)))))) ?_)
    refine LtK.nil ?_
    refine wpR_two [false, true] [false, false, false, false, false, false, false, true] 1 7 ⟨by decide, by kernel_rfl, by kernel_rfl, by kernel_rfl⟩ rfl rfl rfl rfl ?_ ?_
    · dsimp only [pickL]
      repeat (first | apply wpS_nil | (apply wpS_g; refine wpS_sliceM [.int .i64 1] (by first | exact el_74) (by first | exact zc_3) rfl rfl rfl rfl rfl (by kernel_rfl) hS ?_; rintro bq w hS hB))
      refine QH_step (by first | assumption) ?_
      refine wpR_two [false, false, true] [false, false, false, false, false, false, false, true] 2 7 ⟨by decide, by kernel_rfl, by kernel_rfl, by kernel_rfl⟩ rfl rfl rfl rfl ?_ ?_
      · dsimp only [pickL]
        repeat (first | apply wpS_nil | (apply wpS_g_call; refine wpS_call rfl rfl rfl rfl (by kernel_rfl) rfl (some_any 4 (some ⟨bq, 0, none⟩) 1 1 [1] _ rfl (by decide) (hS.box_rd (b := bq) (by repeat (first | exact Has.head)))) ?_; rintro e w1 ⟨Aq, cq, ⟨rfl, hsq⟩, hB⟩; refine ⟨_, rfl, ?_⟩; have hS := hS.slice hsq hB))
        refine QH_step (by first | assumption) ?_
        refine wpR_two [false, false, false, true] [false, false, false, false, false, false, false, true] 3 7 ⟨by decide, by kernel_rfl, by kernel_rfl, by kernel_rfl⟩ rfl rfl rfl rfl ?_ ?_
        · dsimp only [pickL]
          repeat (first | apply wpS_nil | (apply wpS_g_call; refine wpS_call rfl rfl rfl rfl (by kernel_rfl) rfl (wk8 At ct Aq cq _ ⟨rfl, by decide, ht1, ht2, hS.rd (by repeat (first | exact Has.head | apply Has.tail))⟩ (fun a ha => (hS.rd_rng (by repeat (first | exact Has.head | apply Has.tail)) a ha).2) ⟨rfl, by decide, hsq.le, hsq.cap, hS.rd (by repeat (first | exact Has.head))⟩) ?_; rintro e w1 ⟨A8, c8, ⟨rfl, hsu⟩, hB⟩; refine ⟨_, rfl, ?_⟩; have hS := hS.slice hsu hB))
          refine QH_step (by first | assumption) ?_
          refine wpR_batch [false, false, false, false, true, true] (by decide +kernel) (by repeat (first | exact PF.body | apply PF.then)) ?_
          repeat (first | refine LtK.put rfl rfl rfl (by first | exact yv_move rfl | exact yv_extract rfl rfl) ?_)
          refine LtK.nil ?_
          refine wpR_batchG [false, false, false, false, false, false, true] [8] (fun _ => False) (by decide +kernel) (by intro j hj b hb; simp only [List.mem_cons, List.not_mem_nil, or_false] at hj; (try rcases hj with rfl | rfl) <;> simp_all) (by repeat (first | exact PF.body | apply PF.then)) ?_
          repeat (first | refine LtK.put rfl rfl rfl (by first | exact yv_extract rfl rfl) ?_)
          refine LtK.nil ?_
          refine wpR_call [false, false, false, false, false, false, false, true] 7 ⟨by decide, by kernel_rfl, by kernel_rfl⟩ rfl rfl ?_
          dsimp only [pickL]
          repeat (first | apply wpS_nil | (apply wpS_g_alloc; refine wpS_alloc rfl rfl (by first | exact zc_26) hS (fun b w hS hB => ?_)))
          refine QH_step (by first | assumption) ?_
          refine wpR_seal [false, false, false, false, false, false, false, false, true] 8 ⟨by decide, by kernel_rfl, by kernel_rfl⟩ rfl rfl ?_
          dsimp only [pickL]
          repeat (first | apply wpS_nil | (apply wpS_g_store; refine wpS_store rfl rfl rfl (by first | exact CellsOf.agg) hS (by repeat (first | exact Pos.head)) (by repeat (first | exact SetC.here (by repeat (first | exact Ovr.nil | apply Ovr.cons)))) (by kernel_rfl) rfl (fun w hS hB => ?_)))
          refine QH_stepG (hB.sub (fun _ _ h => (h rfl).elim)) ?_
          refine wpR_batch [false, false, false, false, false, false, false, false, false, true] (by decide +kernel) (by repeat (first | exact PF.body | apply PF.then)) ?_
          repeat (first | refine LtK.put rfl rfl rfl (by first | exact yv_assign rfl) ?_)
          refine LtK.nil ?_
          refine wpR_end (by kernel_rfl) ?_
          refine QH_arr ⟨0, none, 0⟩ (by repeat (first | exact Sub.nil | refine Sub.cons rfl ?_)) ⟨hS.sub (by first | ((try dsimp only); repeat (first | exact List.Sublist.slnil | (refine List.Sublist.cons_cons _ ?_) | (refine List.Sublist.cons _ ?_)))), by decide, by decide⟩
        · dsimp only [pickL]
          repeat (first | apply wpS_nil | (apply wpS_g_alloc; refine wpS_alloc rfl rfl (by first | exact zc_26) hS (fun b w hS hB => ?_)))
          refine QH_step (by first | assumption) ?_
          refine wpR_call [false, false, false, true] 3 ⟨by decide, by kernel_rfl, by kernel_rfl⟩ rfl rfl ?_
          dsimp only [pickL]
          repeat (first | apply wpS_nil | (apply wpS_g_call; refine wpS_call rfl rfl rfl rfl (by kernel_rfl) rfl (wk8 At ct Aq cq _ ⟨rfl, by decide, ht1, ht2, hS.rd (by repeat (first | exact Has.head | apply Has.tail))⟩ (fun a ha => (hS.rd_rng (by repeat (first | exact Has.head | apply Has.tail)) a ha).2) ⟨rfl, by decide, hsq.le, hsq.cap, hS.rd (by repeat (first | exact Has.head | apply Has.tail))⟩) ?_; rintro e w1 ⟨A8, c8, ⟨rfl, hsu⟩, hB⟩; refine ⟨_, rfl, ?_⟩; have hS := hS.slice hsu hB))
          refine QH_step (by first | assumption) ?_
          refine wpR_batch [false, false, false, false, true, true] (by decide +kernel) (by repeat (first | exact PF.body | apply PF.then)) ?_
          repeat (first | refine LtK.put rfl rfl rfl (by first | exact yv_move rfl | exact yv_extract rfl rfl) ?_)
          refine LtK.nil ?_
          refine wpR_batchG [false, false, false, false, false, false, true] [8] (fun _ => False) (by decide +kernel) (by intro j hj b hb; simp only [List.mem_cons, List.not_mem_nil, or_false] at hj; (try rcases hj with rfl | rfl) <;> simp_all) (by repeat (first | exact PF.body | apply PF.then)) ?_
          repeat (first | refine LtK.put rfl rfl rfl (by first | exact yv_extract rfl rfl) ?_)
          refine LtK.nil ?_
          refine wpR_seal [false, false, false, false, false, false, false, false, true] 8 ⟨by decide, by kernel_rfl, by kernel_rfl⟩ rfl rfl ?_
          dsimp only [pickL]
          repeat (first | apply wpS_nil | (apply wpS_g_store; refine wpS_store rfl rfl rfl (by first | exact CellsOf.agg) hS (by repeat (first | exact Pos.head | apply Pos.tail)) (by repeat (first | exact SetC.here (by repeat (first | exact Ovr.nil | apply Ovr.cons)))) (by kernel_rfl) rfl (fun w hS hB => ?_)))
          refine QH_stepG (hB.sub (fun _ _ h => (h rfl).elim)) ?_
          refine wpR_batch [false, false, false, false, false, false, false, false, false, true] (by decide +kernel) (by repeat (first | exact PF.body | apply PF.then)) ?_
          repeat (first | refine LtK.put rfl rfl rfl (by first | exact yv_assign rfl) ?_)
          refine LtK.nil ?_
          refine wpR_end (by kernel_rfl) ?_
          refine QH_arr ⟨0, none, 0⟩ (by repeat (first | exact Sub.nil | refine Sub.cons rfl ?_)) ⟨hS.sub (by first | ((try dsimp only); repeat (first | exact List.Sublist.slnil | (refine List.Sublist.cons_cons _ ?_) | (refine List.Sublist.cons _ ?_)))), by decide, by decide⟩
      · dsimp only [pickL]
        repeat (first | apply wpS_nil | (apply wpS_g_alloc; refine wpS_alloc rfl rfl (by first | exact zc_26) hS (fun b w hS hB => ?_)))
        refine QH_step (by first | assumption) ?_
        refine wpR_call [false, false, true] 2 ⟨by decide, by kernel_rfl, by kernel_rfl⟩ rfl rfl ?_
        dsimp only [pickL]
        repeat (first | apply wpS_nil | (apply wpS_g_call; refine wpS_call rfl rfl rfl rfl (by kernel_rfl) rfl (some_any 4 (some ⟨bq, 0, none⟩) 1 1 [1] _ rfl (by decide) (hS.box_rd (b := bq) (by repeat (first | exact Has.head | apply Has.tail)))) ?_; rintro e w1 ⟨Aq, cq, ⟨rfl, hsq⟩, hB⟩; refine ⟨_, rfl, ?_⟩; have hS := hS.slice hsq hB))
        refine QH_step (by first | assumption) ?_
        refine wpR_call [false, false, false, true] 3 ⟨by decide, by kernel_rfl, by kernel_rfl⟩ rfl rfl ?_
        dsimp only [pickL]
        repeat (first | apply wpS_nil | (apply wpS_g_call; refine wpS_call rfl rfl rfl rfl (by kernel_rfl) rfl (wk8 At ct Aq cq _ ⟨rfl, by decide, ht1, ht2, hS.rd (by repeat (first | exact Has.head | apply Has.tail))⟩ (fun a ha => (hS.rd_rng (by repeat (first | exact Has.head | apply Has.tail)) a ha).2) ⟨rfl, by decide, hsq.le, hsq.cap, hS.rd (by repeat (first | exact Has.head))⟩) ?_; rintro e w1 ⟨A8, c8, ⟨rfl, hsu⟩, hB⟩; refine ⟨_, rfl, ?_⟩; have hS := hS.slice hsu hB))
        refine QH_step (by first | assumption) ?_
        refine wpR_batch [false, false, false, false, true, true] (by decide +kernel) (by repeat (first | exact PF.body | apply PF.then)) ?_
        repeat (first | refine LtK.put rfl rfl rfl (by first | exact yv_move rfl | exact yv_extract rfl rfl) ?_)
        refine LtK.nil ?_
        refine wpR_batchG [false, false, false, false, false, false, true] [8] (fun _ => False) (by decide +kernel) (by intro j hj b hb; simp only [List.mem_cons, List.not_mem_nil, or_false] at hj; (try rcases hj with rfl | rfl) <;> simp_all) (by repeat (first | exact PF.body | apply PF.then)) ?_
        repeat (first | refine LtK.put rfl rfl rfl (by first | exact yv_extract rfl rfl) ?_)
        refine LtK.nil ?_
        refine wpR_seal [false, false, false, false, false, false, false, false, true] 8 ⟨by decide, by kernel_rfl, by kernel_rfl⟩ rfl rfl ?_
        dsimp only [pickL]
        repeat (first | apply wpS_nil | (apply wpS_g_store; refine wpS_store rfl rfl rfl (by first | exact CellsOf.agg) hS (by repeat (first | exact Pos.head | apply Pos.tail)) (by repeat (first | exact SetC.here (by repeat (first | exact Ovr.nil | apply Ovr.cons)))) (by kernel_rfl) rfl (fun w hS hB => ?_)))
        refine QH_stepG (hB.sub (fun _ _ h => (h rfl).elim)) ?_
        refine wpR_batch [false, false, false, false, false, false, false, false, false, true] (by decide +kernel) (by repeat (first | exact PF.body | apply PF.then)) ?_
        repeat (first | refine LtK.put rfl rfl rfl (by first | exact yv_assign rfl) ?_)
        refine LtK.nil ?_
        refine wpR_end (by kernel_rfl) ?_
        refine QH_arr ⟨0, none, 0⟩ (by repeat (first | exact Sub.nil | refine Sub.cons rfl ?_)) ⟨hS.sub (by first | ((try dsimp only); repeat (first | exact List.Sublist.slnil | (refine List.Sublist.cons_cons _ ?_) | (refine List.Sublist.cons _ ?_)))), by decide, by decide⟩
    · dsimp only [pickL]
      repeat (first | apply wpS_nil | (apply wpS_g_alloc; refine wpS_alloc rfl rfl (by first | exact zc_26) hS (fun b w hS hB => ?_)))
      refine QH_step (by first | assumption) ?_
      refine wpR_call [false, true] 1 ⟨by decide, by kernel_rfl, by kernel_rfl⟩ rfl rfl ?_
      dsimp only [pickL]
      repeat (first | apply wpS_nil | (apply wpS_g; refine wpS_sliceM [.int .i64 1] (by first | exact el_74) (by first | exact zc_3) rfl rfl rfl rfl rfl (by kernel_rfl) hS ?_; rintro bq w hS hB))
      refine QH_step (by first | assumption) ?_
      refine wpR_call [false, false, true] 2 ⟨by decide, by kernel_rfl, by kernel_rfl⟩ rfl rfl ?_
      dsimp only [pickL]
      repeat (first | apply wpS_nil | (apply wpS_g_call; refine wpS_call rfl rfl rfl rfl (by kernel_rfl) rfl (some_any 4 (some ⟨bq, 0, none⟩) 1 1 [1] _ rfl (by decide) (hS.box_rd (b := bq) (by repeat (first | exact Has.head)))) ?_; rintro e w1 ⟨Aq, cq, ⟨rfl, hsq⟩, hB⟩; refine ⟨_, rfl, ?_⟩; have hS := hS.slice hsq hB))
      refine QH_step (by first | assumption) ?_
      refine wpR_call [false, false, false, true] 3 ⟨by decide, by kernel_rfl, by kernel_rfl⟩ rfl rfl ?_
      dsimp only [pickL]
      repeat (first | apply wpS_nil | (apply wpS_g_call; refine wpS_call rfl rfl rfl rfl (by kernel_rfl) rfl (wk8 At ct Aq cq _ ⟨rfl, by decide, ht1, ht2, hS.rd (by repeat (first | exact Has.head | apply Has.tail))⟩ (fun a ha => (hS.rd_rng (by repeat (first | exact Has.head | apply Has.tail)) a ha).2) ⟨rfl, by decide, hsq.le, hsq.cap, hS.rd (by repeat (first | exact Has.head))⟩) ?_; rintro e w1 ⟨A8, c8, ⟨rfl, hsu⟩, hB⟩; refine ⟨_, rfl, ?_⟩; have hS := hS.slice hsu hB))
      refine QH_step (by first | assumption) ?_
      refine wpR_batch [false, false, false, false, true, true] (by decide +kernel) (by repeat (first | exact PF.body | apply PF.then)) ?_
      repeat (first | refine LtK.put rfl rfl rfl (by first | exact yv_move rfl | exact yv_extract rfl rfl) ?_)
      refine LtK.nil ?_
      refine wpR_batchG [false, false, false, false, false, false, true] [8] (fun _ => False) (by decide +kernel) (by intro j hj b hb; simp only [List.mem_cons, List.not_mem_nil, or_false] at hj; (try rcases hj with rfl | rfl) <;> simp_all) (by repeat (first | exact PF.body | apply PF.then)) ?_
      repeat (first | refine LtK.put rfl rfl rfl (by first | exact yv_extract rfl rfl) ?_)
      refine LtK.nil ?_
      refine wpR_seal [false, false, false, false, false, false, false, false, true] 8 ⟨by decide, by kernel_rfl, by kernel_rfl⟩ rfl rfl ?_
      dsimp only [pickL]
      repeat (first | apply wpS_nil | (apply wpS_g_store; refine wpS_store rfl rfl rfl (by first | exact CellsOf.agg) hS (by repeat (first | exact Pos.head | apply Pos.tail)) (by repeat (first | exact SetC.here (by repeat (first | exact Ovr.nil | apply Ovr.cons)))) (by kernel_rfl) rfl (fun w hS hB => ?_)))
      refine QH_stepG (hB.sub (fun _ _ h => (h rfl).elim)) ?_
      refine wpR_batch [false, false, false, false, false, false, false, false, false, true] (by decide +kernel) (by repeat (first | exact PF.body | apply PF.then)) ?_
      repeat (first | refine LtK.put rfl rfl rfl (by first | exact yv_assign rfl) ?_)
      refine LtK.nil ?_
      refine wpR_end (by kernel_rfl) ?_
      refine QH_arr ⟨0, none, 0⟩ (by repeat (first | exact Sub.nil | refine Sub.cons rfl ?_)) ⟨hS.sub (by first | ((try dsimp only); repeat (first | exact List.Sublist.slnil | (refine List.Sublist.cons_cons _ ?_) | (refine List.Sublist.cons _ ?_)))), by decide, by decide⟩
  rintro ⟨b8, A8, c8⟩ w ⟨hS, h81, h82⟩
  dsimp only at hS h81 h82 ⊢
  repeat (first | apply wpS_nil | (apply QH_seq_k; assumption) | (apply wpC_seq_k; intro K hK) | apply wpC_region | (apply wpS_g_call; refine wpS_callP rfl rfl rfl (by kernel_rfl) rfl (wk9 Aw cw _ ⟨rfl, by decide, hw1, hw2, hS.rd (by repeat (first | exact Has.head | apply Has.tail))⟩) hS (fun w hS hB => ?_)) | (apply wpS_g_call; refine wpS_callP rfl rfl rfl (by kernel_rfl) rfl (wkR Ax cx _ ⟨rfl, by decide, hx1, hx2, hS.rd (by repeat (first | exact Has.head | apply Has.tail))⟩ (fun a ha => (hS.rd_rng (by repeat (first | exact Has.head | apply Has.tail)) a ha).2)) hS (fun w hS hB => ?_)) | (apply wpS_g; refine wpS_put rfl rfl rfl (by apply yv_g_build; exact yv_build rfl built_zero) ?_) | (apply wpS_g; refine wpS_put rfl rfl rfl (by apply yv_g_eqSt; exact yv_eqlS (by kernel_rfl) rfl rfl (fun w => eqSt_t w ⟨1, 2, 6, 1, false⟩ ⟨1, 2, 6, 1, false⟩ rfl)) ?_) | (apply wpS_g_call; first | refine wpS_callP rfl rfl rfl (by kernel_rfl) rfl (first_any _) hS (fun w hS hB => ?_) | refine wpS_callP rfl rfl rfl (by kernel_rfl) rfl (last_any ⟨0, 0, 0, 1, false⟩ _ 0 _ _ _ _ (by decide) (by decide)) hS (fun w hS hB => ?_) | refine wpS_callP rfl rfl rfl (by kernel_rfl) rfl (last_any ⟨0, 0, 0, 1, false⟩ _ 3 _ _ _ _ (by decide) (by decide)) hS (fun w hS hB => ?_) | refine wpS_callP rfl rfl rfl (by kernel_rfl) rfl (wkZ _) hS (fun w hS hB => ?_)) | (apply wpS_g; refine wpS_put rfl rfl rfl (by first | exact yv_move rfl | exact yv_assign rfl | exact yv_fieldAddr (by first | exact fo_23_0 | exact fo_23_2 | exact fo_26_0 | exact fo_26_1 | exact fo_26_3) rfl | (apply yv_g_load; first | exact yv_load_box (by first | exact sc_3 | exact sc_24) rfl (RW.here _) hS (by repeat (first | exact Has.head | apply Has.tail)) (by first | trivial) (by repeat (first | exact Seg.here (Pre.succ Pre.zero) | apply Seg.succ)) | exact yv_load_boxA (by first | exact ag_23 | exact ag_26) rfl (RW.here _) hS (by repeat (first | exact Has.head | apply Has.tail)) (by first | trivial) (by repeat (first | exact Seg.here (by repeat (first | exact Pre.zero | apply Pre.succ))))) | (apply yv_g_bin; first | exact yv_eql_t rfl rfl (by omega) | exact yv_eql rfl rfl) | (apply yv_g_pick; first | exact yv_pick_t rfl rfl rfl) | (apply yv_g_bi; first | exact yv_len (by first | exact el_24) rfl) | exact yv_extract rfl rfl | exact yv_not rfl) ?_) | apply wpC_ret)
  refine QH_ret rfl (by first | exact RV.tmp rfl RV.nil) rfl ?_
  exact ⟨rfl, hS.pure⟩
end Go.Proofs.Ythngkojbokknfaa
