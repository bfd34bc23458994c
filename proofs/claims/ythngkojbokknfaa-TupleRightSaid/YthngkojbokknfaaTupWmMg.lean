/- The walks of tuples: a deed. -/
import Derived.Test.YthngkojbokknfaaMg2
import Derived.Test.YthngkojbokknfaaTupWiMg
namespace Go.Proofs.Ythngkojbokknfaa
open Go Go.RowKit
set_option maxRecDepth 10000
set_option maxHeartbeats 1000000

theorem yv_rem8 {P : Program} {L : List (Nat × Value)} {R : World → Prop} {d : Option Nat} {t' ty : TypeId} {pos : String} {af : Array Edge} {g : Option (Nat × Bool)} {x y : Operand} {t : TypeId} {m n q : Int} (hx : ev L x = some (.int .u8 m)) (hy : ev L y = some (.int .u8 n)) (h : n ≠ 0) (hm : 0 ≤ m) (hq : m % n = q) : Yv P L R ⟨d, .binOp .rem t x y t', ty, pos, af, g⟩ (.int .u8 q) := Yv.mk fun w1 _ ρ hρ => by
  simp only [execOp, hρ x _ hx, hρ y _ hy, eqGuard]
  simp [binOp, Op.intDiv, h, Int.tmod_eq_emod_of_nonneg hm, hq]
/-- What a deed makes: a tuple with entries of its own, or the one that was there. -/
def DoesP (w0 : World) (x : Tu) (A : Option Addr) (c : Nat) (e : Ending) (w' : World) : Prop :=
  ∃ y er A2 c2 A3 n3 c3 xs3, (Step x y er ∧ e = .returned (.tuple #[.agg #[.int .i64 y.snap.index, .int .i64 y.snap.term, .int .i64 y.snap.sum, .int .i64 y.snap.level, .bool y.snap.final, .slice A2 y.log.length c2, .int .i64 y.term, .int .i64 y.vote], .int .i64 er]) ∧ (y.log.length ≤ c2 ∧ c2 ≤ maxLen) ∧ ((A3 = A2 ∧ xs3 = ens y.log) ∨ (A2 = A ∧ c2 = c ∧ y = x)) ∧ Sl w0 w' A3 n3 c3 3 xs3) ∧ Below w0.heap.size w0 w'
/-- What is done makes of a tuple that may be one that may be. -/
theorem does_any (x : Tu) (A B : Option Addr) (c m d : Nat) (l : List En) (k a : Int) (s : St) (t v : Int) (w0 : World) (hT : tupB x = true) (hx : LI w0 A x.log.length c x.log) (hA : ∀ a, A = some a → a.block < w0.heap.size) (hl : LI w0 B m d l) (hm : m ≤ 300) (hk : 0 ≤ k) :
    Calls Try.prog 10 #[.agg #[.int .i64 x.snap.index, .int .i64 x.snap.term, .int .i64 x.snap.sum, .int .i64 x.snap.level, .bool x.snap.final, .slice A x.log.length c, .int .i64 x.term, .int .i64 x.vote], .agg #[.int .u8 k, .slice B m d, .int .i64 a, .int .i64 s.index, .int .i64 s.term, .int .i64 s.sum, .int .i64 s.level, .bool s.final, .int .i64 t, .int .i64 v]] w0 (DoesP w0 x A c) := by
  have hxb := tupB_bd x hT
  have hq : k % 5 = 0 ∨ k % 5 = 1 ∨ k % 5 = 2 ∨ k % 5 = 3 ∨ k % 5 = 4 := by omega
  rcases hq with hq | hq | hq | hq | hq
  · refine gw_enter2 Try.func10 rfl Try.ntmps10 rfl ?_
    have hS := St0.start All w0
    repeat (first | (apply wpC_seq_k; intro K hK) | apply wpC_region)
    first | (apply wpS_g_box; refine wpS_box rfl rfl rfl (by first | exact CellsOf.agg) hS (fun bt w hS hB => ?_))
    first | (apply wpS_g_box; refine wpS_box rfl rfl rfl (by first | exact CellsOf.agg) hS (fun bx w hS hB => ?_))
    first | (apply wpS_g_alloc; refine wpS_alloc rfl rfl (by first | exact zc_26) hS (fun bo w hS hB => ?_))
    repeat (first | apply wpS_nil | (apply QH_seq_k; assumption) | (apply wpC_seq_k; intro K hK) | apply wpC_region | (apply wpS_g; refine wpS_put rfl rfl rfl (by first | exact yv_rem8 rfl rfl (by decide) (by omega) hq | exact yv_assign rfl | exact yv_fieldAddr (by first | exact fo_23_0 | exact fo_31_0 | exact fo_31_1) rfl | (apply yv_g_load; first | exact yv_load_box (by first | exact sc_5 | exact sc_24) rfl (RW.here _) hS (by repeat (first | exact Has.head | apply Has.tail)) (by first | trivial) (by repeat (first | exact Seg.here (Pre.succ Pre.zero) | apply Seg.succ)) | exact yv_load_boxA (by first | exact ag_26) rfl (RW.here _) hS (by repeat (first | exact Has.head | apply Has.tail)) (by first | trivial) (by repeat (first | exact Seg.here (by repeat (first | exact Pre.zero | apply Pre.succ))))) | (apply yv_g_bin; first | exact yv_eql_t rfl rfl (by omega))) ?_) | apply wpC_cond_t rfl rfl | apply wpC_block)
    refine wpS_call rfl rfl rfl rfl (by kernel_rfl) rfl (append_any x A B c m d l _ (hx.below hS.pure) (fun a ha => Nat.lt_of_lt_of_le (hA a ha) hS.size) (hl.below hS.pure) hm) ?_
    rintro e w1 ⟨A2, c2, ⟨rfl, hs⟩, hB⟩
    refine ⟨_, rfl, ?_⟩
    replace hS := hS.slice hs hB
    repeat (first | apply wpS_nil | (apply QH_seq_k; assumption) | (apply wpS_g_store; refine wpS_store rfl rfl rfl (by first | exact CellsOf.agg) hS (by repeat (first | exact Pos.head | apply Pos.tail)) (by repeat (first | exact SetC.here (by repeat (first | exact Ovr.nil | apply Ovr.cons)))) (by kernel_rfl) rfl (fun w hS hB => ?_)) | (apply wpS_g; refine wpS_put rfl rfl rfl (by first | exact yv_assign rfl | exact yv_extract rfl rfl) ?_) | apply wpC_ret | apply QH_then_ret | apply QH_block_ret)
    refine QH_ret rfl (by first | exact RV.cell rfl (load_boxA (by first | exact ag_26) hS (by repeat (first | exact Has.head | apply Has.tail)) (by repeat (first | exact Seg.here (by repeat (first | exact Pre.zero | apply Pre.succ))))) (RV.tmp rfl RV.nil)) rfl ?_
    exact ⟨_, _, A2, c2, A2, _, c2, _, ⟨step_append x l hT, rfl, ⟨hs.le, hs.cap⟩, .inl ⟨rfl, rfl⟩, hS.giveS (by repeat (first | exact Has.head)) hs.len hs.le hs.cap⟩, hS.pure⟩
  · refine gw_enter2 Try.func10 rfl Try.ntmps10 rfl ?_
    have hS := St0.start All w0
    repeat (first | (apply wpC_seq_k; intro K hK) | apply wpC_region)
    first | (apply wpS_g_box; refine wpS_box rfl rfl rfl (by first | exact CellsOf.agg) hS (fun bt w hS hB => ?_))
    first | (apply wpS_g_box; refine wpS_box rfl rfl rfl (by first | exact CellsOf.agg) hS (fun bx w hS hB => ?_))
    first | (apply wpS_g_alloc; refine wpS_alloc rfl rfl (by first | exact zc_26) hS (fun bo w hS hB => ?_))
    repeat (first | apply wpS_nil | (apply QH_seq_k; assumption) | (apply wpC_seq_k; intro K hK) | apply wpC_region | (apply wpS_g; refine wpS_put rfl rfl rfl (by first | exact yv_rem8 rfl rfl (by decide) (by omega) hq | exact yv_assign rfl | exact yv_fieldAddr (by first | exact fo_23_0 | exact fo_31_0 | exact fo_31_2) rfl | (apply yv_g_load; first | exact yv_load_box (by first | exact sc_3 | exact sc_5) rfl (RW.here _) hS (by repeat (first | exact Has.head | apply Has.tail)) (by first | trivial) (by repeat (first | exact Seg.here (Pre.succ Pre.zero) | apply Seg.succ)) | exact yv_load_boxA (by first | exact ag_26) rfl (RW.here _) hS (by repeat (first | exact Has.head | apply Has.tail)) (by first | trivial) (by repeat (first | exact Seg.here (by repeat (first | exact Pre.zero | apply Pre.succ))))) | (apply yv_g_bin; first | exact yv_eql_t rfl rfl (by omega) | exact yv_eql_f rfl rfl (by omega))) ?_) | apply wpC_cond_t rfl rfl | apply wpC_cond_f rfl rfl | apply wpC_block)
    refine wpS_call rfl rfl rfl rfl (by kernel_rfl) rfl (cut_any x A c a _ (hx.below hS.pure) (fun a ha => Nat.lt_of_lt_of_le (hA a ha) hS.size)) ?_
    rintro e w1 ⟨A2, c2, ⟨rfl, hs⟩, hB⟩
    refine ⟨_, rfl, ?_⟩
    replace hS := hS.slice hs hB
    repeat (first | apply wpS_nil | (apply QH_seq_k; assumption) | (apply wpS_g_store; refine wpS_store rfl rfl rfl (by first | exact CellsOf.agg) hS (by repeat (first | exact Pos.head | apply Pos.tail)) (by repeat (first | exact SetC.here (by repeat (first | exact Ovr.nil | apply Ovr.cons)))) (by kernel_rfl) rfl (fun w hS hB => ?_)) | (apply wpS_g; refine wpS_put rfl rfl rfl (by first | exact yv_assign rfl | exact yv_extract rfl rfl) ?_) | apply wpC_ret | apply QH_then_ret | apply QH_block_ret)
    refine QH_ret rfl (by first | exact RV.cell rfl (load_boxA (by first | exact ag_26) hS (by repeat (first | exact Has.head | apply Has.tail)) (by repeat (first | exact Seg.here (by repeat (first | exact Pre.zero | apply Pre.succ))))) (RV.tmp rfl RV.nil)) rfl ?_
    exact ⟨_, _, A2, c2, A2, _, c2, _, ⟨step_cut x a hT, rfl, ⟨hs.le, hs.cap⟩, .inl ⟨rfl, rfl⟩, hS.giveS (by repeat (first | exact Has.head)) hs.len hs.le hs.cap⟩, hS.pure⟩
  · by_cases ha : x.snap.index ≤ a ∧ a ≤ x.snap.index + x.log.length
    · obtain ⟨j, hj⟩ : ∃ j : Nat, a = x.snap.index + j := ⟨(a - x.snap.index).toNat, by omega⟩
      refine gw_enter2 Try.func10 rfl Try.ntmps10 rfl ?_
      have hS := St0.start All w0
      repeat (first | (apply wpC_seq_k; intro K hK) | apply wpC_region)
      first | (apply wpS_g_box; refine wpS_box rfl rfl rfl (by first | exact CellsOf.agg) hS (fun bt w hS hB => ?_))
      first | (apply wpS_g_box; refine wpS_box rfl rfl rfl (by first | exact CellsOf.agg) hS (fun bx w hS hB => ?_))
      first | (apply wpS_g_alloc; refine wpS_alloc rfl rfl (by first | exact zc_26) hS (fun bo w hS hB => ?_))
      repeat (first | apply wpS_nil | (apply QH_seq_k; assumption) | (apply wpC_seq_k; intro K hK) | apply wpC_region | (apply wpS_g; refine wpS_put rfl rfl rfl (by first | exact yv_rem8 rfl rfl (by decide) (by omega) hq | exact yv_assign rfl | exact yv_fieldAddr (by first | exact fo_23_0 | exact fo_31_0 | exact fo_31_2) rfl | (apply yv_g_load; first | exact yv_load_box (by first | exact sc_3 | exact sc_5) rfl (RW.here _) hS (by repeat (first | exact Has.head | apply Has.tail)) (by first | trivial) (by repeat (first | exact Seg.here (Pre.succ Pre.zero) | apply Seg.succ)) | exact yv_load_boxA (by first | exact ag_26) rfl (RW.here _) hS (by repeat (first | exact Has.head | apply Has.tail)) (by first | trivial) (by repeat (first | exact Seg.here (by repeat (first | exact Pre.zero | apply Pre.succ))))) | (apply yv_g_bin; first | exact yv_eql_t rfl rfl (by omega) | exact yv_eql_f rfl rfl (by omega))) ?_) | apply wpC_cond_t rfl rfl | apply wpC_cond_f rfl rfl | apply wpC_block)
      refine wpS_callP rfl rfl rfl (by kernel_rfl) rfl (state_yes x A c j _ ⟨by omega, by omega⟩ (hx.below hS.pure) a hj (by omega)) hS (fun w hS hB => ?_)
      repeat (first | (apply wpS_g; refine wpS_put rfl rfl rfl (by first | exact yv_move rfl | exact yv_extract rfl rfl) ?_))
      first | (apply wpS_g_alloc; refine wpS_alloc rfl rfl (by first | exact zc_23) hS (fun bs w hS hB => ?_))
      repeat (first | apply wpS_nil | (apply QH_seq_k; assumption) | (apply wpC_seq_k; intro K hK) | apply wpC_region | (apply wpS_g_store; refine wpS_store rfl rfl rfl (by first | exact CellsOf.agg) hS (by repeat (first | exact Pos.head)) (by repeat (first | exact SetC.here (by repeat (first | exact Ovr.nil | apply Ovr.cons)))) (by kernel_rfl) rfl (fun w hS hB => ?_)) | (apply wpS_g; refine wpS_put rfl rfl rfl (by first | exact yv_move rfl | exact yv_assign rfl | (apply yv_g_load; first | exact yv_load_boxA (by first | exact ag_23 | exact ag_26) rfl (RW.here _) hS (by repeat (first | exact Has.head | apply Has.tail)) (by first | trivial) (by repeat (first | exact Seg.here (by repeat (first | exact Pre.zero | apply Pre.succ))))) | exact yv_not rfl) ?_) | apply wpC_cond_f rfl rfl | apply wpC_skip)
      refine wpS_call rfl rfl rfl rfl (by kernel_rfl) rfl (save_any x A c (allS x.snap (x.log.take j)) _ (hx.below hS.pure) (fun a ha => Nat.lt_of_lt_of_le (hA a ha) hS.size)) ?_
      rintro e w1 ⟨A2, c2, ⟨rfl, hs⟩, hB⟩
      refine ⟨_, rfl, ?_⟩
      replace hS := hS.slice hs hB
      repeat (first | apply wpS_nil | (apply QH_seq_k; assumption) | (apply wpS_g_store; refine wpS_store rfl rfl rfl (by first | exact CellsOf.agg) hS (by repeat (first | exact Pos.head | apply Pos.tail)) (by repeat (first | exact SetC.here (by repeat (first | exact Ovr.nil | apply Ovr.cons)))) (by kernel_rfl) rfl (fun w hS hB => ?_)) | (apply wpS_g; refine wpS_put rfl rfl rfl (by first | exact yv_assign rfl | exact yv_extract rfl rfl) ?_) | apply wpC_ret | apply QH_then_ret | apply QH_block_ret)
      refine QH_ret rfl (by first | exact RV.cell rfl (load_boxA (by first | exact ag_26) hS (by repeat (first | exact Has.head | apply Has.tail)) (by repeat (first | exact Seg.here (by repeat (first | exact Pre.zero | apply Pre.succ))))) (RV.tmp rfl RV.nil)) rfl ?_
      exact ⟨_, _, A2, c2, A2, _, c2, _, ⟨step_save x _ hT, rfl, ⟨hs.le, hs.cap⟩, .inl ⟨rfl, rfl⟩, hS.giveS (by repeat (first | exact Has.head)) hs.len hs.le hs.cap⟩, hS.pure⟩
    · refine gw_enter2 Try.func10 rfl Try.ntmps10 rfl ?_
      have hS := St0.start All w0
      repeat (first | (apply wpC_seq_k; intro K hK) | apply wpC_region)
      first | (apply wpS_g_box; refine wpS_box rfl rfl rfl (by first | exact CellsOf.agg) hS (fun bt w hS hB => ?_))
      first | (apply wpS_g_box; refine wpS_box rfl rfl rfl (by first | exact CellsOf.agg) hS (fun bx w hS hB => ?_))
      first | (apply wpS_g_alloc; refine wpS_alloc rfl rfl (by first | exact zc_26) hS (fun bo w hS hB => ?_))
      repeat (first | apply wpS_nil | (apply QH_seq_k; assumption) | (apply wpC_seq_k; intro K hK) | apply wpC_region | (apply wpS_g; refine wpS_put rfl rfl rfl (by first | exact yv_rem8 rfl rfl (by decide) (by omega) hq | exact yv_assign rfl | exact yv_fieldAddr (by first | exact fo_23_0 | exact fo_31_0 | exact fo_31_2) rfl | (apply yv_g_load; first | exact yv_load_box (by first | exact sc_3 | exact sc_5) rfl (RW.here _) hS (by repeat (first | exact Has.head | apply Has.tail)) (by first | trivial) (by repeat (first | exact Seg.here (Pre.succ Pre.zero) | apply Seg.succ)) | exact yv_load_boxA (by first | exact ag_26) rfl (RW.here _) hS (by repeat (first | exact Has.head | apply Has.tail)) (by first | trivial) (by repeat (first | exact Seg.here (by repeat (first | exact Pre.zero | apply Pre.succ))))) | (apply yv_g_bin; first | exact yv_eql_t rfl rfl (by omega) | exact yv_eql_f rfl rfl (by omega))) ?_) | apply wpC_cond_t rfl rfl | apply wpC_cond_f rfl rfl | apply wpC_block)
      refine wpS_callP rfl rfl rfl (by kernel_rfl) rfl (state_no x A c _ ⟨by omega, by omega⟩ (by omega) a (by omega)) hS (fun w hS hB => ?_)
      repeat (first | (apply wpS_g; refine wpS_put rfl rfl rfl (by first | exact yv_move rfl | exact yv_extract rfl rfl) ?_))
      first | (apply wpS_g_alloc; refine wpS_alloc rfl rfl (by first | exact zc_23) hS (fun bs w hS hB => ?_))
      repeat (first | apply wpS_nil | (apply QH_seq_k; assumption) | (apply wpC_seq_k; intro K hK) | apply wpC_region | (apply wpS_g_store; refine wpS_store rfl rfl rfl (by first | exact CellsOf.agg) hS (by repeat (first | exact Pos.head | apply Pos.tail)) (by repeat (first | exact SetC.here (by repeat (first | exact Ovr.nil | apply Ovr.cons)))) (by kernel_rfl) rfl (fun w hS hB => ?_)) | (apply wpS_g; refine wpS_put rfl rfl rfl (by first | exact yv_move rfl | exact yv_assign rfl | (apply yv_g_load; first | exact yv_load_boxA (by first | exact ag_26) rfl (RW.here _) hS (by repeat (first | exact Has.head | apply Has.tail)) (by first | trivial) (by repeat (first | exact Seg.here (by repeat (first | exact Pre.zero | apply Pre.succ))))) | exact yv_not rfl) ?_) | apply wpC_cond_t rfl rfl | apply wpC_ret | apply QH_then_ret | apply QH_block_ret)
      refine QH_ret rfl (by first | exact RV.cell rfl (load_boxA (by first | exact ag_26) hS (by repeat (first | exact Has.head | apply Has.tail)) (by repeat (first | exact Seg.here (by repeat (first | exact Pre.zero | apply Pre.succ))))) (RV.tmp rfl RV.nil)) rfl ?_
      exact ⟨x, 2, A, c, none, 0, 0, [], ⟨step_no x hT, rfl, ⟨hx.le, hx.cap⟩, .inr ⟨rfl, rfl, rfl⟩, Sl.nil _ _ _⟩, hS.pure⟩
  · refine gw_enter2 Try.func10 rfl Try.ntmps10 rfl ?_
    have hS := St0.start All w0
    repeat (first | (apply wpC_seq_k; intro K hK) | apply wpC_region)
    first | (apply wpS_g_box; refine wpS_box rfl rfl rfl (by first | exact CellsOf.agg) hS (fun bt w hS hB => ?_))
    first | (apply wpS_g_box; refine wpS_box rfl rfl rfl (by first | exact CellsOf.agg) hS (fun bx w hS hB => ?_))
    first | (apply wpS_g_alloc; refine wpS_alloc rfl rfl (by first | exact zc_26) hS (fun bo w hS hB => ?_))
    repeat (first | apply wpS_nil | (apply QH_seq_k; assumption) | (apply wpC_seq_k; intro K hK) | apply wpC_region | (apply wpS_g; refine wpS_put rfl rfl rfl (by first | exact yv_rem8 rfl rfl (by decide) (by omega) hq | exact yv_assign rfl | exact yv_fieldAddr (by first | exact fo_23_0 | exact fo_31_0 | exact fo_31_3) rfl | (apply yv_g_load; first | exact yv_load_box (by first | exact sc_5) rfl (RW.here _) hS (by repeat (first | exact Has.head | apply Has.tail)) (by first | trivial) (by repeat (first | exact Seg.here (Pre.succ Pre.zero))) | exact yv_load_boxA (by first | exact ag_23 | exact ag_26) rfl (RW.here _) hS (by repeat (first | exact Has.head | apply Has.tail)) (by first | trivial) (by repeat (first | exact Seg.here (by repeat (first | exact Pre.zero | apply Pre.succ)) | apply Seg.succ))) | (apply yv_g_bin; first | exact yv_eql_t rfl rfl (by omega) | exact yv_eql_f rfl rfl (by omega))) ?_) | apply wpC_cond_t rfl rfl | apply wpC_cond_f rfl rfl | apply wpC_block)
    refine wpS_call rfl rfl rfl rfl (by kernel_rfl) rfl (install_any x A c s _ (hx.below hS.pure) (fun a ha => Nat.lt_of_lt_of_le (hA a ha) hS.size)) ?_
    rintro e w1 ⟨A2, c2, ⟨rfl, hs⟩, hB⟩
    refine ⟨_, rfl, ?_⟩
    replace hS := hS.slice hs hB
    repeat (first | apply wpS_nil | (apply QH_seq_k; assumption) | (apply wpS_g_store; refine wpS_store rfl rfl rfl (by first | exact CellsOf.agg) hS (by repeat (first | exact Pos.head | apply Pos.tail)) (by repeat (first | exact SetC.here (by repeat (first | exact Ovr.nil | apply Ovr.cons)))) (by kernel_rfl) rfl (fun w hS hB => ?_)) | (apply wpS_g; refine wpS_put rfl rfl rfl (by first | exact yv_assign rfl | exact yv_extract rfl rfl) ?_) | apply wpC_ret | apply QH_then_ret | apply QH_block_ret)
    refine QH_ret rfl (by first | exact RV.cell rfl (load_boxA (by first | exact ag_26) hS (by repeat (first | exact Has.head | apply Has.tail)) (by repeat (first | exact Seg.here (by repeat (first | exact Pre.zero | apply Pre.succ))))) (RV.tmp rfl RV.nil)) rfl ?_
    exact ⟨_, _, A2, c2, A2, _, c2, _, ⟨step_inst x s hT, rfl, ⟨hs.le, hs.cap⟩, .inl ⟨rfl, rfl⟩, hS.giveS (by repeat (first | exact Has.head)) hs.len hs.le hs.cap⟩, hS.pure⟩
  · refine gw_enter2 Try.func10 rfl Try.ntmps10 rfl ?_
    have hS := St0.start All w0
    repeat (first | (apply wpC_seq_k; intro K hK) | apply wpC_region)
    first | (apply wpS_g_box; refine wpS_box rfl rfl rfl (by first | exact CellsOf.agg) hS (fun bt w hS hB => ?_))
    first | (apply wpS_g_box; refine wpS_box rfl rfl rfl (by first | exact CellsOf.agg) hS (fun bx w hS hB => ?_))
    first | (apply wpS_g_alloc; refine wpS_alloc rfl rfl (by first | exact zc_26) hS (fun bo w hS hB => ?_))
    repeat (first | apply wpS_nil | (apply QH_seq_k; assumption) | (apply wpC_seq_k; intro K hK) | apply wpC_region | (apply wpS_g; refine wpS_put rfl rfl rfl (by first | exact yv_rem8 rfl rfl (by decide) (by omega) hq | exact yv_assign rfl | exact yv_fieldAddr (by first | exact fo_23_0 | exact fo_31_0 | exact fo_31_4 | exact fo_31_5) rfl | (apply yv_g_load; first | exact yv_load_box (by first | exact sc_3 | exact sc_5) rfl (RW.here _) hS (by repeat (first | exact Has.head | apply Has.tail)) (by first | trivial) (by repeat (first | exact Seg.here (Pre.succ Pre.zero) | apply Seg.succ)) | exact yv_load_boxA (by first | exact ag_26) rfl (RW.here _) hS (by repeat (first | exact Has.head | apply Has.tail)) (by first | trivial) (by repeat (first | exact Seg.here (by repeat (first | exact Pre.zero | apply Pre.succ))))) | (apply yv_g_bin; first | exact yv_eql_f rfl rfl (by omega))) ?_) | apply wpC_cond_f rfl rfl | apply wpC_skip | apply wpC_block | apply QH_block_normal)
    refine wpS_call rfl rfl rfl rfl (by kernel_rfl) rfl (hard_any x A c t v _ (hx.below hS.pure) (fun a ha => Nat.lt_of_lt_of_le (hA a ha) hS.size)) ?_
    rintro e w1 ⟨A2, c2, ⟨rfl, hs⟩, hB⟩
    refine ⟨_, rfl, ?_⟩
    replace hS := hS.slice hs hB
    repeat (first | apply wpS_nil | (apply QH_seq_k; assumption) | (apply wpS_g_store; refine wpS_store rfl rfl rfl (by first | exact CellsOf.agg) hS (by repeat (first | exact Pos.head | apply Pos.tail)) (by repeat (first | exact SetC.here (by repeat (first | exact Ovr.nil | apply Ovr.cons)))) (by kernel_rfl) rfl (fun w hS hB => ?_)) | (apply wpS_g; refine wpS_put rfl rfl rfl (by first | exact yv_assign rfl | exact yv_extract rfl rfl) ?_) | apply wpC_ret)
    refine QH_ret rfl (by first | exact RV.cell rfl (load_boxA (by first | exact ag_26) hS (by repeat (first | exact Has.head | apply Has.tail)) (by repeat (first | exact Seg.here (by repeat (first | exact Pre.zero | apply Pre.succ))))) (RV.tmp rfl RV.nil)) rfl ?_
    exact ⟨_, _, A2, c2, A2, _, c2, _, ⟨step_hard x t v hT, rfl, ⟨hs.le, hs.cap⟩, .inl ⟨rfl, rfl⟩, hS.giveS (by repeat (first | exact Has.head)) hs.len hs.le hs.cap⟩, hS.pure⟩
end Go.Proofs.Ythngkojbokknfaa
