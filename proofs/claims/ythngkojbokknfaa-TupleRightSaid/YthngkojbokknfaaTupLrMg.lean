/- TupleRight, as the program computes it. -/
import Derived.Test.YthngkojbokknfaaTupLbMg
import Derived.Test.YthngkojbokknfaaTupWmMg
import Derived.Test.YthngkojbokknfaaMg1
namespace Go.Proofs.Ythngkojbokknfaa
open Go Go.RowKit
set_option maxRecDepth 10000
set_option maxHeartbeats 2000000

/-- Where a log lies: among one's own, or where it was at the start. -/
def LogAt (w0 : World) (A1 A : Option Addr) (xs1 : List Value) (l : List En) : Prop := (A1 = A ∧ xs1 = ens l) ∨ (Rd w0 A (ens l) ∧ ∀ a, A = some a → a.block < w0.heap.size)
theorem LogAt.rd {w0 w : World} {A1 A : Option Addr} {xs1 : List Value} {l : List En} {H : List Ent} (h : LogAt w0 A1 A xs1 l) (hS : St0 All w0 w H) (hH : Has H (.rd A1 xs1)) : Rd w A (ens l) := by
  rcases h with ⟨rfl, rfl⟩ | ⟨h, _⟩
  · exact hS.rd hH
  · exact hS.rd0 h
theorem LogAt.blk {w0 w : World} {A1 A : Option Addr} {xs1 : List Value} {l : List En} {H : List Ent} (h : LogAt w0 A1 A xs1 l) (hS : St0 All w0 w H) (hH : Has H (.rd A1 xs1)) : ∀ a, A = some a → a.block < w.heap.size := by
  rcases h with ⟨rfl, rfl⟩ | ⟨_, h⟩
  · exact fun a ha => (hS.rd_rng hH a ha).2
  · exact fun a ha => Nat.lt_of_lt_of_le (h a ha) hS.size
theorem logRd2 {w0 w : World} {A1 Ay A2 A3 : Option Addr} {xs1 xs3 : List Value} {y y2 : Tu} {c2 cy : Nat} {H : List Ent} (hS : St0 All w0 w H) (hor : (A3 = A2 ∧ xs3 = ens y2.log) ∨ (A2 = Ay ∧ c2 = cy ∧ y2 = y)) (hlog : LogAt w0 A1 Ay xs1 y.log) (h3 : Has H (.rd A3 xs3)) (h1 : Has H (.rd A1 xs1)) : Rd w A2 (ens y2.log) := by
  rcases hor with ⟨rfl, rfl⟩ | ⟨rfl, rfl, rfl⟩
  · exact hS.rd h3
  · exact hlog.rd hS h1
/-- Where TupleRight's loop is. -/
structure RX where
  i : Nat
  y : Tu
  A : Option Addr
  c : Nat
  A1 : Option Addr
  xs1 : List Value
structure RY where
  b : Nat
  y : Tu
  er : Int
  A : Option Addr
  c : Nat
  A1 : Option Addr
  xs1 : List Value
theorem right_all (x : Tu) (A : Option Addr) (c : Nat) (LA : Option Addr) (lc : Nat) (l : List De) (w0 : World) (hle : x.log.length ≤ c) (hcp : c ≤ maxLen) (hrd : Rd w0 A (ens x.log)) (hA : ∀ a, A = some a → a.block < w0.heap.size)
    (hll : l.length ≤ lc) (hlr : Rd w0 LA (l.flatMap De.cells)) (hok : ∀ d ∈ l, d.ok w0) :
    Calls Try.prog 3 #[.agg #[.int .i64 x.snap.index, .int .i64 x.snap.term, .int .i64 x.snap.sum, .int .i64 x.snap.level, .bool x.snap.final, .slice A x.log.length c, .int .i64 x.term, .int .i64 x.vote], .slice LA l.length lc] w0 fun e w' => e = .returned (.bool true) ∧ Below w0.heap.size w0 w' := by
  cases hT : tupB x with
  | false =>
    refine gw_enter2 Try.func3 rfl Try.ntmps3 rfl ?_
    have hS := St0.start All w0
    repeat (first | (apply wpC_seq_k; intro K hK) | apply wpC_region)
    first | (apply wpS_g_box; refine wpS_box rfl rfl rfl (by first | exact CellsOf.agg) hS (fun bt w hS hB => ?_))
    repeat (first | apply wpS_nil | (apply QH_seq_k; assumption) | (apply wpC_seq_k; intro K hK) | apply wpC_region | (apply wpS_g; refine wpS_skip rfl rfl rfl ?_) | (apply wpS_g_call; first | refine wpS_callP rfl rfl rfl (by kernel_rfl) rfl (rightR12_b x A c _ hle (hS.rd0 hrd) false hT) hS (fun w hS hB => ?_) | refine wpS_callP rfl rfl rfl (by kernel_rfl) rfl (wakes12_any _) hS (fun w hS hB => ?_)) | (apply wpS_g; refine wpS_put rfl rfl rfl (by first | exact yv_move rfl | exact yv_assign rfl | (apply yv_g_load; first | exact yv_load_boxA (by first | exact ag_26) rfl (RW.here _) hS (by repeat (first | exact Has.head)) (by first | trivial) (by repeat (first | exact Seg.here (by repeat (first | exact Pre.zero | apply Pre.succ))))) | (apply yv_g_pick; first | exact yv_pick_t rfl rfl rfl) | exact yv_not rfl) ?_) | apply wpC_cond_t rfl rfl | apply wpC_ret | apply QH_then_ret)
    refine QH_ret rfl (by first | exact RV.tmp rfl RV.nil) rfl ?_
    exact ⟨rfl, hS.pure⟩
  | true =>
    by_cases h30 : l.length ≤ 30
    case neg =>
      refine gw_enter2 Try.func3 rfl Try.ntmps3 rfl ?_
      have hS := St0.start All w0
      repeat (first | (apply wpC_seq_k; intro K hK) | apply wpC_region)
      first | (apply wpS_g_box; refine wpS_box rfl rfl rfl (by first | exact CellsOf.agg) hS (fun bt w hS hB => ?_))
      repeat (first | apply wpS_nil | (apply QH_seq_k; assumption) | (apply wpC_seq_k; intro K hK) | apply wpC_region | (apply wpS_g_call; first | refine wpS_callP rfl rfl rfl (by kernel_rfl) rfl (rightR12_b x A c _ hle (hS.rd0 hrd) true hT) hS (fun w hS hB => ?_) | refine wpS_callP rfl rfl rfl (by kernel_rfl) rfl (wakes12_any _) hS (fun w hS hB => ?_)) | (apply wpS_g; refine wpS_put rfl rfl rfl (by first | exact yv_move rfl | exact yv_assign rfl | (apply yv_g_load; first | exact yv_load_boxA (by first | exact ag_26) rfl (RW.here _) hS (by repeat (first | exact Has.head)) (by first | trivial) (by repeat (first | exact Seg.here (by repeat (first | exact Pre.zero | apply Pre.succ))))) | (apply yv_g_bin; first | exact yv_gtr_t rfl rfl (by omega)) | (apply yv_g_pick; first | exact yv_pick_f rfl rfl rfl) | (apply yv_g_bi; first | exact yv_len (by first | exact el_27) rfl) | exact yv_not rfl) ?_) | apply wpC_cond_t rfl rfl | apply wpC_ret | apply QH_then_ret)
      refine QH_ret rfl (by first | exact RV.tmp rfl RV.nil) rfl ?_
      exact ⟨rfl, hS.pure⟩
    refine gw_enter2 Try.func3 rfl Try.ntmps3 rfl ?_
    have hS := St0.start All w0
    repeat (first | (apply wpC_seq_k; intro K hK) | apply wpC_region)
    first | (apply wpS_g_box; refine wpS_box rfl rfl rfl (by first | exact CellsOf.agg) hS (fun bt w hS hB => ?_))
    repeat (first | apply wpS_nil | (apply QH_seq_k; assumption) | (apply wpC_seq_k; intro K hK) | apply wpC_region | (apply wpS_g_call; first | refine wpS_callP rfl rfl rfl (by kernel_rfl) rfl (rightR12_b x A c _ hle (hS.rd0 hrd) true hT) hS (fun w hS hB => ?_)) | (apply wpS_g; refine wpS_put rfl rfl rfl (by first | exact yv_move rfl | exact yv_assign rfl | (apply yv_g_load; first | exact yv_load_boxA (by first | exact ag_26) rfl (RW.here _) hS (by repeat (first | exact Has.head)) (by first | trivial) (by repeat (first | exact Seg.here (by repeat (first | exact Pre.zero | apply Pre.succ))))) | (apply yv_g_bin; first | exact yv_gtr_f rfl rfl (by omega)) | (apply yv_g_pick; first | exact yv_pick_f rfl rfl rfl) | (apply yv_g_bi; first | exact yv_len (by first | exact el_27) rfl) | exact yv_not rfl) ?_) | apply wpC_cond_f rfl rfl | apply wpC_skip | apply wpC_block)
    have hS1 := hS.addE (e := .rd none []) (Rd.nil _ _) (fun k ⟨a, ha, _⟩ => by cases ha) (fun e' he' k ⟨a, ha, _⟩ _ => by cases ha)
    refine wpC_loop (X := RX) (fun z => [(5, .int .i64 z.i), (2, .pointer (some ⟨bt, 0, none⟩)), (1, .slice LA l.length lc)]) (fun z w => z.i ≤ l.length ∧ St0 All w0 w [.rd z.A1 z.xs1, .box bt [.int .i64 z.y.snap.index, .int .i64 z.y.snap.term, .int .i64 z.y.snap.sum, .int .i64 z.y.snap.level, .bool z.y.snap.final, .slice z.A z.y.log.length z.c, .int .i64 z.y.term, .int .i64 z.y.vote] 26] ∧ tupB z.y = true ∧ (z.y.log.length ≤ z.c ∧ z.c ≤ maxLen) ∧ LogAt w0 z.A1 z.A z.xs1 z.y.log) (fun z => l.length - z.i) ⟨0, x, A, c, none, []⟩ (by repeat (first | exact Sub.nil | refine Sub.cons rfl ?_)) ⟨Nat.zero_le _, hS1, hT, ⟨hle, hcp⟩, .inr ⟨hrd, hA⟩⟩ ?_
    clear hS hS1 hT hle hcp hrd hA
    rintro ⟨i, y, Ay, cy, A1, xs1⟩ w ⟨hi, hS, hT, ⟨hle, hcp⟩, hlog⟩
    dsimp only at hi hS hT hle hcp hlog ⊢
    rcases Nat.lt_or_ge i l.length with hlt | hge
    case inr =>
      obtain rfl : i = l.length := by omega
      repeat (first | apply wpS_nil | (apply QH_seq_k; assumption) | (apply wpC_seq_k; intro K hK) | apply wpC_region | (apply wpS_g_call; first | refine wpS_callP rfl rfl rfl (by kernel_rfl) rfl (wakes12_any _) hS (fun w hS hB => ?_)) | (apply wpS_g; refine wpS_put rfl rfl rfl (by first | exact yv_move rfl | exact yv_assign rfl | (apply yv_g_bin; first | exact yv_lss_f rfl rfl (by omega)) | (apply yv_g_bi; first | exact yv_len (by first | exact el_27) rfl)) ?_) | apply wpC_cond_f rfl rfl | apply wpC_ret | apply wpC_exit | apply QH_then_exit | apply QH_block_hit)
      refine QH_ret rfl (by first | exact RV.tmp rfl RV.nil) rfl ?_
      exact ⟨rfl, hS.pure⟩
    obtain ⟨d, hd⟩ : ∃ d, l[i]? = some d := ⟨_, List.getElem?_eq_getElem hlt⟩
    have hdo := hok d (List.mem_of_getElem? hd)
    obtain ⟨b1, o1, hA1, hb1, hr1⟩ := hlr.flat (k := 10) (by omega) (fun _ => rfl) hd
    subst hA1
    have hrr : w0.rangeAt b1 (o1 + i * 10) [.int .u8 d.k, .slice d.A d.l.length d.c, .int .i64 d.i, .int .i64 d.s.index, .int .i64 d.s.term, .int .i64 d.s.sum, .int .i64 d.s.level, .bool d.s.final, .int .i64 d.t, .int .i64 d.v] := hr1
    have hr11 := hr1 1 (.slice d.A d.l.length d.c) rfl
    clear hr1
    by_cases h20 : d.l.length ≤ 20
    case neg =>
      repeat (first | apply wpS_nil | (apply QH_seq_k; assumption) | (apply wpC_seq_k; intro K hK) | apply wpC_region | (apply wpS_g_call; first | refine wpS_callP rfl rfl rfl (by kernel_rfl) rfl (wakes12_any _) hS (fun w hS hB => ?_)) | (apply wpS_g; refine wpS_put rfl rfl rfl (by first | exact yv_move rfl | exact yv_assign rfl | exact yv_fieldAddr (by first | exact fo_23_0 | exact fo_31_1) rfl | (apply yv_g_load; first | exact yv_load_old (by first | exact sc_24) rfl (RW.here _) hS (by first | trivial) (by first | trivial) (by assumption)) | (apply yv_g_bin; first | exact yv_lss_t rfl rfl (by omega) | exact yv_gtr_t rfl rfl (by omega)) | (apply yv_g_bi; first | exact yv_len (by first | exact el_24 | exact el_27) rfl) | exact yv_indexAddr (by first | exact el_27) rfl rfl rfl (by omega)) ?_) | apply wpC_cond_t rfl rfl | apply wpC_skip | apply wpC_ret | apply wpC_block | apply QH_then_ret | apply QH_block_ret)
      refine QH_ret rfl (by first | exact RV.tmp rfl RV.nil) rfl ?_
      exact ⟨rfl, hS.pure⟩
    repeat (first | apply wpS_nil | (apply QH_seq_k; assumption) | (apply wpC_seq_k; intro K hK) | apply wpC_region | (apply wpS_g; refine wpS_put rfl rfl rfl (by first | exact yv_move rfl | exact yv_fieldAddr (by first | exact fo_23_0 | exact fo_31_1) rfl | (apply yv_g_load; first | exact yv_load_old (by first | exact sc_24) rfl (RW.here _) hS (by first | trivial) (by first | trivial) (by assumption)) | (apply yv_g_bin; first | exact yv_lss_t rfl rfl (by omega) | exact yv_gtr_f rfl rfl (by omega)) | (apply yv_g_bi; first | exact yv_len (by first | exact el_24 | exact el_27) rfl) | exact yv_indexAddr (by first | exact el_27) rfl rfl rfl (by omega)) ?_) | apply wpC_cond_t rfl rfl | apply wpC_cond_f rfl rfl | apply wpC_skip | apply wpC_block)
    refine wpC_meet (X := RY) (fun z => [(5, .int .i64 i), (2, .pointer (some ⟨bt, 0, none⟩)), (1, .slice (some ⟨b1, o1, none⟩) l.length lc), (6, .pointer (some ⟨z.b, 0, none⟩)), (7, .int .i64 z.er)]) (fun z w => St0 All w0 w [.rd z.A1 z.xs1, .box z.b [.int .i64 z.y.snap.index, .int .i64 z.y.snap.term, .int .i64 z.y.snap.sum, .int .i64 z.y.snap.level, .bool z.y.snap.final, .slice z.A z.y.log.length z.c, .int .i64 z.y.term, .int .i64 z.y.vote] 26, .rd A1 xs1, .box bt [.int .i64 y.snap.index, .int .i64 y.snap.term, .int .i64 y.snap.sum, .int .i64 y.snap.level, .bool y.snap.final, .slice Ay y.log.length cy, .int .i64 y.term, .int .i64 y.vote] 26] ∧ Step y z.y z.er ∧ (z.y.log.length ≤ z.c ∧ z.c ≤ maxLen) ∧ ((z.A1 = z.A ∧ z.xs1 = ens z.y.log) ∨ (z.A = Ay ∧ z.c = cy ∧ z.y = y))) hK ?_ ?_
    · refine wpC_draw 12 [10] (fun i b => (i = 10 → False)) ⟨by kernel_rfl, by kernel_rfl⟩ hS (fun w hS hB => ?_)
      refine wpR_batch [true, true, true, true, true] (by decide +kernel) (by repeat (first | exact PF.body | apply PF.then | apply PF.inBlock)) ?_
      repeat (first | refine LtK.put rfl rfl rfl (by first | exact yv_move rfl | (apply yv_g_load; first | exact yv_load_boxA (by first | exact ag_23 | exact ag_26 | exact ag_31) rfl (RW.below _) hS (by repeat (first | exact Has.head | apply Has.tail)) (by first | trivial) (by repeat (first | exact Seg.here (by repeat (first | exact Pre.zero | apply Pre.succ)))) | exact yv_loadA_old (by first | exact ag_23 | exact ag_31) rfl (RW.below _) hS (by first | trivial) (by first | trivial) (by assumption) (by rfl)) | exact yv_indexAddr (by first | exact el_24 | exact el_27) rfl rfl rfl (by omega)) ?_)
      refine LtK.nil ?_
      refine wpR_two [false, false, false, false, false, true] [false, false, false, false, false, false, false, false, false, true] 5 9 ⟨by decide, by kernel_rfl, by kernel_rfl, by kernel_rfl⟩ rfl rfl rfl rfl ?_ ?_
      · dsimp only [pickL]
        repeat (first | apply wpS_nil | (apply wpS_g_call; refine wpS_call rfl rfl rfl rfl (by kernel_rfl) rfl (does_any y Ay d.A cy d.l.length d.c d.l d.k d.i d.s d.t d.v _ hT ⟨rfl, by have := (tupB_bd y hT).2.2.2; omega, hle, hcp, hlog.rd hS (by repeat (first | exact Has.head))⟩ (hlog.blk hS (by repeat (first | exact Has.head))) ⟨rfl, by omega, hdo.2.1, hdo.2.2.1, hS.rd0 hdo.2.2.2⟩ (by omega) hdo.1) ?_; rintro e w1 ⟨y2, er, A2, c2, A3, n3, c3, xs3, ⟨hst, rfl, hlc, hor, hsl⟩, hB⟩; refine ⟨_, rfl, ?_⟩; have hS := hS.slice hsl hB))
        refine QH_step (by first | assumption) ?_
        refine wpR_batch [false, false, false, false, false, false, true, true] (by decide +kernel) (by repeat (first | exact PF.body | apply PF.then | apply PF.inBlock)) ?_
        repeat (first | refine LtK.put rfl rfl rfl (by first | exact yv_move rfl | exact yv_extract rfl rfl) ?_)
        refine LtK.nil ?_
        refine wpR_batchG [false, false, false, false, false, false, false, false, true] [10] (fun _ => False) (by decide +kernel) (by intro j hj b hb; simp only [List.mem_cons, List.not_mem_nil, or_false] at hj; (try rcases hj with rfl | rfl) <;> simp_all) (by repeat (first | exact PF.body | apply PF.then | apply PF.inBlock)) ?_
        repeat (first | refine LtK.put rfl rfl rfl (by first | exact yv_extract rfl rfl) ?_)
        refine LtK.nil ?_
        refine wpR_call [false, false, false, false, false, false, false, false, false, true] 9 ⟨by decide, by kernel_rfl, by kernel_rfl⟩ rfl rfl ?_
        dsimp only [pickL]
        repeat (first | apply wpS_nil | (apply wpS_g_alloc; refine wpS_alloc rfl rfl (by first | exact zc_26) hS (fun b w hS hB => ?_)))
        refine QH_step (by first | assumption) ?_
        refine wpR_seal [false, false, false, false, false, false, false, false, false, false, true] 10 ⟨by decide, by kernel_rfl, by kernel_rfl⟩ rfl rfl ?_
        dsimp only [pickL]
        repeat (first | apply wpS_nil | (apply wpS_g_store; refine wpS_store rfl rfl rfl (by first | exact CellsOf.agg) hS (by repeat (first | exact Pos.head)) (by repeat (first | exact SetC.here (by repeat (first | exact Ovr.nil | apply Ovr.cons)))) (by kernel_rfl) rfl (fun w hS hB => ?_)))
        refine QH_stepG (hB.sub (fun _ _ h => (h rfl).elim)) ?_
        refine wpR_batch [false, false, false, false, false, false, false, false, false, false, false, true] (by decide +kernel) (by repeat (first | exact PF.body | apply PF.then | apply PF.inBlock)) ?_
        repeat (first | refine LtK.put rfl rfl rfl (by first | exact yv_assign rfl) ?_)
        refine LtK.nil ?_
        refine wpR_end (by kernel_rfl) ?_
        refine QH_arr ⟨b, y2, er, A2, c2, A3, xs3⟩ (by repeat (first | exact Sub.nil | refine Sub.cons rfl ?_)) ⟨by first | (refine hS.subSwap ?_; ((try dsimp only); (repeat (first | exact List.Sublist.refl _)); done)), hst, hlc, hor⟩
      · dsimp only [pickL]
        repeat (first | apply wpS_nil | (apply wpS_g_alloc; refine wpS_alloc rfl rfl (by first | exact zc_26) hS (fun b w hS hB => ?_)))
        refine QH_step (by first | assumption) ?_
        refine wpR_call [false, false, false, false, false, true] 5 ⟨by decide, by kernel_rfl, by kernel_rfl⟩ rfl rfl ?_
        dsimp only [pickL]
        repeat (first | apply wpS_nil | (apply wpS_g_call; refine wpS_call rfl rfl rfl rfl (by kernel_rfl) rfl (does_any y Ay d.A cy d.l.length d.c d.l d.k d.i d.s d.t d.v _ hT ⟨rfl, by have := (tupB_bd y hT).2.2.2; omega, hle, hcp, hlog.rd hS (by repeat (first | exact Has.head | apply Has.tail))⟩ (hlog.blk hS (by repeat (first | exact Has.head | apply Has.tail))) ⟨rfl, by omega, hdo.2.1, hdo.2.2.1, hS.rd0 hdo.2.2.2⟩ (by omega) hdo.1) ?_; rintro e w1 ⟨y2, er, A2, c2, A3, n3, c3, xs3, ⟨hst, rfl, hlc, hor, hsl⟩, hB⟩; refine ⟨_, rfl, ?_⟩; have hS := hS.slice hsl hB))
        refine QH_step (by first | assumption) ?_
        refine wpR_batch [false, false, false, false, false, false, true, true] (by decide +kernel) (by repeat (first | exact PF.body | apply PF.then | apply PF.inBlock)) ?_
        repeat (first | refine LtK.put rfl rfl rfl (by first | exact yv_move rfl | exact yv_extract rfl rfl) ?_)
        refine LtK.nil ?_
        refine wpR_batchG [false, false, false, false, false, false, false, false, true] [10] (fun _ => False) (by decide +kernel) (by intro j hj b hb; simp only [List.mem_cons, List.not_mem_nil, or_false] at hj; (try rcases hj with rfl | rfl) <;> simp_all) (by repeat (first | exact PF.body | apply PF.then | apply PF.inBlock)) ?_
        repeat (first | refine LtK.put rfl rfl rfl (by first | exact yv_extract rfl rfl) ?_)
        refine LtK.nil ?_
        refine wpR_seal [false, false, false, false, false, false, false, false, false, false, true] 10 ⟨by decide, by kernel_rfl, by kernel_rfl⟩ rfl rfl ?_
        dsimp only [pickL]
        repeat (first | apply wpS_nil | (apply wpS_g_store; refine wpS_store rfl rfl rfl (by first | exact CellsOf.agg) hS (by repeat (first | exact Pos.head | apply Pos.tail)) (by repeat (first | exact SetC.here (by repeat (first | exact Ovr.nil | apply Ovr.cons)))) (by kernel_rfl) rfl (fun w hS hB => ?_)))
        refine QH_stepG (hB.sub (fun _ _ h => (h rfl).elim)) ?_
        refine wpR_batch [false, false, false, false, false, false, false, false, false, false, false, true] (by decide +kernel) (by repeat (first | exact PF.body | apply PF.then | apply PF.inBlock)) ?_
        repeat (first | refine LtK.put rfl rfl rfl (by first | exact yv_assign rfl) ?_)
        refine LtK.nil ?_
        refine wpR_end (by kernel_rfl) ?_
        refine QH_arr ⟨b, y2, er, A2, c2, A3, xs3⟩ (by repeat (first | exact Sub.nil | refine Sub.cons rfl ?_)) ⟨by first | (refine hS.sub ?_; ((try dsimp only); (repeat (first | exact List.Sublist.refl _)); done)), hst, hlc, hor⟩
    rintro ⟨bo, y2, er, A2, c2, A3, xs3⟩ w ⟨hS, hst, hlc, hor⟩
    dsimp only at hS hst hlc hor ⊢
    clear hrr hr11 hdo
    obtain ⟨st1, st2, st3, st4, st5⟩ := hst
    have hrd2 := fun {w : World} {H : List Ent} (hS : St0 All w0 w H) (h3 : Has H (.rd A3 xs3)) (h1 : Has H (.rd A1 xs1)) => logRd2 hS hor hlog h3 h1
    have hyb := (tupB_bd y hT).2.2.2
    have hyb2 := (tupB_bd y2 st1).2.2.2
    rcases st2 with rfl | ⟨rfl, rfl⟩
    · by_cases ht : y2.term = y.term
      · by_cases hv : 0 < y.vote
        · have st5' := st5 ht hv
          repeat (first | apply wpS_nil | (apply QH_seq_k; assumption) | (apply wpC_seq_k; intro K hK) | apply wpC_region | (apply wpS_g; refine wpS_skip rfl rfl rfl ?_) | (apply wpS_g_store; refine wpS_store rfl rfl rfl (by first | exact CellsOf.agg) hS (by repeat (first | exact Pos.head | apply Pos.tail)) (by repeat (first | exact SetC.here (by repeat (first | exact Ovr.nil | apply Ovr.cons)))) (by kernel_rfl) rfl (fun w hS hB => ?_)) | (apply wpS_g_call; first | refine wpS_callP rfl rfl rfl (by kernel_rfl) rfl (rightR12_b y2 A2 c2 _ hlc.1 (hrd2 hS (by repeat (first | exact Has.head)) (by repeat (first | exact Has.head | apply Has.tail))) true st1) hS (fun w hS hB => ?_)) | (apply wpS_g; refine wpS_put rfl rfl rfl (by first | exact yv_move rfl | exact yv_assign rfl | exact yv_fieldAddr (by first | exact fo_23_0 | exact fo_26_0 | exact fo_26_2 | exact fo_26_3) rfl | (apply yv_g_load; first | exact yv_load_box (by first | exact sc_3) rfl (RW.here _) hS (by repeat (first | exact Has.head | apply Has.tail)) (by first | trivial) (by repeat (first | exact Seg.here (Pre.succ Pre.zero) | apply Seg.succ)) | exact yv_load_boxA (by first | exact ag_26) rfl (RW.here _) hS (by repeat (first | exact Has.head | apply Has.tail)) (by first | trivial) (by repeat (first | exact Seg.here (by repeat (first | exact Pre.zero | apply Pre.succ))))) | (apply yv_g_bin; first | exact yv_lss_f rfl rfl (by omega) | exact yv_gtr_t rfl rfl (by omega) | exact yv_eql_t rfl rfl (by omega) | exact yv_neq_f rfl rfl (by omega) | exact yv_add rfl rfl (by omega)) | (apply yv_g_pick; first | exact yv_pick_t rfl rfl rfl | exact yv_pick_f rfl rfl rfl) | exact yv_not rfl) ?_) | apply wpC_cond_f rfl rfl | apply wpC_skip | apply QH_block_normal)
          rcases hor with ⟨g1, g2⟩ | ⟨g1, g2, g3⟩
          · refine QH_again ⟨i + 1, y2, A2, c2, A3, xs3⟩ (by repeat (first | exact Sub.nil | refine Sub.cons rfl ?_)) ⟨hlt, hS.sub (by first | ((try dsimp only); repeat (first | exact List.Sublist.refl _ | (refine List.Sublist.cons_cons _ ?_) | (refine List.Sublist.cons _ ?_)))), st1, hlc, .inl ⟨g1, g2⟩⟩ (by dsimp only; omega)
          · refine QH_again ⟨i + 1, y2, A2, c2, A1, xs1⟩ (by repeat (first | exact Sub.nil | refine Sub.cons rfl ?_)) ⟨hlt, hS.sub (by first | ((try dsimp only); repeat (first | exact List.Sublist.refl _ | (refine List.Sublist.cons _ ?_)))), st1, hlc, by dsimp only; rw [g1]; first | (rw [g3]; exact hlog)⟩ (by dsimp only; omega)
        · repeat (first | apply wpS_nil | (apply QH_seq_k; assumption) | (apply wpC_seq_k; intro K hK) | apply wpC_region | (apply wpS_g; refine wpS_skip rfl rfl rfl ?_) | (apply wpS_g_store; refine wpS_store rfl rfl rfl (by first | exact CellsOf.agg) hS (by repeat (first | exact Pos.head | apply Pos.tail)) (by repeat (first | exact SetC.here (by repeat (first | exact Ovr.nil | apply Ovr.cons)))) (by kernel_rfl) rfl (fun w hS hB => ?_)) | (apply wpS_g_call; first | refine wpS_callP rfl rfl rfl (by kernel_rfl) rfl (rightR12_b y2 A2 c2 _ hlc.1 (hrd2 hS (by repeat (first | exact Has.head)) (by repeat (first | exact Has.head | apply Has.tail))) true st1) hS (fun w hS hB => ?_)) | (apply wpS_g; refine wpS_put rfl rfl rfl (by first | exact yv_move rfl | exact yv_assign rfl | exact yv_fieldAddr (by first | exact fo_23_0 | exact fo_26_0 | exact fo_26_2 | exact fo_26_3) rfl | (apply yv_g_load; first | exact yv_load_box (by first | exact sc_3) rfl (RW.here _) hS (by repeat (first | exact Has.head | apply Has.tail)) (by first | trivial) (by repeat (first | exact Seg.here (Pre.succ Pre.zero) | apply Seg.succ)) | exact yv_load_boxA (by first | exact ag_26) rfl (RW.here _) hS (by repeat (first | exact Has.head | apply Has.tail)) (by first | trivial) (by repeat (first | exact Seg.here (by repeat (first | exact Pre.zero | apply Pre.succ))))) | (apply yv_g_bin; first | exact yv_lss_f rfl rfl (by omega) | exact yv_gtr_f rfl rfl (by omega) | exact yv_eql_t rfl rfl (by omega) | exact yv_neq_f rfl rfl (by omega) | exact yv_add rfl rfl (by omega)) | (apply yv_g_pick; first | exact yv_pick_t rfl rfl rfl | exact yv_pick_f rfl rfl rfl) | exact yv_not rfl) ?_) | apply wpC_cond_f rfl rfl | apply wpC_skip | apply QH_block_normal)
          rcases hor with ⟨g1, g2⟩ | ⟨g1, g2, g3⟩
          · refine QH_again ⟨i + 1, y2, A2, c2, A3, xs3⟩ (by repeat (first | exact Sub.nil | refine Sub.cons rfl ?_)) ⟨hlt, hS.sub (by first | ((try dsimp only); repeat (first | exact List.Sublist.refl _ | (refine List.Sublist.cons_cons _ ?_) | (refine List.Sublist.cons _ ?_)))), st1, hlc, .inl ⟨g1, g2⟩⟩ (by dsimp only; omega)
          · refine QH_again ⟨i + 1, y2, A2, c2, A1, xs1⟩ (by repeat (first | exact Sub.nil | refine Sub.cons rfl ?_)) ⟨hlt, hS.sub (by first | ((try dsimp only); repeat (first | exact List.Sublist.refl _ | (refine List.Sublist.cons _ ?_)))), st1, hlc, by dsimp only; rw [g1]; first | (rw [g3]; exact hlog)⟩ (by dsimp only; omega)
      · repeat (first | apply wpS_nil | (apply QH_seq_k; assumption) | (apply wpC_seq_k; intro K hK) | apply wpC_region | (apply wpS_g; refine wpS_skip rfl rfl rfl ?_) | (apply wpS_g_store; refine wpS_store rfl rfl rfl (by first | exact CellsOf.agg) hS (by repeat (first | exact Pos.head | apply Pos.tail)) (by repeat (first | exact SetC.here (by repeat (first | exact Ovr.nil | apply Ovr.cons)))) (by kernel_rfl) rfl (fun w hS hB => ?_)) | (apply wpS_g_call; first | refine wpS_callP rfl rfl rfl (by kernel_rfl) rfl (rightR12_b y2 A2 c2 _ hlc.1 (hrd2 hS (by repeat (first | exact Has.head)) (by repeat (first | exact Has.head | apply Has.tail))) true st1) hS (fun w hS hB => ?_)) | (apply wpS_g; refine wpS_put rfl rfl rfl (by first | exact yv_move rfl | exact yv_assign rfl | exact yv_fieldAddr (by first | exact fo_23_0 | exact fo_26_0 | exact fo_26_2) rfl | (apply yv_g_load; first | exact yv_load_box (by first | exact sc_3) rfl (RW.here _) hS (by repeat (first | exact Has.head | apply Has.tail)) (by first | trivial) (by repeat (first | exact Seg.here (Pre.succ Pre.zero) | apply Seg.succ)) | exact yv_load_boxA (by first | exact ag_26) rfl (RW.here _) hS (by repeat (first | exact Has.head | apply Has.tail)) (by first | trivial) (by repeat (first | exact Seg.here (by repeat (first | exact Pre.zero | apply Pre.succ))))) | (apply yv_g_bin; first | exact yv_lss_f rfl rfl (by omega) | exact yv_eql_f rfl rfl (by omega) | exact yv_neq_f rfl rfl (by omega) | exact yv_add rfl rfl (by omega)) | (apply yv_g_pick; first | exact yv_pick_f rfl rfl rfl) | exact yv_not rfl) ?_) | apply wpC_cond_f rfl rfl | apply wpC_skip | apply QH_block_normal)
        rcases hor with ⟨g1, g2⟩ | ⟨g1, g2, g3⟩
        · refine QH_again ⟨i + 1, y2, A2, c2, A3, xs3⟩ (by repeat (first | exact Sub.nil | refine Sub.cons rfl ?_)) ⟨hlt, hS.sub (by first | ((try dsimp only); repeat (first | exact List.Sublist.refl _ | (refine List.Sublist.cons_cons _ ?_) | (refine List.Sublist.cons _ ?_)))), st1, hlc, .inl ⟨g1, g2⟩⟩ (by dsimp only; omega)
        · refine QH_again ⟨i + 1, y2, A2, c2, A1, xs1⟩ (by repeat (first | exact Sub.nil | refine Sub.cons rfl ?_)) ⟨hlt, hS.sub (by first | ((try dsimp only); repeat (first | exact List.Sublist.refl _ | (refine List.Sublist.cons _ ?_)))), st1, hlc, by dsimp only; rw [g1]; first | (rw [g3]; exact hlog)⟩ (by dsimp only; omega)
    · by_cases hv : 0 < y2.vote
      · repeat (first | apply wpS_nil | (apply QH_seq_k; assumption) | (apply wpC_seq_k; intro K hK) | apply wpC_region | (apply wpS_g_store; refine wpS_store rfl rfl rfl (by first | exact CellsOf.agg) hS (by repeat (first | exact Pos.head | apply Pos.tail)) (by repeat (first | exact SetC.here (by repeat (first | exact Ovr.nil | apply Ovr.cons)))) (by kernel_rfl) rfl (fun w hS hB => ?_)) | (apply wpS_g_call; first | refine wpS_callP rfl rfl rfl (by kernel_rfl) rfl (rightR12_b y2 A2 c2 _ hlc.1 (hrd2 hS (by repeat (first | exact Has.head)) (by repeat (first | exact Has.head | apply Has.tail))) true st1) hS (fun w hS hB => ?_) | refine wpS_callP rfl rfl rfl (by kernel_rfl) rfl (sameR_t y2 A2 Ay c2 cy _ ⟨rfl, by omega, hlc.1, hlc.2, hrd2 hS (by repeat (first | exact Has.head)) (by repeat (first | exact Has.head | apply Has.tail))⟩ ⟨rfl, by omega, hle, hcp, hlog.rd hS (by repeat (first | exact Has.head | apply Has.tail))⟩) hS (fun w hS hB => ?_)) | (apply wpS_g; refine wpS_put rfl rfl rfl (by first | exact yv_move rfl | exact yv_assign rfl | exact yv_fieldAddr (by first | exact fo_23_0 | exact fo_26_0 | exact fo_26_2 | exact fo_26_3) rfl | (apply yv_g_load; first | exact yv_load_box (by first | exact sc_3) rfl (RW.here _) hS (by repeat (first | exact Has.head | apply Has.tail)) (by first | trivial) (by repeat (first | exact Seg.here (Pre.succ Pre.zero) | apply Seg.succ)) | exact yv_load_boxA (by first | exact ag_26) rfl (RW.here _) hS (by repeat (first | exact Has.head | apply Has.tail)) (by first | trivial) (by repeat (first | exact Seg.here (by repeat (first | exact Pre.zero | apply Pre.succ))))) | (apply yv_g_bin; first | exact yv_lss_f rfl rfl (by omega) | exact yv_gtr_t rfl rfl (by omega) | exact yv_eql_t rfl rfl (by omega) | exact yv_neq_t rfl rfl (by omega) | exact yv_neq_f rfl rfl (by omega) | exact yv_add rfl rfl (by omega)) | (apply yv_g_pick; first | exact yv_pick_t rfl rfl rfl | exact yv_pick_f rfl rfl rfl) | exact yv_not rfl) ?_) | apply wpC_cond_f rfl rfl | apply wpC_skip | apply QH_block_normal)
        rcases hor with ⟨g1, g2⟩ | ⟨g1, g2, g3⟩
        · refine QH_again ⟨i + 1, y2, A2, c2, A3, xs3⟩ (by repeat (first | exact Sub.nil | refine Sub.cons rfl ?_)) ⟨hlt, hS.sub (by first | ((try dsimp only); repeat (first | exact List.Sublist.refl _ | (refine List.Sublist.cons_cons _ ?_) | (refine List.Sublist.cons _ ?_)))), st1, hlc, .inl ⟨g1, g2⟩⟩ (by dsimp only; omega)
        · refine QH_again ⟨i + 1, y2, A2, c2, A1, xs1⟩ (by repeat (first | exact Sub.nil | refine Sub.cons rfl ?_)) ⟨hlt, hS.sub (by first | ((try dsimp only); repeat (first | exact List.Sublist.refl _ | (refine List.Sublist.cons _ ?_)))), st1, hlc, by dsimp only; rw [g1]; first | exact hlog⟩ (by dsimp only; omega)
      · repeat (first | apply wpS_nil | (apply QH_seq_k; assumption) | (apply wpC_seq_k; intro K hK) | apply wpC_region | (apply wpS_g; refine wpS_skip rfl rfl rfl ?_) | (apply wpS_g_store; refine wpS_store rfl rfl rfl (by first | exact CellsOf.agg) hS (by repeat (first | exact Pos.head | apply Pos.tail)) (by repeat (first | exact SetC.here (by repeat (first | exact Ovr.nil | apply Ovr.cons)))) (by kernel_rfl) rfl (fun w hS hB => ?_)) | (apply wpS_g_call; first | refine wpS_callP rfl rfl rfl (by kernel_rfl) rfl (rightR12_b y2 A2 c2 _ hlc.1 (hrd2 hS (by repeat (first | exact Has.head)) (by repeat (first | exact Has.head | apply Has.tail))) true st1) hS (fun w hS hB => ?_) | refine wpS_callP rfl rfl rfl (by kernel_rfl) rfl (sameR_t y2 A2 Ay c2 cy _ ⟨rfl, by omega, hlc.1, hlc.2, hrd2 hS (by repeat (first | exact Has.head)) (by repeat (first | exact Has.head | apply Has.tail))⟩ ⟨rfl, by omega, hle, hcp, hlog.rd hS (by repeat (first | exact Has.head | apply Has.tail))⟩) hS (fun w hS hB => ?_)) | (apply wpS_g; refine wpS_put rfl rfl rfl (by first | exact yv_move rfl | exact yv_assign rfl | exact yv_fieldAddr (by first | exact fo_23_0 | exact fo_26_0 | exact fo_26_2 | exact fo_26_3) rfl | (apply yv_g_load; first | exact yv_load_box (by first | exact sc_3) rfl (RW.here _) hS (by repeat (first | exact Has.head | apply Has.tail)) (by first | trivial) (by repeat (first | exact Seg.here (Pre.succ Pre.zero) | apply Seg.succ)) | exact yv_load_boxA (by first | exact ag_26) rfl (RW.here _) hS (by repeat (first | exact Has.head | apply Has.tail)) (by first | trivial) (by repeat (first | exact Seg.here (by repeat (first | exact Pre.zero | apply Pre.succ))))) | (apply yv_g_bin; first | exact yv_lss_f rfl rfl (by omega) | exact yv_gtr_f rfl rfl (by omega) | exact yv_eql_t rfl rfl (by omega) | exact yv_neq_t rfl rfl (by omega) | exact yv_neq_f rfl rfl (by omega) | exact yv_add rfl rfl (by omega)) | (apply yv_g_pick; first | exact yv_pick_t rfl rfl rfl | exact yv_pick_f rfl rfl rfl) | exact yv_not rfl) ?_) | apply wpC_cond_f rfl rfl | apply wpC_skip | apply QH_block_normal)
        rcases hor with ⟨g1, g2⟩ | ⟨g1, g2, g3⟩
        · refine QH_again ⟨i + 1, y2, A2, c2, A3, xs3⟩ (by repeat (first | exact Sub.nil | refine Sub.cons rfl ?_)) ⟨hlt, hS.sub (by first | ((try dsimp only); repeat (first | exact List.Sublist.refl _ | (refine List.Sublist.cons_cons _ ?_) | (refine List.Sublist.cons _ ?_)))), st1, hlc, .inl ⟨g1, g2⟩⟩ (by dsimp only; omega)
        · refine QH_again ⟨i + 1, y2, A2, c2, A1, xs1⟩ (by repeat (first | exact Sub.nil | refine Sub.cons rfl ?_)) ⟨hlt, hS.sub (by first | ((try dsimp only); repeat (first | exact List.Sublist.refl _ | (refine List.Sublist.cons _ ?_)))), st1, hlc, by dsimp only; rw [g1]; first | exact hlog⟩ (by dsimp only; omega)
end Go.Proofs.Ythngkojbokknfaa
