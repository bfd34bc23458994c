/- Texts of one claim put together: what its walks share. -/
import Derived.Test.YtenagnncpaabdaaGreatMg1
import Derived.Test.YtenagnncpaabdaaGreatMg0
import Derived.Deep.DeepCutAuto
/- The walks of tuples: Append, Cut, Hard. -/
namespace Go.Proofs.YtenagnncpaabdaaGreat
open Go Go.RowKit
set_option maxRecDepth 100000

theorem Rd.blk {w : World} {A : Option Addr} {xs : List Value} (h : Rd w A xs) (hne : xs ≠ []) : ∀ a, A = some a → a.block < w.heap.size := fun a ha => by
  cases xs with
  | nil => exact (hne rfl).elim
  | cons v xs =>
    obtain ⟨b, o, hA, hb, _⟩ := h 0 v rfl
    rw [ha] at hA
    injection hA with hA
    subst hA
    exact hb
theorem KeepB.rdN {S : Nat → Prop} {w w' : World} {A : Option Addr} {xs : List Value} (hk : KeepB S w w') (h : Rd w A xs) (hs : ∀ a, A = some a → xs ≠ [] → S a.block) : Rd w' A xs := by
  cases xs with
  | nil => exact Rd.nil _ _
  | cons v xs => exact hk.rd h (fun a ha => hs a ha (by simp))
theorem append1_does (bl m d : Nat) (B : Option Addr) (l : List En) (w0 : World) (hbl : w0.heap[bl]? = some (.cells #[.slice B m d] 24)) (hl : LI w0 B m d l) (x : Tu) (hm : m ≤ 300) (hx : tupB x = true) :
    Does 73 #[.pointer (some ⟨bl, 0, none⟩)] w0 x (some { x with log := x.log ++ l }) := by
  intro W bo A' c' hB hbo hT hLI hA'
  have hxb := tupB_bd x hx
  have hol : bo < W.heap.size := (Array.getElem?_eq_some_iff.1 hT).1
  have hbl' : bl < w0.heap.size := (Array.getElem?_eq_some_iff.1 hbl).1
  have hblW : W.heap[bl]? = some (.cells #[.slice B m d] 24) := (hB.block bl hbl').trans hbl
  have hne : bl ≠ bo := by omega
  have hlW := hl.below hB
  show Calls _ _ #[_, _] _ _
  refine gw_enter2 Tryz.func73 rfl Tryz.ntmps73 rfl ?_
  have hS := St0.old (w := W) (fun k => k ≠ bo) (e := .box bo [.int .i64 x.snap.index, .int .i64 x.snap.term, .int .i64 x.snap.sum, .int .i64 x.snap.level, .bool x.snap.final, .slice A' x.log.length c', .int .i64 x.term, .int .i64 x.vote] 26) hT (fun k hk => by subst hk; exact ⟨hol, by simp⟩)
  refine wpC_draw 11 [10] (fun i b => (i = 10 → b ≠ bo)) ⟨by kernel_rfl, by kernel_rfl⟩ hS (fun w hS hB => ?_)
  refine wpR_batch [true, true, true, true, true, true] (by decide +kernel) (by repeat (first | exact PF.body)) ?_
  repeat (first | refine LtK.put rfl rfl rfl (by first | exact yv_move rfl | exact yv_fieldAddr (by first | exact fo_23_0 | exact fo_26_1) rfl | (apply yv_g_load; first | exact yv_load_box (by first | exact sc_1 | exact sc_24) rfl (RW.below _) hS (by repeat (first | exact Has.head | apply Has.tail)) (by first | trivial) (by repeat (first | exact Seg.here (Pre.succ Pre.zero) | apply Seg.succ)) | exact yv_load_ob (by first | exact sc_1 | exact sc_24) rfl (RW.below _) hS (by first | trivial) (by first | trivial) (by assumption) (by repeat (first | exact Seg.here (Pre.succ Pre.zero)))) | exact yv_nilCheck rfl) ?_)
  refine LtK.nil ?_
  refine wpR_call [false, false, false, false, false, false, true] 6 ⟨by decide, by kernel_rfl, by kernel_rfl⟩ rfl rfl ?_
  dsimp only [pickL]
  repeat (first | apply wpS_nil | (apply wpS_g; refine wpS_sliceM (ps := [(0, .tmp 7), (1, .tmp 8)]) [.slice A' x.log.length c', .slice B m d] (by first | exact el_113) (by first | exact zc_24) rfl rfl rfl rfl rfl (by kernel_rfl) hS ?_; rintro bq w hS hB))
  refine QH_step (by first | assumption) ?_
  refine wpR_call [false, false, false, false, false, false, false, true] 7 ⟨by decide, by kernel_rfl, by kernel_rfl⟩ rfl rfl ?_
  dsimp only [pickL]
  repeat (first | apply wpS_nil | (apply wpS_g_call; refine wpS_call rfl rfl rfl rfl (by kernel_rfl) rfl (concat_any bq 2 A' B x.log.length m c' d x.log l _ rfl hl.len (by omega) (hS.base.rd hLI.rd (fun a ha => (hA' a ha).1)) (hS.base.rdN hlW.rd (fun a ha hne => by have := hl.rd.blk hne a ha; omega)) (hS.box_cell (b := bq) (by repeat (first | exact Has.head)) (by repeat (first | exact Seg.here (Pre.succ Pre.zero)))) (hS.box_cell (b := bq) (by repeat (first | exact Has.head)) (by repeat (first | exact Seg.here (Pre.succ Pre.zero) | apply Seg.succ))) (by omega)) ?_; rintro e w1 ⟨A2, c2, ⟨rfl, hs⟩, hB⟩; refine ⟨_, rfl, ?_⟩; have hS := hS.slice hs hB))
  refine QH_step (by first | assumption) ?_
  refine wpR_batchG [false, false, false, false, false, false, false, false, true] [10] (fun b => b ≠ bo) (by decide +kernel) (by intro j hj b hb; simp only [List.mem_cons, List.not_mem_nil, or_false] at hj; (try rcases hj with rfl | rfl) <;> simp_all) (by repeat (first | exact PF.body)) ?_
  repeat (first | refine LtK.put rfl rfl rfl (by first | exact yv_nilCheck rfl) ?_)
  refine LtK.nil ?_
  refine wpR_batch [false, false, false, false, false, false, false, false, false, true] (by decide +kernel) (by repeat (first | exact PF.body)) ?_
  repeat (first | refine LtK.put rfl rfl rfl (by first | exact yv_fieldAddr (by first | exact fo_23_0 | exact fo_26_1) rfl) ?_)
  refine LtK.nil ?_
  refine wpR_seal [false, false, false, false, false, false, false, false, false, false, true] 10 ⟨by decide, by kernel_rfl, by kernel_rfl⟩ rfl rfl ?_
  dsimp only [pickL]
  repeat (first | apply wpS_nil | (apply wpS_g_store; refine wpS_store rfl rfl rfl (by first | exact CellsOf.slice) hS (by repeat (first | exact Pos.head | apply Pos.tail)) (by repeat (first | exact SetC.here (by repeat (first | exact Ovr.nil | apply Ovr.cons)) | apply SetC.succ)) (by kernel_rfl) rfl (fun w hS hB => ?_)))
  refine QH_stepG (by first | exact hB.sub (fun _ _ h => by simpa using h)) ?_
  refine wpR_end (by kernel_rfl) ?_
  refine QH_end rfl (by first | exact RV.nil) rfl ?_
  have hob := hS.ok (.box bo [.int .i64 x.snap.index, .int .i64 x.snap.term, .int .i64 x.snap.sum, .int .i64 x.snap.level, .bool x.snap.final, .slice A2 (x.log.length + m) c2, .int .i64 x.term, .int .i64 x.vote] 26) (Has.mem (by repeat (first | exact Has.head | apply Has.tail)))
  have hrd : LI w A2 (x.log ++ l).length c2 (x.log ++ l) := ⟨rfl, by rw [List.length_append, hl.len]; omega, by rw [List.length_append, hl.len]; exact hs.le, hs.cap, hS.rd (by repeat (first | exact Has.head))⟩
  have hln : (x.log ++ l).length = x.log.length + m := by rw [List.length_append, hl.len]
  refine ⟨hS.base, .inl ⟨_, A2, c2, rfl, rfl, ?_, hrd, fun a ha => ⟨(hS.rng (.rd A2 (ens (x.log ++ l))) (Has.mem (by repeat (first | exact Has.head))) a.block ⟨a, ha, rfl⟩).1, .inr ?_⟩⟩⟩
  · unfold TB; rw [hln]; exact hob
  · exact Nat.le_of_not_lt fun hlt => (hS.rng (.rd A2 (ens (x.log ++ l))) (Has.mem (by repeat (first | exact Has.head))) a.block ⟨a, ha, rfl⟩).2 hlt (hS.rd_ne 0 2 rfl rfl rfl a ha)

/-- What a deed hands back. -/
def Chg (w0 : World) (x : Tu) (res : Option Tu) (e : Ending) (w' : World) : Prop := ∃ A2 c2, (e = .returned (.tuple #[.agg #[.int .i64 (chgS x res).snap.index, .int .i64 (chgS x res).snap.term, .int .i64 (chgS x res).snap.sum, .int .i64 (chgS x res).snap.level, .bool (chgS x res).snap.final, .slice A2 (chgS x res).log.length c2, .int .i64 (chgS x res).term, .int .i64 (chgS x res).vote], .int .i64 (chgE x res)]) ∧ Sl w0 w' A2 (chgS x res).log.length c2 3 (ens (chgS x res).log)) ∧ Below w0.heap.size w0 w'
theorem append_any (x : Tu) (A B : Option Addr) (c m d : Nat) (l : List En) (w0 : World) (hx : LI w0 A x.log.length c x.log) (hA : ∀ a, A = some a → a.block < w0.heap.size) (hl : LI w0 B m d l) (hm : m ≤ 300) :
    Calls Tryz.prog 36 #[.agg #[.int .i64 x.snap.index, .int .i64 x.snap.term, .int .i64 x.snap.sum, .int .i64 x.snap.level, .bool x.snap.final, .slice A x.log.length c, .int .i64 x.term, .int .i64 x.vote], .slice B m d] w0 (Chg w0 x (some { x with log := x.log ++ l })) := by
  refine gw_enter2 Tryz.func36 rfl Tryz.ntmps36 rfl ?_
  have hS := St0.start All w0
  repeat (first | (apply wpC_seq_k; intro K hK) | apply wpC_region)
  first | (apply wpS_g_box; refine wpS_box rfl rfl rfl (by first | exact CellsOf.agg) hS (fun bt w hS hB => ?_))
  first | (apply wpS_g_box; refine wpS_box rfl rfl rfl (by first | exact CellsOf.slice) hS (fun bl w hS hB => ?_))
  repeat (first | apply wpS_nil | (apply QH_seq_k; assumption) | (apply wpC_seq_k; intro K hK) | apply wpC_region | (apply wpS_g_alloc; refine wpS_alloc rfl rfl (by first | exact zc_26) hS (fun b w hS hB => ?_)) | (apply wpS_g; refine wpS_put rfl rfl rfl (by first | exact yv_assign rfl | (apply yv_g_load; first | exact yv_load_boxA (by first | exact ag_26) rfl (RW.here _) hS (by repeat (first | exact Has.head | apply Has.tail)) (by first | trivial) (by repeat (first | exact Seg.here (by repeat (first | exact Pre.zero | apply Pre.succ))))) | exact yv_makeFunc rfl rfl) ?_))
  have hbl := (hS.box_ge (b := bl) (by repeat (first | exact Has.head | apply Has.tail)))
  refine wpS_call rfl rfl rfl rfl (by kernel_rfl) rfl (changed_any x (some { x with log := x.log ++ l }) A c 73 #[.pointer (some ⟨bl, 0, none⟩)] _ (by kernel_rfl) (hx.below hS.pure) (fun a ha => Nat.lt_of_lt_of_le (hA a ha) hS.size)
    (fun hT => append1_does bl m d B l _ hbl.2.2 (hl.below hS.pure) x hm hT)) ?_
  rintro e w1 ⟨A2, c2, ⟨rfl, hs⟩, hB⟩
  refine ⟨_, rfl, ?_⟩
  replace hS := hS.slice hs hB
  repeat (first | apply wpS_nil | (apply QH_seq_k; assumption) | (apply wpS_g_store; refine wpS_store rfl rfl rfl (by first | exact CellsOf.agg) hS (by repeat (first | exact Pos.head | apply Pos.tail)) (by repeat (first | exact SetC.here (by repeat (first | exact Ovr.nil | apply Ovr.cons)))) (by kernel_rfl) rfl (fun w hS hB => ?_)) | (apply wpS_g; refine wpS_put rfl rfl rfl (by first | exact yv_assign rfl | exact yv_extract rfl rfl) ?_) | apply wpC_ret)
  refine QH_ret rfl (by first | exact RV.cell rfl (load_boxA (by first | exact ag_26) hS (by repeat (first | exact Has.head | apply Has.tail)) (by repeat (first | exact Seg.here (by repeat (first | exact Pre.zero | apply Pre.succ))))) (RV.tmp rfl RV.nil)) rfl ?_
  exact ⟨A2, c2, ⟨rfl, hS.giveS (by repeat (first | exact Has.head)) hs.len hs.le hs.cap⟩, hS.pure⟩

end Go.Proofs.YtenagnncpaabdaaGreat
/- The walks of tuples: TermAt, save, Save, Cut, Install, Hard. -/
namespace Go.Proofs.YtenagnncpaabdaaGreat
open Go Go.RowKit
set_option maxRecDepth 100000

theorem Rd.cutE {w : World} {A : Option Addr} {l : List En} (h : Rd w A (ens l)) {k c : Nat} (hc : l.length ≤ c) : Rd w (if c = k then A else A.map (·.add (k * 3))) (ens (l.drop k)) := by
  split
  · rename_i hck
    have : l.drop k = [] := List.drop_eq_nil_of_le (by omega)
    rw [this]; exact Rd.nil w A
  · rw [ens_drop, Nat.mul_comm]; exact h.drop (3 * k)

/-- The term at an index. -/
def termAt (x : Tu) (i : Int) : Option Int := if i = x.snap.index then some x.snap.term else if x.snap.index < i ∧ i ≤ x.last then (x.log[(i - x.snap.index - 1).toNat]?).map En.term else none
end Go.Proofs.YtenagnncpaabdaaGreat
/- The walks of tuples: Save, Cut, Install, Hard. -/
namespace Go.Proofs.YtenagnncpaabdaaGreat
open Go Go.RowKit
set_option maxRecDepth 100000
set_option maxHeartbeats 1000000

end Go.Proofs.YtenagnncpaabdaaGreat
/- The walks of tuples: State, First. -/
namespace Go.Proofs.YtenagnncpaabdaaGreat
open Go Go.RowKit
set_option maxRecDepth 100000

theorem next_p (s : St) (e : En) (w : World) : PureC Tryz.prog 66 #[.agg #[.int .i64 s.index, .int .i64 s.term, .int .i64 s.sum, .int .i64 s.level, .bool s.final], .agg #[.int .i64 e.term, .int .i64 e.kind, .int .i64 e.value]] w (.agg #[.int .i64 (nextS s e).index, .int .i64 (nextS s e).term, .int .i64 (nextS s e).sum, .int .i64 (nextS s e).level, .bool (nextS s e).final]) := ⟨next_any s e w⟩
/-- Where State's loop is. -/
structure SX where
  bt : Nat
  bs : Nat
  A : Option Addr
  c : Nat
  j : Nat
  n : Nat
theorem state_yes (x : Tu) (A : Option Addr) (c : Nat) (k : Nat) (w0 : World) (h : -2000000000000 ≤ x.snap.index ∧ x.snap.index ≤ 2000000000000) (hl : LI w0 A x.log.length c x.log) (i : Int) (hi : i = x.snap.index + k) (hk : k ≤ x.log.length) :
    PureC Tryz.prog 34 #[.agg #[.int .i64 x.snap.index, .int .i64 x.snap.term, .int .i64 x.snap.sum, .int .i64 x.snap.level, .bool x.snap.final, .slice A x.log.length c, .int .i64 x.term, .int .i64 x.vote], .int .i64 i] w0 (.tuple #[.agg #[.int .i64 (allS x.snap (x.log.take k)).index, .int .i64 (allS x.snap (x.log.take k)).term, .int .i64 (allS x.snap (x.log.take k)).sum, .int .i64 (allS x.snap (x.log.take k)).level, .bool (allS x.snap (x.log.take k)).final], .bool true]) := by
  refine PureC.mk ?_
  have hsm := hl.small
  have hle := hl.le
  have hcp := hl.cap
  have hkl : (x.log.take k).length = k := by rw [List.length_take]; omega
  have hrd : Rd w0 A (ens (x.log.take k)) := by
    have := hl.rd.take (3 * k)
    have e2 : (ens x.log).take (3 * k) = ens (x.log.take k) := by
      have := ens_app (x.log.take k) (x.log.drop k)
      rw [List.take_append_drop] at this
      rw [this, List.take_left' (by rw [ens_length, hkl])]
    rwa [e2] at this
  refine gw_enter2 Tryz.func34 rfl Tryz.ntmps34 rfl ?_
  have hS := St0.start All w0
  repeat (first | (apply wpC_seq_k; intro K hK) | apply wpC_region)
  first | (apply wpS_g_box; refine wpS_box rfl rfl rfl (by first | exact CellsOf.agg) hS (fun bt w hS hB => ?_))
  first | (apply wpS_g_alloc; refine wpS_alloc rfl rfl (by first | exact zc_23) hS (fun bs w hS hB => ?_))
  repeat (first | apply wpS_nil | (apply QH_seq_k; assumption) | (apply wpS_g; refine wpS_put rfl rfl rfl (by first | exact yv_assign rfl) ?_))
  refine wpC_scope 0 (fun y : SX => [(6, .slice y.A y.n y.c), (5, .bool false), (4, .pointer (some ⟨y.bs, 0, none⟩)), (2, .pointer (some ⟨y.bt, 0, none⟩)), (1, .int .i64 i)])
    (fun y w => y.j + y.n = k ∧ y.n ≤ y.c ∧ y.c ≤ maxLen ∧ Rd w0 y.A (ens ((x.log.take k).drop y.j)) ∧ St0 All w0 w [.box y.bs [.int .i64 (allS x.snap (x.log.take y.j)).index, .int .i64 (allS x.snap (x.log.take y.j)).term, .int .i64 (allS x.snap (x.log.take y.j)).sum, .int .i64 (allS x.snap (x.log.take y.j)).level, .bool (allS x.snap (x.log.take y.j)).final] 23, .box y.bt [.int .i64 x.snap.index, .int .i64 x.snap.term, .int .i64 x.snap.sum, .int .i64 x.snap.level, .bool x.snap.final, .slice A x.log.length c, .int .i64 x.term, .int .i64 x.vote] 26])
    (fun y => y.n) rfl ?_ ?_
  · rintro ⟨bt, bs, Aj, cj, j, n⟩ w ⟨hj, hcj, hcm, hrj, hS⟩
    dsimp only at hj hcj hcm hrj hS ⊢
    rcases Nat.eq_zero_or_pos n with rfl | hn
    · obtain rfl : j = k := by omega
      repeat (first | apply wpS_nil | (apply QH_seq_k; assumption) | (apply wpC_seq_k; intro K hK) | apply wpC_region | (apply wpS_g_store; refine wpS_store rfl rfl rfl (by first | exact CellsOf.agg) hS (by repeat (first | exact Pos.head)) (by repeat (first | exact SetC.here (by repeat (first | exact Ovr.nil | apply Ovr.cons)))) (by kernel_rfl) rfl (fun w hS hB => ?_)) | (apply wpS_g; refine wpS_put rfl rfl rfl (by first | exact yv_move rfl | exact yv_assign rfl | (apply yv_g_load; first | exact yv_load_boxA (by first | exact ag_23) rfl (RW.here _) hS (by repeat (first | exact Has.head)) (by first | trivial) (by repeat (first | exact Seg.here (by repeat (first | exact Pre.zero | apply Pre.succ))))) | (apply yv_g_bin; first | exact yv_gtr_f rfl rfl (by omega)) | (apply yv_g_bi; first | exact yv_len (by first | exact el_24) rfl)) ?_) | apply wpC_cond_f rfl rfl | apply wpC_skip | apply wpC_ret | apply QH_jmp_ret)
      refine QH_ret rfl (by first | exact RV.cell rfl (load_boxA (by first | exact ag_23) hS (by repeat (first | exact Has.head)) (by repeat (first | exact Seg.here (by repeat (first | exact Pre.zero | apply Pre.succ))))) (RV.tmp rfl RV.nil)) rfl ?_
      exact ⟨rfl, hS.pure⟩
    · obtain ⟨e, he⟩ : ∃ e, ((x.log.take k).drop j)[0]? = some e := ⟨_, List.getElem?_eq_getElem (by rw [List.length_drop]; omega)⟩
      obtain ⟨b1, o1, hA1, hb1, hr1⟩ := hrj.entR he
      subst hA1
      have htk : x.log.take (j + 1) = x.log.take j ++ [e] := by
        rw [List.getElem?_drop, List.getElem?_take] at he
        split at he
        · rw [List.take_add_one]; rw [show x.log[j]? = some e from by simpa using he]; rfl
        · cases he
      repeat (first | (apply QH_seq_k; assumption) | (apply wpC_seq_k; intro K hK) | apply wpC_skip)
      apply wpC_region
      repeat (first | apply wpS_nil | (apply QH_seq_k; assumption) | (apply wpC_seq_k; intro K hK) | (apply wpS_g; refine wpS_put rfl rfl rfl (by first | exact yv_move rfl | (apply yv_g_bin; first | exact yv_gtr_t rfl rfl (by omega)) | (apply yv_g_bi; first | exact yv_len (by first | exact el_24) rfl)) ?_) | apply wpC_cond_t rfl rfl)
      refine wpC_draw 9 [7] (fun i b => (i = 7 → b ≠ bs)) ⟨by kernel_rfl, by kernel_rfl⟩ hS (fun w hS hB => ?_)
      refine wpR_batch [true, true, true, true] (by decide +kernel) (by repeat (first | exact PF.body | apply PF.then | apply PF.jump)) ?_
      repeat (first | refine LtK.put rfl rfl rfl (by first | exact yv_indexAddr (j := 0) (by first | exact el_24) rfl rfl rfl (by omega) | exact yv_move rfl | (apply yv_g_load; first | exact yv_load_boxA (by first | exact ag_23 | exact ag_41) rfl (RW.below _) hS (by repeat (first | exact Has.head | apply Has.tail)) (by first | trivial) (by repeat (first | exact Seg.here (by repeat (first | exact Pre.zero | apply Pre.succ)))) | exact yv_loadA_old (by first | exact ag_23 | exact ag_41) rfl (RW.below _) hS (by first | trivial) (by first | trivial) (by assumption) (by rfl))) ?_)
      refine LtK.nil ?_
      refine wpR_batchG [false, false, false, false, false, true, true] [7] (fun b => b ≠ bs) (by decide +kernel) (by intro j hj b hb; simp only [List.mem_cons, List.not_mem_nil, or_false] at hj; (try rcases hj with rfl | rfl) <;> simp_all) (by repeat (first | exact PF.body | apply PF.then | apply PF.jump)) ?_
      repeat (first | refine LtK.put rfl rfl rfl (by first | exact yv_slice_l (l := 1) (by first | exact el_24) rfl rfl rfl (by omega) | exact yv_move rfl) ?_)
      refine LtK.nil ?_
      refine wpR_call [false, false, false, false, true] 4 ⟨by decide, by kernel_rfl, by kernel_rfl⟩ rfl rfl ?_
      dsimp only [pickL]
      repeat (first | apply wpS_nil | (apply wpS_g_call; first | refine wpS_callP rfl rfl rfl (by kernel_rfl) rfl (next_p _ _ _) hS (fun w hS hB => ?_)))
      refine QH_step (by first | assumption) ?_
      refine wpR_seal [false, false, false, false, false, false, false, true] 7 ⟨by decide, by kernel_rfl, by kernel_rfl⟩ rfl rfl ?_
      dsimp only [pickL]
      repeat (first | apply wpS_nil | (apply wpS_g_store; refine wpS_store rfl rfl rfl (by first | exact CellsOf.agg) hS (by repeat (first | exact Pos.head)) (by repeat (first | exact SetC.here (by repeat (first | exact Ovr.nil | apply Ovr.cons)))) (by kernel_rfl) rfl (fun w hS hB => ?_)))
      refine QH_stepG (by first | exact hB.sub (fun _ _ h => by simpa using h)) ?_
      refine wpR_batch [false, false, false, false, false, false, false, false, true] (by decide +kernel) (by repeat (first | exact PF.body | apply PF.then | apply PF.jump)) ?_
      repeat (first | refine LtK.put rfl rfl rfl (by first | exact yv_assign rfl) ?_)
      refine LtK.nil ?_
      refine wpR_end (by kernel_rfl) ?_
      repeat (first | (apply QH_seq_k; assumption) | apply wpC_goto | apply QH_then_goto)
      refine QH_jump ⟨bt, bs, _, _, j + 1, n - 1⟩ (by repeat (first | exact Sub.nil | refine Sub.cons rfl ?_)) ⟨by dsimp only; omega, by dsimp only; omega, by dsimp only; omega, ?_, ?_⟩ (by dsimp only; omega)
      · dsimp only
        have h3 := hrj.cutE (k := 1) (c := cj) (by rw [List.length_drop, hkl]; omega)
        rwa [List.drop_drop] at h3
      · dsimp only
        rw [htk, allS_snoc]
        exact hS
  · intro hpass
    repeat (first | apply wpS_nil | (apply QH_seq_k; assumption) | (apply wpC_seq_k; intro K hK) | apply wpC_region | (apply wpS_g_store; refine wpS_store rfl rfl rfl (by first | exact CellsOf.agg) hS (by repeat (first | exact Pos.head)) (by repeat (first | exact SetC.here (by repeat (first | exact Ovr.nil | apply Ovr.cons)))) (by kernel_rfl) rfl (fun w hS hB => ?_)) | (apply wpS_g_call; first | refine wpS_callP rfl rfl rfl (by kernel_rfl) rfl (last_any _ _ _ _ _ _ _ (by omega) (by omega)) hS (fun w hS hB => ?_)) | (apply wpS_g; refine wpS_put rfl rfl rfl (by first | exact yv_slice_h (h := k) (by first | exact el_24) rfl rfl (by omega) (by omega) | exact yv_move rfl | exact yv_assign rfl | exact yv_fieldAddr (by first | exact fo_23_0 | exact fo_26_0 | exact fo_26_1) rfl | (apply yv_g_load; first | exact yv_load_box (by first | exact sc_3 | exact sc_24) rfl (RW.here _) hS (by repeat (first | exact Has.head | apply Has.tail)) (by first | trivial) (by repeat (first | exact Seg.here (Pre.succ Pre.zero) | apply Seg.succ)) | exact yv_load_boxA (by first | exact ag_23 | exact ag_26) rfl (RW.here _) hS (by repeat (first | exact Has.head | apply Has.tail)) (by first | trivial) (by repeat (first | exact Seg.here (by repeat (first | exact Pre.zero | apply Pre.succ))))) | (apply yv_g_bin; first | exact yv_lss_f rfl rfl (by omega) | exact yv_gtr_f rfl rfl (by omega) | exact yv_sub rfl rfl (by omega)) | (apply yv_g_pick; first | exact yv_pick_f rfl rfl rfl)) ?_) | apply wpC_cond_f rfl rfl | apply wpC_skip)
    apply wpC_label
    apply QH_seq_k
    assumption
    rcases Nat.eq_zero_or_pos k with hk0 | hn
    · repeat (first | apply wpS_nil | (apply QH_seq_k; assumption) | (apply wpC_seq_k; intro K hK) | apply wpC_region | (apply wpS_g_store; refine wpS_store rfl rfl rfl (by first | exact CellsOf.agg) hS (by repeat (first | exact Pos.head)) (by repeat (first | exact SetC.here (by repeat (first | exact Ovr.nil | apply Ovr.cons)))) (by kernel_rfl) rfl (fun w hS hB => ?_)) | (apply wpS_g; refine wpS_put rfl rfl rfl (by first | exact yv_move rfl | exact yv_assign rfl | (apply yv_g_load; first | exact yv_load_boxA (by first | exact ag_23) rfl (RW.here _) hS (by repeat (first | exact Has.head)) (by first | trivial) (by repeat (first | exact Seg.here (by repeat (first | exact Pre.zero | apply Pre.succ))))) | (apply yv_g_bin; first | exact yv_gtr_f rfl rfl (by omega)) | (apply yv_g_bi; first | exact yv_len (by first | exact el_24) rfl)) ?_) | apply wpC_cond_f rfl rfl | apply wpC_skip | apply wpC_ret | apply QH_jmp_ret)
      refine QH_ret rfl (by first | exact RV.cell rfl (load_boxA (by first | exact ag_23) hS (by repeat (first | exact Has.head)) (by repeat (first | exact Seg.here (by repeat (first | exact Pre.zero | apply Pre.succ))))) (RV.tmp rfl RV.nil)) rfl ?_
      subst hk0
      exact ⟨rfl, hS.pure⟩
    · obtain ⟨e, he⟩ : ∃ e, (x.log.take k)[0]? = some e := ⟨_, List.getElem?_eq_getElem (by omega)⟩
      obtain ⟨b1, o1, hA1, hb1, hr1⟩ := hrd.entR he
      subst hA1
      have htk : x.log.take 1 = [e] := by
        rw [List.getElem?_take, if_pos hn] at he
        rw [List.take_add_one, he]; rfl
      repeat (first | (apply wpC_seq_k; intro K hK))
      apply wpC_region
      repeat (first | apply wpS_nil | (apply QH_seq_k; assumption) | (apply wpC_seq_k; intro K hK) | (apply wpS_g; refine wpS_put rfl rfl rfl (by first | exact yv_move rfl | (apply yv_g_bin; first | exact yv_gtr_t rfl rfl (by omega)) | (apply yv_g_bi; first | exact yv_len (by first | exact el_24) rfl)) ?_) | apply wpC_cond_t rfl rfl)
      refine wpC_draw 9 [7] (fun i b => (i = 7 → b ≠ bs)) ⟨by kernel_rfl, by kernel_rfl⟩ hS (fun w hS hB => ?_)
      refine wpR_batch [true, true, true, true] (by decide +kernel) (by repeat (first | exact PF.body | apply PF.then | apply PF.jump)) ?_
      repeat (first | refine LtK.put rfl rfl rfl (by first | exact yv_indexAddr (j := 0) (by first | exact el_24) rfl rfl rfl (by omega) | exact yv_move rfl | (apply yv_g_load; first | exact yv_load_boxA (by first | exact ag_23 | exact ag_41) rfl (RW.below _) hS (by repeat (first | exact Has.head | apply Has.tail)) (by first | trivial) (by repeat (first | exact Seg.here (by repeat (first | exact Pre.zero | apply Pre.succ)))) | exact yv_loadA_old (by first | exact ag_23 | exact ag_41) rfl (RW.below _) hS (by first | trivial) (by first | trivial) (by assumption) (by rfl))) ?_)
      refine LtK.nil ?_
      refine wpR_batchG [false, false, false, false, false, true, true] [7] (fun b => b ≠ bs) (by decide +kernel) (by intro j hj b hb; simp only [List.mem_cons, List.not_mem_nil, or_false] at hj; (try rcases hj with rfl | rfl) <;> simp_all) (by repeat (first | exact PF.body | apply PF.then | apply PF.jump)) ?_
      repeat (first | refine LtK.put rfl rfl rfl (by first | exact yv_slice_l (l := 1) (by first | exact el_24) rfl rfl rfl (by omega) | exact yv_move rfl) ?_)
      refine LtK.nil ?_
      refine wpR_call [false, false, false, false, true] 4 ⟨by decide, by kernel_rfl, by kernel_rfl⟩ rfl rfl ?_
      dsimp only [pickL]
      repeat (first | apply wpS_nil | (apply wpS_g_call; first | refine wpS_callP rfl rfl rfl (by kernel_rfl) rfl (next_p _ _ _) hS (fun w hS hB => ?_)))
      refine QH_step (by first | assumption) ?_
      refine wpR_seal [false, false, false, false, false, false, false, true] 7 ⟨by decide, by kernel_rfl, by kernel_rfl⟩ rfl rfl ?_
      dsimp only [pickL]
      repeat (first | apply wpS_nil | (apply wpS_g_store; refine wpS_store rfl rfl rfl (by first | exact CellsOf.agg) hS (by repeat (first | exact Pos.head)) (by repeat (first | exact SetC.here (by repeat (first | exact Ovr.nil | apply Ovr.cons)))) (by kernel_rfl) rfl (fun w hS hB => ?_)))
      refine QH_stepG (by first | exact hB.sub (fun _ _ h => by simpa using h)) ?_
      refine wpR_batch [false, false, false, false, false, false, false, false, true] (by decide +kernel) (by repeat (first | exact PF.body | apply PF.then | apply PF.jump)) ?_
      repeat (first | refine LtK.put rfl rfl rfl (by first | exact yv_assign rfl) ?_)
      refine LtK.nil ?_
      refine wpR_end (by kernel_rfl) ?_
      repeat (first | (apply QH_seq_k; assumption) | apply wpC_goto | apply QH_then_goto)
      refine QH_jump0 ⟨bt, bs, _, _, 1, k - 1⟩ (by repeat (first | exact Sub.nil | refine Sub.cons rfl ?_)) ⟨by dsimp only; omega, by dsimp only; omega, by dsimp only; omega, ?_, ?_⟩
      · dsimp only
        exact hrd.cutE (k := 1) (c := c) (by omega)
      · dsimp only
        rw [htk]
        exact hS
theorem state_no (x : Tu) (A : Option Addr) (c : Nat) (w0 : World) (h : -2000000000000 ≤ x.snap.index ∧ x.snap.index ≤ 2000000000000) (hsm : x.log.length ≤ 1000000) (i : Int) (hi : i < x.snap.index ∨ x.snap.index + x.log.length < i) :
    PureC Tryz.prog 34 #[.agg #[.int .i64 x.snap.index, .int .i64 x.snap.term, .int .i64 x.snap.sum, .int .i64 x.snap.level, .bool x.snap.final, .slice A x.log.length c, .int .i64 x.term, .int .i64 x.vote], .int .i64 i] w0 (.tuple #[.agg #[.int .i64 0, .int .i64 0, .int .i64 0, .int .i64 0, .bool false], .bool false]) := by
  refine PureC.mk ?_
  refine gw_enter2 Tryz.func34 rfl Tryz.ntmps34 rfl ?_
  have hS := St0.start All w0
  repeat (first | apply wpS_nil | (apply QH_seq_k; assumption) | (apply wpC_seq_k; intro K hK) | apply wpC_region | (apply wpS_g_box; refine wpS_box rfl rfl rfl (by first | exact CellsOf.agg) hS (fun b w hS hB => ?_)) | (apply wpS_g_alloc; refine wpS_alloc rfl rfl (by first | exact zc_23) hS (fun b w hS hB => ?_)) | (apply wpS_g; refine wpS_put rfl rfl rfl (by first | exact yv_assign rfl) ?_))
  refine wpC_scope 0 (X := Unit) (fun _ => []) (fun _ _ => False) (fun _ => 0) rfl (fun _ _ h => h.elim) ?_
  intro hpass
  by_cases h1 : i < x.snap.index
  · repeat (first | apply wpS_nil | (apply QH_seq_k; assumption) | (apply wpC_seq_k; intro K hK) | apply wpC_region | (apply wpS_g; refine wpS_skip rfl rfl rfl ?_) | (apply wpS_g_store; refine wpS_store rfl rfl rfl (by first | exact CellsOf.agg) hS (by repeat (first | exact Pos.head)) (by repeat (first | exact SetC.here (by repeat (first | exact Ovr.nil | apply Ovr.cons)))) (by kernel_rfl) rfl (fun w hS hB => ?_)) | (apply wpS_g; refine wpS_put rfl rfl rfl (by first | exact yv_move rfl | exact yv_assign rfl | exact yv_fieldAddr (by first | exact fo_23_0 | exact fo_26_0) rfl | (apply yv_g_load; first | exact yv_load_box (by first | exact sc_3) rfl (RW.here _) hS (by repeat (first | exact Has.head | apply Has.tail)) (by first | trivial) (by repeat (first | exact Seg.here (Pre.succ Pre.zero))) | exact yv_load_boxA (by first | exact ag_23) rfl (RW.here _) hS (by repeat (first | exact Has.head)) (by first | trivial) (by repeat (first | exact Seg.here (by repeat (first | exact Pre.zero | apply Pre.succ))))) | (apply yv_g_bin; first | exact yv_lss_t rfl rfl (by omega)) | (apply yv_g_pick; first | exact yv_pick_t rfl rfl rfl)) ?_) | apply wpC_cond_t rfl rfl | apply wpC_ret | apply QH_then_ret | apply QH_jmp_ret)
    refine QH_ret rfl (by first | exact RV.cell rfl (load_boxA (by first | exact ag_23) hS (by repeat (first | exact Has.head)) (by repeat (first | exact Seg.here (by repeat (first | exact Pre.zero | apply Pre.succ))))) (RV.tmp rfl RV.nil)) rfl ?_
    exact ⟨rfl, hS.pure⟩
  · have h2 : x.snap.index + x.log.length < i := by omega
    repeat (first | apply wpS_nil | (apply QH_seq_k; assumption) | (apply wpC_seq_k; intro K hK) | apply wpC_region | (apply wpS_g_store; refine wpS_store rfl rfl rfl (by first | exact CellsOf.agg) hS (by repeat (first | exact Pos.head)) (by repeat (first | exact SetC.here (by repeat (first | exact Ovr.nil | apply Ovr.cons)))) (by kernel_rfl) rfl (fun w hS hB => ?_)) | (apply wpS_g_call; first | refine wpS_callP rfl rfl rfl (by kernel_rfl) rfl (last_any _ _ _ _ _ _ _ (by omega) (by omega)) hS (fun w hS hB => ?_)) | (apply wpS_g; refine wpS_put rfl rfl rfl (by first | exact yv_move rfl | exact yv_assign rfl | exact yv_fieldAddr (by first | exact fo_23_0 | exact fo_26_0) rfl | (apply yv_g_load; first | exact yv_load_box (by first | exact sc_3) rfl (RW.here _) hS (by repeat (first | exact Has.head | apply Has.tail)) (by first | trivial) (by repeat (first | exact Seg.here (Pre.succ Pre.zero))) | exact yv_load_boxA (by first | exact ag_23 | exact ag_26) rfl (RW.here _) hS (by repeat (first | exact Has.head | apply Has.tail)) (by first | trivial) (by repeat (first | exact Seg.here (by repeat (first | exact Pre.zero | apply Pre.succ))))) | (apply yv_g_bin; first | exact yv_lss_f rfl rfl (by omega) | exact yv_gtr_t rfl rfl (by omega)) | (apply yv_g_pick; first | exact yv_pick_f rfl rfl rfl)) ?_) | apply wpC_cond_t rfl rfl | apply wpC_ret | apply QH_then_ret | apply QH_jmp_ret)
    refine QH_ret rfl (by first | exact RV.cell rfl (load_boxA (by first | exact ag_23) hS (by repeat (first | exact Has.head)) (by repeat (first | exact Seg.here (by repeat (first | exact Pre.zero | apply Pre.succ))))) (RV.tmp rfl RV.nil)) rfl ?_
    exact ⟨rfl, hS.pure⟩
end Go.Proofs.YtenagnncpaabdaaGreat
/- What the functions of entries and tuples compute that are walked by hand, in the form of the printed contracts. -/
namespace Go.Proofs.YtenagnncpaabdaaGreat
open Go Go.RowKit
set_option maxRecDepth 100000
theorem SlI.li {w : World} {A : Option Addr} {c : Nat} {l : List En} (h : SlI w enE A c l) (hn : l.length ≤ 1000000) : LI w A l.length c l := ⟨rfl, hn, h.le, h.cap, h.rd⟩
theorem Sl.st0 {w w' : World} {A : Option Addr} {n c k : Nat} {xs : List Value} (hs : Sl w w' A n c k xs) (hB : Below w.heap.size w w') : St0 All w w' [.rd A xs] := (St0.start All w).slice hs hB
theorem PureC.st0 {P : Program} {f : Nat} {args : Array Value} {w : World} {v : Value} (h : PureC P f args w v) : Calls P f args w fun e w' => e = .returned v ∧ St0 All w w' [] := h.run.mono fun _ _ h => ⟨h.1, (St0.start All w).below h.2⟩
theorem calls_st0 {P : Program} {f : Nat} {args : Array Value} {w : World} {v : Value} (h : Calls P f args w fun e w' => e = .returned v ∧ Below w.heap.size w w') : Calls P f args w fun e w' => e = .returned v ∧ St0 All w w' [] := h.mono fun _ _ h => ⟨h.1, (St0.start All w).below h.2⟩
/-- Tuples whose numbers can be reckoned with. -/
def okT (x : Tu) : Bool := decide (x.log.length ≤ 1000000 ∧ -2000000000000 ≤ x.snap.index ∧ x.snap.index ≤ 2000000000000)
theorem okT_iff {x : Tu} : okT x = true ↔ x.log.length ≤ 1000000 ∧ -2000000000000 ≤ x.snap.index ∧ x.snap.index ≤ 2000000000000 := decide_eq_true_iff

def m_entry_Right (e : En) : Option Bool := some (rightB e)
theorem c_entry_Right (x0 : En) (w0 : World) {r : Bool} (H : m_entry_Right x0 = some r) : Calls Tryz.prog 69 #[.agg #[.int .i64 x0.term, .int .i64 x0.kind, .int .i64 x0.value]] w0 fun e w' => e = .returned (.bool r) ∧ St0 All w0 w' [] := by
  obtain rfl := Option.some.inj H
  exact calls_st0 (right_any x0 w0)
def m_tuple_Right (x : Tu) : Option Bool := cond (okT x) (some (tupB x)) none
theorem c_tuple_Right (x0 : Tu) (A0 : Option Addr) (c0 : Nat) (w0 : World) (s0 : SlI w0 enE A0 c0 x0.log) {r : Bool} (H : m_tuple_Right x0 = some r) : Calls Tryz.prog 60 #[.agg #[.int .i64 x0.snap.index, .int .i64 x0.snap.term, .int .i64 x0.snap.sum, .int .i64 x0.snap.level, .bool x0.snap.final, .slice A0 x0.log.length c0, .int .i64 x0.term, .int .i64 x0.vote]] w0 fun e w' => e = .returned (.bool r) ∧ St0 All w0 w' [] := by
  unfold m_tuple_Right at H
  cases hb : okT x0 with
  | false => rw [hb] at H; cases H
  | true =>
    rw [hb] at H
    obtain rfl := Option.some.inj H
    have h := okT_iff.1 hb
    exact (right_any2 x0.snap A0 x0.log.length c0 x0.log x0.term x0.vote w0 (s0.li h.1) h.2 s0.blk).st0
def m_tuple_State (x : Tu) (i : Int) : Option (St × Bool) := cond (okT x) (cond (decide (x.snap.index ≤ i ∧ i ≤ x.snap.index + x.log.length)) (some (allS x.snap (x.log.take (i - x.snap.index).toNat), true)) (some (⟨0, 0, 0, 0, false⟩, false))) none
theorem c_tuple_State (x0 : Tu) (x1 : Int) (A0 : Option Addr) (c0 : Nat) (w0 : World) (s0 : SlI w0 enE A0 c0 x0.log) {r : St × Bool} (H : m_tuple_State x0 x1 = some r) : Calls Tryz.prog 34 #[.agg #[.int .i64 x0.snap.index, .int .i64 x0.snap.term, .int .i64 x0.snap.sum, .int .i64 x0.snap.level, .bool x0.snap.final, .slice A0 x0.log.length c0, .int .i64 x0.term, .int .i64 x0.vote], .int .i64 x1] w0 fun e w' => e = .returned (.tuple #[.agg #[.int .i64 r.1.index, .int .i64 r.1.term, .int .i64 r.1.sum, .int .i64 r.1.level, .bool r.1.final], .bool r.2]) ∧ St0 All w0 w' [] := by
  unfold m_tuple_State at H
  cases hb : okT x0 with
  | false => rw [hb] at H; cases H
  | true =>
    rw [hb] at H
    have h := okT_iff.1 hb
    by_cases hi : x0.snap.index ≤ x1 ∧ x1 ≤ x0.snap.index + x0.log.length
    · rw [decide_eq_true hi] at H
      obtain rfl := Option.some.inj H
      exact (state_yes x0 A0 c0 (x1 - x0.snap.index).toNat w0 h.2 (s0.li h.1) x1 (by omega) (by omega)).st0
    · rw [decide_eq_false hi] at H
      obtain rfl := Option.some.inj H
      exact (state_no x0 A0 c0 w0 h.2 h.1 x1 (by omega)).st0
def m_chg (x : Tu) (res : Option Tu) : Tu × Int := (chgS x res, chgE x res)
theorem chg_st0 {w0 : World} {x : Tu} {res : Option Tu} {e : Ending} {w' : World} (h : Chg w0 x res e w') : ∃ (A0 : Option Addr) (c0 : Nat), e = .returned (.tuple #[.agg #[.int .i64 (m_chg x res).1.snap.index, .int .i64 (m_chg x res).1.snap.term, .int .i64 (m_chg x res).1.snap.sum, .int .i64 (m_chg x res).1.snap.level, .bool (m_chg x res).1.snap.final, .slice A0 (m_chg x res).1.log.length c0, .int .i64 (m_chg x res).1.term, .int .i64 (m_chg x res).1.vote], .int .i64 (m_chg x res).2]) ∧ ((m_chg x res).1.log.length ≤ c0 ∧ c0 ≤ maxLen) ∧ St0 All w0 w' [.rd A0 (encs enE (m_chg x res).1.log)] := by
  obtain ⟨A, c, ⟨rfl, hs⟩, hB⟩ := h
  exact ⟨A, c, rfl, ⟨hs.le, hs.cap⟩, hs.st0 hB⟩
def m_tuple_Append (x : Tu) (l : List En) : Option (Tu × Int) := cond (decide (x.log.length ≤ 1000000 ∧ l.length ≤ 300)) (some (m_chg x (some { x with log := x.log ++ l }))) none
theorem c_tuple_Append (x0 : Tu) (x1 : List En) (A0 : Option Addr) (c0 : Nat) (A1 : Option Addr) (c1 : Nat) (w0 : World) (s0 : SlI w0 enE A0 c0 x0.log) (s1 : SlI w0 enE A1 c1 x1) {r : Tu × Int} (H : m_tuple_Append x0 x1 = some r) : Calls Tryz.prog 36 #[.agg #[.int .i64 x0.snap.index, .int .i64 x0.snap.term, .int .i64 x0.snap.sum, .int .i64 x0.snap.level, .bool x0.snap.final, .slice A0 x0.log.length c0, .int .i64 x0.term, .int .i64 x0.vote], .slice A1 x1.length c1] w0 fun e w' => ∃ (A0 : Option Addr) (c0 : Nat), e = .returned (.tuple #[.agg #[.int .i64 r.1.snap.index, .int .i64 r.1.snap.term, .int .i64 r.1.snap.sum, .int .i64 r.1.snap.level, .bool r.1.snap.final, .slice A0 r.1.log.length c0, .int .i64 r.1.term, .int .i64 r.1.vote], .int .i64 r.2]) ∧ (r.1.log.length ≤ c0 ∧ c0 ≤ maxLen) ∧ St0 All w0 w' [.rd A0 (encs enE r.1.log)] := by
  unfold m_tuple_Append at H
  by_cases h : x0.log.length ≤ 1000000 ∧ x1.length ≤ 300
  · rw [decide_eq_true h] at H
    obtain rfl := Option.some.inj H
    exact (append_any x0 A0 A1 c0 x1.length c1 x1 w0 (s0.li h.1) s0.blk (s1.li (by omega)) h.2).mono fun _ _ h => chg_st0 h
  · rw [decide_eq_false h] at H; cases H
end Go.Proofs.YtenagnncpaabdaaGreat
/- Sums of data, as plain numbers. -/
namespace Go.Proofs.YtenagnncpaabdaaGreat
open Go Go.RowKit
set_option maxRecDepth 100000

theorem FineP.bounds {s : St} (h : FineP s) : 0 ≤ s.index ∧ s.index ≤ 1073741824 ∧ 0 ≤ s.sum ∧ s.sum ≤ 1073741824 := by
  rcases h with rfl | h
  · simp [firstS]
  · omega
theorem next_data (s : St) (hf : FineP s) (hi : s.index < 1073741824) (v : Int) (h0 : 0 ≤ v) (h1 : v ≤ 1073741824) : nextS s ⟨1, 1, v⟩ = ⟨s.index + 1, 1, (31 * s.sum + v + 1) % 1073741824, s.level, s.final⟩ := by
  unfold nextS
  rw [if_pos ⟨by simp [rightB, h0, h1], (fineB_iff s).2 hf, hi⟩]
  rfl
def SumInv (l : List Int) (q : Nat) (value : Int) (s : St) (k : Nat) (a b : St) : Prop :=
  FineP a ∧ FineP b ∧ a.index = s.index + k ∧ b.index = s.index + k ∧ (k ≤ q → a = b) ∧
    (q < k → a.sum < 1073741824 ∧ b.sum < 1073741824 ∧ ∃ x, l[q]? = some x ∧ 0 ≤ x ∧ x ≤ 999 ∧
      ((k = q + 1 ∧ (a.sum - b.sum - (x - value)) % 1073741824 = 0) ∨ (k = q + 2 ∧ (a.sum - b.sum - 31 * (x - value)) % 1073741824 = 0) ∨ (k = q + 3 ∧ (a.sum - b.sum - 961 * (x - value)) % 1073741824 = 0)))
theorem SumInv.start (l : List Int) (q : Nat) (value : Int) (s : St) (h : FineP s) : SumInv l q value s 0 s s := ⟨h, h, by simp, by simp, fun _ => rfl, fun h => by omega⟩
theorem SumInv.step {l : List Int} {q : Nat} {value : Int} {s : St} {k : Nat} {a b : St} (h : SumInv l q value s k a b) (hs : s.index ≤ 1073741624) (hk : k < 3) (v : Int) (hv : l[k]? = some v) (h0 : 0 ≤ v) (h1 : v ≤ 999) (g0 : 0 ≤ value) (g1 : value ≤ 999) :
    SumInv l q value s (k + 1) (nextS a ⟨1, 1, v⟩) (nextS b ⟨1, 1, if k = q then value else v⟩) := by
  obtain ⟨fa, fb, ia, ib, he, hd⟩ := h
  refine ⟨nextS_fine _ _ fa, nextS_fine _ _ fb, ?_⟩
  have va : 0 ≤ (if k = q then value else v) ∧ (if k = q then value else v) ≤ 999 := by split <;> omega
  rw [next_data a fa (by omega) v h0 (by omega), next_data b fb (by omega) _ va.1 (by omega)]
  refine ⟨by show a.index + 1 = _; omega, by show b.index + 1 = _; omega, fun hkq => ?_, fun hkq => ?_⟩
  · rw [if_neg (by omega), he (by omega)]
  · refine ⟨by show _ % _ < _; omega, by show _ % _ < _; omega, ?_⟩
    by_cases e : k = q
    · subst e
      refine ⟨v, hv, h0, h1, .inl ⟨rfl, ?_⟩⟩
      rw [if_pos rfl, he (by omega)]
      show ((31 * b.sum + v + 1) % 1073741824 - (31 * b.sum + value + 1) % 1073741824 - (v - value)) % 1073741824 = 0
      omega
    · obtain ⟨_, _, x, hx, x0, x1, hh⟩ := hd (by omega)
      refine ⟨x, hx, x0, x1, ?_⟩
      rw [if_neg e]
      have goal : ∀ c : Int, (a.sum - b.sum - c) % 1073741824 = 0 → ((31 * a.sum + v + 1) % 1073741824 - (31 * b.sum + v + 1) % 1073741824 - 31 * c) % 1073741824 = 0 := fun c hc => by omega
      rcases hh with ⟨rfl, hh⟩ | ⟨rfl, hh⟩ | ⟨rfl, hh⟩
      · exact .inr (.inl ⟨rfl, goal _ hh⟩)
      · refine .inr (.inr ⟨rfl, ?_⟩)
        have := goal _ hh
        show ((31 * a.sum + v + 1) % 1073741824 - (31 * b.sum + v + 1) % 1073741824 - 961 * (x - value)) % 1073741824 = 0
        omega
      · omega
theorem SumInv.last {l : List Int} {q : Nat} {value : Int} {s : St} {k : Nat} {a b : St} (h : SumInv l q value s k a b) (hq : q < k) (g0 : 0 ≤ value) (g1 : value ≤ 999) {x : Int} (hx : l[q]? = some x) :
    ((a.sum == b.sum) == (x == value)) = true := by
  obtain ⟨fa, fb, _, _, _, hd⟩ := h
  obtain ⟨la, lb, x', hx', x0, x1, hh⟩ := hd hq
  rw [hx] at hx'
  obtain rfl := Option.some.inj hx'
  have ba := fa.bounds
  have bb := fb.bounds
  rw [beq_iff_eq, Bool.eq_iff_iff, beq_iff_eq, beq_iff_eq]
  omega
end Go.Proofs.YtenagnncpaabdaaGreat
/- What comes behind an entry, as the law of layer 6 asks for it. -/
namespace Go.Proofs.YtenagnncpaabdaaGreat
open Go Go.RowKit
set_option maxRecDepth 100000
theorem next_right (s : St) (e : En) (hf : FineP s) (hi : s.index < 1073741824) (hr : rightB e = true) : nextS s e = deedS e.kind e.value { s with index := s.index + 1, term := e.term } :=
  if_pos ⟨hr, (fineB_iff s).2 hf, hi⟩
/-- What is kept, by the kind. -/
theorem next_parts (s : St) (e : En) (hf : FineP s) (hi : s.index < 1073741824) (hr : rightB e = true) :
    (nextS s e).index = s.index + 1 ∧ (nextS s e).term = e.term ∧ (e.kind ≠ 1 → (nextS s e).sum = s.sum) ∧ (e.kind = 0 ∨ e.kind = 1 → (nextS s e).level = s.level ∧ (nextS s e).final = s.final) := by
  rw [next_right s e hf hi hr, deedS_index, deedS_term]
  refine ⟨rfl, rfl, fun h => ?_, fun h => ?_⟩
  · unfold deedS
    rw [if_neg h]
    repeat' split
    all_goals rfl
  · unfold deedS
    rcases h with h | h <;> rw [h] <;> simp
end Go.Proofs.YtenagnncpaabdaaGreat
/- Stages, formats, what is asked: in plain Lean. -/
namespace Go.Proofs.YtenagnncpaabdaaGreat

def not2 (c : Int) : Bool := c != 2
def knownB (l : List Int) : Bool := !l.isEmpty && !(l.any not2)
def checkS (k : Int) (s : St) (l : List Int) : Int :=
  if k = 1 then 0 else if k = 2 then (if knownB l = true then 0 else 221) else if k = 3 then (if s.final = true then 222 else 0)
  else if k = 4 then (if s.final = true then 222 else if s.level = 2 then 0 else 223) else 2
end Go.Proofs.YtenagnncpaabdaaGreat
/- slices.ContainsFunc over ints, with whatever predicate is kept by a contract. -/
namespace Go.Proofs.YtenagnncpaabdaaGreat
open Go Go.RowKit
set_option maxRecDepth 100000

theorem anyp_take (p : Int → Bool) (l : List Int) (k : Nat) (x : Int) (h : l[k]? = some x) (h0 : (l.take k).any p = false) (hx : p x = false) : (l.take (k + 1)).any p = false := by
  rw [List.take_add_one, h]; simp only [Option.toList_some, List.any_append, h0, List.any_cons, hx, List.any_nil]; rfl
theorem anyp_at (p : Int → Bool) (l : List Int) (k : Nat) (x : Int) (h : l[k]? = some x) (hx : p x = true) : l.any p = true :=
  List.any_eq_true.2 ⟨x, List.mem_of_getElem? h, hx⟩

set_option maxHeartbeats 1000000 in
theorem indexP (g : Nat) (lb : Array Value) (p : Int → Bool) (A : Option Addr) (c : Nat) (l : List Int) (hl : l.length ≤ 1099511627776) (w : World) (hA : Rd w A (ivs l))
    (eg : ∀ args w, (callFunc g args).run Tryz.prog w = .ok (.enter g args) w)
    (hp : ∀ x W, Below w.heap.size w W → Calls Tryz.prog g (#[.int .i64 x] ++ lb) W fun e W' => e = .returned (.bool (p x)) ∧ Below W.heap.size W W') :
    Calls Tryz.prog 99 #[.slice A l.length c, .func (.func g) #[] lb] w fun e w' => ∃ r : Int, e = .returned (.int .i64 r) ∧ (-1 ≤ r ∧ r ≤ l.length) ∧ decide (0 ≤ r) = l.any p ∧ Below w.heap.size w w' := by
  have HP := Lib.hid hp
  clear hp
  go_enter Tryz.func99, Tryz.ntmps99
  go_wp2
  go_loopw [5, 8] (fun _ i wr => ∃ k : Nat, k ≤ l.length ∧ i = .int .i64 k ∧ Hid ((l.take k).any p = false) ∧ Below w.heap.size w wr) (fun _ i _ => l.length - (intOf i).toNat)
  case atStart => exact ⟨0, by omega, rfl, Lib.hid rfl, Below.refl _ _⟩
  case round =>
    obtain ⟨k, hk, rfl, h0, hB⟩ := hrel
    by_cases hk4 : k < l.length
    · obtain ⟨b, o, x, rfl, hb, hc, hx⟩ := (hA.below hB).int hk4
      have Hk := Lib.hid hx
      clear hx
      have hpx := Lib.hid (HP.out x wr hB)
      generalize hpe : p x = px at *
      have Hpe := Lib.hid hpe
      clear hpe
      cases px
      · go_wp2_with fail
        refine hpx.out.mono ?_
        rintro e w1 ⟨rfl, hB1⟩
        go_wp2
        go_roundw
        case rel => exact ⟨k + 1, by omega, by go_num, Lib.hid (anyp_take p l k x Hk.out h0.out Hpe.out), bTr hB hB1⟩
        case measure => simp [intOf]; omega
      · go_wp2_with fail
        refine hpx.out.mono ?_
        rintro e w1 ⟨rfl, hB1⟩
        go_wp2
        go_ret
        exact ⟨_, rfl, by omega, by rw [anyp_at p l k x Hk.out Hpe.out]; simp, bTr hB hB1⟩
    · obtain rfl : k = l.length := by omega
      have H0 := Lib.hid (show l.any p = false by have := h0.out; rwa [List.take_length] at this)
      clear h0
      go_wp2
      go_ret
      exact ⟨_, rfl, by omega, by rw [H0.out]; simp, hB⟩

theorem containsP (g : Nat) (lb : Array Value) (p : Int → Bool) (A : Option Addr) (n c : Nat) (l : List Int) (hn : l.length = n) (hl : l.length ≤ 1099511627776) (w : World) (hA : Rd w A (ivs l))
    (eg : ∀ args w, (callFunc g args).run Tryz.prog w = .ok (.enter g args) w)
    (hp : ∀ x W, Below w.heap.size w W → Calls Tryz.prog g (#[.int .i64 x] ++ lb) W fun e W' => e = .returned (.bool (p x)) ∧ Below W.heap.size W W') :
    Calls Tryz.prog 86 #[.slice A n c, .func (.func g) #[] lb] w fun e w' => e = .returned (.bool (l.any p)) ∧ Below w.heap.size w w' := by
  subst hn
  have HI := Lib.hid (indexP g lb p A c l hl w hA eg hp)
  obtain ⟨res, hres⟩ : ∃ r, r = l.any p := ⟨_, rfl⟩
  rw [← hres] at HI ⊢
  clear hres eg hp
  go_enter Tryz.func86, Tryz.ntmps86
  go_wp2_with fail
  refine HI.out.mono ?_
  rintro e w1 ⟨r, rfl, hr, hd, hB1⟩
  have Hd := Lib.hid hd
  clear hd
  go_wp2
  go_ret
  exact ⟨ret_bool (by rw [← Hd.out]; try simp), hB1⟩
end Go.Proofs.YtenagnncpaabdaaGreat
/- The walks of level: Stage, Known, Entry, Format. -/
namespace Go.Proofs.YtenagnncpaabdaaGreat
open Go Go.RowKit Go.Shelf
set_option maxRecDepth 100000
attribute [local go_sem] Oper.semAt_some

theorem known1_any (x : Int) (w : World) : Calls Tryz.prog 115 #[.int .i64 x] w fun e w' => e = .returned (.bool (not2 x)) ∧ Below w.heap.size w w' := by
  have H := Lib.hid (show not2 x = (x != 2) from rfl)
  go_enter Tryz.func115, Tryz.ntmps115
  go_wp2
  go_ret
  exact ⟨ret_bool (by rw [H.out]), Below.refl _ _⟩

theorem known_any (A : Option Addr) (n c : Nat) (l : List Int) (hn : l.length = n) (hl : l.length ≤ 1099511627776) (w : World) (hA : Rd w A (ivs l)) :
    Calls Tryz.prog 109 #[.slice A n c] w fun e w' => e = .returned (.bool (knownB l)) ∧ Below w.heap.size w w' := by
  have HC := Lib.hid (containsP 115 #[] not2 A n c l hn hl w hA (enters_of Tryz.func115 (by kernel_rfl) rfl) (fun x W _ => known1_any x W))
  have H := Lib.hid (show knownB l = (!l.isEmpty && !(l.any not2)) from rfl)
  generalize l.any not2 = f at *
  by_cases h0 : n = 0
  · subst h0
    obtain rfl : l = [] := List.eq_nil_of_length_eq_zero hn
    have H2 := Lib.hid (show knownB [] = false from rfl)
    clear H HC hn
    refine (callsIn_wide (n := 9)).1 (callsIn_of_wp Tryz.func109 rfl trivial ?_ rfl)
    simp only [Tryz.ntmps109, List.size_toArray, List.length_cons, List.length_nil, Nat.reduceAdd, Nat.reduceSub, Array.replicate_succ, Array.replicate_zero, List.push_toArray, List.append_toArray, List.nil_append, List.cons_append]
    gi_wp2_with fail
    refine scope_goto 0 (fun a w' => (∃ u1 u3 u4 u5 u6 u7 u8 u9 : Value, a = ⟨#[.slice A 0 c, u1, .bool false, u3, u4, u5, u6, u7, u8, u9], []⟩) ∧ w' = w) (fun _ _ => 0) rfl ?pass ?first
    case first =>
      intro hX
      have HX := Lib.hid hX
      clear hX
      gi_wp2
      refine wpIn_goto ?_
      gi_wp2
      exact ⟨rfl, ⟨_, _, _, _, _, _, _, _, rfl⟩, rfl⟩
    case pass =>
      rintro a w' ⟨⟨u1, u3, u4, u5, u6, u7, u8, u9, rfl⟩, rfl⟩
      gi_wp2
      simp only [Exit.jump]
      gi_wp2
      go_returns
      exact ⟨ret_bool (by rw [H2.out]), Below.refl _ _⟩
  · have e1 : l.isEmpty = false := by cases l with
      | nil => exact (h0 hn.symm).elim
      | cons a m => rfl
    rw [e1] at H
    have hne : ((n : Int) == 0) = false := by simp only [beq_eq_false_iff_ne]; omega
    clear e1
    have Hn := Lib.hid hn
    clear hn
    refine (callsIn_wide (n := 9)).1 (callsIn_of_wp Tryz.func109 rfl trivial ?_ rfl)
    simp only [Tryz.ntmps109, List.size_toArray, List.length_cons, List.length_nil, Nat.reduceAdd, Nat.reduceSub, Array.replicate_succ, Array.replicate_zero, List.push_toArray, List.append_toArray, List.nil_append, List.cons_append]
    gi_wp2_with fail
    refine scope_goto 0 (fun a w' => (∃ u0 u1 u3 u4 u5 u6 u7 u8 u9 : Value, a = ⟨#[u0, u1, .bool (!f), u3, u4, u5, u6, u7, u8, u9], []⟩) ∧ Below w.heap.size w w') (fun _ _ => 0) rfl ?pass ?first
    case first =>
      intro hX
      have HX := Lib.hid hX
      clear hX
      gi_wp2_with fail
      refine ⟨trivial, (callsIn_wide.2 HC.out).mono ?_⟩
      rintro e w1 ⟨rfl, hB⟩
      gi_wp2
      refine wpIn_label ?_
      rename_i hgo
      refine hgo _ _ ?_
      exact HX.out _ _ ⟨⟨_, _, _, _, _, _, _, _, _, rfl⟩, hB⟩
    case pass =>
      rintro a w' ⟨⟨u0, u1, u3, u4, u5, u6, u7, u8, u9, rfl⟩, hB⟩
      gi_wp2
      simp only [Exit.jump]
      gi_wp2
      go_returns
      exact ⟨ret_bool (by rw [H.out]; rfl), hB⟩

end Go.Proofs.YtenagnncpaabdaaGreat
/- The walks of level: what is asked. -/
namespace Go.Proofs.YtenagnncpaabdaaGreat
open Go Go.RowKit Go.Shelf
set_option maxRecDepth 100000

theorem run_store_func {P : Program} {w : World} {a : Addr} (f : Fn) (vs bs : Array Value) (m : Mode) : (store a (.func f vs bs) m).run P w = stored P w a (.func f vs bs) m := run_store P w a _ m rfl
attribute [local go_sem] run_store_func
/-- What is asked, by kind, as the map has it: b is the state's block, g the block of what still tells. -/
def asksL (b g : Nat) : List (Int × Value) :=
  [(1, .func (.func 107) #[] #[]), (2, .func (.func 108) #[] #[.pointer (some ⟨b + 1, 0, none⟩)]), (3, .func (.func 106) #[] #[.pointer (some ⟨b, 0, none⟩)]),
    (4, .func (.func 110) #[] #[.pointer (some ⟨g, 0, none⟩), .pointer (some ⟨b, 0, none⟩)])]
set_option maxHeartbeats 1000000 in
theorem asks_any (s : St) (A : Option Addr) (n c : Nat) (w : World) : Calls Tryz.prog 90 #[s.v, .slice A n c] w fun e w' => ∃ r, e = .returned (.map (some r)) ∧
    (MapIs w' r (asksL w.heap.size (w.heap.size + 2)) ∧ Box5 w' w.heap.size s ∧ Box w' (w.heap.size + 1) (.slice A n c) ∧ Box w' (w.heap.size + 2) (.func (.func 106) #[] #[.pointer (some ⟨w.heap.size, 0, none⟩)])) ∧ Below w.heap.size w w' := by
  have hmm := @run_makeMap Tryz.prog
  obtain ⟨a1, a2, a3, a4, a5⟩ := s
  dsimp only [St.v] at *
  have h5 := Box5.new w ⟨a1, a2, a3, a4, a5⟩ 23
  go_enter Tryz.func90, Tryz.ntmps90
  go_upto_region 1 with fail
  have hl5 := h5.lt
  have h5' := h5.alloc (.cells #[.slice A n c] 28)
  have hc := Box.new (w.alloc (.cells #[.int .i64 a1, .int .i64 a2, .int .i64 a3, .int .i64 a4, .bool a5] 23)) (.slice A n c) 28
  have hB : Below w.heap.size w ((w.alloc (.cells #[.int .i64 a1, .int .i64 a2, .int .i64 a3, .int .i64 a4, .bool a5] 23)).alloc (.cells #[.slice A n c] 28)) := ((Below.refl _ _).alloc (Nat.le_refl _) _).alloc (by simp) _
  have hs : ((w.alloc (.cells #[.int .i64 a1, .int .i64 a2, .int .i64 a3, .int .i64 a4, .bool a5] 23)).alloc (.cells #[.slice A n c] 28)).heap.size = w.heap.size + 2 := by simp
  rw [World.size_alloc] at hc
  clear h5 hl5
  generalize (w.alloc (.cells #[.int .i64 a1, .int .i64 a2, .int .i64 a3, .int .i64 a4, .bool a5] 23)).alloc (.cells #[.slice A n c] 28) = W at *
  have Hs := Lib.hid hs
  clear hs
  go_upto_region 2 with fail
  have hg := Box.new W (.func (.func 106) #[] #[.pointer (some ⟨w.heap.size, 0, none⟩)]) 108
  have h52 := h5'.alloc (.cells #[.func (.func 106) #[] #[.pointer (some ⟨w.heap.size, 0, none⟩)]] 108)
  have hc2 := hc.alloc (.cells #[.func (.func 106) #[] #[.pointer (some ⟨w.heap.size, 0, none⟩)]] 108)
  have hB2 := hB.alloc hB.size (.cells #[.func (.func 106) #[] #[.pointer (some ⟨w.heap.size, 0, none⟩)]] 108)
  rw [Hs.out] at hg
  clear h5' hc hB
  rw [Hs.out]
  have hs3 : (W.alloc (.cells #[.func (.func 106) #[] #[.pointer (some ⟨w.heap.size, 0, none⟩)]] 108)).heap.size = w.heap.size + 3 := by simp [Hs.out]
  generalize W.alloc (.cells #[.func (.func 106) #[] #[.pointer (some ⟨w.heap.size, 0, none⟩)]] 108) = W3 at *
  have Hs3 := Lib.hid hs3
  clear hs3
  have hgl := hg.lt
  go_wp2_with (refine list_insert rfl _ _ _ rfl Tryz.underlying110 Tryz.underlying3 (MapIs.made _) rfl _ rfl rfl ?_)
  intro w1 m1 k1
  go_wp2_with (refine list_insert rfl _ _ _ rfl Tryz.underlying110 Tryz.underlying3 m1 rfl _ rfl rfl ?_)
  intro w2 m2 k2
  have hg2 := ((hg.alloc (.map #[] 0)).keep k1 (by omega)).keep k2 (by omega)
  obtain ⟨cg, _⟩ := hg2
  go_wp2_with (refine list_insert rfl _ _ _ rfl Tryz.underlying110 Tryz.underlying3 m2 rfl _ rfl rfl ?_)
  intro w3 m3 k3
  go_wp2_with (refine list_insert rfl _ _ _ rfl Tryz.underlying110 Tryz.underlying3 m3 rfl _ rfl rfl ?_)
  intro w4 m4 k4
  go_wp2
  go_returns
  have hk := ((k1.trans (k2.sub fun _ _ h => h)).trans (k3.sub fun _ _ h => h)).trans (k4.sub fun _ _ h => h)
  have hk0 : KeepB (fun b => b < W3.heap.size) W3 w4 := ((KeepB.refl _ _).alloc (.map #[] 0)).trans (hk.sub fun _ _ h => by omega)
  have hz := Hs3.out
  exact ⟨_, rfl, ⟨m4, h52.keep hk0 (by omega), hc2.keep hk0 (by omega), hg.keep hk0 hgl⟩, below_keep hB2 hk0 hB2.size fun k hk => by omega⟩
end Go.Proofs.YtenagnncpaabdaaGreat
/- The walks of level: Check. -/
namespace Go.Proofs.YtenagnncpaabdaaGreat
open Go Go.RowKit Go.Shelf
set_option maxRecDepth 100000

theorem still_any (s : St) (b : Nat) (w : World) (h : Box5 w b s) : Calls Tryz.prog 106 #[.pointer (some ⟨b, 0, none⟩)] w fun e w' => e = .returned (.int .i64 (if s.final = true then 222 else 0)) ∧ w' = w := by
  obtain ⟨a1, a2, a3, a4, a5⟩ := s
  obtain ⟨⟨c0, c1, c2, c3, c4⟩, _⟩ := h
  dsimp only at *
  cases a5
  all_goals
    go_enter Tryz.func106, Tryz.ntmps106
    go_wp2
    go_ret
    exact ⟨rfl, rfl⟩
theorem asks2_any (w : World) : Calls Tryz.prog 107 #[] w fun e w' => e = .returned (.int .i64 0) ∧ w' = w := by
  go_enter Tryz.func107, Tryz.ntmps107
  go_wp2
  go_ret
  exact ⟨rfl, rfl⟩
theorem asks3_any (b : Nat) (A : Option Addr) (n c : Nat) (l : List Int) (hn : l.length = n) (hl : l.length ≤ 1099511627776) (w : World) (h : Box w b (.slice A n c)) (hA : Rd w A (ivs l)) :
    Calls Tryz.prog 108 #[.pointer (some ⟨b, 0, none⟩)] w fun e w' => e = .returned (.int .i64 (if knownB l = true then 0 else 221)) ∧ Below w.heap.size w w' := by
  have HK := Lib.hid (known_any A n c l hn hl w hA)
  obtain ⟨c0, _⟩ := h
  generalize knownB l = f at *
  cases f
  all_goals
    go_enter Tryz.func108, Tryz.ntmps108
    go_wp2_with (go_at_call 109; refine HK.out.mono ?_; rintro e w1 ⟨rfl, hB⟩)
    go_ret
    exact ⟨rfl, hB⟩
theorem asks4_any (s : St) (b g : Nat) (w : World) (h : Box5 w b s) (hg : Box w g (.func (.func 106) #[] #[.pointer (some ⟨b, 0, none⟩)])) :
    Calls Tryz.prog 110 #[.pointer (some ⟨g, 0, none⟩), .pointer (some ⟨b, 0, none⟩)] w fun e w' => e = .returned (.int .i64 (if s.final = true then 222 else if s.level = 2 then 0 else 223)) ∧ w' = w := by
  have HS := Lib.hid (still_any s b w h)
  obtain ⟨a1, a2, a3, a4, a5⟩ := s
  obtain ⟨⟨c0, c1, c2, c3, c4⟩, _⟩ := h
  obtain ⟨cg, _⟩ := hg
  dsimp only at *
  cases a5
  · by_cases h2 : a4 = 2
    · subst h2
      go_enter Tryz.func110, Tryz.ntmps110
      go_wp2_with (go_at_call 106; refine HS.out.mono ?_; rintro e w1 ⟨rfl, rfl⟩)
      go_ret
      exact ⟨rfl, rfl⟩
    · have h3 : (a4 == 2) = false := by simpa using h2
      rw [if_neg (by simp), if_neg h2]
      clear h2
      go_enter Tryz.func110, Tryz.ntmps110
      go_wp2_with (go_at_call 106; refine HS.out.mono ?_; rintro e w1 ⟨rfl, rfl⟩)
      go_ret
      exact ⟨rfl, rfl⟩
  · go_enter Tryz.func110, Tryz.ntmps110
    go_wp2_with (go_at_call 106; refine HS.out.mono ?_; rintro e w1 ⟨rfl, rfl⟩)
    go_ret
    exact ⟨rfl, rfl⟩

theorem zero_ask (w : World) : (zeroValue 108).run Tryz.prog w = .ok .nilFunc w := by kernel_rfl
theorem look_asks {w : World} {r b g : Nat} (h : MapIs w r (asksL b g)) (k : Int) (ok : Bool) :
    (Instr.lookup 110 (.map (some r)) (.int .i64 k) ok).run Tryz.prog w = .ok (if ok then .tuple #[(mget (asksL b g) k).getD .nilFunc, .bool (mget (asksL b g) k).isSome] else (mget (asksL b g) k).getD .nilFunc) w := run_lookup_map (P := Tryz.prog) (t := 110) Tryz.underlying110 Tryz.underlying3 zero_ask h k ok

set_option maxHeartbeats 1000000 in
theorem lcheck_any (k : Int) (s : St) (A : Option Addr) (n c : Nat) (l : List Int) (hn : l.length = n) (hl : l.length ≤ 1099511627776) (w : World) (hA : Rd w A (ivs l)) :
    Calls Tryz.prog 67 #[.int .i64 k, s.v, .slice A n c] w fun e w' => e = .returned (.int .i64 (checkS k s l)) ∧ Below w.heap.size w w' := by
  obtain ⟨res, hres⟩ : ∃ r, r = checkS k s l := ⟨_, rfl⟩
  rw [← hres]
  have HR := Lib.hid hres
  clear hres
  have h50 := Box5.new w s 23
  have HAs := Lib.hid (fun W => asks_any s A n c W)
  have hs0 := s
  obtain ⟨a1, a2, a3, a4, a5⟩ := s
  dsimp only [St.v] at *
  go_enter Tryz.func67, Tryz.ntmps67
  go_wp2_with fail
  have hB0 : Below w.heap.size w (w.alloc (.cells #[.int .i64 a1, .int .i64 a2, .int .i64 a3, .int .i64 a4, .bool a5] 23)) := (Below.refl _ _).alloc (Nat.le_refl _) _
  generalize w.alloc (.cells #[.int .i64 a1, .int .i64 a2, .int .i64 a3, .int .i64 a4, .bool a5] 23) = W at *
  refine (HAs.out W).mono ?_
  rintro e w1 ⟨r, rfl, ⟨hM, hb5, hbc, hbg⟩, hB1⟩
  have hB := bTr hB0 hB1
  have hA1 := hA.below hB
  clear h50 HAs hB0 hB1
  generalize W.heap.size = b at *
  have hlook := look_asks hM k true
  by_cases k1 : k = 1
  · subst k1
    rw [show mget (asksL b (b + 2)) 1 = some (.func (.func 107) #[] #[]) from rfl] at hlook
    go_wp2_with (go_at_call 107; refine (asks2_any _).mono ?_; rintro e w2 ⟨rfl, rfl⟩)
    go_ret
    exact ⟨ret_int (by rw [HR.out]; rfl), hB⟩
  by_cases k2 : k = 2
  · subst k2
    rw [show mget (asksL b (b + 2)) 2 = some (.func (.func 108) #[] #[.pointer (some ⟨b + 1, 0, none⟩)]) from rfl] at hlook
    go_wp2_with (go_at_call 108; refine (asks3_any (b + 1) A n c l hn hl w1 hbc hA1).mono ?_; rintro e w2 ⟨rfl, hB2⟩; rw [show (if knownB l = true then (0 : Int) else 221) = res from HR.out.symm])
    go_ret
    exact ⟨rfl, bTr hB hB2⟩
  by_cases k3 : k = 3
  · subst k3
    rw [show mget (asksL b (b + 2)) 3 = some (.func (.func 106) #[] #[.pointer (some ⟨b, 0, none⟩)]) from rfl] at hlook
    go_wp2_with (go_at_call 106; refine (still_any _ b w1 hb5).mono ?_; rintro e w2 ⟨rfl, rfl⟩; rw [show (if (⟨a1, a2, a3, a4, a5⟩ : St).final = true then (222 : Int) else 0) = res from HR.out.symm])
    go_ret
    exact ⟨rfl, hB⟩
  by_cases k4 : k = 4
  · subst k4
    rw [show mget (asksL b (b + 2)) 4 = some (.func (.func 110) #[] #[.pointer (some ⟨b + 2, 0, none⟩), .pointer (some ⟨b, 0, none⟩)]) from rfl] at hlook
    go_wp2_with (go_at_call 110; refine (asks4_any _ b (b + 2) w1 hb5 hbg).mono ?_; rintro e w2 ⟨rfl, rfl⟩; rw [show (if (⟨a1, a2, a3, a4, a5⟩ : St).final = true then (222 : Int) else if (⟨a1, a2, a3, a4, a5⟩ : St).level = 2 then 0 else 223) = res from HR.out.symm])
    go_ret
    exact ⟨rfl, hB⟩
  · have hn0 : mget (asksL b (b + 2)) k = none := by simp [asksL, mget, Ne.symm k1, Ne.symm k2, Ne.symm k3, Ne.symm k4]
    rw [hn0] at hlook
    have HK := Lib.hid (show checkS k ⟨a1, a2, a3, a4, a5⟩ l = 2 by unfold checkS; rw [if_neg k1, if_neg k2, if_neg k3, if_neg k4])
    clear k1 k2 k3 k4 hn0
    go_wp2
    go_ret
    exact ⟨ret_int (by rw [HR.out, HK.out]), hB⟩
end Go.Proofs.YtenagnncpaabdaaGreat
/- What the functions of levels compute that are walked by hand, in the form of the printed contracts. -/
namespace Go.Proofs.YtenagnncpaabdaaGreat
open Go Go.RowKit
set_option maxRecDepth 100000
theorem ivs_encs (l : List Int) : ivs l = encs enI l := by
  induction l with
  | nil => rfl
  | cons x l ih => rw [encs_cons, ← ih]; rfl
def m_level_Check (k : Int) (s : St) (l : List Int) : Option Int := cond (decide (l.length ≤ 1000000)) (some (checkS k s l)) none
theorem c_level_Check (x0 : Int) (x1 : St) (x2 : List Int) (A0 : Option Addr) (c0 : Nat) (w0 : World) (s0 : SlI w0 enI A0 c0 x2) {r : Int} (H : m_level_Check x0 x1 x2 = some r) : Calls Tryz.prog 67 #[.int .i64 x0, .agg #[.int .i64 x1.index, .int .i64 x1.term, .int .i64 x1.sum, .int .i64 x1.level, .bool x1.final], .slice A0 x2.length c0] w0 fun e w' => e = .returned (.int .i64 r) ∧ St0 All w0 w' [] := by
  unfold m_level_Check at H
  by_cases h : x2.length ≤ 1000000
  · rw [decide_eq_true h] at H
    obtain rfl := Option.some.inj H
    exact calls_st0 (lcheck_any x0 x1 A0 x2.length c0 x2 rfl (by omega) w0 (by rw [ivs_encs]; exact s0.rd))
  · rw [decide_eq_false h] at H; cases H
end Go.Proofs.YtenagnncpaabdaaGreat
/- Plain laws of what printed functions compute: small numbers, places of lists. -/
namespace Go.Proofs.YtenagnncpaabdaaGreat
open Go Go.RowKit
set_option maxRecDepth 100000
theorem w64i {n : Int} (h : -9223372036854775808 ≤ n ∧ n ≤ 9223372036854775807) : IntKind.wrap .i64 n = n := i64_in' h
theorem idx_nat {α : Type} (l : List α) (k : Nat) : idx l (k : Int) = l[k]? := by unfold idx; simp
theorem takeI_nat {α : Type} (l : List α) (k : Nat) (h : k ≤ l.length) : takeI l (k : Int) = some (l.take k) := by unfold takeI; rw [if_pos (by omega)]; simp
theorem fewI_ok {α : Type} (l : List α) (h : l.length ≤ 1000000000) : fewI l = some l := if_pos h
theorem drop_step {α : Type} {l : List α} {k : Nat} (h : k < l.length) : ∃ e, l[k]? = some e ∧ l.drop k = e :: l.drop (k + 1) := ⟨l[k], List.getElem?_eq_getElem h, List.drop_eq_getElem_cons h⟩
theorem snap_eq (a b : St) : (decide (a.index = b.index) && (decide (a.term = b.term) && (decide (a.sum = b.sum) && (decide (a.level = b.level) && decide (a.final = b.final))))) = decide (a = b) := by
  obtain ⟨a1, a2, a3, a4, a5⟩ := a; obtain ⟨b1, b2, b3, b4, b5⟩ := b
  rw [Bool.eq_iff_iff]; simp
theorem en_eq (a b : En) : (decide (a.term = b.term) && (decide (a.kind = b.kind) && decide (a.value = b.value))) = decide (a = b) := by
  obtain ⟨a1, a2, a3⟩ := a; obtain ⟨b1, b2, b3⟩ := b
  rw [Bool.eq_iff_iff]; simp
end Go.Proofs.YtenagnncpaabdaaGreat
/- Iterators: who has an index. -/
namespace Go.Proofs.YtenagnncpaabdaaGreat
open Go Go.RowKit
set_option maxRecDepth 100000
def havingL (i : Int) : Nat → List Int → List Int
  | _, [] => []
  | k, h :: t => if i ≤ h then ((k : Int) + 1) :: havingL i (k + 1) t else havingL i (k + 1) t
def m_it_having (x0 : Co) (i : Int) : Option (List Int) := if x0.mtch.length ≤ 1000000 then some (havingL i 0 x0.mtch) else none
theorem it_having (x0 : Co) (i : Int) {A0 A1 A2 A3 A4 : Option Addr} {c0 c1 c2 c3 c4 : Nat} (wB wM w : World) (s3 : SlI wB enI A3 c3 x0.mtch) (hB0 : Below wB.heap.size wB wM) (b b' : Nat) (hN : St0 All wM w [.box b [.int .i64 x0.id, .int .i64 x0.n, .int .u8 x0.role, .int .i64 x0.binary, .int .i64 x0.tuple.snap.index, .int .i64 x0.tuple.snap.term, .int .i64 x0.tuple.snap.sum, .int .i64 x0.tuple.snap.level, .bool x0.tuple.snap.final, .slice A0 x0.tuple.log.length c0, .int .i64 x0.tuple.term, .int .i64 x0.tuple.vote, .int .i64 x0.commit, .int .i64 x0.applied.index, .int .i64 x0.applied.term, .int .i64 x0.applied.sum, .int .i64 x0.applied.level, .bool x0.applied.final, .slice A1 x0.votes.length c1, .slice A2 x0.next.length c2, .slice A3 x0.mtch.length c3, .slice A4 x0.caps.length c4] 30, .box b' [.int .i64 i] 3]) {xs : List Int} (H : m_it_having x0 i = some xs) :
    IterP Tryz.prog 75 #[.pointer (some ⟨b, 0, none⟩), .pointer (some ⟨b', 0, none⟩)] (fun p : Int => [Value.int .i64 p].toArray) xs wB.heap.size wM.heap.size w := by
  unfold m_it_having at H
  split at H
  case isFalse => cases H
  rename_i hl9
  obtain rfl := Option.some.inj H
  obtain ⟨hb, hbM, hbl⟩ := hN.cap
  obtain ⟨hb2, hbM2, hbl2⟩ := (hN.front 1 rfl).cap
  have hA : Rd w A3 (encs enI x0.mtch) := (s3.rd.below hB0).below hN.pure
  have hAn := s3.blk
  have hlc := s3.k
  intro lo J Jx Jp W hW hJ hJx hJp hy h0
  have hbW : W.heap[b]? = some (.cells #[.int .i64 x0.id, .int .i64 x0.n, .int .u8 x0.role, .int .i64 x0.binary, .int .i64 x0.tuple.snap.index, .int .i64 x0.tuple.snap.term, .int .i64 x0.tuple.snap.sum, .int .i64 x0.tuple.snap.level, .bool x0.tuple.snap.final, .slice A0 x0.tuple.log.length c0, .int .i64 x0.tuple.term, .int .i64 x0.tuple.vote, .int .i64 x0.commit, .int .i64 x0.applied.index, .int .i64 x0.applied.term, .int .i64 x0.applied.sum, .int .i64 x0.applied.level, .bool x0.applied.final, .slice A1 x0.votes.length c1, .slice A2 x0.next.length c2, .slice A3 x0.mtch.length c3, .slice A4 x0.caps.length c4] 30) := (hW.block b hbl).trans hb
  have hbW2 : W.heap[b']? = some (.cells #[.int .i64 i] 3) := (hW.block b' hbl2).trans hb2
  have hAW := hA.below hW
  show Calls _ _ #[_, _, _] _ _
  refine gw_enter3 Tryz.func75 rfl Tryz.ntmps75 rfl ?_
  have hS := St0.start All W
  repeat (first | apply wpS_nil | (apply QH_seq_k; assumption) | (apply wpC_seq_k; intro K hK) | apply wpC_region | (apply wpS_g; refine wpS_put rfl rfl rfl (by first | exact yv_move rfl | exact yv_fieldAddr (by first | exact fo_23_0 | exact fo_30_9) rfl | (apply yv_g_load; first | exact yv_load_ob (by first | exact sc_28) rfl (RW.here _) hS (by first | trivial) (by first | trivial) (by assumption) (by repeat (first | exact Seg.here (Pre.succ Pre.zero) | apply Seg.succ))) | (apply yv_g_bi; first | exact yv_len (by first | exact el_28) rfl)) ?_) | apply wpC_block)
  refine wpC_loop (X := Nat × List Int) (fun z => [(9, .int .i64 z.1), (8, .int .i64 x0.mtch.length), (7, .slice A3 x0.mtch.length c3), (2, .pointer (some ⟨b', 0, none⟩)), (1, .pointer (some ⟨b, 0, none⟩)), (0, .func (.yield lo) #[] #[])])
    (fun z B => z.1 ≤ x0.mtch.length ∧ havingL i 0 x0.mtch = z.2 ++ havingL i z.1 (x0.mtch.drop z.1) ∧ J z.2.length B ∧ Rd B A3 (encs enI x0.mtch) ∧ B.heap[b']? = some (.cells #[.int .i64 i] 3) ∧ w.heap.size ≤ B.heap.size) (fun z => x0.mtch.length - z.1) (0, []) (by repeat (first | exact Sub.nil | refine Sub.cons rfl ?_)) ⟨Nat.zero_le _, by simp, h0, hAW, hbW2, hW.size⟩ ?_
  rintro ⟨k, done⟩ B ⟨hk, hxs, hJk, hAB, hbB, hz⟩
  dsimp only at hk hxs hJk
  dsimp only
  clear hbW hbW2 hAW hS h0
  have hS := St0.start All B
  rcases Nat.lt_or_ge k x0.mtch.length with hlt | hge
  · obtain ⟨e, he, hd⟩ := drop_step hlt
    rw [hd, havingL] at hxs
    have hEl := Rd.el hAB he_enI he
    repeat (first | (apply wpC_seq_k; intro K hK))
    apply wpC_region
    repeat (first | apply wpS_nil | (apply QH_seq_k; assumption) | (apply wpC_seq_k; intro K hK) | (apply wpS_g; refine wpS_put rfl rfl rfl (by first | (apply yv_g_bin; first | exact yv_lss_t rfl rfl (by omega))) ?_) | apply wpC_cond_t rfl rfl | apply wpC_skip | apply wpC_block)
    apply wpC_region
    repeat (first | apply wpS_nil | (apply QH_seq_k; assumption) | (apply wpC_seq_k; intro K hK) | (apply wpS_g; refine wpS_put rfl rfl rfl (by first | exact yx_idx (by first | exact el_27 | exact el_28) rfl rfl rfl hlt hEl | exact yx_ld0 (by first | exact sc_1 | exact sc_3) rfl (RW.here _) hEl rfl | exact yv_move rfl | exact yv_assign rfl) ?_))
    refine wpC_regionY 7 (by repeat (first | exact NL.body (by intro _ h; simp at h) | apply NL.then | apply NL.inBlock)) (by kernel_rfl) ?_
    dsimp only [List.take, List.drop]
    repeat (first | (apply wpS_g; refine wpS_put rfl rfl rfl (by first | exact yv_load_ob (by first | exact sc_1 | exact sc_3) rfl (RW.here _) hS trivial trivial hbB (by repeat (first | exact Seg.here (by repeat (first | exact Pre.zero | apply Pre.succ)))) | exact yv_move rfl | (apply yv_g_bin; first | exact yv_geq rfl rfl)) ?_))
    refine wpS_case 17 rfl (fun hb => ?_) (fun hb => ?_)
    · have hb' : i ≤ e := by simpa using hb
      rw [if_pos hb'] at hxs
      repeat (first | apply wpS_nil | (apply wpS_g; refine wpS_put rfl rfl rfl (by first | exact yv_move rfl | (apply yv_g_bin; first | exact yv_add rfl rfl (by omega))) ?_))
      refine QH_Y ?_
      have hk1 : KeepB All B B := hS.base
      refine wpSI_yield rfl rfl rfl rfl (hy done.length ((k : Int) + 1) B (by rw [hxs]; simp) (hJ _ B B hJk (hk1.sub fun _ _ _ => trivial)) hz) ?_
      rintro ex w2 (⟨rfl, hJ2, hk2⟩ | ⟨rfl, hJ2, hk2⟩ | ⟨ch, rfl, hJ2⟩)
      · refine .inl ⟨_, rfl, wpSI_rest (by repeat (first | exact NL.body (by intro _ h; simp at h) | apply NL.then | apply NL.inBlock)) (by kernel_rfl) ?_⟩
        have hS := St0.start All w2
        repeat (first | apply wpS_nil | (apply QH_seq_k; assumption) | apply wpC_region | (apply wpS_g; refine wpS_put rfl rfl rfl (by first | exact yv_move rfl | (apply yv_g_bin; first | exact yv_add rfl rfl (by omega)) | (apply yv_g_pick; first | exact yv_pick_t rfl rfl rfl) | exact yv_not rfl) ?_) | apply wpC_cond_f rfl rfl | apply wpC_skip | apply QH_block_normal)
        refine QH_again (k + 1, done ++ [(k : Int) + 1]) (by repeat (first | exact Sub.nil | refine Sub.cons rfl ?_)) ⟨hlt, by dsimp only; rw [hxs]; simp, ?_, ?_, ?_, ?_⟩ (by dsimp only; omega)
        · dsimp only; rw [List.length_append]; exact hJ2
        · exact hk2.rd hAB (fun p hp => .inl (hAn p hp))
        · exact (hk2.block b' (Nat.lt_of_lt_of_le hbl2 hz) (.inr ⟨hbM2, hbl2⟩)).trans hbB
        · exact Nat.le_trans hz hk2.size
      · refine .inl ⟨_, rfl, wpSI_rest (by repeat (first | exact NL.body (by intro _ h; simp at h) | apply NL.then | apply NL.inBlock)) (by kernel_rfl) ?_⟩
        have hS := St0.start All w2
        repeat (first | apply wpS_nil | (apply QH_seq_k; assumption) | (apply wpS_g; refine wpS_put rfl rfl rfl (by first | (apply yv_g_pick; first | exact yv_pick_t rfl rfl rfl) | exact yv_not rfl) ?_) | apply wpC_cond_t rfl rfl | apply wpC_ret | apply QH_then_ret | apply QH_block_ret)
        refine QH_ret rfl (by first | exact RV.nil) rfl ?_
        exact .inl ⟨⟨_, rfl⟩, .inr hJ2⟩
      · refine .inr ⟨ch, rfl, ?_⟩
        repeat (first | apply QH_then_panic | apply QH_block_panic)
        exact QH_panic rfl (.inr ⟨ch, rfl, hJ2⟩)
    · have hb' : ¬ i ≤ e := by simpa using hb
      rw [if_neg hb'] at hxs
      repeat (first | apply wpS_nil | (apply wpS_g; refine wpS_skip rfl rfl rfl ?_))
      refine QH_Y ?_
      refine wpSI_rest (by repeat (first | exact NL.body (by intro _ h; simp at h) | apply NL.then | apply NL.inBlock)) (by kernel_rfl) ?_
      repeat (first | apply wpS_nil | (apply QH_seq_k; assumption) | apply wpC_region | (apply wpS_g; refine wpS_skip rfl rfl rfl ?_) | (apply wpS_g; refine wpS_put rfl rfl rfl (by first | exact yv_move rfl | (apply yv_g_bin; first | exact yv_add rfl rfl (by omega)) | (apply yv_g_pick; first | exact yv_pick_f rfl rfl rfl)) ?_) | apply wpC_cond_f rfl rfl | apply wpC_skip | apply QH_block_normal)
      refine QH_again (k + 1, done) (by repeat (first | exact Sub.nil | refine Sub.cons rfl ?_)) ⟨hlt, hxs, ?_, ?_, ?_, ?_⟩ (by dsimp only; omega)
      · exact hJ _ _ _ hJk (hS.base.sub fun _ _ _ => trivial)
      · exact hAB
      · exact hbB
      · exact hz
  · obtain rfl : k = x0.mtch.length := by omega
    rw [List.drop_length, havingL, List.append_nil] at hxs
    repeat (first | apply wpS_nil | (apply QH_seq_k; assumption) | (apply wpC_seq_k; intro K hK) | apply wpC_region | (apply wpS_g; refine wpS_put rfl rfl rfl (by first | (apply yv_g_bin; first | exact yv_lss_f rfl rfl (by omega))) ?_) | apply wpC_cond_f rfl rfl | apply wpC_exit | apply QH_then_exit | apply QH_block_hit)
    refine QH_end rfl (by first | exact RV.nil) rfl ?_
    refine .inl ⟨⟨_, rfl⟩, .inl ?_⟩
    rw [hxs]
    exact hJ _ _ _ hJk (hS.base.sub fun _ _ _ => trivial)
end Go.Proofs.YtenagnncpaabdaaGreat
/- What functions compute, in plain terms; printed. -/
namespace Go.Proofs.YtenagnncpaabdaaGreat
open Go Go.RowKit
set_option maxRecDepth 100000
def m_ref12_Great (x0 : Tu) : Option (Bool) :=
  some (decide (250 < (x0.log.length : Int)))
def m_ref20_Great (x0 : Co) : Option (Bool) :=
  (m_ref12_Great x0.tuple).bind fun r5 =>
  cond r5
   (
    some true)
   (
    cond (decide (9 < (x0.votes.length : Int)))
     (
      some true)
     (
      cond (decide (9 < (x0.next.length : Int)))
       (
        some true)
       (
        cond (decide (9 < (x0.mtch.length : Int)))
         (
          some true)
         (
          cond (decide (9 < (x0.caps.length : Int)))
           (
            some true)
           (
            cond (decide (1099511627776 < x0.tuple.snap.index))
             (
              some true)
             (
              some (decide (x0.tuple.snap.index < (-1099511627776)))))))))
def m_law24_great (x0 : Co) : Option (Bool) :=
  (m_ref20_Great x0).bind fun r5 =>
  cond r5
   (
    some true)
   (
    cond (decide (1099511627776 < x0.commit))
     (
      some true)
     (
      some (decide (x0.commit < (-1099511627776)))))
def m_ref06_number (x0 : Int) : Option (Bool) :=
  cond (decide (0 ≤ x0))
   (
    some (decide (x0 ≤ 1073741824)))
   (
    some false)
def m_ref06_First : Option (St) :=
  some (⟨0, 0, 0, 1, false⟩ : St)
def m_ref06_Fine (x0 : St) : Option (Bool) :=
  (m_ref06_number x0.index).bind fun r6 =>
  cond (!r6)
   (
    some false)
   (
    (m_ref06_number x0.term).bind fun r9 =>
    cond (!r9)
     (
      some false)
     (
      (m_ref06_number x0.sum).bind fun r12 =>
      cond (!r12)
       (
        some false)
       (
        cond (decide ((decide (x0.term = 0)) ≠ (decide (x0.index = 0))))
         (
          some false)
         (
          cond (decide (x0.level ≠ 1))
           (
            cond (decide (x0.level ≠ 2))
             (
              some false)
             (
              cond x0.final
               (
                cond (decide (x0.level ≠ 2))
                 (
                  some false)
                 (
                  cond (decide (0 < x0.index))
                   (
                    some true)
                   (
                    (m_ref06_First).bind fun r19 =>
                    some (decide (x0.index = r19.index) && (decide (x0.term = r19.term) && (decide (x0.sum = r19.sum) && (decide (x0.level = r19.level) && (decide (x0.final = r19.final)))))))))
               (
                cond (decide (0 < x0.index))
                 (
                  some true)
                 (
                  (m_ref06_First).bind fun r22 =>
                  some (decide (x0.index = r22.index) && (decide (x0.term = r22.term) && (decide (x0.sum = r22.sum) && (decide (x0.level = r22.level) && (decide (x0.final = r22.final))))))))))
           (
            cond x0.final
             (
              cond (decide (x0.level ≠ 2))
               (
                some false)
               (
                cond (decide (0 < x0.index))
                 (
                  some true)
                 (
                  (m_ref06_First).bind fun r26 =>
                  some (decide (x0.index = r26.index) && (decide (x0.term = r26.term) && (decide (x0.sum = r26.sum) && (decide (x0.level = r26.level) && (decide (x0.final = r26.final)))))))))
             (
              cond (decide (0 < x0.index))
               (
                some true)
               (
                (m_ref06_First).bind fun r29 =>
                some (decide (x0.index = r29.index) && (decide (x0.term = r29.term) && (decide (x0.sum = r29.sum) && (decide (x0.level = r29.level) && (decide (x0.final = r29.final)))))))))))))
def m_ref06_Right (x0 : En) : Option (Bool) :=
  cond (decide (1 ≤ x0.term))
   (
    (m_ref06_number x0.term).bind fun r5 =>
    cond r5
     (
      cond (decide (0 ≤ x0.kind))
       (
        cond (decide (x0.kind < 5))
         (
          (m_ref06_number x0.value).bind fun r7 =>
          cond r7
           (
            cond (decide (x0.kind = 1))
             (
              some true)
             (
              some (decide (x0.value = 0))))
           (
            some false))
         (
          some false))
       (
        some false))
     (
      some false))
   (
    some false)
def m_ref12_Right_l1 (x0 : Tu) : Nat → Bool → Int → Int → Option (Bool)
  | 0, _, _, _ => none
  | n + 1, v16, v17, v18 =>
      cond (decide (v18 < (x0.log.length : Int)))
       (
        (idx x0.log v18).bind fun e24 =>
        (m_ref06_Right e24).bind fun r27 =>
        cond (!r27)
         (
          some false)
         (
          (idx x0.log v18).bind fun e30 =>
          cond (decide (e30.term < v17))
           (
            some false)
           (
            (idx x0.log v18).bind fun e34 =>
            m_ref12_Right_l1 x0 n v16 e34.term (IntKind.wrap .i64 (v18 + 1)))))
       (
        cond (decide (v17 ≤ x0.term))
         (
          cond (decide (0 ≤ x0.term))
           (
            some (decide (x0.term ≤ 1073741824)))
           (
            some false))
         (
          some false))
def m_ref12_Right (x0 : Tu) : Option (Bool) :=
  (m_ref06_Fine x0.snap).bind fun r6 =>
  cond (!r6)
   (
    some false)
   (
    cond (decide (1073740824 < x0.snap.index))
     (
      some false)
     (
      cond (decide (200 < (x0.log.length : Int)))
       (
        some false)
       (
        cond (decide (x0.vote < 0))
         (
          some false)
         (
          cond (decide (5 < x0.vote))
           (
            some false)
           (
            m_ref12_Right_l1 x0 fuelN false x0.snap.term 0)))))
def m_ref12_Last (x0 : Tu) : Option (Int) :=
  some (IntKind.wrap .i64 (x0.snap.index + (x0.log.length : Int)))
def m_ref06_Next (x0 : St) (x1 : En) : Option (St) :=
  (m_ref06_Right x1).bind fun r10 =>
  cond (!r10)
   (
    some x0)
   (
    (m_ref06_Fine x0).bind fun r13 =>
    cond (!r13)
     (
      some x0)
     (
      cond (decide (1073741824 ≤ x0.index))
       (
        some x0)
       (
        cond (decide (x1.kind = 1))
         (
          some (⟨(IntKind.wrap .i64 (x0.index + 1)), x1.term, (Int.tmod (IntKind.wrap .i64 ((IntKind.wrap .i64 ((IntKind.wrap .i64 (31 * x0.sum)) + x1.value)) + 1)) 1073741824), x0.level, x0.final⟩ : St))
         (
          cond (decide (x1.kind = 2))
           (
            some (⟨(IntKind.wrap .i64 (x0.index + 1)), x1.term, x0.sum, 2, x0.final⟩ : St))
           (
            cond (decide (x1.kind = 3))
             (
              cond (!x0.final)
               (
                some (⟨(IntKind.wrap .i64 (x0.index + 1)), x1.term, x0.sum, 1, x0.final⟩ : St))
               (
                some (⟨(IntKind.wrap .i64 (x0.index + 1)), x1.term, x0.sum, x0.level, x0.final⟩ : St)))
             (
              cond (decide (x1.kind = 4))
               (
                some (⟨(IntKind.wrap .i64 (x0.index + 1)), x1.term, x0.sum, x0.level, (decide (x0.level = 2))⟩ : St))
               (
                some (⟨(IntKind.wrap .i64 (x0.index + 1)), x1.term, x0.sum, x0.level, x0.final⟩ : St))))))))
def m_ref06_All_l1 (x1 : List En) : Nat → Int → Int → Int → Int → Int → Bool → Option (St)
  | 0, _, _, _, _, _, _ => none
  | n + 1, v8, v9, v10, v11, v12, v13 =>
      cond (decide (v8 < (x1.length : Int)))
       (
        (idx x1 v8).bind fun e17 =>
        (m_ref06_Next (⟨v9, v10, v11, v12, v13⟩ : St) e17).bind fun r20 =>
        m_ref06_All_l1 x1 n (IntKind.wrap .i64 (v8 + 1)) r20.index r20.term r20.sum r20.level r20.final)
       (
        some (⟨v9, v10, v11, v12, v13⟩ : St))
def m_ref06_All (x0 : St) (x1 : List En) : Option (St) :=
  m_ref06_All_l1 x1 fuelN 0 x0.index x0.term x0.sum x0.level x0.final
def m_ref12_State (x0 : Tu) (x1 : Int) : Option (St × Bool) :=
  cond (decide (x1 < x0.snap.index))
   (
    some ((⟨0, 0, 0, 0, false⟩ : St), false))
   (
    (m_ref12_Last x0).bind fun r9 =>
    cond (decide (r9 < x1))
     (
      some ((⟨0, 0, 0, 0, false⟩ : St), false))
     (
      (takeI x0.log (IntKind.wrap .i64 (x1 - x0.snap.index))).bind fun l13 =>
      (m_ref06_All x0.snap l13).bind fun r15 =>
      some (r15, true)))
def m_ref20_Right_l1 (x0 : Co) (r30 : Int) : Nat → Bool → Int → Option (Bool)
  | 0, _, _ => none
  | n + 1, v34, v35 =>
      cond (decide (v35 < x0.n))
       (
        (idx x0.next v35).bind fun e40 =>
        cond (decide (e40 < 1))
         (
          some false)
         (
          (idx x0.next v35).bind fun e44 =>
          cond (decide ((IntKind.wrap .i64 (r30 + 1)) < e44))
           (
            some false)
           (
            (idx x0.mtch v35).bind fun e48 =>
            cond (decide (e48 < 0))
             (
              some false)
             (
              (idx x0.mtch v35).bind fun e52 =>
              cond (decide (r30 < e52))
               (
                some false)
               (
                (idx x0.caps v35).bind fun e56 =>
                cond (decide (e56 < 0))
                 (
                  some false)
                 (
                  (idx x0.caps v35).bind fun e60 =>
                  cond (decide (2 < e60))
                   (
                    some false)
                   (
                    m_ref20_Right_l1 x0 r30 n v34 (IntKind.wrap .i64 (v35 + 1)))))))))
       (
        cond (decide (x0.role ≠ 0))
         (
          cond (decide (x0.tuple.term < 1))
           (
            some false)
           (
            cond (decide (x0.tuple.vote ≠ x0.id))
             (
              some false)
             (
              (idx x0.caps (IntKind.wrap .i64 (x0.id - 1))).bind fun e69 =>
              some (decide (e69 = x0.binary)))))
         (
          (idx x0.caps (IntKind.wrap .i64 (x0.id - 1))).bind fun e73 =>
          some (decide (e73 = x0.binary))))
def m_ref20_Right (x0 : Co) : Option (Bool) :=
  cond (decide (x0.n < 1))
   (
    some false)
   (
    cond (decide (5 < x0.n))
     (
      some false)
     (
      cond (decide (x0.id < 1))
       (
        some false)
       (
        cond (decide (x0.n < x0.id))
         (
          some false)
         (
          cond (decide (2 < x0.role))
           (
            some false)
           (
            cond (decide (x0.binary < 1))
             (
              some false)
             (
              cond (decide (2 < x0.binary))
               (
                some false)
               (
                (m_ref12_Right x0.tuple).bind fun r13 =>
                cond (!r13)
                 (
                  some false)
                 (
                  (m_ref12_State x0.tuple x0.commit).bind fun r17 =>
                  cond (!r17.2)
                   (
                    some false)
                   (
                    cond (!(decide (r17.1.index = x0.applied.index) && (decide (r17.1.term = x0.applied.term) && (decide (r17.1.sum = x0.applied.sum) && (decide (r17.1.level = x0.applied.level) && (decide (r17.1.final = x0.applied.final)))))))
                     (
                      some false)
                     (
                      cond (decide ((x0.votes.length : Int) ≠ x0.n))
                       (
                        some false)
                       (
                        cond (decide ((x0.next.length : Int) ≠ x0.n))
                         (
                          some false)
                         (
                          cond (decide ((x0.mtch.length : Int) ≠ x0.n))
                           (
                            some false)
                           (
                            cond (decide ((x0.caps.length : Int) ≠ x0.n))
                             (
                              some false)
                             (
                              (m_ref12_Last x0.tuple).bind fun r30 =>
                              m_ref20_Right_l1 x0 r30 fuelN false 0))))))))))))))
def m_ref12_First : Option (Tu) :=
  (m_ref06_First).bind fun r5 =>
  some (⟨r5, [], 0, 0⟩ : Tu)
def m_ref12_Own (x0 : Tu) : Option (Tu) :=
  (fewI ([] ++ x0.log)).bind fun l9 =>
  some (⟨x0.snap, l9, x0.term, x0.vote⟩ : Tu)
def m_ref20_New_l1 (x0 : Int) (x1 : Int) (x2 : Int) (x3 : Tu) (r13 : Tu) : Nat → Int → List Bool → List Int → List Int → List Int → Option (Co)
  | 0, _, _, _, _, _ => none
  | n + 1, v24, v25, v30, v35, v40 =>
      cond (decide (v24 ≤ x1))
       (
        (fewI (v25 ++ ([false] : List Bool))).bind fun l51 =>
        (m_ref12_Last x3).bind fun r57 =>
        (fewI (v30 ++ ([(IntKind.wrap .i64 (r57 + 1))] : List Int))).bind fun l61 =>
        (fewI (v35 ++ ([0] : List Int))).bind fun l69 =>
        (fewI (v40 ++ ([0] : List Int))).bind fun l76 =>
        m_ref20_New_l1 x0 x1 x2 x3 r13 n (IntKind.wrap .i64 (v24 + 1)) l51 l61 l69 l76)
       (
        (idx v40 (IntKind.wrap .i64 (x0 - 1))).bind fun e82 =>
        some (⟨x0, x1, 0, x2, r13, x3.snap.index, x3.snap, v25, v30, v35, (setI v40 (IntKind.wrap .i64 (x0 - 1)) x2)⟩ : Co))
def m_ref20_New (x0 : Int) (x1 : Int) (x2 : Int) (x3 : Tu) : Option (Co) :=
  cond (decide (x1 < 0))
   (
    some (⟨0, 0, 0, 0, (⟨(⟨0, 0, 0, 0, false⟩ : St), [], 0, 0⟩ : Tu), 0, (⟨0, 0, 0, 0, false⟩ : St), [], [], [], []⟩ : Co))
   (
    cond (decide (5 < x1))
     (
      some (⟨0, 0, 0, 0, (⟨(⟨0, 0, 0, 0, false⟩ : St), [], 0, 0⟩ : Tu), 0, (⟨0, 0, 0, 0, false⟩ : St), [], [], [], []⟩ : Co))
     (
      cond (decide (x0 < 1))
       (
        some (⟨0, 0, 0, 0, (⟨(⟨0, 0, 0, 0, false⟩ : St), [], 0, 0⟩ : Tu), 0, (⟨0, 0, 0, 0, false⟩ : St), [], [], [], []⟩ : Co))
       (
        cond (decide (x1 < x0))
         (
          some (⟨0, 0, 0, 0, (⟨(⟨0, 0, 0, 0, false⟩ : St), [], 0, 0⟩ : Tu), 0, (⟨0, 0, 0, 0, false⟩ : St), [], [], [], []⟩ : Co))
         (
          (m_ref12_Own x3).bind fun r13 =>
          m_ref20_New_l1 x0 x1 x2 x3 r13 fuelN 1 [] [] [] []))))
def m_ref20_Own (x0 : Co) : Option (Co) :=
  (m_ref12_Own x0.tuple).bind fun r7 =>
  (fewI ([] ++ x0.votes)).bind fun l16 =>
  (fewI ([] ++ x0.next)).bind fun l24 =>
  (fewI ([] ++ x0.mtch)).bind fun l32 =>
  (fewI ([] ++ x0.caps)).bind fun l40 =>
  some (⟨x0.id, x0.n, x0.role, x0.binary, r7, x0.commit, x0.applied, l16, l24, l32, l40⟩ : Co)
def m_ref12_Hard (x0 : Tu) (x1 : Int) (x2 : Int) : Option (Tu × Int) :=
  (m_ref12_Own x0).bind fun r7 =>
  cond (decide (x0.term < x1))
   (
    (m_ref12_Right x0).bind fun r26 =>
    cond (!r26)
     (
      (m_ref12_Own x0).bind fun r29 =>
      some (r29, 2))
     (
      (m_ref12_Right (⟨r7.snap, r7.log, x1, x2⟩ : Tu)).bind fun r35 =>
      cond (!r35)
       (
        (m_ref12_Own x0).bind fun r38 =>
        some (r38, 2))
       (
        some ((⟨r7.snap, r7.log, x1, x2⟩ : Tu), 0))))
   (
    cond (decide (x1 = x0.term))
     (
      cond (decide (x0.vote = 0))
       (
        (m_ref12_Right x0).bind fun r54 =>
        cond (!r54)
         (
          (m_ref12_Own x0).bind fun r57 =>
          some (r57, 2))
         (
          (m_ref12_Right (⟨r7.snap, r7.log, x1, x2⟩ : Tu)).bind fun r63 =>
          cond (!r63)
           (
            (m_ref12_Own x0).bind fun r66 =>
            some (r66, 2))
           (
            some ((⟨r7.snap, r7.log, x1, x2⟩ : Tu), 0))))
       (
        cond (!(decide (x0.vote = x2)))
         (
          (m_ref12_Own x0).bind fun r83 =>
          some (r83, 2))
         (
          (m_ref12_Right x0).bind fun r89 =>
          cond (!r89)
           (
            (m_ref12_Own x0).bind fun r92 =>
            some (r92, 2))
           (
            (m_ref12_Right (⟨r7.snap, r7.log, x1, x2⟩ : Tu)).bind fun r98 =>
            cond (!r98)
             (
              (m_ref12_Own x0).bind fun r101 =>
              some (r101, 2))
             (
              some ((⟨r7.snap, r7.log, x1, x2⟩ : Tu), 0))))))
     (
      (m_ref12_Own x0).bind fun r118 =>
      some (r118, 2)))
def m_ref12_At (x0 : Tu) (x1 : Int) : Option (En × Bool) :=
  cond (decide (x1 ≤ x0.snap.index))
   (
    some ((⟨0, 0, 0⟩ : En), false))
   (
    (m_ref12_Last x0).bind fun r9 =>
    cond (decide (r9 < x1))
     (
      some ((⟨0, 0, 0⟩ : En), false))
     (
      (idx x0.log (IntKind.wrap .i64 ((IntKind.wrap .i64 (x1 - x0.snap.index)) - 1))).bind fun e13 =>
      some (e13, true)))
def m_ref12_TermAt (x0 : Tu) (x1 : Int) : Option (Int × Bool) :=
  cond (decide (x1 = x0.snap.index))
   (
    some (x0.snap.term, true))
   (
    (m_ref12_At x0 x1).bind fun r8 =>
    some (r8.1.term, r8.2))
def m_ref22_lastTerm (x0 : Co) : Option (Int) :=
  (m_ref12_Last x0.tuple).bind fun r5 =>
  (m_ref12_TermAt x0.tuple r5).bind fun r7 =>
  some r7.1
def m_ref22_Half_l1 (x0 : List Bool) : Nat → Int → Int → Option (Bool)
  | 0, _, _ => none
  | n + 1, v5, v6 =>
      cond (decide (v6 < (x0.length : Int)))
       (
        (idx x0 v6).bind fun e11 =>
        cond e11
         (
          m_ref22_Half_l1 x0 n (IntKind.wrap .i64 (v5 + 1)) (IntKind.wrap .i64 (v6 + 1)))
         (
          m_ref22_Half_l1 x0 n v5 (IntKind.wrap .i64 (v6 + 1))))
       (
        some (decide ((x0.length : Int) < (IntKind.wrap .i64 (2 * v5)))))
def m_ref22_Half (x0 : List Bool) : Option (Bool) :=
  m_ref22_Half_l1 x0 fuelN 0 0
def m_ref12_Append (x0 : Tu) (x1 : List En) : Option (Tu × Int) :=
  (m_ref12_Own x0).bind fun r7 =>
  (fewI (r7.log ++ x1)).bind fun l16 =>
  (m_ref12_Right x0).bind fun r31 =>
  cond (!r31)
   (
    (m_ref12_Own x0).bind fun r34 =>
    some (r34, 2))
   (
    (m_ref12_Right (⟨r7.snap, l16, r7.term, r7.vote⟩ : Tu)).bind fun r40 =>
    cond (!r40)
     (
      (m_ref12_Own x0).bind fun r43 =>
      some (r43, 2))
     (
      some ((⟨r7.snap, l16, r7.term, r7.vote⟩ : Tu), 0)))
def m_ref22_Lead_l1 (r7 : Co) (r38 : Tu × Int) : Nat → Int → List Int → List Int → Option (Co)
  | 0, _, _, _ => none
  | n + 1, v54, v55, v58 =>
      cond (decide (v54 < r7.n))
       (
        (m_ref12_Last r38.1).bind fun r65 =>
        (idx v55 v54).bind fun e67 =>
        (idx v58 v54).bind fun e70 =>
        m_ref22_Lead_l1 r7 r38 n (IntKind.wrap .i64 (v54 + 1)) (setI v55 v54 (IntKind.wrap .i64 (r65 + 1))) (setI v58 v54 0))
       (
        (m_ref12_Last r38.1).bind fun r74 =>
        (idx v58 (IntKind.wrap .i64 (r7.id - 1))).bind fun e76 =>
        some (⟨r7.id, r7.n, 2, r7.binary, r38.1, r7.commit, r7.applied, r7.votes, v55, (setI v58 (IntKind.wrap .i64 (r7.id - 1)) r74), r7.caps⟩ : Co))
def m_ref22_Lead (x0 : Co) : Option (Co) :=
  (m_ref20_Own x0).bind fun r7 =>
  (m_ref20_Right r7).bind fun r31 =>
  cond (!r31)
   (
    some r7)
   (
    cond (decide (r7.role ≠ 1))
     (
      some r7)
     (
      (m_ref12_Append r7.tuple ([(⟨r7.tuple.term, 0, 0⟩ : En)] : List En)).bind fun r38 =>
      cond (decide (r38.2 ≠ 0))
       (
        some (⟨r7.id, r7.n, 0, r7.binary, r7.tuple, r7.commit, r7.applied, r7.votes, r7.next, r7.mtch, r7.caps⟩ : Co))
       (
        m_ref22_Lead_l1 r7 r38 fuelN 0 r7.next r7.mtch)))
def m_ref20_Others_l1 (x0 : Co) (x1 : Ms) : Nat → List Ms → Int → Option (List Ms)
  | 0, _, _ => none
  | n + 1, v9, v18 =>
      cond (decide (v18 ≤ x0.n))
       (
        cond (decide (v18 ≤ 5))
         (
          cond (decide (v18 = x0.id))
           (
            m_ref20_Others_l1 x0 x1 n v9 (IntKind.wrap .i64 (v18 + 1)))
           (
            (fewI ([] ++ x1.entries)).bind fun l30 =>
            (fewI (v9 ++ [(⟨x1.kind, x0.id, v18, x0.tuple.term, x0.binary, x1.last, x1.lastTerm, x1.commit, x1.okk, l30, x1.snap⟩ : Ms)])).bind fun l38 =>
            m_ref20_Others_l1 x0 x1 n l38 (IntKind.wrap .i64 (v18 + 1))))
         (
          some v9))
       (
        some v9)
def m_ref20_Others (x0 : Co) (x1 : Ms) : Option (List Ms) :=
  m_ref20_Others_l1 x0 x1 fuelN [] 1
def m_ref22_Timeout (x0 : Co) : Option (Co × List Ms) :=
  (m_ref20_Own x0).bind fun r7 =>
  (m_ref20_Right r7).bind fun r31 =>
  cond (!r31)
   (
    some (r7, []))
   (
    cond (decide (r7.role = 2))
     (
      some (r7, []))
     (
      cond (decide (1073741824 ≤ r7.tuple.term))
       (
        some (r7, []))
       (
        (m_ref12_Hard r7.tuple (IntKind.wrap .i64 (r7.tuple.term + 1)) r7.id).bind fun r37 =>
        (makeI false r7.n).bind fun l45 =>
        (idx l45 (IntKind.wrap .i64 (r7.id - 1))).bind fun e52 =>
        (m_ref12_Last r37.1).bind fun r56 =>
        (m_ref22_lastTerm (⟨r7.id, r7.n, 1, r7.binary, r37.1, r7.commit, r7.applied, (setI l45 (IntKind.wrap .i64 (r7.id - 1)) true), r7.next, r7.mtch, r7.caps⟩ : Co)).bind fun r58 =>
        (m_ref22_Half (setI l45 (IntKind.wrap .i64 (r7.id - 1)) true)).bind fun r65 =>
        cond r65
         (
          (m_ref22_Lead (⟨r7.id, r7.n, 1, r7.binary, r37.1, r7.commit, r7.applied, (setI l45 (IntKind.wrap .i64 (r7.id - 1)) true), r7.next, r7.mtch, r7.caps⟩ : Co)).bind fun r68 =>
          some (r68, []))
         (
          (m_ref20_Others (⟨r7.id, r7.n, 1, r7.binary, r37.1, r7.commit, r7.applied, (setI l45 (IntKind.wrap .i64 (r7.id - 1)) true), r7.next, r7.mtch, r7.caps⟩ : Co) (⟨1, 0, 0, 0, 0, r56, r58, 0, false, [], (⟨0, 0, 0, 0, false⟩ : St)⟩ : Ms)).bind fun r91 =>
          some ((⟨r7.id, r7.n, 1, r7.binary, r37.1, r7.commit, r7.applied, (setI l45 (IntKind.wrap .i64 (r7.id - 1)) true), r7.next, r7.mtch, r7.caps⟩ : Co), r91)))))
def m_ref20_number (x0 : Int) : Option (Bool) :=
  cond (decide (0 ≤ x0))
   (
    some (decide (x0 ≤ 1073741824)))
   (
    some false)
def m_ref20_entries_l1 (x0 : Ms) : Nat → Bool → Int → Int → Option (Bool)
  | 0, _, _, _ => none
  | n + 1, v7, v8, v9 =>
      cond (decide (v9 < (x0.entries.length : Int)))
       (
        (idx x0.entries v9).bind fun e15 =>
        (m_ref06_Right e15).bind fun r18 =>
        cond (!r18)
         (
          some false)
         (
          (idx x0.entries v9).bind fun e21 =>
          cond (decide (e21.term < v8))
           (
            some false)
           (
            (idx x0.entries v9).bind fun e25 =>
            cond (decide (x0.term < e25.term))
             (
              some false)
             (
              (idx x0.entries v9).bind fun e29 =>
              m_ref20_entries_l1 x0 n v7 e29.term (IntKind.wrap .i64 (v9 + 1))))))
       (
        some (decide ((x0.entries.length : Int) ≤ 4)))
def m_ref20_entries (x0 : Ms) : Option (Bool) :=
  m_ref20_entries_l1 x0 fuelN false x0.lastTerm 0
def m_ref20_Fine (x0 : Ms) (x1 : Int) : Option (Bool) :=
  cond (decide (x1 < 1))
   (
    some false)
   (
    cond (decide (5 < x1))
     (
      some false)
     (
      cond (decide (x0.frm < 1))
       (
        some false)
       (
        cond (decide (x1 < x0.frm))
         (
          some false)
         (
          cond (decide (x0.dst < 1))
           (
            some false)
           (
            cond (decide (x1 < x0.dst))
             (
              some false)
             (
              cond (decide (x0.frm = x0.dst))
               (
                some false)
               (
                cond (decide (x0.kind < 1))
                 (
                  some false)
                 (
                  cond (decide (6 ≤ x0.kind))
                   (
                    some false)
                   (
                    cond (decide (x0.term < 1))
                     (
                      some false)
                     (
                      cond (decide (1073741824 < x0.term))
                       (
                        some false)
                       (
                        cond (decide (x0.cap < 1))
                         (
                          some false)
                         (
                          cond (decide (2 < x0.cap))
                           (
                            some false)
                           (
                            (m_ref20_number x0.last).bind fun r21 =>
                            cond (!r21)
                             (
                              some false)
                             (
                              (m_ref20_number x0.lastTerm).bind fun r24 =>
                              cond (!r24)
                               (
                                some false)
                               (
                                (m_ref20_number x0.commit).bind fun r27 =>
                                cond (!r27)
                                 (
                                  some false)
                                 (
                                  (m_ref20_entries x0).bind fun r30 =>
                                  cond (!r30)
                                   (
                                    some false)
                                   (
                                    cond (decide (x0.kind ≠ 3))
                                     (
                                      cond (decide (0 < (x0.entries.length : Int)))
                                       (
                                        some false)
                                       (
                                        cond (decide (0 < x0.commit))
                                         (
                                          some false)
                                         (
                                          cond x0.okk
                                           (
                                            cond (decide (x0.kind ≠ 2))
                                             (
                                              cond (decide (x0.kind ≠ 4))
                                               (
                                                some false)
                                               (
                                                cond (decide (x0.kind = 5))
                                                 (
                                                  (m_ref06_Fine x0.snap).bind fun r41 =>
                                                  cond r41
                                                   (
                                                    some (decide (0 < x0.snap.index)))
                                                   (
                                                    some false))
                                                 (
                                                  some (decide (x0.snap.index = 0) && (decide (x0.snap.term = 0) && (decide (x0.snap.sum = 0) && (decide (x0.snap.level = 0) && (decide (x0.snap.final = false)))))))))
                                             (
                                              cond (decide (x0.kind = 5))
                                               (
                                                (m_ref06_Fine x0.snap).bind fun r47 =>
                                                cond r47
                                                 (
                                                  some (decide (0 < x0.snap.index)))
                                                 (
                                                  some false))
                                               (
                                                some (decide (x0.snap.index = 0) && (decide (x0.snap.term = 0) && (decide (x0.snap.sum = 0) && (decide (x0.snap.level = 0) && (decide (x0.snap.final = false)))))))))
                                           (
                                            cond (decide (x0.kind = 5))
                                             (
                                              (m_ref06_Fine x0.snap).bind fun r53 =>
                                              cond r53
                                               (
                                                some (decide (0 < x0.snap.index)))
                                               (
                                                some false))
                                             (
                                              some (decide (x0.snap.index = 0) && (decide (x0.snap.term = 0) && (decide (x0.snap.sum = 0) && (decide (x0.snap.level = 0) && (decide (x0.snap.final = false)))))))))))
                                     (
                                      cond x0.okk
                                       (
                                        cond (decide (x0.kind ≠ 2))
                                         (
                                          cond (decide (x0.kind ≠ 4))
                                           (
                                            some false)
                                           (
                                            cond (decide (x0.kind = 5))
                                             (
                                              (m_ref06_Fine x0.snap).bind fun r60 =>
                                              cond r60
                                               (
                                                some (decide (0 < x0.snap.index)))
                                               (
                                                some false))
                                             (
                                              some (decide (x0.snap.index = 0) && (decide (x0.snap.term = 0) && (decide (x0.snap.sum = 0) && (decide (x0.snap.level = 0) && (decide (x0.snap.final = false)))))))))
                                         (
                                          cond (decide (x0.kind = 5))
                                           (
                                            (m_ref06_Fine x0.snap).bind fun r66 =>
                                            cond r66
                                             (
                                              some (decide (0 < x0.snap.index)))
                                             (
                                              some false))
                                           (
                                            some (decide (x0.snap.index = 0) && (decide (x0.snap.term = 0) && (decide (x0.snap.sum = 0) && (decide (x0.snap.level = 0) && (decide (x0.snap.final = false)))))))))
                                       (
                                        cond (decide (x0.kind = 5))
                                         (
                                          (m_ref06_Fine x0.snap).bind fun r72 =>
                                          cond r72
                                           (
                                            some (decide (0 < x0.snap.index)))
                                           (
                                            some false))
                                         (
                                          some (decide (x0.snap.index = 0) && (decide (x0.snap.term = 0) && (decide (x0.snap.sum = 0) && (decide (x0.snap.level = 0) && (decide (x0.snap.final = false))))))))))))))))))))))))))
def m_ref22_fits (x0 : Co) (x1 : Ms) : Option (Bool) :=
  (m_ref20_Right x0).bind fun r7 =>
  cond r7
   (
    (m_ref20_Fine x1 x0.n).bind fun r9 =>
    cond r9
     (
      some (decide (x1.dst = x0.id)))
     (
      some false))
   (
    some false)
def m_ref21_To (x0 : Co) (x1 : Ms) : Option (Bool) :=
  (m_ref20_Right x0).bind fun r7 =>
  cond r7
   (
    (m_ref20_Fine x1 x0.n).bind fun r9 =>
    cond r9
     (
      some (decide (x1.dst = x0.id)))
     (
      some false))
   (
    some false)
def m_ref21_Hear (x0 : Co) (x1 : Ms) : Option (Co) :=
  (m_ref20_Own x0).bind fun r9 =>
  (m_ref21_To r9 x1).bind fun r33 =>
  cond r33
   (
    (idx r9.caps (IntKind.wrap .i64 (x1.frm - 1))).bind fun e35 =>
    some (⟨r9.id, r9.n, r9.role, r9.binary, r9.tuple, r9.commit, r9.applied, r9.votes, r9.next, r9.mtch, (setI r9.caps (IntKind.wrap .i64 (x1.frm - 1)) x1.cap)⟩ : Co))
   (
    some r9)
def m_ref22_Meet (x0 : Co) (x1 : Ms) : Option (Co) :=
  (m_ref20_Own x0).bind fun r9 =>
  (m_ref22_fits r9 x1).bind fun r33 =>
  cond (!r33)
   (
    some r9)
   (
    (m_ref21_Hear r9 x1).bind fun r37 =>
    cond (decide (x1.term ≤ r37.tuple.term))
     (
      some r37)
     (
      (m_ref12_Hard r37.tuple x1.term 0).bind fun r63 =>
      (makeI false r37.n).bind fun l71 =>
      some (⟨r37.id, r37.n, 0, r37.binary, r63.1, r37.commit, r37.applied, l71, r37.next, r37.mtch, r37.caps⟩ : Co)))
def m_ref22_Voted (x0 : Co) (x1 : Ms) : Option (Co × List Ms) :=
  (m_ref20_Own x0).bind fun r9 =>
  (m_ref22_fits r9 x1).bind fun r33 =>
  cond (!r33)
   (
    some (r9, []))
   (
    cond (decide (x1.kind ≠ 2))
     (
      some (r9, []))
     (
      (m_ref22_Meet r9 x1).bind fun r38 =>
      cond (decide (r38.role ≠ 1))
       (
        some (r38, []))
       (
        cond (decide (x1.term ≠ r38.tuple.term))
         (
          some (r38, []))
         (
          cond (!x1.okk)
           (
            some (r38, []))
           (
            (idx r38.votes (IntKind.wrap .i64 (x1.frm - 1))).bind fun e66 =>
            (m_ref22_Half (setI r38.votes (IntKind.wrap .i64 (x1.frm - 1)) true)).bind fun r71 =>
            cond r71
             (
              (m_ref22_Lead (⟨r38.id, r38.n, r38.role, r38.binary, r38.tuple, r38.commit, r38.applied, (setI r38.votes (IntKind.wrap .i64 (x1.frm - 1)) true), r38.next, r38.mtch, r38.caps⟩ : Co)).bind fun r74 =>
              some (r74, []))
             (
              some ((⟨r38.id, r38.n, r38.role, r38.binary, r38.tuple, r38.commit, r38.applied, (setI r38.votes (IntKind.wrap .i64 (x1.frm - 1)) true), r38.next, r38.mtch, r38.caps⟩ : Co), [])))))))
def m_law24_leads : Option (Co) :=
  (m_ref12_First).bind fun r5 =>
  (m_ref20_New 1 3 2 r5).bind fun r11 =>
  (m_ref22_Timeout r11).bind fun r33 =>
  (m_ref22_Voted r33.1 (⟨2, 2, 1, 1, 2, 0, 0, 0, true, [], (⟨0, 0, 0, 0, false⟩ : St)⟩ : Ms)).bind fun r66 =>
  some r66.1
def m_slices_Clone___api_Entry_api_Entry_ (x0 : List En) : Option (List En) := fewI x0
def m_tuple_Own (x0 : Tu) : Option (Tu) :=
  (m_slices_Clone___api_Entry_api_Entry_ x0.log).bind fun r7 =>
  some (⟨x0.snap, r7, x0.term, x0.vote⟩ : Tu)
def m_slices_Clone___bool_bool_ (x0 : List Bool) : Option (List Bool) := fewI x0
def m_slices_Clone___int_int_ (x0 : List Int) : Option (List Int) := fewI x0
def m_msg_Own (x0 : Co) : Option (Co) :=
  (m_tuple_Own x0.tuple).bind fun r7 =>
  (m_slices_Clone___bool_bool_ x0.votes).bind fun r14 =>
  (m_slices_Clone___int_int_ x0.next).bind fun r20 =>
  (m_slices_Clone___int_int_ x0.mtch).bind fun r26 =>
  (m_slices_Clone___int_int_ x0.caps).bind fun r32 =>
  some (⟨x0.id, x0.n, x0.role, x0.binary, r7, x0.commit, x0.applied, r14, r20, r26, r32⟩ : Co)
def m_tuple_Last (x0 : Tu) : Option (Int) :=
  some (IntKind.wrap .i64 (x0.snap.index + (x0.log.length : Int)))
def m_msg_within (x0 : Int) (x1 : Int) (x2 : Int) : Option (Bool) :=
  cond (decide (x1 ≤ x0))
   (
    some (decide (x0 ≤ x2)))
   (
    some false)
def m_msg_each_l1 (x0 : List Int) (x2 : Int) (x3 : Int) : Nat → Int → Int → Option (Bool)
  | 0, _, _ => none
  | n + 1, v12, v13 =>
      cond (decide (v13 < (x0.length : Int)))
       (
        (idx x0 v13).bind fun e19 =>
        (m_msg_within e19 x2 x3).bind fun r24 =>
        cond (!r24)
         (
          some (!(decide (0 ≤ v13))))
         (
          m_msg_each_l1 x0 x2 x3 n v12 (IntKind.wrap .i64 (v13 + 1))))
       (
        some (!(decide (0 ≤ (-1)))))
def m_msg_each (x0 : List Int) (x1 : Int) (x2 : Int) (x3 : Int) : Option (Bool) :=
  cond (decide ((x0.length : Int) = x1))
   (
    m_msg_each_l1 x0 x2 x3 fuelN 0 0)
   (
    some false)
def m_msg_Right (x0 : Co) : Option (Bool) :=
  (m_tuple_Last x0.tuple).bind fun r5 =>
  (m_msg_within x0.n 1 5).bind fun r18 =>
  cond r18
   (
    (m_msg_within x0.id 1 x0.n).bind fun r20 =>
    cond (!r20)
     (
      some false)
     (
      cond (decide (x0.role ≤ 2))
       (
        (m_msg_within x0.binary 1 2).bind fun r30 =>
        cond r30
         (
          (m_tuple_Right x0.tuple).bind fun r32 =>
          cond (!r32)
           (
            some false)
           (
            (m_tuple_State x0.tuple x0.commit).bind fun r42 =>
            cond r42.2
             (
              cond (!(decide (r42.1.index = x0.applied.index) && (decide (r42.1.term = x0.applied.term) && (decide (r42.1.sum = x0.applied.sum) && (decide (r42.1.level = x0.applied.level) && (decide (r42.1.final = x0.applied.final)))))))
               (
                some false)
               (
                cond (decide ((x0.votes.length : Int) = x0.n))
                 (
                  (m_msg_each x0.next x0.n 1 (IntKind.wrap .i64 (r5 + 1))).bind fun r55 =>
                  cond r55
                   (
                    (m_msg_each x0.mtch x0.n 0 r5).bind fun r57 =>
                    cond (!r57)
                     (
                      some false)
                     (
                      (m_msg_each x0.caps x0.n 0 2).bind fun r67 =>
                      cond r67
                       (
                        (idx x0.caps (IntKind.wrap .i64 (x0.id - 1))).bind fun e69 =>
                        cond (!(decide (e69 = x0.binary)))
                         (
                          some false)
                         (
                          cond (decide (x0.role = 0))
                           (
                            some true)
                           (
                            cond (decide (0 < x0.tuple.term))
                             (
                              cond (!(decide (x0.tuple.vote = x0.id)))
                               (
                                some false)
                               (
                                some true))
                             (
                              some false))))
                       (
                        some false)))
                   (
                    some false))
                 (
                  some false)))
             (
              some false)))
         (
          some false))
       (
        some false)))
   (
    some false)
def m_tuple_At (x0 : Tu) (x1 : Int) : Option (En × Bool) :=
  cond (decide (x1 ≤ x0.snap.index))
   (
    some ((⟨0, 0, 0⟩ : En), false))
   (
    (m_tuple_Last x0).bind fun r9 =>
    cond (decide (r9 < x1))
     (
      some ((⟨0, 0, 0⟩ : En), false))
     (
      (idx x0.log (IntKind.wrap .i64 ((IntKind.wrap .i64 (x1 - x0.snap.index)) - 1))).bind fun e13 =>
      some (e13, true)))
def m_tuple_TermAt (x0 : Tu) (x1 : Int) : Option (Int × Bool) :=
  cond (decide (x1 = x0.snap.index))
   (
    some (x0.snap.term, true))
   (
    (m_tuple_At x0 x1).bind fun r8 =>
    some (r8.1.term, r8.2))

def m_commit_Had_r1 : List (Int) → Int → Option (Int)
  | [], v20 =>
      some v20
  | e19 :: l0, v20 =>
      m_commit_Had_r1 l0 (IntKind.wrap .i64 (v20 + 1))
def m_commit_Had (x0 : Co) (x1 : Int) : Option (Int) :=
  (m_msg_Right x0).bind fun r8 =>
  cond (!r8)
   (
    some 0)
   (
    (m_it_having x0 x1).bind fun xs21 =>
    m_commit_Had_r1 xs21 0)
def m_commit_May_l1 (x0 : Co) : Nat → Int → Int → Option (Int)
  | 0, _, _ => none
  | n + 1, v4, v5 =>
      cond (decide (v5 ≤ x0.commit))
       (
        some x0.commit)
       (
        (m_tuple_TermAt x0.tuple v5).bind fun r12 =>
        cond r12.2
         (
          cond (decide (r12.1 = x0.tuple.term))
           (
            (m_commit_Had x0 v5).bind fun r15 =>
            cond (decide (x0.n < (IntKind.wrap .i64 (2 * r15))))
             (
              some v5)
             (
              m_commit_May_l1 x0 n v4 (IntKind.wrap .i64 (v5 - 1))))
           (
            m_commit_May_l1 x0 n v4 (IntKind.wrap .i64 (v5 - 1))))
         (
          m_commit_May_l1 x0 n v4 (IntKind.wrap .i64 (v5 - 1))))
def m_commit_May (x0 : Co) : Option (Int) :=
  (m_tuple_Last x0.tuple).bind fun r22 =>
  cond (decide (x0.role ≠ 2))
   (
    some x0.commit)
   (
    (m_msg_Right x0).bind fun r27 =>
    cond (!r27)
     (
      some x0.commit)
     (
      cond (decide (r22 ≤ x0.commit))
       (
        some x0.commit)
       (
        (m_tuple_TermAt x0.tuple r22).bind fun r36 =>
        cond r36.2
         (
          cond (decide (r36.1 = x0.tuple.term))
           (
            (m_commit_Had x0 r22).bind fun r39 =>
            cond (decide (x0.n < (IntKind.wrap .i64 (2 * r39))))
             (
              some r22)
             (
              m_commit_May_l1 x0 fuelN 0 (IntKind.wrap .i64 (r22 - 1))))
           (
            m_commit_May_l1 x0 fuelN 0 (IntKind.wrap .i64 (r22 - 1))))
         (
          m_commit_May_l1 x0 fuelN 0 (IntKind.wrap .i64 (r22 - 1))))))
def m_commit_To (x0 : Co) (x1 : Int) : Option (Co) :=
  (m_msg_Own x0).bind fun r7 =>
  cond (decide (r7.commit < x1))
   (
    (m_msg_Right r7).bind fun r31 =>
    cond r31
     (
      (m_tuple_Last r7.tuple).bind fun r34 =>
      (m_tuple_State r7.tuple (min x1 r34)).bind fun r36 =>
      some (⟨r7.id, r7.n, r7.role, r7.binary, r7.tuple, (min x1 r34), r36.1, r7.votes, r7.next, r7.mtch, r7.caps⟩ : Co))
     (
      some r7))
   (
    some r7)
def m_commit_Advance (x0 : Co) : Option (Co) :=
  (m_commit_May x0).bind fun r7 =>
  (m_commit_To x0 r7).bind fun r9 =>
  some r9
def m_commit_Client (x0 : Co) (x1 : Int) (x2 : Int) : Option (Co × Int) :=
  (m_msg_Own x0).bind fun r7 =>
  (m_level_Check x1 r7.applied r7.caps).bind fun r42 =>
  (m_entry_Right (⟨r7.tuple.term, x1, x2⟩ : En)).bind fun r56 =>
  cond (!r56)
   (
    some (r7, 2))
   (
    (m_msg_Right r7).bind fun r59 =>
    cond (!r59)
     (
      some (r7, 2))
     (
      cond (decide (r7.role ≠ 2))
       (
        some (r7, 220))
       (
        cond (decide (r42 ≠ 0))
         (
          some (r7, r42))
         (
          (m_tuple_Append r7.tuple ([(⟨r7.tuple.term, x1, x2⟩ : En)] : List En)).bind fun r87 =>
          cond (decide (r87.2 ≠ 0))
           (
            some (r7, 270))
           (
            (m_tuple_Last r87.1).bind fun r99 =>
            (idx r7.mtch (IntKind.wrap .i64 (r7.id - 1))).bind fun e101 =>
            (m_commit_Advance (⟨r7.id, r7.n, r7.role, r7.binary, r87.1, r7.commit, r7.applied, r7.votes, r7.next, (setI r7.mtch (IntKind.wrap .i64 (r7.id - 1)) r99), r7.caps⟩ : Co)).bind fun r105 =>
            some (r105, 0))))))
def m_level_Stage (x0 : St) : Option (Int) :=
  cond (decide (x0.level ≠ 2))
   (
    some 0)
   (
    cond x0.final
     (
      some 2)
     (
      some 1))
def m_level_Format (x0 : St) (x1 : Int) : Option (Int) :=
  (m_level_Stage x0).bind fun r5 =>
  some (min (max x1 1) (min (IntKind.wrap .i64 (1 + r5)) 2))
def m_commit_Format (x0 : Co) : Option (Int) :=
  (m_level_Format x0.applied x0.binary).bind fun r5 =>
  some r5
def m_law24_wakes : Option (Bool) :=
  (m_law24_leads).bind fun r3 =>
  (m_ref12_First).bind fun r28 =>
  (m_ref20_New 1 3 2 r28).bind fun r34 =>
  (m_commit_Client r34 1 1).bind fun r56 =>
  (m_ref12_First).bind fun r81 =>
  (m_ref12_Hard r81 1 0).bind fun r87 =>
  (m_ref20_New 1 3 2 r87.1).bind fun r96 =>
  (m_commit_Client r96 1 1).bind fun r118 =>
  (m_commit_Client r3 2 0).bind fun r143 =>
  (idx r3.caps 2).bind fun e168 =>
  (m_commit_Client (⟨r3.id, r3.n, r3.role, r3.binary, r3.tuple, r3.commit, r3.applied, r3.votes, r3.next, r3.mtch, (setI r3.caps 2 2)⟩ : Co) 2 0).bind fun r172 =>
  cond (decide ((r172.1.mtch.length : Int) ≠ 3))
   (
    some false)
   (
    (idx r172.1.mtch 1).bind fun e201 =>
    (m_commit_Advance (⟨r172.1.id, r172.1.n, r172.1.role, r172.1.binary, r172.1.tuple, r172.1.commit, r172.1.applied, r172.1.votes, r172.1.next, (setI r172.1.mtch 1 2), r172.1.caps⟩ : Co)).bind fun r205 =>
    (m_commit_Client (⟨r3.id, r3.n, r3.role, r3.binary, r3.tuple, r3.commit, r3.applied, r3.votes, r3.next, r3.mtch, (setI r3.caps 2 2)⟩ : Co) 4 0).bind fun r230 =>
    cond (decide (r56.2 = 2))
     (
      cond (decide (r118.2 = 220))
       (
        cond (decide (r143.2 = 221))
         (
          cond (decide (r172.2 = 0))
           (
            cond (decide (r172.1.commit = 0))
             (
              cond (decide ((r172.1.tuple.log.length : Int) = 2))
               (
                cond (decide (r205.commit = 2))
                 (
                  cond (decide (r205.applied.level = 2))
                   (
                    (m_commit_Format r205).bind fun r255 =>
                    cond (decide (r255 = 2))
                     (
                      (m_commit_Format (⟨r3.id, r3.n, r3.role, r3.binary, r3.tuple, r3.commit, r3.applied, r3.votes, r3.next, r3.mtch, (setI r3.caps 2 2)⟩ : Co)).bind fun r257 =>
                      cond (decide (r257 = 1))
                       (
                        cond (decide (r230.2 = 223))
                         (
                          (m_commit_Had (⟨r172.1.id, r172.1.n, r172.1.role, r172.1.binary, r172.1.tuple, r172.1.commit, r172.1.applied, r172.1.votes, r172.1.next, (setI r172.1.mtch 1 2), r172.1.caps⟩ : Co) 2).bind fun r259 =>
                          cond (decide (r259 = 2))
                           (
                            (m_commit_May (⟨r172.1.id, r172.1.n, r172.1.role, r172.1.binary, r172.1.tuple, r172.1.commit, r172.1.applied, r172.1.votes, r172.1.next, (setI r172.1.mtch 1 2), r172.1.caps⟩ : Co)).bind fun r261 =>
                            cond (decide (r261 = 2))
                             (
                              (m_commit_To (⟨r3.id, r3.n, r3.role, r3.binary, r3.tuple, r3.commit, r3.applied, r3.votes, r3.next, r3.mtch, (setI r3.caps 2 2)⟩ : Co) 9).bind fun r263 =>
                              some (decide (r263.commit = 1)))
                             (
                              some false))
                           (
                            some false))
                         (
                          some false))
                       (
                        some false))
                     (
                      some false))
                   (
                    some false))
                 (
                  some false))
               (
                some false))
             (
              some false))
           (
            some false))
         (
          some false))
       (
        some false))
     (
      some false))
def m_ref06_Same_l1 (x0 : List En) (x1 : List En) : Nat → Bool → Int → Option (Bool)
  | 0, _, _ => none
  | n + 1, v7, v8 =>
      cond (decide (v8 < (x0.length : Int)))
       (
        (idx x0 v8).bind fun e13 =>
        (idx x1 v8).bind fun e16 =>
        cond (!(decide (e13.term = e16.term) && (decide (e13.kind = e16.kind) && (decide (e13.value = e16.value)))))
         (
          some false)
         (
          m_ref06_Same_l1 x0 x1 n v7 (IntKind.wrap .i64 (v8 + 1))))
       (
        some true)
def m_ref06_Same (x0 : List En) (x1 : List En) : Option (Bool) :=
  cond (decide ((x0.length : Int) ≠ (x1.length : Int)))
   (
    some false)
   (
    m_ref06_Same_l1 x0 x1 fuelN false 0)
def m_ref12_Same (x0 : Tu) (x1 : Tu) : Option (Bool) :=
  cond (decide (x0.snap.index = x1.snap.index) && (decide (x0.snap.term = x1.snap.term) && (decide (x0.snap.sum = x1.snap.sum) && (decide (x0.snap.level = x1.snap.level) && (decide (x0.snap.final = x1.snap.final))))))
   (
    cond (decide (x0.term = x1.term))
     (
      cond (decide (x0.vote = x1.vote))
       (
        (m_ref06_Same x0.log x1.log).bind fun r7 =>
        some r7)
       (
        some false))
     (
      some false))
   (
    some false)
def m_ref20_ints_l1 (x0 : List Int) (x1 : List Int) : Nat → Bool → Int → Option (Bool)
  | 0, _, _ => none
  | n + 1, v7, v8 =>
      cond (decide (v8 < (x0.length : Int)))
       (
        (idx x0 v8).bind fun e13 =>
        (idx x1 v8).bind fun e16 =>
        cond (decide (e13 ≠ e16))
         (
          some false)
         (
          m_ref20_ints_l1 x0 x1 n v7 (IntKind.wrap .i64 (v8 + 1))))
       (
        some true)
def m_ref20_ints (x0 : List Int) (x1 : List Int) : Option (Bool) :=
  cond (decide ((x0.length : Int) ≠ (x1.length : Int)))
   (
    some false)
   (
    m_ref20_ints_l1 x0 x1 fuelN false 0)
def m_ref20_Same_l1 (x0 : Co) (x1 : Co) : Nat → Bool → Int → Option (Bool)
  | 0, _, _ => none
  | n + 1, v20, v21 =>
      cond (decide (v21 < (x0.votes.length : Int)))
       (
        (idx x0.votes v21).bind fun e26 =>
        (idx x1.votes v21).bind fun e29 =>
        cond (decide (e26 ≠ e29))
         (
          some false)
         (
          m_ref20_Same_l1 x0 x1 n v20 (IntKind.wrap .i64 (v21 + 1))))
       (
        (m_ref20_ints x0.next x1.next).bind fun r34 =>
        cond r34
         (
          (m_ref20_ints x0.mtch x1.mtch).bind fun r36 =>
          cond r36
           (
            (m_ref20_ints x0.caps x1.caps).bind fun r38 =>
            some r38)
           (
            some false))
         (
          some false))
def m_ref20_Same (x0 : Co) (x1 : Co) : Option (Bool) :=
  cond (decide (x0.id ≠ x1.id))
   (
    some false)
   (
    cond (decide (x0.n ≠ x1.n))
     (
      some false)
     (
      cond (decide (x0.role ≠ x1.role))
       (
        some false)
       (
        cond (decide (x0.binary ≠ x1.binary))
         (
          some false)
         (
          (m_ref12_Same x0.tuple x1.tuple).bind fun r12 =>
          cond (!r12)
           (
            some false)
           (
            cond (decide (x0.commit ≠ x1.commit))
             (
              some false)
             (
              cond (!(decide (x0.applied.index = x1.applied.index) && (decide (x0.applied.term = x1.applied.term) && (decide (x0.applied.sum = x1.applied.sum) && (decide (x0.applied.level = x1.applied.level) && (decide (x0.applied.final = x1.applied.final)))))))
               (
                some false)
               (
                cond (decide ((x0.votes.length : Int) ≠ (x1.votes.length : Int)))
                 (
                  some false)
                 (
                  m_ref20_Same_l1 x0 x1 fuelN false 0))))))))
def m_law24_CommitRight (x0 : Co) (x1 : Int) (x2 : Int) (x3 : Int) : Option (Bool) :=
  (m_law24_great x0).bind fun r6 =>
  cond r6
   (
    (m_law24_wakes).bind fun r9 =>
    some r9)
   (
    (m_ref20_Right x0).bind fun r11 =>
    cond (!r11)
     (
      (m_law24_wakes).bind fun r14 =>
      some r14)
     (
      (m_commit_Advance x0).bind fun r17 =>
      (m_commit_To x0 x1).bind fun r39 =>
      (m_commit_Client x0 x2 x3).bind fun r68 =>
      (m_ref20_Right r17).bind fun r94 =>
      cond (!r94)
       (
        some false)
       (
        (m_ref20_Right r39).bind fun r97 =>
        cond (!r97)
         (
          some false)
         (
          (m_ref20_Right r68.1).bind fun r100 =>
          cond (!r100)
           (
            some false)
           (
            cond (decide ((min (min r17.commit r39.commit) r68.1.commit) < x0.commit))
             (
              some false)
             (
              (m_ref12_Same r17.tuple x0.tuple).bind fun r104 =>
              cond (!r104)
               (
                some false)
               (
                (m_ref12_Same r39.tuple x0.tuple).bind fun r107 =>
                cond (!r107)
                 (
                  some false)
                 (
                  cond (decide (r68.2 ≠ 0))
                   (
                    (m_ref20_Same x0 r68.1).bind fun r113 =>
                    cond r113
                     (
                      (m_law24_wakes).bind fun r115 =>
                      some r115)
                     (
                      some false))
                   (
                    (m_ref12_Last x0.tuple).bind fun r118 =>
                    (m_ref12_At r68.1.tuple (IntKind.wrap .i64 (r118 + 1))).bind fun r120 =>
                    cond (decide (x0.role = 2))
                     (
                      cond r120.2
                       (
                        cond (decide (r120.1.term = x0.tuple.term) && (decide (r120.1.kind = x2) && (decide (r120.1.value = x3))))
                         (
                          cond (decide ((r68.1.tuple.log.length : Int) = (IntKind.wrap .i64 ((x0.tuple.log.length : Int) + 1))))
                           (
                            (takeI r68.1.tuple.log (x0.tuple.log.length : Int)).bind fun l127 =>
                            (m_ref06_Same l127 x0.tuple.log).bind fun r129 =>
                            cond r129
                             (
                              cond (decide (r68.1.role = x0.role))
                               (
                                cond (decide (r68.1.tuple.snap.index = x0.tuple.snap.index) && (decide (r68.1.tuple.snap.term = x0.tuple.snap.term) && (decide (r68.1.tuple.snap.sum = x0.tuple.snap.sum) && (decide (r68.1.tuple.snap.level = x0.tuple.snap.level) && (decide (r68.1.tuple.snap.final = x0.tuple.snap.final))))))
                                 (
                                  (m_law24_wakes).bind fun r131 =>
                                  some r131)
                                 (
                                  some false))
                               (
                                some false))
                             (
                              some false))
                           (
                            some false))
                         (
                          some false))
                       (
                        some false))
                     (
                      some false))))))))))
def m_law24_CommitHalf_l2 (kk2 : Bool → Int → Option (Bool)) (x0 : Co) (r17 : Co) (v48 : Bool) (v49 : Int) : Nat → Int → Int → Option (Bool)
  | 0, _, _ => none
  | n2 + 1, v58, v59 =>
      cond (decide (v59 < x0.n))
       (
        (idx x0.mtch v59).bind fun e64 =>
        cond (decide (v49 ≤ e64))
         (
          m_law24_CommitHalf_l2 kk2 x0 r17 v48 v49 n2 (IntKind.wrap .i64 (v58 + 1)) (IntKind.wrap .i64 (v59 + 1)))
         (
          m_law24_CommitHalf_l2 kk2 x0 r17 v48 v49 n2 v58 (IntKind.wrap .i64 (v59 + 1))))
       (
        (m_ref12_TermAt x0.tuple v49).bind fun r68 =>
        cond (decide (x0.n < (IntKind.wrap .i64 (2 * v58))))
         (
          cond (decide (r17.commit < v49))
           (
            cond (decide (r68.1 = x0.tuple.term))
             (
              some false)
             (
              cond (decide (v49 = r17.commit))
               (
                cond (!(decide (r68.1 = x0.tuple.term)))
                 (
                  some false)
                 (
                  (m_commit_Had x0 v49).bind fun r74 =>
                  cond (decide (r74 ≠ v58))
                   (
                    some false)
                   (
                    kk2 v48 (IntKind.wrap .i64 (v49 + 1)))))
               (
                (m_commit_Had x0 v49).bind fun r77 =>
                cond (decide (r77 ≠ v58))
                 (
                  some false)
                 (
                  kk2 v48 (IntKind.wrap .i64 (v49 + 1))))))
           (
            cond (decide (v49 = r17.commit))
             (
              cond (!(decide (r68.1 = x0.tuple.term)))
               (
                some false)
               (
                (m_commit_Had x0 v49).bind fun r81 =>
                cond (decide (r81 ≠ v58))
                 (
                  some false)
                 (
                  kk2 v48 (IntKind.wrap .i64 (v49 + 1)))))
             (
              (m_commit_Had x0 v49).bind fun r84 =>
              cond (decide (r84 ≠ v58))
               (
                some false)
               (
                kk2 v48 (IntKind.wrap .i64 (v49 + 1))))))
         (
          cond (decide (r17.commit < v49))
           (
            cond (decide (v49 = r17.commit))
             (
              some false)
             (
              (m_commit_Had x0 v49).bind fun r89 =>
              cond (decide (r89 ≠ v58))
               (
                some false)
               (
                kk2 v48 (IntKind.wrap .i64 (v49 + 1)))))
           (
            cond (decide (v49 = r17.commit))
             (
              some false)
             (
              (m_commit_Had x0 v49).bind fun r93 =>
              cond (decide (r93 ≠ v58))
               (
                some false)
               (
                kk2 v48 (IntKind.wrap .i64 (v49 + 1)))))))
def m_law24_CommitHalf_l1 (x0 : Co) (r17 : Co) : Nat → Bool → Int → Option (Bool)
  | 0, _, _ => none
  | n + 1, v48, v49 =>
      (m_ref12_Last x0.tuple).bind fun r52 =>
      cond (decide (v49 ≤ r52))
       (
        m_law24_CommitHalf_l2 (m_law24_CommitHalf_l1 x0 r17 n) x0 r17 v48 v49 fuelN 0 0)
       (
        (m_law24_wakes).bind fun r97 =>
        some r97)
def m_law24_CommitHalf (x0 : Co) : Option (Bool) :=
  (m_law24_great x0).bind fun r6 =>
  cond r6
   (
    (m_law24_wakes).bind fun r9 =>
    some r9)
   (
    (m_ref20_Right x0).bind fun r11 =>
    cond (!r11)
     (
      (m_law24_wakes).bind fun r14 =>
      some r14)
     (
      (m_commit_Advance x0).bind fun r17 =>
      cond (decide (x0.role ≠ 2))
       (
        cond (decide (r17.commit = x0.commit))
         (
          (m_law24_wakes).bind fun r44 =>
          some r44)
         (
          some false))
       (
        m_law24_CommitHalf_l1 x0 r17 fuelN false (IntKind.wrap .i64 (x0.commit + 1)))))
def m_law24_CommitLevels_l1 (x0 : Co) (r20 : Co × Int) (r45 : Co × Int) (r70 : Co × Int) (r175 : Co × Int) : Nat → Bool → Int → Option (Bool)
  | 0, _, _ => none
  | n + 1, v202, v203 =>
      cond (decide (v203 < x0.n))
       (
        cond v202
         (
          (idx x0.caps v203).bind fun e207 =>
          m_law24_CommitLevels_l1 x0 r20 r45 r70 r175 n (decide (e207 = 2)) (IntKind.wrap .i64 (v203 + 1)))
         (
          m_law24_CommitLevels_l1 x0 r20 r45 r70 r175 n false (IntKind.wrap .i64 (v203 + 1))))
       (
        cond (decide (r175.2 ≠ 2))
         (
          some false)
         (
          cond (decide ((decide (r20.2 = 221)) ≠ (!v202)))
           (
            some false)
           (
            cond v202
             (
              cond (!(decide (200 ≤ (x0.tuple.log.length : Int))))
               (
                cond (decide (r20.2 ≠ 0))
                 (
                  some false)
                 (
                  cond x0.applied.final
                   (
                    cond (decide (r45.2 = 222))
                     (
                      cond (decide (r70.2 = 222))
                       (
                        (m_law24_wakes).bind fun r219 =>
                        some r219)
                       (
                        some false))
                     (
                      some false))
                   (
                    cond (decide ((decide (r45.2 = 0)) = (!(decide (200 ≤ (x0.tuple.log.length : Int))))))
                     (
                      cond (decide ((decide (r70.2 = 223)) = (decide (x0.applied.level = 1))))
                       (
                        (m_law24_wakes).bind fun r222 =>
                        some r222)
                       (
                        some false))
                     (
                      some false))))
               (
                cond x0.applied.final
                 (
                  cond (decide (r45.2 = 222))
                   (
                    cond (decide (r70.2 = 222))
                     (
                      (m_law24_wakes).bind fun r227 =>
                      some r227)
                     (
                      some false))
                   (
                    some false))
                 (
                  cond (decide ((decide (r45.2 = 0)) = (!(decide (200 ≤ (x0.tuple.log.length : Int))))))
                   (
                    cond (decide ((decide (r70.2 = 223)) = (decide (x0.applied.level = 1))))
                     (
                      (m_law24_wakes).bind fun r230 =>
                      some r230)
                     (
                      some false))
                   (
                    some false))))
             (
              cond x0.applied.final
               (
                cond (decide (r45.2 = 222))
                 (
                  cond (decide (r70.2 = 222))
                   (
                    (m_law24_wakes).bind fun r235 =>
                    some r235)
                   (
                    some false))
                 (
                  some false))
               (
                cond (decide ((decide (r45.2 = 0)) = (!(decide (200 ≤ (x0.tuple.log.length : Int))))))
                 (
                  cond (decide ((decide (r70.2 = 223)) = (decide (x0.applied.level = 1))))
                   (
                    (m_law24_wakes).bind fun r238 =>
                    some r238)
                   (
                    some false))
                 (
                  some false))))))
def m_law24_CommitLevels_l2 (x0 : Co) (r20 : Co × Int) (r45 : Co × Int) (r70 : Co × Int) (r242 : Co × Int) : Nat → Bool → Int → Option (Bool)
  | 0, _, _ => none
  | n + 1, v269, v270 =>
      cond (decide (v270 < x0.n))
       (
        cond v269
         (
          (idx x0.caps v270).bind fun e274 =>
          m_law24_CommitLevels_l2 x0 r20 r45 r70 r242 n (decide (e274 = 2)) (IntKind.wrap .i64 (v270 + 1)))
         (
          m_law24_CommitLevels_l2 x0 r20 r45 r70 r242 n false (IntKind.wrap .i64 (v270 + 1))))
       (
        cond (decide (r242.2 ≠ 2))
         (
          some false)
         (
          cond (decide ((decide (r20.2 = 221)) ≠ (!v269)))
           (
            some false)
           (
            cond v269
             (
              cond (!(decide (200 ≤ (x0.tuple.log.length : Int))))
               (
                cond (decide (r20.2 ≠ 0))
                 (
                  some false)
                 (
                  cond x0.applied.final
                   (
                    cond (decide (r45.2 = 222))
                     (
                      cond (decide (r70.2 = 222))
                       (
                        (m_law24_wakes).bind fun r286 =>
                        some r286)
                       (
                        some false))
                     (
                      some false))
                   (
                    cond (decide ((decide (r45.2 = 0)) = (!(decide (200 ≤ (x0.tuple.log.length : Int))))))
                     (
                      cond (decide ((decide (r70.2 = 223)) = (decide (x0.applied.level = 1))))
                       (
                        (m_law24_wakes).bind fun r289 =>
                        some r289)
                       (
                        some false))
                     (
                      some false))))
               (
                cond x0.applied.final
                 (
                  cond (decide (r45.2 = 222))
                   (
                    cond (decide (r70.2 = 222))
                     (
                      (m_law24_wakes).bind fun r294 =>
                      some r294)
                     (
                      some false))
                   (
                    some false))
                 (
                  cond (decide ((decide (r45.2 = 0)) = (!(decide (200 ≤ (x0.tuple.log.length : Int))))))
                   (
                    cond (decide ((decide (r70.2 = 223)) = (decide (x0.applied.level = 1))))
                     (
                      (m_law24_wakes).bind fun r297 =>
                      some r297)
                     (
                      some false))
                   (
                    some false))))
             (
              cond x0.applied.final
               (
                cond (decide (r45.2 = 222))
                 (
                  cond (decide (r70.2 = 222))
                   (
                    (m_law24_wakes).bind fun r302 =>
                    some r302)
                   (
                    some false))
                 (
                  some false))
               (
                cond (decide ((decide (r45.2 = 0)) = (!(decide (200 ≤ (x0.tuple.log.length : Int))))))
                 (
                  cond (decide ((decide (r70.2 = 223)) = (decide (x0.applied.level = 1))))
                   (
                    (m_law24_wakes).bind fun r305 =>
                    some r305)
                   (
                    some false))
                 (
                  some false))))))
def m_law24_CommitLevels (x0 : Co) (x1 : Int) : Option (Bool) :=
  (m_law24_great x0).bind fun r6 =>
  cond r6
   (
    (m_law24_wakes).bind fun r9 =>
    some r9)
   (
    (m_ref20_Right x0).bind fun r11 =>
    cond (!r11)
     (
      (m_law24_wakes).bind fun r14 =>
      some r14)
     (
      cond (decide (x0.role ≠ 2))
       (
        (m_law24_wakes).bind fun r17 =>
        some r17)
       (
        (m_commit_Client x0 2 0).bind fun r20 =>
        (m_commit_Client x0 3 0).bind fun r45 =>
        (m_commit_Client x0 4 0).bind fun r70 =>
        (m_commit_Client x0 2 1).bind fun r95 =>
        (m_commit_Client x0 5 0).bind fun r120 =>
        (m_commit_Client x0 1 x1).bind fun r145 =>
        cond (decide (r95.2 ≠ 2))
         (
          some false)
         (
          cond (decide (r120.2 ≠ 2))
           (
            some false)
           (
            cond (decide (x1 < 0))
             (
              cond (decide ((decide (r145.2 = 2)) ≠ true))
               (
                some false)
               (
                (m_commit_Client x0 0 0).bind fun r175 =>
                m_law24_CommitLevels_l1 x0 r20 r45 r70 r175 fuelN true 0))
             (
              cond (decide ((decide (r145.2 = 2)) ≠ (decide (1073741824 < x1))))
               (
                some false)
               (
                (m_commit_Client x0 0 0).bind fun r242 =>
                m_law24_CommitLevels_l2 x0 r20 r45 r70 r242 fuelN true 0)))))))
def m_law24_CommitAlone_l1 (x0 : List Int) (x1 : Int) : Nat → Bool → Int → Int → Int → Int → Int → Int → Int → Int → Int → Bool → List En → Int → Int → Int → Int → Int → Int → Int → Bool → List Bool → List Int → List Int → List Int → Option (Bool)
  | 0, _, _, _, _, _, _, _, _, _, _, _, _, _, _, _, _, _, _, _, _, _, _, _, _ => none
  | n + 1, v99, v100, v101, v102, v103, v104, v105, v106, v107, v108, v109, v110, v114, v115, v116, v117, v118, v119, v120, v121, v122, v126, v130, v134 =>
      cond (decide (v100 < (x0.length : Int)))
       (
        (idx x0 v100).bind fun e143 =>
        cond (decide (e143 < 0))
         (
          (m_law24_wakes).bind fun r147 =>
          some r147)
         (
          (idx x0 v100).bind fun e149 =>
          cond (decide (1073741824 < e149))
           (
            (m_law24_wakes).bind fun r153 =>
            some r153)
           (
            (idx x0 v100).bind fun e156 =>
            (m_commit_Client (⟨v101, v102, v103, v104, (⟨(⟨v105, v106, v107, v108, v109⟩ : St), v110, v114, v115⟩ : Tu), v116, (⟨v117, v118, v119, v120, v121⟩ : St), v122, v126, v130, v134⟩ : Co) 1 e156).bind fun r159 =>
            cond (decide (r159.2 ≠ 0))
             (
              some false)
             (
              cond (decide (r159.1.commit ≠ (IntKind.wrap .i64 (v116 + 1))))
               (
                some false)
               (
                cond (decide (r159.1.applied.index ≠ r159.1.commit))
                 (
                  some false)
                 (
                  (idx x0 v100).bind fun e189 =>
                  (m_ref06_Next (⟨v117, v118, v119, v120, v121⟩ : St) (⟨1, 1, e189⟩ : En)).bind fun r192 =>
                  cond (!(decide (r159.1.applied.index = r192.index) && (decide (r159.1.applied.term = r192.term) && (decide (r159.1.applied.sum = r192.sum) && (decide (r159.1.applied.level = r192.level) && (decide (r159.1.applied.final = r192.final)))))))
                   (
                    some false)
                   (
                    m_law24_CommitAlone_l1 x0 x1 n v99 (IntKind.wrap .i64 (v100 + 1)) r159.1.id r159.1.n r159.1.role r159.1.binary r159.1.tuple.snap.index r159.1.tuple.snap.term r159.1.tuple.snap.sum r159.1.tuple.snap.level r159.1.tuple.snap.final r159.1.tuple.log r159.1.tuple.term r159.1.tuple.vote r159.1.commit r159.1.applied.index r159.1.applied.term r159.1.applied.sum r159.1.applied.level r159.1.applied.final r159.1.votes r159.1.next r159.1.mtch r159.1.caps)))))))
       (
        (m_commit_Client (⟨v101, v102, v103, v104, (⟨(⟨v105, v106, v107, v108, v109⟩ : St), v110, v114, v115⟩ : Tu), v116, (⟨v117, v118, v119, v120, v121⟩ : St), v122, v126, v130, v134⟩ : Co) 2 0).bind fun r196 =>
        cond (decide (x1 = 1))
         (
          cond (decide (r196.2 = 221))
           (
            (m_commit_Format (⟨v101, v102, v103, v104, (⟨(⟨v105, v106, v107, v108, v109⟩ : St), v110, v114, v115⟩ : Tu), v116, (⟨v117, v118, v119, v120, v121⟩ : St), v122, v126, v130, v134⟩ : Co)).bind fun r223 =>
            cond (decide (r223 = 1))
             (
              (m_law24_wakes).bind fun r225 =>
              some r225)
             (
              some false))
           (
            some false))
         (
          (m_commit_Client r196.1 4 0).bind fun r228 =>
          (m_commit_Client r228.1 3 0).bind fun r253 =>
          cond (decide (r196.2 = 0))
           (
            (m_commit_Format r196.1).bind fun r278 =>
            cond (decide (r278 = 2))
             (
              cond (decide (r228.2 = 0))
               (
                cond r228.1.applied.final
                 (
                  cond (decide (r253.2 = 222))
                   (
                    (m_law24_wakes).bind fun r280 =>
                    some r280)
                   (
                    some false))
                 (
                  some false))
               (
                some false))
             (
              some false))
           (
            some false)))
def m_law24_CommitAlone (x0 : List Int) (x1 : Int) : Option (Bool) :=
  cond (decide (30 < (x0.length : Int)))
   (
    (m_law24_wakes).bind fun r5 =>
    some r5)
   (
    cond (decide (x1 < 1))
     (
      (m_law24_wakes).bind fun r8 =>
      some r8)
     (
      cond (decide (2 < x1))
       (
        (m_law24_wakes).bind fun r11 =>
        some r11)
       (
        (m_ref12_First).bind fun r14 =>
        (m_ref20_New 1 1 x1 r14).bind fun r20 =>
        (m_ref22_Timeout r20).bind fun r42 =>
        (m_commit_Advance r42.1).bind fun r75 =>
        m_law24_CommitAlone_l1 x0 x1 fuelN false 0 r75.id r75.n r75.role r75.binary r75.tuple.snap.index r75.tuple.snap.term r75.tuple.snap.sum r75.tuple.snap.level r75.tuple.snap.final r75.tuple.log r75.tuple.term r75.tuple.vote r75.commit r75.applied.index r75.applied.term r75.applied.sum r75.applied.level r75.applied.final r75.votes r75.next r75.mtch r75.caps)))
end Go.Proofs.YtenagnncpaabdaaGreat
