/- Texts of one claim put together: what its walks share. -/
import Derived.Test.YtohkkncfofomdaaMh1
import Derived.Test.YtohkkncfofomdaaMh0
import Derived.Deep.DeepCutAuto
/- The walks of tuples: what changes one. -/
namespace Go.Proofs.Ytohkkncfofomdaa
open Go Go.RowKit
set_option maxRecDepth 100000

/-- What lies in a tuple's block. -/
def TB (w : World) (b : Nat) (x : Tu) (A : Option Addr) (c : Nat) : Prop := w.heap[b]? = some (.cells #[.int .i64 x.snap.index, .int .i64 x.snap.term, .int .i64 x.snap.sum, .int .i64 x.snap.level, .bool x.snap.final, .slice A x.log.length c, .int .i64 x.term, .int .i64 x.vote] 26)
/-- Eight cells, whatever they are. -/
def TB8 (w : World) (b : Nat) : Prop := ∃ v1 v2 v3 v4 v5 v6 v7 v8 : Value, w.heap[b]? = some (.cells #[v1, v2, v3, v4, v5, v6, v7, v8] 26)
theorem TB8.below {w w' : World} {b : Nat} (h : TB8 w b) (hb : Below w.heap.size w w') : TB8 w' b := by
  obtain ⟨v1, v2, v3, v4, v5, v6, v7, v8, h⟩ := h
  exact ⟨v1, v2, v3, v4, v5, v6, v7, v8, (hb.block b (Array.getElem?_eq_some_iff.1 h).1).trans h⟩
/-- What a change does to a tuple of one's own: another tuple, or it leaves by a panic. -/
def Does (g : Nat) (cap : Array Value) (w0 : World) (x : Tu) (res : Option Tu) : Prop :=
  ∀ (W : World) (bo : Nat) (A' : Option Addr) (c' : Nat), Below w0.heap.size w0 W → w0.heap.size ≤ bo → TB W bo x A' c' → LI W A' x.log.length c' x.log → (∀ a, A' = some a → a.block ≠ bo ∧ a.block < W.heap.size) →
    Calls Try.prog g (#[.pointer (some ⟨bo, 0, none⟩)] ++ cap) W fun e w' => KeepB (fun k => k ≠ bo) W w' ∧
      ((∃ y A2 c2, res = some y ∧ e = .returned (.tuple #[]) ∧ TB w' bo y A2 c2 ∧ LI w' A2 y.log.length c2 y.log ∧ (∀ a, A2 = some a → a.block < w'.heap.size ∧ ((∃ a', A' = some a' ∧ a.block = a'.block) ∨ W.heap.size ≤ a.block))) ∨
        (res = none ∧ e = .panicked badP ∧ TB8 w' bo))
theorem tupB_bd (x : Tu) (h : tupB x = true) : -2000000000000 ≤ x.snap.index ∧ x.snap.index ≤ 1073740824 ∧ 0 ≤ x.snap.index ∧ x.log.length ≤ 200 := by
  unfold tupB at h
  simp only [Bool.and_eq_true, decide_eq_true_eq] at h
  obtain ⟨⟨⟨h1, h2⟩, _⟩, _⟩ := h
  rcases (fineB_iff _).1 h1 with h3 | h3
  · rw [h3]; simp [firstS]; rw [h3] at h2; exact h2.2.1
  · exact ⟨by omega, h2.1, by omega, h2.2.1⟩

end Go.Proofs.Ytohkkncfofomdaa
/- The walks of tuples: Last, At. -/
namespace Go.Proofs.Ytohkkncfofomdaa
open Go Go.RowKit
set_option maxRecDepth 100000
theorem last_any (s : St) (A : Option Addr) (n c : Nat) (t v : Int) (w : World) (h : -2000000000000 ≤ s.index ∧ s.index ≤ 2000000000000) (hn : n ≤ 1000000) :
    PureC Try.prog 44 #[.agg #[.int .i64 s.index, .int .i64 s.term, .int .i64 s.sum, .int .i64 s.level, .bool s.final, .slice A n c, .int .i64 t, .int .i64 v]] w (.int .i64 (s.index + n)) := by
  refine PureC.mk ?_
  refine gw_enter1 Try.func44 rfl Try.ntmps44 rfl ?_
  have hS := St0.start All w
  repeat (first | apply wpS_nil | (apply QH_seq_k; assumption) | (apply wpC_seq_k; intro K hK) | apply wpC_region | (apply wpS_g_box; refine wpS_box rfl rfl rfl (by first | exact CellsOf.agg) hS (fun b w hS hB => ?_)) | (apply wpS_g; refine wpS_put rfl rfl rfl (by first | exact yv_assign rfl | exact yv_fieldAddr (by first | exact fo_23_0 | exact fo_26_0 | exact fo_26_1) rfl | (apply yv_g_load; first | exact yv_load_box (by first | exact sc_3 | exact sc_24) rfl (RW.here _) hS (by repeat (first | exact Has.head)) (by first | trivial) (by repeat (first | exact Seg.here (Pre.succ Pre.zero) | apply Seg.succ))) | (apply yv_g_bin; first | exact yv_add rfl rfl (by omega)) | (apply yv_g_bi; first | exact yv_len (by first | exact el_24) rfl)) ?_) | apply wpC_ret)
  refine QH_ret rfl (by first | exact RV.tmp rfl RV.nil) rfl ?_
  exact ⟨rfl, hS.pure⟩
end Go.Proofs.Ytohkkncfofomdaa
/- The walks of tuples: Append, Cut, Hard. -/
namespace Go.Proofs.Ytohkkncfofomdaa
open Go Go.RowKit
set_option maxRecDepth 100000

theorem Rd.blk {w : World} {A : Option Addr} {xs : List Value} (h : Rd w A xs) (hne : xs ≠ []) : ∀ a, A = some a → a.block < w.heap.size := fun a ha => by
  cases xs with
  | nil => exact (hne rfl).elim
  | cons v xs =>
    obtain ⟨b, o, hA, hb, _⟩ := h 0 v rfl
    rw [ha] at hA
    injection hA with hA
    subst hA
    exact hb
end Go.Proofs.Ytohkkncfofomdaa
/- The walks of tuples: TermAt, save, Save, Cut, Install, Hard. -/
namespace Go.Proofs.Ytohkkncfofomdaa
open Go Go.RowKit
set_option maxRecDepth 100000

theorem Rd.cutE {w : World} {A : Option Addr} {l : List En} (h : Rd w A (ens l)) {k c : Nat} (hc : l.length ≤ c) : Rd w (if c = k then A else A.map (·.add (k * 3))) (ens (l.drop k)) := by
  split
  · rename_i hck
    have : l.drop k = [] := List.drop_eq_nil_of_le (by omega)
    rw [this]; exact Rd.nil w A
  · rw [ens_drop, Nat.mul_comm]; exact h.drop (3 * k)

end Go.Proofs.Ytohkkncfofomdaa
/- The walks of tuples: Save, Cut, Install, Hard. -/
namespace Go.Proofs.Ytohkkncfofomdaa
open Go Go.RowKit
set_option maxRecDepth 100000
set_option maxHeartbeats 1000000

end Go.Proofs.Ytohkkncfofomdaa
/- The walks of tuples: State, First. -/
namespace Go.Proofs.Ytohkkncfofomdaa
open Go Go.RowKit
set_option maxRecDepth 100000

theorem next_p (s : St) (e : En) (w : World) : PureC Try.prog 85 #[.agg #[.int .i64 s.index, .int .i64 s.term, .int .i64 s.sum, .int .i64 s.level, .bool s.final], .agg #[.int .i64 e.term, .int .i64 e.kind, .int .i64 e.value]] w (.agg #[.int .i64 (nextS s e).index, .int .i64 (nextS s e).term, .int .i64 (nextS s e).sum, .int .i64 (nextS s e).level, .bool (nextS s e).final]) := ⟨next_any s e w⟩
/-- Where State's loop is. -/
structure SX where
  bt : Nat
  bs : Nat
  A : Option Addr
  c : Nat
  j : Nat
  n : Nat
theorem state_yes (x : Tu) (A : Option Addr) (c : Nat) (k : Nat) (w0 : World) (h : -2000000000000 ≤ x.snap.index ∧ x.snap.index ≤ 2000000000000) (hl : LI w0 A x.log.length c x.log) (i : Int) (hi : i = x.snap.index + k) (hk : k ≤ x.log.length) :
    PureC Try.prog 50 #[.agg #[.int .i64 x.snap.index, .int .i64 x.snap.term, .int .i64 x.snap.sum, .int .i64 x.snap.level, .bool x.snap.final, .slice A x.log.length c, .int .i64 x.term, .int .i64 x.vote], .int .i64 i] w0 (.tuple #[.agg #[.int .i64 (allS x.snap (x.log.take k)).index, .int .i64 (allS x.snap (x.log.take k)).term, .int .i64 (allS x.snap (x.log.take k)).sum, .int .i64 (allS x.snap (x.log.take k)).level, .bool (allS x.snap (x.log.take k)).final], .bool true]) := by
  refine PureC.mk ?_
  have hsm := hl.small
  have hle := hl.le
  have hcp := hl.cap
  have hkl : (x.log.take k).length = k := by rw [List.length_take]; omega
  have hrd : Rd w0 A (ens (x.log.take k)) := by
    have := hl.rd.take (3 * k)
    have e2 : (ens x.log).take (3 * k) = ens (x.log.take k) := by
      have := ens_app (x.log.take k) (x.log.drop k)
      rw [List.take_append_drop] at this
      rw [this, List.take_left' (by rw [ens_length, hkl])]
    rwa [e2] at this
  refine gw_enter2 Try.func50 rfl Try.ntmps50 rfl ?_
  have hS := St0.start All w0
  repeat (first | (apply wpC_seq_k; intro K hK) | apply wpC_region)
  first | (apply wpS_g_box; refine wpS_box rfl rfl rfl (by first | exact CellsOf.agg) hS (fun bt w hS hB => ?_))
  first | (apply wpS_g_alloc; refine wpS_alloc rfl rfl (by first | exact zc_23) hS (fun bs w hS hB => ?_))
  repeat (first | apply wpS_nil | (apply QH_seq_k; assumption) | (apply wpS_g; refine wpS_put rfl rfl rfl (by first | exact yv_assign rfl) ?_))
  refine wpC_scope 0 (fun y : SX => [(6, .slice y.A y.n y.c), (5, .bool false), (4, .pointer (some ⟨y.bs, 0, none⟩)), (2, .pointer (some ⟨y.bt, 0, none⟩)), (1, .int .i64 i)])
    (fun y w => y.j + y.n = k ∧ y.n ≤ y.c ∧ y.c ≤ maxLen ∧ Rd w0 y.A (ens ((x.log.take k).drop y.j)) ∧ St0 All w0 w [.box y.bs [.int .i64 (allS x.snap (x.log.take y.j)).index, .int .i64 (allS x.snap (x.log.take y.j)).term, .int .i64 (allS x.snap (x.log.take y.j)).sum, .int .i64 (allS x.snap (x.log.take y.j)).level, .bool (allS x.snap (x.log.take y.j)).final] 23, .box y.bt [.int .i64 x.snap.index, .int .i64 x.snap.term, .int .i64 x.snap.sum, .int .i64 x.snap.level, .bool x.snap.final, .slice A x.log.length c, .int .i64 x.term, .int .i64 x.vote] 26])
    (fun y => y.n) rfl ?_ ?_
  · rintro ⟨bt, bs, Aj, cj, j, n⟩ w ⟨hj, hcj, hcm, hrj, hS⟩
    dsimp only at hj hcj hcm hrj hS ⊢
    rcases Nat.eq_zero_or_pos n with rfl | hn
    · obtain rfl : j = k := by omega
      repeat (first | apply wpS_nil | (apply QH_seq_k; assumption) | (apply wpC_seq_k; intro K hK) | apply wpC_region | (apply wpS_g_store; refine wpS_store rfl rfl rfl (by first | exact CellsOf.agg) hS (by repeat (first | exact Pos.head)) (by repeat (first | exact SetC.here (by repeat (first | exact Ovr.nil | apply Ovr.cons)))) (by kernel_rfl) rfl (fun w hS hB => ?_)) | (apply wpS_g; refine wpS_put rfl rfl rfl (by first | exact yv_move rfl | exact yv_assign rfl | (apply yv_g_load; first | exact yv_load_boxA (by first | exact ag_23) rfl (RW.here _) hS (by repeat (first | exact Has.head)) (by first | trivial) (by repeat (first | exact Seg.here (by repeat (first | exact Pre.zero | apply Pre.succ))))) | (apply yv_g_bin; first | exact yv_gtr_f rfl rfl (by omega)) | (apply yv_g_bi; first | exact yv_len (by first | exact el_24) rfl)) ?_) | apply wpC_cond_f rfl rfl | apply wpC_skip | apply wpC_ret | apply QH_jmp_ret)
      refine QH_ret rfl (by first | exact RV.cell rfl (load_boxA (by first | exact ag_23) hS (by repeat (first | exact Has.head)) (by repeat (first | exact Seg.here (by repeat (first | exact Pre.zero | apply Pre.succ))))) (RV.tmp rfl RV.nil)) rfl ?_
      exact ⟨rfl, hS.pure⟩
    · obtain ⟨e, he⟩ : ∃ e, ((x.log.take k).drop j)[0]? = some e := ⟨_, List.getElem?_eq_getElem (by rw [List.length_drop]; omega)⟩
      obtain ⟨b1, o1, hA1, hb1, hr1⟩ := hrj.entR he
      subst hA1
      have htk : x.log.take (j + 1) = x.log.take j ++ [e] := by
        rw [List.getElem?_drop, List.getElem?_take] at he
        split at he
        · rw [List.take_add_one]; rw [show x.log[j]? = some e from by simpa using he]; rfl
        · cases he
      repeat (first | (apply QH_seq_k; assumption) | (apply wpC_seq_k; intro K hK) | apply wpC_skip)
      apply wpC_region
      repeat (first | apply wpS_nil | (apply QH_seq_k; assumption) | (apply wpC_seq_k; intro K hK) | (apply wpS_g; refine wpS_put rfl rfl rfl (by first | exact yv_move rfl | (apply yv_g_bin; first | exact yv_gtr_t rfl rfl (by omega)) | (apply yv_g_bi; first | exact yv_len (by first | exact el_24) rfl)) ?_) | apply wpC_cond_t rfl rfl)
      refine wpC_draw 9 [7] (fun i b => (i = 7 → b ≠ bs)) ⟨by kernel_rfl, by kernel_rfl⟩ hS (fun w hS hB => ?_)
      refine wpR_batch [true, true, true, true] (by decide +kernel) (by repeat (first | exact PF.body | apply PF.then | apply PF.jump)) ?_
      repeat (first | refine LtK.put rfl rfl rfl (by first | exact yv_indexAddr (j := 0) (by first | exact el_24) rfl rfl rfl (by omega) | exact yv_move rfl | (apply yv_g_load; first | exact yv_load_boxA (by first | exact ag_23 | exact ag_47) rfl (RW.below _) hS (by repeat (first | exact Has.head | apply Has.tail)) (by first | trivial) (by repeat (first | exact Seg.here (by repeat (first | exact Pre.zero | apply Pre.succ)))) | exact yv_loadA_old (by first | exact ag_23 | exact ag_47) rfl (RW.below _) hS (by first | trivial) (by first | trivial) (by assumption) (by rfl))) ?_)
      refine LtK.nil ?_
      refine wpR_batchG [false, false, false, false, false, true, true] [7] (fun b => b ≠ bs) (by decide +kernel) (by intro j hj b hb; simp only [List.mem_cons, List.not_mem_nil, or_false] at hj; (try rcases hj with rfl | rfl) <;> simp_all) (by repeat (first | exact PF.body | apply PF.then | apply PF.jump)) ?_
      repeat (first | refine LtK.put rfl rfl rfl (by first | exact yv_slice_l (l := 1) (by first | exact el_24) rfl rfl rfl (by omega) | exact yv_move rfl) ?_)
      refine LtK.nil ?_
      refine wpR_call [false, false, false, false, true] 4 ⟨by decide, by kernel_rfl, by kernel_rfl⟩ rfl rfl ?_
      dsimp only [pickL]
      repeat (first | apply wpS_nil | (apply wpS_g_call; first | refine wpS_callP rfl rfl rfl (by kernel_rfl) rfl (next_p _ _ _) hS (fun w hS hB => ?_)))
      refine QH_step (by first | assumption) ?_
      refine wpR_seal [false, false, false, false, false, false, false, true] 7 ⟨by decide, by kernel_rfl, by kernel_rfl⟩ rfl rfl ?_
      dsimp only [pickL]
      repeat (first | apply wpS_nil | (apply wpS_g_store; refine wpS_store rfl rfl rfl (by first | exact CellsOf.agg) hS (by repeat (first | exact Pos.head)) (by repeat (first | exact SetC.here (by repeat (first | exact Ovr.nil | apply Ovr.cons)))) (by kernel_rfl) rfl (fun w hS hB => ?_)))
      refine QH_stepG (by first | exact hB.sub (fun _ _ h => by simpa using h)) ?_
      refine wpR_batch [false, false, false, false, false, false, false, false, true] (by decide +kernel) (by repeat (first | exact PF.body | apply PF.then | apply PF.jump)) ?_
      repeat (first | refine LtK.put rfl rfl rfl (by first | exact yv_assign rfl) ?_)
      refine LtK.nil ?_
      refine wpR_end (by kernel_rfl) ?_
      repeat (first | (apply QH_seq_k; assumption) | apply wpC_goto | apply QH_then_goto)
      refine QH_jump ⟨bt, bs, _, _, j + 1, n - 1⟩ (by repeat (first | exact Sub.nil | refine Sub.cons rfl ?_)) ⟨by dsimp only; omega, by dsimp only; omega, by dsimp only; omega, ?_, ?_⟩ (by dsimp only; omega)
      · dsimp only
        have h3 := hrj.cutE (k := 1) (c := cj) (by rw [List.length_drop, hkl]; omega)
        rwa [List.drop_drop] at h3
      · dsimp only
        rw [htk, allS_snoc]
        exact hS
  · intro hpass
    repeat (first | apply wpS_nil | (apply QH_seq_k; assumption) | (apply wpC_seq_k; intro K hK) | apply wpC_region | (apply wpS_g_store; refine wpS_store rfl rfl rfl (by first | exact CellsOf.agg) hS (by repeat (first | exact Pos.head)) (by repeat (first | exact SetC.here (by repeat (first | exact Ovr.nil | apply Ovr.cons)))) (by kernel_rfl) rfl (fun w hS hB => ?_)) | (apply wpS_g_call; first | refine wpS_callP rfl rfl rfl (by kernel_rfl) rfl (last_any _ _ _ _ _ _ _ (by omega) (by omega)) hS (fun w hS hB => ?_)) | (apply wpS_g; refine wpS_put rfl rfl rfl (by first | exact yv_slice_h (h := k) (by first | exact el_24) rfl rfl (by omega) (by omega) | exact yv_move rfl | exact yv_assign rfl | exact yv_fieldAddr (by first | exact fo_23_0 | exact fo_26_0 | exact fo_26_1) rfl | (apply yv_g_load; first | exact yv_load_box (by first | exact sc_3 | exact sc_24) rfl (RW.here _) hS (by repeat (first | exact Has.head | apply Has.tail)) (by first | trivial) (by repeat (first | exact Seg.here (Pre.succ Pre.zero) | apply Seg.succ)) | exact yv_load_boxA (by first | exact ag_23 | exact ag_26) rfl (RW.here _) hS (by repeat (first | exact Has.head | apply Has.tail)) (by first | trivial) (by repeat (first | exact Seg.here (by repeat (first | exact Pre.zero | apply Pre.succ))))) | (apply yv_g_bin; first | exact yv_lss_f rfl rfl (by omega) | exact yv_gtr_f rfl rfl (by omega) | exact yv_sub rfl rfl (by omega)) | (apply yv_g_pick; first | exact yv_pick_f rfl rfl rfl)) ?_) | apply wpC_cond_f rfl rfl | apply wpC_skip)
    apply wpC_label
    apply QH_seq_k
    assumption
    rcases Nat.eq_zero_or_pos k with hk0 | hn
    · repeat (first | apply wpS_nil | (apply QH_seq_k; assumption) | (apply wpC_seq_k; intro K hK) | apply wpC_region | (apply wpS_g_store; refine wpS_store rfl rfl rfl (by first | exact CellsOf.agg) hS (by repeat (first | exact Pos.head)) (by repeat (first | exact SetC.here (by repeat (first | exact Ovr.nil | apply Ovr.cons)))) (by kernel_rfl) rfl (fun w hS hB => ?_)) | (apply wpS_g; refine wpS_put rfl rfl rfl (by first | exact yv_move rfl | exact yv_assign rfl | (apply yv_g_load; first | exact yv_load_boxA (by first | exact ag_23) rfl (RW.here _) hS (by repeat (first | exact Has.head)) (by first | trivial) (by repeat (first | exact Seg.here (by repeat (first | exact Pre.zero | apply Pre.succ))))) | (apply yv_g_bin; first | exact yv_gtr_f rfl rfl (by omega)) | (apply yv_g_bi; first | exact yv_len (by first | exact el_24) rfl)) ?_) | apply wpC_cond_f rfl rfl | apply wpC_skip | apply wpC_ret | apply QH_jmp_ret)
      refine QH_ret rfl (by first | exact RV.cell rfl (load_boxA (by first | exact ag_23) hS (by repeat (first | exact Has.head)) (by repeat (first | exact Seg.here (by repeat (first | exact Pre.zero | apply Pre.succ))))) (RV.tmp rfl RV.nil)) rfl ?_
      subst hk0
      exact ⟨rfl, hS.pure⟩
    · obtain ⟨e, he⟩ : ∃ e, (x.log.take k)[0]? = some e := ⟨_, List.getElem?_eq_getElem (by omega)⟩
      obtain ⟨b1, o1, hA1, hb1, hr1⟩ := hrd.entR he
      subst hA1
      have htk : x.log.take 1 = [e] := by
        rw [List.getElem?_take, if_pos hn] at he
        rw [List.take_add_one, he]; rfl
      repeat (first | (apply wpC_seq_k; intro K hK))
      apply wpC_region
      repeat (first | apply wpS_nil | (apply QH_seq_k; assumption) | (apply wpC_seq_k; intro K hK) | (apply wpS_g; refine wpS_put rfl rfl rfl (by first | exact yv_move rfl | (apply yv_g_bin; first | exact yv_gtr_t rfl rfl (by omega)) | (apply yv_g_bi; first | exact yv_len (by first | exact el_24) rfl)) ?_) | apply wpC_cond_t rfl rfl)
      refine wpC_draw 9 [7] (fun i b => (i = 7 → b ≠ bs)) ⟨by kernel_rfl, by kernel_rfl⟩ hS (fun w hS hB => ?_)
      refine wpR_batch [true, true, true, true] (by decide +kernel) (by repeat (first | exact PF.body | apply PF.then | apply PF.jump)) ?_
      repeat (first | refine LtK.put rfl rfl rfl (by first | exact yv_indexAddr (j := 0) (by first | exact el_24) rfl rfl rfl (by omega) | exact yv_move rfl | (apply yv_g_load; first | exact yv_load_boxA (by first | exact ag_23 | exact ag_47) rfl (RW.below _) hS (by repeat (first | exact Has.head | apply Has.tail)) (by first | trivial) (by repeat (first | exact Seg.here (by repeat (first | exact Pre.zero | apply Pre.succ)))) | exact yv_loadA_old (by first | exact ag_23 | exact ag_47) rfl (RW.below _) hS (by first | trivial) (by first | trivial) (by assumption) (by rfl))) ?_)
      refine LtK.nil ?_
      refine wpR_batchG [false, false, false, false, false, true, true] [7] (fun b => b ≠ bs) (by decide +kernel) (by intro j hj b hb; simp only [List.mem_cons, List.not_mem_nil, or_false] at hj; (try rcases hj with rfl | rfl) <;> simp_all) (by repeat (first | exact PF.body | apply PF.then | apply PF.jump)) ?_
      repeat (first | refine LtK.put rfl rfl rfl (by first | exact yv_slice_l (l := 1) (by first | exact el_24) rfl rfl rfl (by omega) | exact yv_move rfl) ?_)
      refine LtK.nil ?_
      refine wpR_call [false, false, false, false, true] 4 ⟨by decide, by kernel_rfl, by kernel_rfl⟩ rfl rfl ?_
      dsimp only [pickL]
      repeat (first | apply wpS_nil | (apply wpS_g_call; first | refine wpS_callP rfl rfl rfl (by kernel_rfl) rfl (next_p _ _ _) hS (fun w hS hB => ?_)))
      refine QH_step (by first | assumption) ?_
      refine wpR_seal [false, false, false, false, false, false, false, true] 7 ⟨by decide, by kernel_rfl, by kernel_rfl⟩ rfl rfl ?_
      dsimp only [pickL]
      repeat (first | apply wpS_nil | (apply wpS_g_store; refine wpS_store rfl rfl rfl (by first | exact CellsOf.agg) hS (by repeat (first | exact Pos.head)) (by repeat (first | exact SetC.here (by repeat (first | exact Ovr.nil | apply Ovr.cons)))) (by kernel_rfl) rfl (fun w hS hB => ?_)))
      refine QH_stepG (by first | exact hB.sub (fun _ _ h => by simpa using h)) ?_
      refine wpR_batch [false, false, false, false, false, false, false, false, true] (by decide +kernel) (by repeat (first | exact PF.body | apply PF.then | apply PF.jump)) ?_
      repeat (first | refine LtK.put rfl rfl rfl (by first | exact yv_assign rfl) ?_)
      refine LtK.nil ?_
      refine wpR_end (by kernel_rfl) ?_
      repeat (first | (apply QH_seq_k; assumption) | apply wpC_goto | apply QH_then_goto)
      refine QH_jump0 ⟨bt, bs, _, _, 1, k - 1⟩ (by repeat (first | exact Sub.nil | refine Sub.cons rfl ?_)) ⟨by dsimp only; omega, by dsimp only; omega, by dsimp only; omega, ?_, ?_⟩
      · dsimp only
        exact hrd.cutE (k := 1) (c := c) (by omega)
      · dsimp only
        rw [htk]
        exact hS
theorem state_no (x : Tu) (A : Option Addr) (c : Nat) (w0 : World) (h : -2000000000000 ≤ x.snap.index ∧ x.snap.index ≤ 2000000000000) (hsm : x.log.length ≤ 1000000) (i : Int) (hi : i < x.snap.index ∨ x.snap.index + x.log.length < i) :
    PureC Try.prog 50 #[.agg #[.int .i64 x.snap.index, .int .i64 x.snap.term, .int .i64 x.snap.sum, .int .i64 x.snap.level, .bool x.snap.final, .slice A x.log.length c, .int .i64 x.term, .int .i64 x.vote], .int .i64 i] w0 (.tuple #[.agg #[.int .i64 0, .int .i64 0, .int .i64 0, .int .i64 0, .bool false], .bool false]) := by
  refine PureC.mk ?_
  refine gw_enter2 Try.func50 rfl Try.ntmps50 rfl ?_
  have hS := St0.start All w0
  repeat (first | apply wpS_nil | (apply QH_seq_k; assumption) | (apply wpC_seq_k; intro K hK) | apply wpC_region | (apply wpS_g_box; refine wpS_box rfl rfl rfl (by first | exact CellsOf.agg) hS (fun b w hS hB => ?_)) | (apply wpS_g_alloc; refine wpS_alloc rfl rfl (by first | exact zc_23) hS (fun b w hS hB => ?_)) | (apply wpS_g; refine wpS_put rfl rfl rfl (by first | exact yv_assign rfl) ?_))
  refine wpC_scope 0 (X := Unit) (fun _ => []) (fun _ _ => False) (fun _ => 0) rfl (fun _ _ h => h.elim) ?_
  intro hpass
  by_cases h1 : i < x.snap.index
  · repeat (first | apply wpS_nil | (apply QH_seq_k; assumption) | (apply wpC_seq_k; intro K hK) | apply wpC_region | (apply wpS_g; refine wpS_skip rfl rfl rfl ?_) | (apply wpS_g_store; refine wpS_store rfl rfl rfl (by first | exact CellsOf.agg) hS (by repeat (first | exact Pos.head)) (by repeat (first | exact SetC.here (by repeat (first | exact Ovr.nil | apply Ovr.cons)))) (by kernel_rfl) rfl (fun w hS hB => ?_)) | (apply wpS_g; refine wpS_put rfl rfl rfl (by first | exact yv_move rfl | exact yv_assign rfl | exact yv_fieldAddr (by first | exact fo_23_0 | exact fo_26_0) rfl | (apply yv_g_load; first | exact yv_load_box (by first | exact sc_3) rfl (RW.here _) hS (by repeat (first | exact Has.head | apply Has.tail)) (by first | trivial) (by repeat (first | exact Seg.here (Pre.succ Pre.zero))) | exact yv_load_boxA (by first | exact ag_23) rfl (RW.here _) hS (by repeat (first | exact Has.head)) (by first | trivial) (by repeat (first | exact Seg.here (by repeat (first | exact Pre.zero | apply Pre.succ))))) | (apply yv_g_bin; first | exact yv_lss_t rfl rfl (by omega)) | (apply yv_g_pick; first | exact yv_pick_t rfl rfl rfl)) ?_) | apply wpC_cond_t rfl rfl | apply wpC_ret | apply QH_then_ret | apply QH_jmp_ret)
    refine QH_ret rfl (by first | exact RV.cell rfl (load_boxA (by first | exact ag_23) hS (by repeat (first | exact Has.head)) (by repeat (first | exact Seg.here (by repeat (first | exact Pre.zero | apply Pre.succ))))) (RV.tmp rfl RV.nil)) rfl ?_
    exact ⟨rfl, hS.pure⟩
  · have h2 : x.snap.index + x.log.length < i := by omega
    repeat (first | apply wpS_nil | (apply QH_seq_k; assumption) | (apply wpC_seq_k; intro K hK) | apply wpC_region | (apply wpS_g_store; refine wpS_store rfl rfl rfl (by first | exact CellsOf.agg) hS (by repeat (first | exact Pos.head)) (by repeat (first | exact SetC.here (by repeat (first | exact Ovr.nil | apply Ovr.cons)))) (by kernel_rfl) rfl (fun w hS hB => ?_)) | (apply wpS_g_call; first | refine wpS_callP rfl rfl rfl (by kernel_rfl) rfl (last_any _ _ _ _ _ _ _ (by omega) (by omega)) hS (fun w hS hB => ?_)) | (apply wpS_g; refine wpS_put rfl rfl rfl (by first | exact yv_move rfl | exact yv_assign rfl | exact yv_fieldAddr (by first | exact fo_23_0 | exact fo_26_0) rfl | (apply yv_g_load; first | exact yv_load_box (by first | exact sc_3) rfl (RW.here _) hS (by repeat (first | exact Has.head | apply Has.tail)) (by first | trivial) (by repeat (first | exact Seg.here (Pre.succ Pre.zero))) | exact yv_load_boxA (by first | exact ag_23 | exact ag_26) rfl (RW.here _) hS (by repeat (first | exact Has.head | apply Has.tail)) (by first | trivial) (by repeat (first | exact Seg.here (by repeat (first | exact Pre.zero | apply Pre.succ))))) | (apply yv_g_bin; first | exact yv_lss_f rfl rfl (by omega) | exact yv_gtr_t rfl rfl (by omega)) | (apply yv_g_pick; first | exact yv_pick_f rfl rfl rfl)) ?_) | apply wpC_cond_t rfl rfl | apply wpC_ret | apply QH_then_ret | apply QH_jmp_ret)
    refine QH_ret rfl (by first | exact RV.cell rfl (load_boxA (by first | exact ag_23) hS (by repeat (first | exact Has.head)) (by repeat (first | exact Seg.here (by repeat (first | exact Pre.zero | apply Pre.succ))))) (RV.tmp rfl RV.nil)) rfl ?_
    exact ⟨rfl, hS.pure⟩
end Go.Proofs.Ytohkkncfofomdaa
/- What the functions of entries and tuples compute that are walked by hand, in the form of the printed contracts. -/
namespace Go.Proofs.Ytohkkncfofomdaa
open Go Go.RowKit
set_option maxRecDepth 100000
theorem SlI.li {w : World} {A : Option Addr} {c : Nat} {l : List En} (h : SlI w enE A c l) (hn : l.length ≤ 1000000) : LI w A l.length c l := ⟨rfl, hn, h.le, h.cap, h.rd⟩
theorem Sl.st0 {w w' : World} {A : Option Addr} {n c k : Nat} {xs : List Value} (hs : Sl w w' A n c k xs) (hB : Below w.heap.size w w') : St0 All w w' [.rd A xs] := (St0.start All w).slice hs hB
theorem PureC.st0 {P : Program} {f : Nat} {args : Array Value} {w : World} {v : Value} (h : PureC P f args w v) : Calls P f args w fun e w' => e = .returned v ∧ St0 All w w' [] := h.run.mono fun _ _ h => ⟨h.1, (St0.start All w).below h.2⟩
theorem calls_st0 {P : Program} {f : Nat} {args : Array Value} {w : World} {v : Value} (h : Calls P f args w fun e w' => e = .returned v ∧ Below w.heap.size w w') : Calls P f args w fun e w' => e = .returned v ∧ St0 All w w' [] := h.mono fun _ _ h => ⟨h.1, (St0.start All w).below h.2⟩
/-- Tuples whose numbers can be reckoned with. -/
def okT (x : Tu) : Bool := decide (x.log.length ≤ 1000000 ∧ -2000000000000 ≤ x.snap.index ∧ x.snap.index ≤ 2000000000000)
theorem okT_iff {x : Tu} : okT x = true ↔ x.log.length ≤ 1000000 ∧ -2000000000000 ≤ x.snap.index ∧ x.snap.index ≤ 2000000000000 := decide_eq_true_iff

def m_entry_Right (e : En) : Option Bool := some (rightB e)
theorem c_entry_Right (x0 : En) (w0 : World) {r : Bool} (H : m_entry_Right x0 = some r) : Calls Try.prog 89 #[.agg #[.int .i64 x0.term, .int .i64 x0.kind, .int .i64 x0.value]] w0 fun e w' => e = .returned (.bool r) ∧ St0 All w0 w' [] := by
  obtain rfl := Option.some.inj H
  exact calls_st0 (right_any x0 w0)
def m_tuple_Right (x : Tu) : Option Bool := cond (okT x) (some (tupB x)) none
theorem c_tuple_Right (x0 : Tu) (A0 : Option Addr) (c0 : Nat) (w0 : World) (s0 : SlI w0 enE A0 c0 x0.log) {r : Bool} (H : m_tuple_Right x0 = some r) : Calls Try.prog 48 #[.agg #[.int .i64 x0.snap.index, .int .i64 x0.snap.term, .int .i64 x0.snap.sum, .int .i64 x0.snap.level, .bool x0.snap.final, .slice A0 x0.log.length c0, .int .i64 x0.term, .int .i64 x0.vote]] w0 fun e w' => e = .returned (.bool r) ∧ St0 All w0 w' [] := by
  unfold m_tuple_Right at H
  cases hb : okT x0 with
  | false => rw [hb] at H; cases H
  | true =>
    rw [hb] at H
    obtain rfl := Option.some.inj H
    have h := okT_iff.1 hb
    exact (right_any2 x0.snap A0 x0.log.length c0 x0.log x0.term x0.vote w0 (s0.li h.1) h.2 s0.blk).st0
def m_tuple_State (x : Tu) (i : Int) : Option (St × Bool) := cond (okT x) (cond (decide (x.snap.index ≤ i ∧ i ≤ x.snap.index + x.log.length)) (some (allS x.snap (x.log.take (i - x.snap.index).toNat), true)) (some (⟨0, 0, 0, 0, false⟩, false))) none
theorem c_tuple_State (x0 : Tu) (x1 : Int) (A0 : Option Addr) (c0 : Nat) (w0 : World) (s0 : SlI w0 enE A0 c0 x0.log) {r : St × Bool} (H : m_tuple_State x0 x1 = some r) : Calls Try.prog 50 #[.agg #[.int .i64 x0.snap.index, .int .i64 x0.snap.term, .int .i64 x0.snap.sum, .int .i64 x0.snap.level, .bool x0.snap.final, .slice A0 x0.log.length c0, .int .i64 x0.term, .int .i64 x0.vote], .int .i64 x1] w0 fun e w' => e = .returned (.tuple #[.agg #[.int .i64 r.1.index, .int .i64 r.1.term, .int .i64 r.1.sum, .int .i64 r.1.level, .bool r.1.final], .bool r.2]) ∧ St0 All w0 w' [] := by
  unfold m_tuple_State at H
  cases hb : okT x0 with
  | false => rw [hb] at H; cases H
  | true =>
    rw [hb] at H
    have h := okT_iff.1 hb
    by_cases hi : x0.snap.index ≤ x1 ∧ x1 ≤ x0.snap.index + x0.log.length
    · rw [decide_eq_true hi] at H
      obtain rfl := Option.some.inj H
      exact (state_yes x0 A0 c0 (x1 - x0.snap.index).toNat w0 h.2 (s0.li h.1) x1 (by omega) (by omega)).st0
    · rw [decide_eq_false hi] at H
      obtain rfl := Option.some.inj H
      exact (state_no x0 A0 c0 w0 h.2 h.1 x1 (by omega)).st0
end Go.Proofs.Ytohkkncfofomdaa
/- Sums of data, as plain numbers. -/
namespace Go.Proofs.Ytohkkncfofomdaa
open Go Go.RowKit
set_option maxRecDepth 100000

theorem FineP.bounds {s : St} (h : FineP s) : 0 ≤ s.index ∧ s.index ≤ 1073741824 ∧ 0 ≤ s.sum ∧ s.sum ≤ 1073741824 := by
  rcases h with rfl | h
  · simp [firstS]
  · omega
theorem next_data (s : St) (hf : FineP s) (hi : s.index < 1073741824) (v : Int) (h0 : 0 ≤ v) (h1 : v ≤ 1073741824) : nextS s ⟨1, 1, v⟩ = ⟨s.index + 1, 1, (31 * s.sum + v + 1) % 1073741824, s.level, s.final⟩ := by
  unfold nextS
  rw [if_pos ⟨by simp [rightB, h0, h1], (fineB_iff s).2 hf, hi⟩]
  rfl
def SumInv (l : List Int) (q : Nat) (value : Int) (s : St) (k : Nat) (a b : St) : Prop :=
  FineP a ∧ FineP b ∧ a.index = s.index + k ∧ b.index = s.index + k ∧ (k ≤ q → a = b) ∧
    (q < k → a.sum < 1073741824 ∧ b.sum < 1073741824 ∧ ∃ x, l[q]? = some x ∧ 0 ≤ x ∧ x ≤ 999 ∧
      ((k = q + 1 ∧ (a.sum - b.sum - (x - value)) % 1073741824 = 0) ∨ (k = q + 2 ∧ (a.sum - b.sum - 31 * (x - value)) % 1073741824 = 0) ∨ (k = q + 3 ∧ (a.sum - b.sum - 961 * (x - value)) % 1073741824 = 0)))
theorem SumInv.start (l : List Int) (q : Nat) (value : Int) (s : St) (h : FineP s) : SumInv l q value s 0 s s := ⟨h, h, by simp, by simp, fun _ => rfl, fun h => by omega⟩
theorem SumInv.step {l : List Int} {q : Nat} {value : Int} {s : St} {k : Nat} {a b : St} (h : SumInv l q value s k a b) (hs : s.index ≤ 1073741624) (hk : k < 3) (v : Int) (hv : l[k]? = some v) (h0 : 0 ≤ v) (h1 : v ≤ 999) (g0 : 0 ≤ value) (g1 : value ≤ 999) :
    SumInv l q value s (k + 1) (nextS a ⟨1, 1, v⟩) (nextS b ⟨1, 1, if k = q then value else v⟩) := by
  obtain ⟨fa, fb, ia, ib, he, hd⟩ := h
  refine ⟨nextS_fine _ _ fa, nextS_fine _ _ fb, ?_⟩
  have va : 0 ≤ (if k = q then value else v) ∧ (if k = q then value else v) ≤ 999 := by split <;> omega
  rw [next_data a fa (by omega) v h0 (by omega), next_data b fb (by omega) _ va.1 (by omega)]
  refine ⟨by show a.index + 1 = _; omega, by show b.index + 1 = _; omega, fun hkq => ?_, fun hkq => ?_⟩
  · rw [if_neg (by omega), he (by omega)]
  · refine ⟨by show _ % _ < _; omega, by show _ % _ < _; omega, ?_⟩
    by_cases e : k = q
    · subst e
      refine ⟨v, hv, h0, h1, .inl ⟨rfl, ?_⟩⟩
      rw [if_pos rfl, he (by omega)]
      show ((31 * b.sum + v + 1) % 1073741824 - (31 * b.sum + value + 1) % 1073741824 - (v - value)) % 1073741824 = 0
      omega
    · obtain ⟨_, _, x, hx, x0, x1, hh⟩ := hd (by omega)
      refine ⟨x, hx, x0, x1, ?_⟩
      rw [if_neg e]
      have goal : ∀ c : Int, (a.sum - b.sum - c) % 1073741824 = 0 → ((31 * a.sum + v + 1) % 1073741824 - (31 * b.sum + v + 1) % 1073741824 - 31 * c) % 1073741824 = 0 := fun c hc => by omega
      rcases hh with ⟨rfl, hh⟩ | ⟨rfl, hh⟩ | ⟨rfl, hh⟩
      · exact .inr (.inl ⟨rfl, goal _ hh⟩)
      · refine .inr (.inr ⟨rfl, ?_⟩)
        have := goal _ hh
        show ((31 * a.sum + v + 1) % 1073741824 - (31 * b.sum + v + 1) % 1073741824 - 961 * (x - value)) % 1073741824 = 0
        omega
      · omega
theorem SumInv.last {l : List Int} {q : Nat} {value : Int} {s : St} {k : Nat} {a b : St} (h : SumInv l q value s k a b) (hq : q < k) (g0 : 0 ≤ value) (g1 : value ≤ 999) {x : Int} (hx : l[q]? = some x) :
    ((a.sum == b.sum) == (x == value)) = true := by
  obtain ⟨fa, fb, _, _, _, hd⟩ := h
  obtain ⟨la, lb, x', hx', x0, x1, hh⟩ := hd hq
  rw [hx] at hx'
  obtain rfl := Option.some.inj hx'
  have ba := fa.bounds
  have bb := fb.bounds
  rw [beq_iff_eq, Bool.eq_iff_iff, beq_iff_eq, beq_iff_eq]
  omega
end Go.Proofs.Ytohkkncfofomdaa
/- What comes behind an entry, as the law of layer 6 asks for it. -/
namespace Go.Proofs.Ytohkkncfofomdaa
open Go Go.RowKit
set_option maxRecDepth 100000
end Go.Proofs.Ytohkkncfofomdaa
/- Stages, formats, what is asked: in plain Lean. -/
namespace Go.Proofs.Ytohkkncfofomdaa

end Go.Proofs.Ytohkkncfofomdaa
/- slices.ContainsFunc over ints, with whatever predicate is kept by a contract. -/
namespace Go.Proofs.Ytohkkncfofomdaa
open Go Go.RowKit
set_option maxRecDepth 100000

end Go.Proofs.Ytohkkncfofomdaa
/- The walks of level: Stage, Known, Entry, Format. -/
namespace Go.Proofs.Ytohkkncfofomdaa
open Go Go.RowKit Go.Shelf
set_option maxRecDepth 100000
attribute [local go_sem] Oper.semAt_some

end Go.Proofs.Ytohkkncfofomdaa
/- The walks of level: what is asked. -/
namespace Go.Proofs.Ytohkkncfofomdaa
open Go Go.RowKit Go.Shelf
set_option maxRecDepth 100000

theorem run_store_func {P : Program} {w : World} {a : Addr} (f : Fn) (vs bs : Array Value) (m : Mode) : (store a (.func f vs bs) m).run P w = stored P w a (.func f vs bs) m := run_store P w a _ m rfl
attribute [local go_sem] run_store_func
end Go.Proofs.Ytohkkncfofomdaa
/- The walks of level: Check. -/
namespace Go.Proofs.Ytohkkncfofomdaa
open Go Go.RowKit Go.Shelf
set_option maxRecDepth 100000

end Go.Proofs.Ytohkkncfofomdaa
/- What the functions of levels compute that are walked by hand, in the form of the printed contracts. -/
namespace Go.Proofs.Ytohkkncfofomdaa
open Go Go.RowKit
set_option maxRecDepth 100000
end Go.Proofs.Ytohkkncfofomdaa
/- Plain laws of what printed functions compute: small numbers, places of lists. -/
namespace Go.Proofs.Ytohkkncfofomdaa
open Go Go.RowKit
set_option maxRecDepth 100000
theorem w64i {n : Int} (h : -9223372036854775808 ≤ n ∧ n ≤ 9223372036854775807) : IntKind.wrap .i64 n = n := i64_in' h
theorem idx_nat {α : Type} (l : List α) (k : Nat) : idx l (k : Int) = l[k]? := by unfold idx; simp
theorem takeI_nat {α : Type} (l : List α) (k : Nat) (h : k ≤ l.length) : takeI l (k : Int) = some (l.take k) := by unfold takeI; rw [if_pos (by omega)]; simp
theorem fewI_ok {α : Type} (l : List α) (h : l.length ≤ 1000000000) : fewI l = some l := if_pos h
theorem makeI_nat {α : Type} (z : α) (n : Nat) (h : n ≤ 1000000000) : makeI z (n : Int) = some (List.replicate n z) := by unfold makeI; rw [if_pos (by omega)]; simp
theorem drop_step {α : Type} {l : List α} {k : Nat} (h : k < l.length) : ∃ e, l[k]? = some e ∧ l.drop k = e :: l.drop (k + 1) := ⟨l[k], List.getElem?_eq_getElem h, List.drop_eq_getElem_cons h⟩
theorem snap_eq (a b : St) : (decide (a.index = b.index) && (decide (a.term = b.term) && (decide (a.sum = b.sum) && (decide (a.level = b.level) && decide (a.final = b.final))))) = decide (a = b) := by
  obtain ⟨a1, a2, a3, a4, a5⟩ := a; obtain ⟨b1, b2, b3, b4, b5⟩ := b
  rw [Bool.eq_iff_iff]; simp
theorem en_eq (a b : En) : (decide (a.term = b.term) && (decide (a.kind = b.kind) && decide (a.value = b.value))) = decide (a = b) := by
  obtain ⟨a1, a2, a3⟩ := a; obtain ⟨b1, b2, b3⟩ := b
  rw [Bool.eq_iff_iff]; simp
end Go.Proofs.Ytohkkncfofomdaa
/- Iterators: the others, who has an index. -/
namespace Go.Proofs.Ytohkkncfofomdaa
open Go Go.RowKit
set_option maxRecDepth 100000
def othersL (id : Int) : Nat → Nat → List Int
  | _, 0 => []
  | k, m + 1 => if (k : Int) ≠ id then (k : Int) :: othersL id (k + 1) m else othersL id (k + 1) m
def m_it_others (x0 : Co) : Option (List Int) := some (othersL x0.id 1 (min x0.n 5).toNat)
theorem it_others (x0 : Co) {A0 A1 A2 A3 A4 : Option Addr} {c0 c1 c2 c3 c4 : Nat} (wB wM w : World) (hB0 : Below wB.heap.size wB wM) (b : Nat) (hN : St0 All wM w [.box b [.int .i64 x0.id, .int .i64 x0.n, .int .u8 x0.role, .int .i64 x0.binary, .int .i64 x0.tuple.snap.index, .int .i64 x0.tuple.snap.term, .int .i64 x0.tuple.snap.sum, .int .i64 x0.tuple.snap.level, .bool x0.tuple.snap.final, .slice A0 x0.tuple.log.length c0, .int .i64 x0.tuple.term, .int .i64 x0.tuple.vote, .int .i64 x0.commit, .int .i64 x0.applied.index, .int .i64 x0.applied.term, .int .i64 x0.applied.sum, .int .i64 x0.applied.level, .bool x0.applied.final, .slice A1 x0.votes.length c1, .slice A2 x0.next.length c2, .slice A3 x0.mtch.length c3, .slice A4 x0.caps.length c4] 32]) {xs : List Int} (H : m_it_others x0 = some xs) :
    IterP Try.prog 88 #[.pointer (some ⟨b, 0, none⟩)] (fun p : Int => [Value.int .i64 p].toArray) xs wB.heap.size wM.heap.size w := by
  obtain rfl := Option.some.inj H
  obtain ⟨hb, hbM, hbl⟩ := hN.cap
  intro lo J Jx Jp W hW hJ hJx hJp hy h0
  have hbW : W.heap[b]? = some (.cells #[.int .i64 x0.id, .int .i64 x0.n, .int .u8 x0.role, .int .i64 x0.binary, .int .i64 x0.tuple.snap.index, .int .i64 x0.tuple.snap.term, .int .i64 x0.tuple.snap.sum, .int .i64 x0.tuple.snap.level, .bool x0.tuple.snap.final, .slice A0 x0.tuple.log.length c0, .int .i64 x0.tuple.term, .int .i64 x0.tuple.vote, .int .i64 x0.commit, .int .i64 x0.applied.index, .int .i64 x0.applied.term, .int .i64 x0.applied.sum, .int .i64 x0.applied.level, .bool x0.applied.final, .slice A1 x0.votes.length c1, .slice A2 x0.next.length c2, .slice A3 x0.mtch.length c3, .slice A4 x0.caps.length c4] 32) := (hW.block b hbl).trans hb
  show Calls _ _ #[_, _] _ _
  refine gw_enter2 Try.func88 rfl Try.ntmps88 rfl ?_
  have hS := St0.start All W
  obtain ⟨M, hM⟩ : ∃ M, M = (min x0.n 5).toNat := ⟨_, rfl⟩
  rw [← hM] at hy
  try rw [← hM]
  repeat (first | apply wpS_nil | (apply QH_seq_k; assumption) | (apply wpC_seq_k; intro K hK) | apply wpC_region | (apply wpS_g; refine wpS_put rfl rfl rfl (by first | exact yv_assign rfl) ?_) | apply wpC_block)
  refine wpC_loop (X := Nat × List Int) (fun z => [(3, .int .i64 z.1), (1, .pointer (some ⟨b, 0, none⟩)), (0, .func (.yield lo) #[] #[])])
    (fun z B => (1 ≤ z.1 ∧ z.1 ≤ M + 1) ∧ othersL x0.id 1 M = z.2 ++ othersL x0.id z.1 (M + 1 - z.1) ∧ J z.2.length B ∧ B.heap[b]? = some (.cells #[.int .i64 x0.id, .int .i64 x0.n, .int .u8 x0.role, .int .i64 x0.binary, .int .i64 x0.tuple.snap.index, .int .i64 x0.tuple.snap.term, .int .i64 x0.tuple.snap.sum, .int .i64 x0.tuple.snap.level, .bool x0.tuple.snap.final, .slice A0 x0.tuple.log.length c0, .int .i64 x0.tuple.term, .int .i64 x0.tuple.vote, .int .i64 x0.commit, .int .i64 x0.applied.index, .int .i64 x0.applied.term, .int .i64 x0.applied.sum, .int .i64 x0.applied.level, .bool x0.applied.final, .slice A1 x0.votes.length c1, .slice A2 x0.next.length c2, .slice A3 x0.mtch.length c3, .slice A4 x0.caps.length c4] 32) ∧ w.heap.size ≤ B.heap.size) (fun z => M + 1 - z.1) (1, []) (by repeat (first | exact Sub.nil | refine Sub.cons rfl ?_)) ⟨by dsimp only; omega, by simp, h0, hbW, hW.size⟩ ?_
  rintro ⟨k, done⟩ B ⟨⟨hk1, hk2⟩, hxs, hJk, hbB, hz⟩
  dsimp only at hk1 hk2 hxs hJk
  dsimp only
  clear hbW hS h0
  have hS := St0.start All B
  rcases Nat.lt_or_ge M k with hge | hlt
  · obtain rfl : k = M + 1 := by omega
    have e0 : M + 1 - (M + 1) = 0 := by omega
    rw [e0] at hxs
    rw [show othersL x0.id (M + 1) 0 = [] from rfl, List.append_nil] at hxs
    repeat (first | apply wpS_nil | (apply QH_seq_k; assumption) | (apply wpC_seq_k; intro K hK) | apply wpC_region | (apply wpS_g; refine wpS_put rfl rfl rfl (by first | exact yv_move rfl | exact yv_fieldAddr (by first | exact fo_23_0 | exact fo_32_1) rfl | (apply yv_g_load; first | exact yv_load_ob (by first | exact sc_3) rfl (RW.here _) hS (by first | trivial) (by first | trivial) (by assumption) (by repeat (first | exact Seg.here (Pre.succ Pre.zero) | apply Seg.succ))) | (apply yv_g_bin; first | exact yv_leq_f rfl rfl (by omega)) | (apply yv_g_bi; first | exact yv_min rfl rfl)) ?_) | apply wpC_cond_f rfl rfl | apply wpC_exit | apply QH_then_exit | apply QH_block_hit)
    refine QH_end rfl (by first | exact RV.nil) rfl ?_
    refine .inl ⟨⟨_, rfl⟩, .inl ?_⟩
    rw [hxs]
    exact hJ _ _ _ hJk (hS.base.sub fun _ _ _ => trivial)
  · have hkn : (k : Int) ≤ min x0.n 5 := by omega
    have e0 : M + 1 - k = (M + 1 - (k + 1)) + 1 := by omega
    rw [e0, othersL] at hxs
    by_cases hid : (k : Int) ≠ x0.id
    · rw [if_pos hid] at hxs
      repeat (first | (apply wpC_seq_k; intro K hK))
      apply wpC_region
      repeat (first | apply wpS_nil | (apply QH_seq_k; assumption) | (apply wpC_seq_k; intro K hK) | (apply wpS_g; refine wpS_put rfl rfl rfl (by first | exact yv_move rfl | exact yv_fieldAddr (by first | exact fo_23_0 | exact fo_32_1) rfl | (apply yv_g_load; first | exact yv_load_ob (by first | exact sc_3) rfl (RW.here _) hS (by first | trivial) (by first | trivial) (by assumption) (by repeat (first | exact Seg.here (Pre.succ Pre.zero) | apply Seg.succ))) | (apply yv_g_bin; first | exact yv_leq_t rfl rfl (by omega)) | (apply yv_g_bi; first | exact yv_min rfl rfl)) ?_) | apply wpC_cond_t rfl rfl | apply wpC_skip | apply wpC_block)
      refine wpC_regionY 7 (by repeat (first | exact NL.body (by intro _ h; simp at h) | apply NL.then | apply NL.inBlock)) (by kernel_rfl) ?_
      dsimp only [List.take, List.drop]
      repeat (first | apply wpS_nil | (apply wpS_g; refine wpS_put rfl rfl rfl (by first | exact yv_move rfl | exact yv_fieldAddr (by first | exact fo_23_0 | exact fo_32_0) rfl | (apply yv_g_load; first | exact yv_load_ob (by first | exact sc_3) rfl (RW.here _) hS (by first | trivial) (by first | trivial) (by assumption) (by repeat (first | exact Seg.here (Pre.succ Pre.zero)))) | (apply yv_g_bin; first | exact yv_neq_t rfl rfl (by omega))) ?_))
      refine QH_Y ?_
      have hk1' : KeepB All B B := hS.base
      refine wpSI_yield rfl rfl rfl rfl (hy done.length (k : Int) B (by rw [hxs]; simp) (hJ _ B B hJk (hk1'.sub fun _ _ _ => trivial)) hz) ?_
      rintro ex w2 (⟨rfl, hJ2, hk2'⟩ | ⟨rfl, hJ2, hk2'⟩ | ⟨ch, rfl, hJ2⟩)
      · refine .inl ⟨_, rfl, wpSI_rest (by repeat (first | exact NL.body (by intro _ h; simp at h) | apply NL.then | apply NL.inBlock)) (by kernel_rfl) ?_⟩
        have hS := St0.start All w2
        repeat (first | apply wpS_nil | (apply QH_seq_k; assumption) | apply wpC_region | (apply wpS_g; refine wpS_put rfl rfl rfl (by first | exact yv_move rfl | exact yv_assign rfl | (apply yv_g_bin; first | exact yv_add rfl rfl (by omega)) | (apply yv_g_pick; first | exact yv_pick_t rfl rfl rfl) | exact yv_not rfl) ?_) | apply wpC_cond_f rfl rfl | apply wpC_skip | apply QH_block_normal)
        refine QH_again (k + 1, done ++ [(k : Int)]) (by repeat (first | exact Sub.nil | refine Sub.cons rfl ?_)) ⟨by dsimp only; omega, by dsimp only; rw [hxs]; simp, ?_, ?_, ?_⟩ (by dsimp only; omega)
        · dsimp only; rw [List.length_append]; exact hJ2
        · exact (hk2'.block b (Nat.lt_of_lt_of_le hbl hz) (.inr ⟨hbM, hbl⟩)).trans hbB
        · exact Nat.le_trans hz hk2'.size
      · refine .inl ⟨_, rfl, wpSI_rest (by repeat (first | exact NL.body (by intro _ h; simp at h) | apply NL.then | apply NL.inBlock)) (by kernel_rfl) ?_⟩
        have hS := St0.start All w2
        repeat (first | apply wpS_nil | (apply QH_seq_k; assumption) | (apply wpS_g; refine wpS_put rfl rfl rfl (by first | (apply yv_g_pick; first | exact yv_pick_t rfl rfl rfl) | exact yv_not rfl) ?_) | apply wpC_cond_t rfl rfl | apply wpC_ret | apply QH_then_ret | apply QH_block_ret)
        refine QH_ret rfl (by first | exact RV.nil) rfl ?_
        exact .inl ⟨⟨_, rfl⟩, .inr hJ2⟩
      · refine .inr ⟨ch, rfl, ?_⟩
        repeat (first | apply QH_then_panic | apply QH_block_panic)
        exact QH_panic rfl (.inr ⟨ch, rfl, hJ2⟩)
    · rw [if_neg hid] at hxs
      have hid' : (k : Int) = x0.id := by omega
      repeat (first | apply wpS_nil | (apply QH_seq_k; assumption) | (apply wpC_seq_k; intro K hK) | apply wpC_region | (apply wpS_g; refine wpS_skip rfl rfl rfl ?_) | (apply wpS_g; refine wpS_put rfl rfl rfl (by first | exact yv_move rfl | exact yv_assign rfl | exact yv_fieldAddr (by first | exact fo_23_0 | exact fo_32_0 | exact fo_32_1) rfl | (apply yv_g_load; first | exact yv_load_ob (by first | exact sc_3) rfl (RW.here _) hS (by first | trivial) (by first | trivial) (by assumption) (by repeat (first | exact Seg.here (Pre.succ Pre.zero) | apply Seg.succ))) | (apply yv_g_bin; first | exact yv_leq_t rfl rfl (by omega) | exact yv_neq_f rfl rfl (by omega) | exact yv_add rfl rfl (by omega)) | (apply yv_g_pick; first | exact yv_pick_f rfl rfl rfl) | (apply yv_g_bi; first | exact yv_min rfl rfl)) ?_) | apply wpC_cond_t rfl rfl | apply wpC_cond_f rfl rfl | apply wpC_skip | apply wpC_block | apply QH_block_normal)
      refine QH_again (k + 1, done) (by repeat (first | exact Sub.nil | refine Sub.cons rfl ?_)) ⟨by dsimp only; omega, by dsimp only; exact hxs, ?_, ?_, ?_⟩ (by dsimp only; omega)
      · exact hJ _ _ _ hJk (hS.base.sub fun _ _ _ => trivial)
      · exact (hS.base.block b (Nat.lt_of_lt_of_le hbl hz) trivial).trans hbB
      · exact Nat.le_trans hz hS.base.size
end Go.Proofs.Ytohkkncfofomdaa
/- What functions compute, in plain terms; printed. -/
namespace Go.Proofs.Ytohkkncfofomdaa
open Go Go.RowKit
set_option maxRecDepth 100000
def m_ref06_number (x0 : Int) : Option (Bool) :=
  cond (decide (0 ≤ x0))
   (
    some (decide (x0 ≤ 1073741824)))
   (
    some false)
def m_ref06_First : Option (St) :=
  some (⟨0, 0, 0, 1, false⟩ : St)
def m_ref06_Fine (x0 : St) : Option (Bool) :=
  (m_ref06_number x0.index).bind fun r6 =>
  cond (!r6)
   (
    some false)
   (
    (m_ref06_number x0.term).bind fun r9 =>
    cond (!r9)
     (
      some false)
     (
      (m_ref06_number x0.sum).bind fun r12 =>
      cond (!r12)
       (
        some false)
       (
        cond (decide ((decide (x0.term = 0)) ≠ (decide (x0.index = 0))))
         (
          some false)
         (
          cond (decide (x0.level ≠ 1))
           (
            cond (decide (x0.level ≠ 2))
             (
              some false)
             (
              cond x0.final
               (
                cond (decide (x0.level ≠ 2))
                 (
                  some false)
                 (
                  cond (decide (0 < x0.index))
                   (
                    some true)
                   (
                    (m_ref06_First).bind fun r19 =>
                    some (decide (x0.index = r19.index) && (decide (x0.term = r19.term) && (decide (x0.sum = r19.sum) && (decide (x0.level = r19.level) && (decide (x0.final = r19.final)))))))))
               (
                cond (decide (0 < x0.index))
                 (
                  some true)
                 (
                  (m_ref06_First).bind fun r22 =>
                  some (decide (x0.index = r22.index) && (decide (x0.term = r22.term) && (decide (x0.sum = r22.sum) && (decide (x0.level = r22.level) && (decide (x0.final = r22.final))))))))))
           (
            cond x0.final
             (
              cond (decide (x0.level ≠ 2))
               (
                some false)
               (
                cond (decide (0 < x0.index))
                 (
                  some true)
                 (
                  (m_ref06_First).bind fun r26 =>
                  some (decide (x0.index = r26.index) && (decide (x0.term = r26.term) && (decide (x0.sum = r26.sum) && (decide (x0.level = r26.level) && (decide (x0.final = r26.final)))))))))
             (
              cond (decide (0 < x0.index))
               (
                some true)
               (
                (m_ref06_First).bind fun r29 =>
                some (decide (x0.index = r29.index) && (decide (x0.term = r29.term) && (decide (x0.sum = r29.sum) && (decide (x0.level = r29.level) && (decide (x0.final = r29.final)))))))))))))
def m_ref06_Right (x0 : En) : Option (Bool) :=
  cond (decide (1 ≤ x0.term))
   (
    (m_ref06_number x0.term).bind fun r5 =>
    cond r5
     (
      cond (decide (0 ≤ x0.kind))
       (
        cond (decide (x0.kind < 5))
         (
          (m_ref06_number x0.value).bind fun r7 =>
          cond r7
           (
            cond (decide (x0.kind = 1))
             (
              some true)
             (
              some (decide (x0.value = 0))))
           (
            some false))
         (
          some false))
       (
        some false))
     (
      some false))
   (
    some false)
def m_ref12_Right_l1 (x0 : Tu) : Nat → Bool → Int → Int → Option (Bool)
  | 0, _, _, _ => none
  | n + 1, v16, v17, v18 =>
      cond (decide (v18 < (x0.log.length : Int)))
       (
        (idx x0.log v18).bind fun e24 =>
        (m_ref06_Right e24).bind fun r27 =>
        cond (!r27)
         (
          some false)
         (
          (idx x0.log v18).bind fun e30 =>
          cond (decide (e30.term < v17))
           (
            some false)
           (
            (idx x0.log v18).bind fun e34 =>
            m_ref12_Right_l1 x0 n v16 e34.term (IntKind.wrap .i64 (v18 + 1)))))
       (
        cond (decide (v17 ≤ x0.term))
         (
          cond (decide (0 ≤ x0.term))
           (
            some (decide (x0.term ≤ 1073741824)))
           (
            some false))
         (
          some false))
def m_ref12_Right (x0 : Tu) : Option (Bool) :=
  (m_ref06_Fine x0.snap).bind fun r6 =>
  cond (!r6)
   (
    some false)
   (
    cond (decide (1073740824 < x0.snap.index))
     (
      some false)
     (
      cond (decide (200 < (x0.log.length : Int)))
       (
        some false)
       (
        cond (decide (x0.vote < 0))
         (
          some false)
         (
          cond (decide (5 < x0.vote))
           (
            some false)
           (
            m_ref12_Right_l1 x0 fuelN false x0.snap.term 0)))))
def m_ref12_First : Option (Tu) :=
  (m_ref06_First).bind fun r5 =>
  some (⟨r5, [], 0, 0⟩ : Tu)
def m_msg_within (x0 : Int) (x1 : Int) (x2 : Int) : Option (Bool) :=
  cond (decide (x1 ≤ x0))
   (
    some (decide (x0 ≤ x2)))
   (
    some false)
def m_slices_Clone___api_Entry_api_Entry_ (x0 : List En) : Option (List En) := fewI x0
def m_tuple_Own (x0 : Tu) : Option (Tu) :=
  (m_slices_Clone___api_Entry_api_Entry_ x0.log).bind fun r7 =>
  some (⟨x0.snap, r7, x0.term, x0.vote⟩ : Tu)
def m_tuple_Last (x0 : Tu) : Option (Int) :=
  some (IntKind.wrap .i64 (x0.snap.index + (x0.log.length : Int)))
def m_math_bits_Mul64 (x0 : Int) (x1 : Int) : Option (Int × Int) :=
  some ((IntKind.wrap .u64 ((IntKind.wrap .u64 ((IntKind.wrap .u64 ((shrI .u64 x0 32) * (shrI .u64 x1 32))) + (shrI .u64 (IntKind.wrap .u64 ((IntKind.wrap .u64 ((shrI .u64 x0 32) * (bits .and .u64 x1 4294967295))) + (shrI .u64 (IntKind.wrap .u64 ((bits .and .u64 x0 4294967295) * (bits .and .u64 x1 4294967295))) 32))) 32))) + (shrI .u64 (IntKind.wrap .u64 ((bits .and .u64 (IntKind.wrap .u64 ((IntKind.wrap .u64 ((shrI .u64 x0 32) * (bits .and .u64 x1 4294967295))) + (shrI .u64 (IntKind.wrap .u64 ((bits .and .u64 x0 4294967295) * (bits .and .u64 x1 4294967295))) 32))) 4294967295) + (IntKind.wrap .u64 ((bits .and .u64 x0 4294967295) * (shrI .u64 x1 32))))) 32))), (IntKind.wrap .u64 (x0 * x1)))
def m_math_bits_Mul (x0 : Int) (x1 : Int) : Option (Int × Int) :=
  (m_math_bits_Mul64 x0 x1).bind fun r4 =>
  some (r4.1, r4.2)
def m_slices_Repeat___int_int__l1 (l10 : List Int) : Nat → Int → List Int → Option (List Int)
  | 0, _, _ => none
  | n + 1, v18, v19 =>
      cond (decide (v18 < (l10.length : Int)))
       (
        (dropI v19 v18).bind fun l24 =>
        (takeI v19 v18).bind fun l26 =>
        m_slices_Repeat___int_int__l1 l10 n (IntKind.wrap .i64 (v18 + ((min l24.length l26.length : Nat) : Int))) (copyI v19 (Int.toNat v18) l26))
       (
        some v19)
def m_slices_Repeat___int_int_ (x0 : List Int) (x1 : Int) : Option (List Int) :=
  cond (decide (x1 < 0))
   (
    none)
   (
    (m_math_bits_Mul (IntKind.wrap .u64 (x0.length : Int)) (IntKind.wrap .u64 x1)).bind fun r5 =>
    cond (decide (0 < r5.1))
     (
      none)
     (
      cond (decide (9223372036854775807 < r5.2))
       (
        none)
       (
        (makeI 0 (IntKind.wrap .i64 r5.2)).bind fun l10 =>
        m_slices_Repeat___int_int__l1 l10 fuelN ((min l10.length x0.length : Nat) : Int) (copyI l10 0 x0))))
def m_msg_New (x0 : Int) (x1 : Int) (x2 : Int) (x3 : Tu) : Option (Co) :=
  cond (decide (5 < x1))
   (
    some (⟨0, 0, 0, 0, (⟨(⟨0, 0, 0, 0, false⟩ : St), [], 0, 0⟩ : Tu), 0, (⟨0, 0, 0, 0, false⟩ : St), [], [], [], []⟩ : Co))
   (
    (m_msg_within x0 1 x1).bind fun r9 =>
    cond (!r9)
     (
      some (⟨0, 0, 0, 0, (⟨(⟨0, 0, 0, 0, false⟩ : St), [], 0, 0⟩ : Tu), 0, (⟨0, 0, 0, 0, false⟩ : St), [], [], [], []⟩ : Co))
     (
      (m_tuple_Own x3).bind fun r13 =>
      (makeI false x1).bind fun l23 =>
      (makeI 0 x1).bind fun l25 =>
      (makeI 0 x1).bind fun l27 =>
      (m_tuple_Last x3).bind fun r48 =>
      (m_slices_Repeat___int_int_ ([(IntKind.wrap .i64 (r48 + 1))] : List Int) x1).bind fun r52 =>
      (idx l27 (IntKind.wrap .i64 (x0 - 1))).bind fun e58 =>
      some (⟨x0, x1, 0, x2, r13, x3.snap.index, x3.snap, l23, r52, l25, (setI l27 (IntKind.wrap .i64 (x0 - 1)) x2)⟩ : Co)))

def m_msg_Others_r1 (x0 : Co) (x1 : Ms) : List (Int) → List Ms → Option (List Ms)
  | [], v15 =>
      some v15
  | e14 :: l0, v15 =>
      (m_slices_Clone___api_Entry_api_Entry_ x1.entries).bind fun r30 =>
      (fewI (v15 ++ [(⟨x1.kind, x0.id, e14, x0.tuple.term, x0.binary, x1.last, x1.lastTerm, x1.commit, x1.okk, r30, x1.snap⟩ : Ms)])).bind fun l38 =>
      m_msg_Others_r1 x0 x1 l0 l38
def m_msg_Others (x0 : Co) (x1 : Ms) : Option (List Ms) :=
  (m_it_others x0).bind fun xs24 =>
  m_msg_Others_r1 x0 x1 xs24 []
def m_msg_Back (x0 : Co) (x1 : Ms) (x2 : Int) (x3 : Bool) (x4 : Int) : Option (Ms) :=
  some (⟨x2, x0.id, x1.frm, x0.tuple.term, x0.binary, x4, 0, 0, x3, [], (⟨0, 0, 0, 0, false⟩ : St)⟩ : Ms)
def m_entry_First : Option (St) :=
  some (⟨0, 0, 0, 1, false⟩ : St)
def m_entry_number (x0 : Int) : Option (Bool) :=
  cond (decide (0 ≤ x0))
   (
    some (decide (x0 ≤ 1073741824)))
   (
    some false)
def m_entry_Fine (x0 : St) : Option (Bool) :=
  cond (decide (x0.index = 0))
   (
    (m_entry_First).bind fun r7 =>
    some (decide (x0.index = r7.index) && (decide (x0.term = r7.term) && (decide (x0.sum = r7.sum) && (decide (x0.level = r7.level) && (decide (x0.final = r7.final)))))))
   (
    cond x0.final
     (
      cond (decide (x0.level = 2))
       (
        (m_entry_number x0.index).bind fun r11 =>
        cond r11
         (
          cond (decide (0 < x0.term))
           (
            (m_entry_number x0.term).bind fun r13 =>
            cond r13
             (
              (m_entry_number x0.sum).bind fun r15 =>
              some r15)
             (
              some false))
           (
            some false))
         (
          some false))
       (
        some false))
     (
      cond (decide (x0.level = 1))
       (
        (m_entry_number x0.index).bind fun r18 =>
        cond r18
         (
          cond (decide (0 < x0.term))
           (
            (m_entry_number x0.term).bind fun r20 =>
            cond r20
             (
              (m_entry_number x0.sum).bind fun r22 =>
              some r22)
             (
              some false))
           (
            some false))
         (
          some false))
       (
        cond (decide (x0.level = 2))
         (
          (m_entry_number x0.index).bind fun r24 =>
          cond r24
           (
            cond (decide (0 < x0.term))
             (
              (m_entry_number x0.term).bind fun r26 =>
              cond r26
               (
                (m_entry_number x0.sum).bind fun r28 =>
                some r28)
               (
                some false))
             (
              some false))
           (
            some false))
         (
          some false))))
def m_msg_each_l1 (x0 : List Int) (x2 : Int) (x3 : Int) : Nat → Int → Int → Option (Bool)
  | 0, _, _ => none
  | n + 1, v12, v13 =>
      cond (decide (v13 < (x0.length : Int)))
       (
        (idx x0 v13).bind fun e19 =>
        (m_msg_within e19 x2 x3).bind fun r24 =>
        cond (!r24)
         (
          some (!(decide (0 ≤ v13))))
         (
          m_msg_each_l1 x0 x2 x3 n v12 (IntKind.wrap .i64 (v13 + 1))))
       (
        some (!(decide (0 ≤ (-1)))))
def m_msg_each (x0 : List Int) (x1 : Int) (x2 : Int) (x3 : Int) : Option (Bool) :=
  cond (decide ((x0.length : Int) = x1))
   (
    m_msg_each_l1 x0 x2 x3 fuelN 0 0)
   (
    some false)
def m_msg_Right (x0 : Co) : Option (Bool) :=
  (m_tuple_Last x0.tuple).bind fun r5 =>
  (m_msg_within x0.n 1 5).bind fun r18 =>
  cond r18
   (
    (m_msg_within x0.id 1 x0.n).bind fun r20 =>
    cond (!r20)
     (
      some false)
     (
      cond (decide (x0.role ≤ 2))
       (
        (m_msg_within x0.binary 1 2).bind fun r30 =>
        cond r30
         (
          (m_tuple_Right x0.tuple).bind fun r32 =>
          cond (!r32)
           (
            some false)
           (
            (m_tuple_State x0.tuple x0.commit).bind fun r42 =>
            cond r42.2
             (
              cond (!(decide (r42.1.index = x0.applied.index) && (decide (r42.1.term = x0.applied.term) && (decide (r42.1.sum = x0.applied.sum) && (decide (r42.1.level = x0.applied.level) && (decide (r42.1.final = x0.applied.final)))))))
               (
                some false)
               (
                cond (decide ((x0.votes.length : Int) = x0.n))
                 (
                  (m_msg_each x0.next x0.n 1 (IntKind.wrap .i64 (r5 + 1))).bind fun r55 =>
                  cond r55
                   (
                    (m_msg_each x0.mtch x0.n 0 r5).bind fun r57 =>
                    cond (!r57)
                     (
                      some false)
                     (
                      (m_msg_each x0.caps x0.n 0 2).bind fun r67 =>
                      cond r67
                       (
                        (idx x0.caps (IntKind.wrap .i64 (x0.id - 1))).bind fun e69 =>
                        cond (!(decide (e69 = x0.binary)))
                         (
                          some false)
                         (
                          cond (decide (x0.role = 0))
                           (
                            some true)
                           (
                            cond (decide (0 < x0.tuple.term))
                             (
                              cond (!(decide (x0.tuple.vote = x0.id)))
                               (
                                some false)
                               (
                                some true))
                             (
                              some false))))
                       (
                        some false)))
                   (
                    some false))
                 (
                  some false)))
             (
              some false)))
         (
          some false))
       (
        some false)))
   (
    some false)
def m_slices_Clone___bool_bool_ (x0 : List Bool) : Option (List Bool) := fewI x0
def m_slices_Clone___int_int_ (x0 : List Int) : Option (List Int) := fewI x0
def m_msg_Own (x0 : Co) : Option (Co) :=
  (m_tuple_Own x0.tuple).bind fun r7 =>
  (m_slices_Clone___bool_bool_ x0.votes).bind fun r14 =>
  (m_slices_Clone___int_int_ x0.next).bind fun r20 =>
  (m_slices_Clone___int_int_ x0.mtch).bind fun r26 =>
  (m_slices_Clone___int_int_ x0.caps).bind fun r32 =>
  some (⟨x0.id, x0.n, x0.role, x0.binary, r7, x0.commit, x0.applied, r14, r20, r26, r32⟩ : Co)
def m_slices_Equal___api_Entry_api_Entry__l1 (x0 : List En) (x1 : List En) : Nat → Bool → Int → Option (Bool)
  | 0, _, _ => none
  | n + 1, v7, v8 =>
      cond (decide (v8 < (x0.length : Int)))
       (
        (idx x0 v8).bind fun e14 =>
        (idx x1 v8).bind fun e17 =>
        cond (!(decide (e14.term = e17.term) && (decide (e14.kind = e17.kind) && (decide (e14.value = e17.value)))))
         (
          some false)
         (
          m_slices_Equal___api_Entry_api_Entry__l1 x0 x1 n v7 (IntKind.wrap .i64 (v8 + 1))))
       (
        some true)
def m_slices_Equal___api_Entry_api_Entry_ (x0 : List En) (x1 : List En) : Option (Bool) :=
  cond (decide ((x0.length : Int) ≠ (x1.length : Int)))
   (
    some false)
   (
    m_slices_Equal___api_Entry_api_Entry__l1 x0 x1 fuelN false 0)
def m_tuple_Same (x0 : Tu) (x1 : Tu) : Option (Bool) :=
  cond (decide (x0.snap.index = x1.snap.index) && (decide (x0.snap.term = x1.snap.term) && (decide (x0.snap.sum = x1.snap.sum) && (decide (x0.snap.level = x1.snap.level) && (decide (x0.snap.final = x1.snap.final))))))
   (
    cond (decide (x0.term = x1.term))
     (
      cond (decide (x0.vote = x1.vote))
       (
        (m_slices_Equal___api_Entry_api_Entry_ x0.log x1.log).bind fun r7 =>
        some r7)
       (
        some false))
     (
      some false))
   (
    some false)
def m_slices_Equal___bool_bool__l1 (x0 : List Bool) (x1 : List Bool) : Nat → Bool → Int → Option (Bool)
  | 0, _, _ => none
  | n + 1, v7, v8 =>
      cond (decide (v8 < (x0.length : Int)))
       (
        (idx x0 v8).bind fun e14 =>
        (idx x1 v8).bind fun e17 =>
        cond (decide (e14 ≠ e17))
         (
          some false)
         (
          m_slices_Equal___bool_bool__l1 x0 x1 n v7 (IntKind.wrap .i64 (v8 + 1))))
       (
        some true)
def m_slices_Equal___bool_bool_ (x0 : List Bool) (x1 : List Bool) : Option (Bool) :=
  cond (decide ((x0.length : Int) ≠ (x1.length : Int)))
   (
    some false)
   (
    m_slices_Equal___bool_bool__l1 x0 x1 fuelN false 0)
def m_slices_Equal___int_int__l1 (x0 : List Int) (x1 : List Int) : Nat → Bool → Int → Option (Bool)
  | 0, _, _ => none
  | n + 1, v7, v8 =>
      cond (decide (v8 < (x0.length : Int)))
       (
        (idx x0 v8).bind fun e14 =>
        (idx x1 v8).bind fun e17 =>
        cond (decide (e14 ≠ e17))
         (
          some false)
         (
          m_slices_Equal___int_int__l1 x0 x1 n v7 (IntKind.wrap .i64 (v8 + 1))))
       (
        some true)
def m_slices_Equal___int_int_ (x0 : List Int) (x1 : List Int) : Option (Bool) :=
  cond (decide ((x0.length : Int) ≠ (x1.length : Int)))
   (
    some false)
   (
    m_slices_Equal___int_int__l1 x0 x1 fuelN false 0)
def m_msg_Same (x0 : Co) (x1 : Co) : Option (Bool) :=
  cond (decide (x0.id = x1.id))
   (
    cond (decide (x0.n = x1.n))
     (
      cond (decide (x0.role = x1.role))
       (
        cond (decide (x0.binary = x1.binary))
         (
          cond (decide (x0.commit = x1.commit))
           (
            cond (decide (x0.applied.index = x1.applied.index) && (decide (x0.applied.term = x1.applied.term) && (decide (x0.applied.sum = x1.applied.sum) && (decide (x0.applied.level = x1.applied.level) && (decide (x0.applied.final = x1.applied.final))))))
             (
              (m_tuple_Same x0.tuple x1.tuple).bind fun r8 =>
              cond r8
               (
                (m_slices_Equal___bool_bool_ x0.votes x1.votes).bind fun r10 =>
                cond r10
                 (
                  (m_slices_Equal___int_int_ x0.next x1.next).bind fun r12 =>
                  cond r12
                   (
                    (m_slices_Equal___int_int_ x0.mtch x1.mtch).bind fun r14 =>
                    cond r14
                     (
                      (m_slices_Equal___int_int_ x0.caps x1.caps).bind fun r16 =>
                      some r16)
                     (
                      some false))
                   (
                    some false))
                 (
                  some false))
               (
                some false))
             (
              some false))
           (
            some false))
         (
          some false))
       (
        some false))
     (
      some false))
   (
    some false)
def m_msg_Alike (x0 : Ms) (x1 : Ms) : Option (Bool) :=
  (m_slices_Equal___api_Entry_api_Entry_ x0.entries x1.entries).bind fun r14 =>
  cond r14
   (
    cond (decide (x0.kind = x1.kind))
     (
      cond (decide (x0.okk = x1.okk))
       (
        cond (decide (x0.snap.index = x1.snap.index) && (decide (x0.snap.term = x1.snap.term) && (decide (x0.snap.sum = x1.snap.sum) && (decide (x0.snap.level = x1.snap.level) && (decide (x0.snap.final = x1.snap.final))))))
         (
          some (decide (x0.frm = x1.frm) && (decide (x0.dst = x1.dst) && (decide (x0.term = x1.term) && (decide (x0.cap = x1.cap) && (decide (x0.last = x1.last) && (decide (x0.lastTerm = x1.lastTerm) && (decide (x0.commit = x1.commit)))))))))
         (
          some false))
       (
        some false))
     (
      some false))
   (
    some false)
def m_msg_entries_l1 (x0 : Ms) : Nat → Bool → Int → Int → Option (Bool)
  | 0, _, _, _ => none
  | n + 1, v7, v8, v9 =>
      cond (decide (v9 < (x0.entries.length : Int)))
       (
        (idx x0.entries v9).bind fun e14 =>
        (m_entry_Right e14).bind fun r21 =>
        cond (!r21)
         (
          some false)
         (
          (m_msg_within e14.term v8 x0.term).bind fun r24 =>
          cond (!r24)
           (
            some false)
           (
            m_msg_entries_l1 x0 n v7 e14.term (IntKind.wrap .i64 (v9 + 1)))))
       (
        some (decide ((x0.entries.length : Int) ≤ 4)))
def m_msg_entries (x0 : Ms) : Option (Bool) :=
  m_msg_entries_l1 x0 fuelN false x0.lastTerm 0
def m_msg_Fine (x0 : Ms) (x1 : Int) : Option (Bool) :=
  (m_msg_within x1 1 5).bind fun r6 =>
  cond (!r6)
   (
    some false)
   (
    (m_msg_each ([x0.frm, x0.dst] : List Int) 2 1 x1).bind fun r12 =>
    cond (!r12)
     (
      some false)
     (
      cond (decide (x0.frm = x0.dst))
       (
        some false)
       (
        (m_msg_within (IntKind.wrap .i64 x0.kind) 1 5).bind fun r20 =>
        cond (!r20)
         (
          some false)
         (
          (m_msg_within x0.term 1 1073741824).bind fun r24 =>
          cond (!r24)
           (
            some false)
           (
            (m_msg_within x0.cap 1 2).bind fun r28 =>
            cond (!r28)
             (
              some false)
             (
              (m_msg_each ([x0.last, x0.lastTerm, x0.commit] : List Int) 3 0 1073741824).bind fun r36 =>
              cond (!r36)
               (
                some false)
               (
                (m_msg_entries x0).bind fun r40 =>
                cond (!r40)
                 (
                  some false)
                 (
                  cond (decide (x0.kind ≠ 3))
                   (
                    cond (decide (0 < (x0.entries.length : Int)))
                     (
                      some false)
                     (
                      cond (decide (0 < x0.commit))
                       (
                        some false)
                       (
                        cond x0.okk
                         (
                          cond (decide (x0.kind ≠ 2))
                           (
                            cond (decide (x0.kind ≠ 4))
                             (
                              some false)
                             (
                              cond (decide (x0.kind = 5))
                               (
                                cond (decide (0 < x0.snap.index))
                                 (
                                  (m_entry_Fine x0.snap).bind fun r57 =>
                                  some r57)
                                 (
                                  some false))
                               (
                                some (decide (x0.snap.index = 0) && (decide (x0.snap.term = 0) && (decide (x0.snap.sum = 0) && (decide (x0.snap.level = 0) && (decide (x0.snap.final = false)))))))))
                           (
                            cond (decide (x0.kind = 5))
                             (
                              cond (decide (0 < x0.snap.index))
                               (
                                (m_entry_Fine x0.snap).bind fun r64 =>
                                some r64)
                               (
                                some false))
                             (
                              some (decide (x0.snap.index = 0) && (decide (x0.snap.term = 0) && (decide (x0.snap.sum = 0) && (decide (x0.snap.level = 0) && (decide (x0.snap.final = false)))))))))
                         (
                          cond (decide (x0.kind = 5))
                           (
                            cond (decide (0 < x0.snap.index))
                             (
                              (m_entry_Fine x0.snap).bind fun r71 =>
                              some r71)
                             (
                              some false))
                           (
                            some (decide (x0.snap.index = 0) && (decide (x0.snap.term = 0) && (decide (x0.snap.sum = 0) && (decide (x0.snap.level = 0) && (decide (x0.snap.final = false)))))))))))
                   (
                    cond x0.okk
                     (
                      cond (decide (x0.kind ≠ 2))
                       (
                        cond (decide (x0.kind ≠ 4))
                         (
                          some false)
                         (
                          cond (decide (x0.kind = 5))
                           (
                            cond (decide (0 < x0.snap.index))
                             (
                              (m_entry_Fine x0.snap).bind fun r82 =>
                              some r82)
                             (
                              some false))
                           (
                            some (decide (x0.snap.index = 0) && (decide (x0.snap.term = 0) && (decide (x0.snap.sum = 0) && (decide (x0.snap.level = 0) && (decide (x0.snap.final = false)))))))))
                       (
                        cond (decide (x0.kind = 5))
                         (
                          cond (decide (0 < x0.snap.index))
                           (
                            (m_entry_Fine x0.snap).bind fun r89 =>
                            some r89)
                           (
                            some false))
                         (
                          some (decide (x0.snap.index = 0) && (decide (x0.snap.term = 0) && (decide (x0.snap.sum = 0) && (decide (x0.snap.level = 0) && (decide (x0.snap.final = false)))))))))
                     (
                      cond (decide (x0.kind = 5))
                       (
                        cond (decide (0 < x0.snap.index))
                         (
                          (m_entry_Fine x0.snap).bind fun r96 =>
                          some r96)
                         (
                          some false))
                       (
                        some (decide (x0.snap.index = 0) && (decide (x0.snap.term = 0) && (decide (x0.snap.sum = 0) && (decide (x0.snap.level = 0) && (decide (x0.snap.final = false)))))))))))))))))
def m_law20_wakes : Option (Bool) :=
  (m_ref12_First).bind fun r3 =>
  (m_msg_New 2 3 2 r3).bind fun r9 =>
  (m_msg_Others r9 (⟨1, 0, 0, 0, 0, 0, 0, 0, false, [], (⟨0, 0, 0, 0, false⟩ : St)⟩ : Ms)).bind fun r34 =>
  (m_msg_Back r9 (⟨0, 3, 0, 0, 0, 0, 0, 0, false, [], (⟨0, 0, 0, 0, false⟩ : St)⟩ : Ms) 4 true 7).bind fun r45 =>
  cond (decide ((r34.length : Int) ≠ 2))
   (
    some false)
   (
    (m_msg_Right r9).bind fun r57 =>
    cond r57
     (
      (idx r34 0).bind fun e59 =>
      cond (decide (e59.dst = 1))
       (
        (idx r34 1).bind fun e64 =>
        cond (decide (e64.dst = 3))
         (
          (idx r34 1).bind fun e69 =>
          cond (decide (e69.frm = 2))
           (
            (idx r34 0).bind fun e74 =>
            cond (decide (e74.cap = 2))
             (
              cond (decide (r45.dst = 3))
               (
                cond r45.okk
                 (
                  cond (decide (r45.last = 7))
                   (
                    (m_msg_Own r9).bind fun r79 =>
                    (m_msg_Same r9 r79).bind fun r101 =>
                    cond r101
                     (
                      (m_ref12_First).bind fun r103 =>
                      (m_msg_New 4 3 2 r103).bind fun r109 =>
                      (m_msg_Right r109).bind fun r131 =>
                      cond (!r131)
                       (
                        (m_msg_Alike r45 r45).bind fun r133 =>
                        cond r133
                         (
                          (m_msg_Fine r45 3).bind fun r135 =>
                          cond (!r135)
                           (
                            (m_msg_Fine (⟨4, 1, 2, 4, 1, 0, 0, 0, true, [], (⟨0, 0, 0, 0, false⟩ : St)⟩ : Ms) 2).bind fun r137 =>
                            some r137)
                           (
                            some false))
                         (
                          some false))
                       (
                        some false))
                     (
                      some false))
                   (
                    some false))
                 (
                  some false))
               (
                some false))
             (
              some false))
           (
            some false))
         (
          some false))
       (
        some false))
     (
      some false))
def m_ref12_Last (x0 : Tu) : Option (Int) :=
  some (IntKind.wrap .i64 (x0.snap.index + (x0.log.length : Int)))
def m_ref06_Next (x0 : St) (x1 : En) : Option (St) :=
  (m_ref06_Right x1).bind fun r10 =>
  cond (!r10)
   (
    some x0)
   (
    (m_ref06_Fine x0).bind fun r13 =>
    cond (!r13)
     (
      some x0)
     (
      cond (decide (1073741824 ≤ x0.index))
       (
        some x0)
       (
        cond (decide (x1.kind = 1))
         (
          some (⟨(IntKind.wrap .i64 (x0.index + 1)), x1.term, (Int.tmod (IntKind.wrap .i64 ((IntKind.wrap .i64 ((IntKind.wrap .i64 (31 * x0.sum)) + x1.value)) + 1)) 1073741824), x0.level, x0.final⟩ : St))
         (
          cond (decide (x1.kind = 2))
           (
            some (⟨(IntKind.wrap .i64 (x0.index + 1)), x1.term, x0.sum, 2, x0.final⟩ : St))
           (
            cond (decide (x1.kind = 3))
             (
              cond (!x0.final)
               (
                some (⟨(IntKind.wrap .i64 (x0.index + 1)), x1.term, x0.sum, 1, x0.final⟩ : St))
               (
                some (⟨(IntKind.wrap .i64 (x0.index + 1)), x1.term, x0.sum, x0.level, x0.final⟩ : St)))
             (
              cond (decide (x1.kind = 4))
               (
                some (⟨(IntKind.wrap .i64 (x0.index + 1)), x1.term, x0.sum, x0.level, (decide (x0.level = 2))⟩ : St))
               (
                some (⟨(IntKind.wrap .i64 (x0.index + 1)), x1.term, x0.sum, x0.level, x0.final⟩ : St))))))))
def m_ref06_All_l1 (x1 : List En) : Nat → Int → Int → Int → Int → Int → Bool → Option (St)
  | 0, _, _, _, _, _, _ => none
  | n + 1, v8, v9, v10, v11, v12, v13 =>
      cond (decide (v8 < (x1.length : Int)))
       (
        (idx x1 v8).bind fun e17 =>
        (m_ref06_Next (⟨v9, v10, v11, v12, v13⟩ : St) e17).bind fun r20 =>
        m_ref06_All_l1 x1 n (IntKind.wrap .i64 (v8 + 1)) r20.index r20.term r20.sum r20.level r20.final)
       (
        some (⟨v9, v10, v11, v12, v13⟩ : St))
def m_ref06_All (x0 : St) (x1 : List En) : Option (St) :=
  m_ref06_All_l1 x1 fuelN 0 x0.index x0.term x0.sum x0.level x0.final
def m_ref12_State (x0 : Tu) (x1 : Int) : Option (St × Bool) :=
  cond (decide (x1 < x0.snap.index))
   (
    some ((⟨0, 0, 0, 0, false⟩ : St), false))
   (
    (m_ref12_Last x0).bind fun r9 =>
    cond (decide (r9 < x1))
     (
      some ((⟨0, 0, 0, 0, false⟩ : St), false))
     (
      (takeI x0.log (IntKind.wrap .i64 (x1 - x0.snap.index))).bind fun l13 =>
      (m_ref06_All x0.snap l13).bind fun r15 =>
      some (r15, true)))
def m_ref20_Right_l1 (x0 : Co) (r30 : Int) : Nat → Bool → Int → Option (Bool)
  | 0, _, _ => none
  | n + 1, v34, v35 =>
      cond (decide (v35 < x0.n))
       (
        (idx x0.next v35).bind fun e40 =>
        cond (decide (e40 < 1))
         (
          some false)
         (
          (idx x0.next v35).bind fun e44 =>
          cond (decide ((IntKind.wrap .i64 (r30 + 1)) < e44))
           (
            some false)
           (
            (idx x0.mtch v35).bind fun e48 =>
            cond (decide (e48 < 0))
             (
              some false)
             (
              (idx x0.mtch v35).bind fun e52 =>
              cond (decide (r30 < e52))
               (
                some false)
               (
                (idx x0.caps v35).bind fun e56 =>
                cond (decide (e56 < 0))
                 (
                  some false)
                 (
                  (idx x0.caps v35).bind fun e60 =>
                  cond (decide (2 < e60))
                   (
                    some false)
                   (
                    m_ref20_Right_l1 x0 r30 n v34 (IntKind.wrap .i64 (v35 + 1)))))))))
       (
        cond (decide (x0.role ≠ 0))
         (
          cond (decide (x0.tuple.term < 1))
           (
            some false)
           (
            cond (decide (x0.tuple.vote ≠ x0.id))
             (
              some false)
             (
              (idx x0.caps (IntKind.wrap .i64 (x0.id - 1))).bind fun e69 =>
              some (decide (e69 = x0.binary)))))
         (
          (idx x0.caps (IntKind.wrap .i64 (x0.id - 1))).bind fun e73 =>
          some (decide (e73 = x0.binary))))
def m_ref20_Right (x0 : Co) : Option (Bool) :=
  cond (decide (x0.n < 1))
   (
    some false)
   (
    cond (decide (5 < x0.n))
     (
      some false)
     (
      cond (decide (x0.id < 1))
       (
        some false)
       (
        cond (decide (x0.n < x0.id))
         (
          some false)
         (
          cond (decide (2 < x0.role))
           (
            some false)
           (
            cond (decide (x0.binary < 1))
             (
              some false)
             (
              cond (decide (2 < x0.binary))
               (
                some false)
               (
                (m_ref12_Right x0.tuple).bind fun r13 =>
                cond (!r13)
                 (
                  some false)
                 (
                  (m_ref12_State x0.tuple x0.commit).bind fun r17 =>
                  cond (!r17.2)
                   (
                    some false)
                   (
                    cond (!(decide (r17.1.index = x0.applied.index) && (decide (r17.1.term = x0.applied.term) && (decide (r17.1.sum = x0.applied.sum) && (decide (r17.1.level = x0.applied.level) && (decide (r17.1.final = x0.applied.final)))))))
                     (
                      some false)
                     (
                      cond (decide ((x0.votes.length : Int) ≠ x0.n))
                       (
                        some false)
                       (
                        cond (decide ((x0.next.length : Int) ≠ x0.n))
                         (
                          some false)
                         (
                          cond (decide ((x0.mtch.length : Int) ≠ x0.n))
                           (
                            some false)
                           (
                            cond (decide ((x0.caps.length : Int) ≠ x0.n))
                             (
                              some false)
                             (
                              (m_ref12_Last x0.tuple).bind fun r30 =>
                              m_ref20_Right_l1 x0 r30 fuelN false 0))))))))))))))
def m_ref06_Same_l1 (x0 : List En) (x1 : List En) : Nat → Bool → Int → Option (Bool)
  | 0, _, _ => none
  | n + 1, v7, v8 =>
      cond (decide (v8 < (x0.length : Int)))
       (
        (idx x0 v8).bind fun e13 =>
        (idx x1 v8).bind fun e16 =>
        cond (!(decide (e13.term = e16.term) && (decide (e13.kind = e16.kind) && (decide (e13.value = e16.value)))))
         (
          some false)
         (
          m_ref06_Same_l1 x0 x1 n v7 (IntKind.wrap .i64 (v8 + 1))))
       (
        some true)
def m_ref06_Same (x0 : List En) (x1 : List En) : Option (Bool) :=
  cond (decide ((x0.length : Int) ≠ (x1.length : Int)))
   (
    some false)
   (
    m_ref06_Same_l1 x0 x1 fuelN false 0)
def m_ref12_Same (x0 : Tu) (x1 : Tu) : Option (Bool) :=
  cond (decide (x0.snap.index = x1.snap.index) && (decide (x0.snap.term = x1.snap.term) && (decide (x0.snap.sum = x1.snap.sum) && (decide (x0.snap.level = x1.snap.level) && (decide (x0.snap.final = x1.snap.final))))))
   (
    cond (decide (x0.term = x1.term))
     (
      cond (decide (x0.vote = x1.vote))
       (
        (m_ref06_Same x0.log x1.log).bind fun r7 =>
        some r7)
       (
        some false))
     (
      some false))
   (
    some false)
def m_ref12_Great (x0 : Tu) : Option (Bool) :=
  some (decide (250 < (x0.log.length : Int)))
def m_ref20_Great (x0 : Co) : Option (Bool) :=
  (m_ref12_Great x0.tuple).bind fun r5 =>
  cond r5
   (
    some true)
   (
    cond (decide (9 < (x0.votes.length : Int)))
     (
      some true)
     (
      cond (decide (9 < (x0.next.length : Int)))
       (
        some true)
       (
        cond (decide (9 < (x0.mtch.length : Int)))
         (
          some true)
         (
          cond (decide (9 < (x0.caps.length : Int)))
           (
            some true)
           (
            cond (decide (1099511627776 < x0.tuple.snap.index))
             (
              some true)
             (
              some (decide (x0.tuple.snap.index < (-1099511627776)))))))))
def m_ref20_Alike (x0 : Ms) (x1 : Ms) : Option (Bool) :=
  cond (decide (x0.kind = x1.kind))
   (
    cond (decide (x0.frm = x1.frm))
     (
      cond (decide (x0.dst = x1.dst))
       (
        cond (decide (x0.term = x1.term))
         (
          cond (decide (x0.cap = x1.cap))
           (
            cond (decide (x0.last = x1.last))
             (
              cond (decide (x0.lastTerm = x1.lastTerm))
               (
                cond (decide (x0.commit = x1.commit))
                 (
                  cond (decide (x0.okk = x1.okk))
                   (
                    cond (decide (x0.snap.index = x1.snap.index) && (decide (x0.snap.term = x1.snap.term) && (decide (x0.snap.sum = x1.snap.sum) && (decide (x0.snap.level = x1.snap.level) && (decide (x0.snap.final = x1.snap.final))))))
                     (
                      (m_ref06_Same x0.entries x1.entries).bind fun r7 =>
                      some r7)
                     (
                      some false))
                   (
                    some false))
                 (
                  some false))
               (
                some false))
             (
              some false))
           (
            some false))
         (
          some false))
       (
        some false))
     (
      some false))
   (
    some false)
def m_ref20_number (x0 : Int) : Option (Bool) :=
  cond (decide (0 ≤ x0))
   (
    some (decide (x0 ≤ 1073741824)))
   (
    some false)
def m_ref20_entries_l1 (x0 : Ms) : Nat → Bool → Int → Int → Option (Bool)
  | 0, _, _, _ => none
  | n + 1, v7, v8, v9 =>
      cond (decide (v9 < (x0.entries.length : Int)))
       (
        (idx x0.entries v9).bind fun e15 =>
        (m_ref06_Right e15).bind fun r18 =>
        cond (!r18)
         (
          some false)
         (
          (idx x0.entries v9).bind fun e21 =>
          cond (decide (e21.term < v8))
           (
            some false)
           (
            (idx x0.entries v9).bind fun e25 =>
            cond (decide (x0.term < e25.term))
             (
              some false)
             (
              (idx x0.entries v9).bind fun e29 =>
              m_ref20_entries_l1 x0 n v7 e29.term (IntKind.wrap .i64 (v9 + 1))))))
       (
        some (decide ((x0.entries.length : Int) ≤ 4)))
def m_ref20_entries (x0 : Ms) : Option (Bool) :=
  m_ref20_entries_l1 x0 fuelN false x0.lastTerm 0
def m_ref20_Fine (x0 : Ms) (x1 : Int) : Option (Bool) :=
  cond (decide (x1 < 1))
   (
    some false)
   (
    cond (decide (5 < x1))
     (
      some false)
     (
      cond (decide (x0.frm < 1))
       (
        some false)
       (
        cond (decide (x1 < x0.frm))
         (
          some false)
         (
          cond (decide (x0.dst < 1))
           (
            some false)
           (
            cond (decide (x1 < x0.dst))
             (
              some false)
             (
              cond (decide (x0.frm = x0.dst))
               (
                some false)
               (
                cond (decide (x0.kind < 1))
                 (
                  some false)
                 (
                  cond (decide (6 ≤ x0.kind))
                   (
                    some false)
                   (
                    cond (decide (x0.term < 1))
                     (
                      some false)
                     (
                      cond (decide (1073741824 < x0.term))
                       (
                        some false)
                       (
                        cond (decide (x0.cap < 1))
                         (
                          some false)
                         (
                          cond (decide (2 < x0.cap))
                           (
                            some false)
                           (
                            (m_ref20_number x0.last).bind fun r21 =>
                            cond (!r21)
                             (
                              some false)
                             (
                              (m_ref20_number x0.lastTerm).bind fun r24 =>
                              cond (!r24)
                               (
                                some false)
                               (
                                (m_ref20_number x0.commit).bind fun r27 =>
                                cond (!r27)
                                 (
                                  some false)
                                 (
                                  (m_ref20_entries x0).bind fun r30 =>
                                  cond (!r30)
                                   (
                                    some false)
                                   (
                                    cond (decide (x0.kind ≠ 3))
                                     (
                                      cond (decide (0 < (x0.entries.length : Int)))
                                       (
                                        some false)
                                       (
                                        cond (decide (0 < x0.commit))
                                         (
                                          some false)
                                         (
                                          cond x0.okk
                                           (
                                            cond (decide (x0.kind ≠ 2))
                                             (
                                              cond (decide (x0.kind ≠ 4))
                                               (
                                                some false)
                                               (
                                                cond (decide (x0.kind = 5))
                                                 (
                                                  (m_ref06_Fine x0.snap).bind fun r41 =>
                                                  cond r41
                                                   (
                                                    some (decide (0 < x0.snap.index)))
                                                   (
                                                    some false))
                                                 (
                                                  some (decide (x0.snap.index = 0) && (decide (x0.snap.term = 0) && (decide (x0.snap.sum = 0) && (decide (x0.snap.level = 0) && (decide (x0.snap.final = false)))))))))
                                             (
                                              cond (decide (x0.kind = 5))
                                               (
                                                (m_ref06_Fine x0.snap).bind fun r47 =>
                                                cond r47
                                                 (
                                                  some (decide (0 < x0.snap.index)))
                                                 (
                                                  some false))
                                               (
                                                some (decide (x0.snap.index = 0) && (decide (x0.snap.term = 0) && (decide (x0.snap.sum = 0) && (decide (x0.snap.level = 0) && (decide (x0.snap.final = false)))))))))
                                           (
                                            cond (decide (x0.kind = 5))
                                             (
                                              (m_ref06_Fine x0.snap).bind fun r53 =>
                                              cond r53
                                               (
                                                some (decide (0 < x0.snap.index)))
                                               (
                                                some false))
                                             (
                                              some (decide (x0.snap.index = 0) && (decide (x0.snap.term = 0) && (decide (x0.snap.sum = 0) && (decide (x0.snap.level = 0) && (decide (x0.snap.final = false)))))))))))
                                     (
                                      cond x0.okk
                                       (
                                        cond (decide (x0.kind ≠ 2))
                                         (
                                          cond (decide (x0.kind ≠ 4))
                                           (
                                            some false)
                                           (
                                            cond (decide (x0.kind = 5))
                                             (
                                              (m_ref06_Fine x0.snap).bind fun r60 =>
                                              cond r60
                                               (
                                                some (decide (0 < x0.snap.index)))
                                               (
                                                some false))
                                             (
                                              some (decide (x0.snap.index = 0) && (decide (x0.snap.term = 0) && (decide (x0.snap.sum = 0) && (decide (x0.snap.level = 0) && (decide (x0.snap.final = false)))))))))
                                         (
                                          cond (decide (x0.kind = 5))
                                           (
                                            (m_ref06_Fine x0.snap).bind fun r66 =>
                                            cond r66
                                             (
                                              some (decide (0 < x0.snap.index)))
                                             (
                                              some false))
                                           (
                                            some (decide (x0.snap.index = 0) && (decide (x0.snap.term = 0) && (decide (x0.snap.sum = 0) && (decide (x0.snap.level = 0) && (decide (x0.snap.final = false)))))))))
                                       (
                                        cond (decide (x0.kind = 5))
                                         (
                                          (m_ref06_Fine x0.snap).bind fun r72 =>
                                          cond r72
                                           (
                                            some (decide (0 < x0.snap.index)))
                                           (
                                            some false))
                                         (
                                          some (decide (x0.snap.index = 0) && (decide (x0.snap.term = 0) && (decide (x0.snap.sum = 0) && (decide (x0.snap.level = 0) && (decide (x0.snap.final = false))))))))))))))))))))))))))
def m_law20_MsgNew_l1 (x0 : Tu) (x1 : Int) (x2 : Int) (x3 : Int) (r30 : Co) : Nat → Bool → Int → Option (Bool)
  | 0, _, _ => none
  | n + 1, v72, v73 =>
      cond (decide (v73 < x2))
       (
        (idx r30.votes v73).bind fun e78 =>
        cond e78
         (
          some false)
         (
          (idx r30.mtch v73).bind fun e82 =>
          cond (decide (e82 ≠ 0))
           (
            some false)
           (
            (idx r30.next v73).bind fun e86 =>
            (m_ref12_Last x0).bind fun r89 =>
            cond (decide (e86 ≠ (IntKind.wrap .i64 (r89 + 1))))
             (
              some false)
             (
              cond (decide (v73 ≠ (IntKind.wrap .i64 (x1 - 1))))
               (
                (idx r30.caps v73).bind fun e92 =>
                cond (decide (e92 ≠ 0))
                 (
                  some false)
                 (
                  cond (decide (v73 = (IntKind.wrap .i64 (x1 - 1))))
                   (
                    (idx r30.caps v73).bind fun e96 =>
                    cond (decide (e96 ≠ x3))
                     (
                      some false)
                     (
                      m_law20_MsgNew_l1 x0 x1 x2 x3 r30 n v72 (IntKind.wrap .i64 (v73 + 1))))
                   (
                    m_law20_MsgNew_l1 x0 x1 x2 x3 r30 n v72 (IntKind.wrap .i64 (v73 + 1)))))
               (
                cond (decide (v73 = (IntKind.wrap .i64 (x1 - 1))))
                 (
                  (idx r30.caps v73).bind fun e100 =>
                  cond (decide (e100 ≠ x3))
                   (
                    some false)
                   (
                    m_law20_MsgNew_l1 x0 x1 x2 x3 r30 n v72 (IntKind.wrap .i64 (v73 + 1))))
                 (
                  m_law20_MsgNew_l1 x0 x1 x2 x3 r30 n v72 (IntKind.wrap .i64 (v73 + 1))))))))
       (
        (m_law20_wakes).bind fun r105 =>
        some r105)
def m_law20_MsgNew (x0 : Tu) (x1 : Int) (x2 : Int) (x3 : Int) : Option (Bool) :=
  (m_ref12_Right x0).bind fun r6 =>
  cond (!r6)
   (
    (m_law20_wakes).bind fun r9 =>
    some r9)
   (
    cond (decide (x2 < 1))
     (
      (m_law20_wakes).bind fun r12 =>
      some r12)
     (
      cond (decide (5 < x2))
       (
        (m_law20_wakes).bind fun r15 =>
        some r15)
       (
        cond (decide (x1 < 1))
         (
          (m_law20_wakes).bind fun r18 =>
          some r18)
         (
          cond (decide (x2 < x1))
           (
            (m_law20_wakes).bind fun r21 =>
            some r21)
           (
            cond (decide (x3 < 1))
             (
              (m_law20_wakes).bind fun r24 =>
              some r24)
             (
              cond (decide (2 < x3))
               (
                (m_law20_wakes).bind fun r27 =>
                some r27)
               (
                (m_msg_New x1 x2 x3 x0).bind fun r30 =>
                (m_ref20_Right r30).bind fun r56 =>
                cond (!r56)
                 (
                  some false)
                 (
                  (m_msg_Right r30).bind fun r59 =>
                  cond (!r59)
                   (
                    some false)
                   (
                    cond (decide (r30.role ≠ 0))
                     (
                      some false)
                     (
                      cond (decide (r30.commit ≠ x0.snap.index))
                       (
                        some false)
                       (
                        cond (!(decide (r30.applied.index = x0.snap.index) && (decide (r30.applied.term = x0.snap.term) && (decide (r30.applied.sum = x0.snap.sum) && (decide (r30.applied.level = x0.snap.level) && (decide (r30.applied.final = x0.snap.final)))))))
                         (
                          some false)
                         (
                          (m_ref12_Same r30.tuple x0).bind fun r65 =>
                          cond (!r65)
                           (
                            some false)
                           (
                            cond (decide ((r30.votes.length : Int) ≠ x2))
                             (
                              some false)
                             (
                              cond (decide ((r30.caps.length : Int) ≠ x2))
                               (
                                some false)
                               (
                                m_law20_MsgNew_l1 x0 x1 x2 x3 r30 fuelN false 0)))))))))))))))
def m_law20_MsgOthers_l1 (x0 : Co) (x1 : Ms) (r22 : List Ms) : Nat → Bool → Int → Option (Bool)
  | 0, _, _ => none
  | n + 1, v37, v38 =>
      cond (decide (v38 < (r22.length : Int)))
       (
        (idx r22 v38).bind fun e43 =>
        cond (decide (e43.dst < 1))
         (
          some false)
         (
          cond (decide (x0.n < e43.dst))
           (
            some false)
           (
            cond (decide (e43.dst = x0.id))
             (
              some false)
             (
              cond (decide (e43.frm ≠ x0.id))
               (
                some false)
               (
                cond (decide (e43.term ≠ x0.tuple.term))
                 (
                  some false)
                 (
                  cond (decide (e43.cap ≠ x0.binary))
                   (
                    some false)
                   (
                    cond (decide (0 < v38))
                     (
                      (idx r22 (IntKind.wrap .i64 (v38 - 1))).bind fun e58 =>
                      cond (decide (e43.dst ≤ e58.dst))
                       (
                        some false)
                       (
                        (idx r22 0).bind fun e64 =>
                        (m_msg_Fine e43 x0.n).bind fun r69 =>
                        (m_msg_Fine e64 x0.n).bind fun r71 =>
                        cond (decide (r69 ≠ r71))
                         (
                          some false)
                         (
                          (idx r22 0).bind fun e75 =>
                          (idx r22 0).bind fun e81 =>
                          (m_ref20_Alike (⟨e43.kind, e43.frm, e75.dst, e43.term, e43.cap, e43.last, e43.lastTerm, e43.commit, e43.okk, e43.entries, e43.snap⟩ : Ms) e81).bind fun r86 =>
                          cond (!r86)
                           (
                            some false)
                           (
                            (m_ref06_Same e43.entries x1.entries).bind fun r89 =>
                            cond (!r89)
                             (
                              some false)
                             (
                              cond (decide (e43.last ≠ x1.last))
                               (
                                some false)
                               (
                                cond (decide (e43.kind ≠ x1.kind))
                                 (
                                  some false)
                                 (
                                  m_law20_MsgOthers_l1 x0 x1 r22 n v37 (IntKind.wrap .i64 (v38 + 1)))))))))
                     (
                      (idx r22 0).bind fun e94 =>
                      (m_msg_Fine e43 x0.n).bind fun r99 =>
                      (m_msg_Fine e94 x0.n).bind fun r101 =>
                      cond (decide (r99 ≠ r101))
                       (
                        some false)
                       (
                        (idx r22 0).bind fun e105 =>
                        (idx r22 0).bind fun e111 =>
                        (m_ref20_Alike (⟨e43.kind, e43.frm, e105.dst, e43.term, e43.cap, e43.last, e43.lastTerm, e43.commit, e43.okk, e43.entries, e43.snap⟩ : Ms) e111).bind fun r116 =>
                        cond (!r116)
                         (
                          some false)
                         (
                          (m_ref06_Same e43.entries x1.entries).bind fun r119 =>
                          cond (!r119)
                           (
                            some false)
                           (
                            cond (decide (e43.last ≠ x1.last))
                             (
                              some false)
                             (
                              cond (decide (e43.kind ≠ x1.kind))
                               (
                                some false)
                               (
                                m_law20_MsgOthers_l1 x0 x1 r22 n v37 (IntKind.wrap .i64 (v38 + 1)))))))))))))))
       (
        (m_law20_wakes).bind fun r125 =>
        some r125)
def m_law20_MsgOthers (x0 : Co) (x1 : Ms) : Option (Bool) :=
  (m_ref20_Great x0).bind fun r8 =>
  cond r8
   (
    (m_law20_wakes).bind fun r11 =>
    some r11)
   (
    (m_ref20_Right x0).bind fun r13 =>
    cond (!r13)
     (
      (m_law20_wakes).bind fun r16 =>
      some r16)
     (
      cond (decide (4 < (x1.entries.length : Int)))
       (
        (m_law20_wakes).bind fun r19 =>
        some r19)
       (
        (m_msg_Others x0 x1).bind fun r22 =>
        cond (decide ((r22.length : Int) ≠ (IntKind.wrap .i64 (x0.n - 1))))
         (
          some false)
         (
          m_law20_MsgOthers_l1 x0 x1 r22 fuelN false 0))))
def m_law20_MsgFine (x0 : Ms) (x1 : Int) (x2 : En) : Option (Bool) :=
  cond (decide (4 < (x0.entries.length : Int)))
   (
    (m_law20_wakes).bind fun r9 =>
    some r9)
   (
    (m_ref20_Fine x0 x1).bind fun r11 =>
    cond (!r11)
     (
      (m_law20_wakes).bind fun r14 =>
      some r14)
     (
      (m_msg_Fine x0 x1).bind fun r18 =>
      cond (!r18)
       (
        some false)
       (
        (m_msg_Fine x0 0).bind fun r21 =>
        cond r21
         (
          some false)
         (
          (m_msg_Fine x0 6).bind fun r24 =>
          cond r24
           (
            some false)
           (
            (fewI ([] ++ x0.entries)).bind fun l71 =>
            (fewI (l71 ++ ([(⟨1, 5, 0⟩ : En)] : List En))).bind fun l78 =>
            (m_msg_Fine (⟨x0.kind, x0.frm, x0.frm, x0.term, x0.cap, x0.last, x0.lastTerm, x0.commit, x0.okk, x0.entries, x0.snap⟩ : Ms) x1).bind fun r90 =>
            cond r90
             (
              some false)
             (
              (m_msg_Fine (⟨x0.kind, (IntKind.wrap .i64 (x1 + 1)), x0.dst, x0.term, x0.cap, x0.last, x0.lastTerm, x0.commit, x0.okk, x0.entries, x0.snap⟩ : Ms) x1).bind fun r97 =>
              cond r97
               (
                some false)
               (
                (m_msg_Fine (⟨6, x0.frm, x0.dst, x0.term, x0.cap, x0.last, x0.lastTerm, x0.commit, x0.okk, x0.entries, x0.snap⟩ : Ms) x1).bind fun r104 =>
                cond r104
                 (
                  some false)
                 (
                  (m_msg_Fine (⟨x0.kind, x0.frm, x0.dst, 0, x0.cap, x0.last, x0.lastTerm, x0.commit, x0.okk, x0.entries, x0.snap⟩ : Ms) x1).bind fun r111 =>
                  cond r111
                   (
                    some false)
                   (
                    (m_msg_Fine (⟨x0.kind, x0.frm, x0.dst, x0.term, 3, x0.last, x0.lastTerm, x0.commit, x0.okk, x0.entries, x0.snap⟩ : Ms) x1).bind fun r118 =>
                    cond r118
                     (
                      some false)
                     (
                      (m_msg_Fine (⟨x0.kind, x0.frm, x0.dst, x0.term, x0.cap, (-1), x0.lastTerm, x0.commit, x0.okk, x0.entries, x0.snap⟩ : Ms) x1).bind fun r125 =>
                      cond r125
                       (
                        some false)
                       (
                        (m_msg_Fine (⟨x0.kind, x0.frm, x0.dst, x0.term, x0.cap, x0.last, 1073741825, x0.commit, x0.okk, x0.entries, x0.snap⟩ : Ms) x1).bind fun r132 =>
                        cond r132
                         (
                          some false)
                         (
                          (m_msg_Fine (⟨x0.kind, x0.frm, x0.dst, x0.term, x0.cap, x0.last, x0.lastTerm, x0.commit, x0.okk, l78, x0.snap⟩ : Ms) x1).bind fun r139 =>
                          cond r139
                           (
                            some false)
                           (
                            (m_msg_Fine (⟨x0.kind, x0.frm, x0.dst, x0.term, x0.cap, x0.last, x0.lastTerm, x0.commit, x0.okk, x0.entries, (⟨(-1), 0, 0, 0, false⟩ : St)⟩ : Ms) x1).bind fun r146 =>
                            cond r146
                             (
                              some false)
                             (
                              (fewI (([x2] : List En) ++ x0.entries)).bind fun l157 =>
                              (m_ref06_Right x2).bind fun r163 =>
                              cond r163
                               (
                                cond (decide (x0.kind = 3))
                                 (
                                  (m_law20_wakes).bind fun r165 =>
                                  some r165)
                                 (
                                  (m_msg_Fine (⟨x0.kind, x0.frm, x0.dst, x0.term, x0.cap, x0.last, x0.lastTerm, x0.commit, x0.okk, l157, x0.snap⟩ : Ms) x1).bind fun r167 =>
                                  cond (!r167)
                                   (
                                    (m_law20_wakes).bind fun r169 =>
                                    some r169)
                                   (
                                    some false)))
                               (
                                (m_msg_Fine (⟨x0.kind, x0.frm, x0.dst, x0.term, x0.cap, x0.last, x0.lastTerm, x0.commit, x0.okk, l157, x0.snap⟩ : Ms) x1).bind fun r171 =>
                                cond (!r171)
                                 (
                                  cond (decide (x0.kind = 3))
                                   (
                                    (m_law20_wakes).bind fun r173 =>
                                    some r173)
                                   (
                                    (m_msg_Fine (⟨x0.kind, x0.frm, x0.dst, x0.term, x0.cap, x0.last, x0.lastTerm, x0.commit, x0.okk, l157, x0.snap⟩ : Ms) x1).bind fun r175 =>
                                    cond (!r175)
                                     (
                                      (m_law20_wakes).bind fun r177 =>
                                      some r177)
                                     (
                                      some false)))
                                 (
                                  some false))))))))))))))))
def m_law20_MsgBack (x0 : Co) (x1 : Ms) (x2 : Bool) (x3 : Int) : Option (Bool) :=
  (m_ref20_Great x0).bind fun r8 =>
  cond r8
   (
    (m_law20_wakes).bind fun r11 =>
    some r11)
   (
    (m_ref20_Right x0).bind fun r13 =>
    cond (!r13)
     (
      (m_law20_wakes).bind fun r16 =>
      some r16)
     (
      cond (decide (4 < (x1.entries.length : Int)))
       (
        (m_law20_wakes).bind fun r19 =>
        some r19)
       (
        (m_ref20_Fine x1 x0.n).bind fun r21 =>
        cond (!r21)
         (
          (m_law20_wakes).bind fun r24 =>
          some r24)
         (
          cond (decide (x1.dst ≠ x0.id))
           (
            (m_law20_wakes).bind fun r27 =>
            some r27)
           (
            cond (decide (x3 < 0))
             (
              (m_law20_wakes).bind fun r30 =>
              some r30)
             (
              cond (decide (1073741824 < x3))
               (
                (m_law20_wakes).bind fun r33 =>
                some r33)
               (
                (m_msg_Back x0 x1 2 x2 x3).bind fun r36 =>
                (m_msg_Back x0 x1 4 x2 x3).bind fun r42 =>
                (m_msg_Fine r36 x0.n).bind fun r56 =>
                cond (decide (r56 = (decide (1 ≤ x0.tuple.term))))
                 (
                  (m_msg_Fine r42 x0.n).bind fun r58 =>
                  cond (decide (r58 = (decide (1 ≤ x0.tuple.term))))
                   (
                    cond (decide (r36.dst = x1.frm))
                     (
                      cond (decide (r42.frm = x0.id))
                       (
                        cond (decide (r36.okk = x2))
                         (
                          cond (decide (r42.last = x3))
                           (
                            cond (decide (r36.term = x0.tuple.term))
                             (
                              (m_law20_wakes).bind fun r60 =>
                              some r60)
                             (
                              some false))
                           (
                            some false))
                         (
                          some false))
                       (
                        some false))
                     (
                      some false))
                   (
                    some false))
                 (
                  some false))))))))
end Go.Proofs.Ytohkkncfofomdaa
