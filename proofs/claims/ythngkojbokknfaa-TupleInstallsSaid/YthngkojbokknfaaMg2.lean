/- Texts of one claim put together: what its walks share. -/
import Derived.Test.YthngkojbokknfaaMg1
import Derived.Test.YthngkojbokknfaaMg0
/- The walks of tuples: what changes one. -/
namespace Go.Proofs.Ythngkojbokknfaa
open Go Go.RowKit
set_option maxRecDepth 10000

/-- What lies in a tuple's block. -/
def TB (w : World) (b : Nat) (x : Tu) (A : Option Addr) (c : Nat) : Prop := w.heap[b]? = some (.cells #[.int .i64 x.snap.index, .int .i64 x.snap.term, .int .i64 x.snap.sum, .int .i64 x.snap.level, .bool x.snap.final, .slice A x.log.length c, .int .i64 x.term, .int .i64 x.vote] 26)
/-- Eight cells, whatever they are. -/
def TB8 (w : World) (b : Nat) : Prop := ∃ v1 v2 v3 v4 v5 v6 v7 v8 : Value, w.heap[b]? = some (.cells #[v1, v2, v3, v4, v5, v6, v7, v8] 26)
theorem TB.eight {w : World} {b c : Nat} {x : Tu} {A : Option Addr} (h : TB w b x A c) : TB8 w b := ⟨_, _, _, _, _, _, _, _, h⟩
theorem TB8.below {w w' : World} {b : Nat} (h : TB8 w b) (hb : Below w.heap.size w w') : TB8 w' b := by
  obtain ⟨v1, v2, v3, v4, v5, v6, v7, v8, h⟩ := h
  exact ⟨v1, v2, v3, v4, v5, v6, v7, v8, (hb.block b (Array.getElem?_eq_some_iff.1 h).1).trans h⟩
/-- What a change does to a tuple of one's own: another tuple, or it leaves by a panic. -/
def Does (g : Nat) (cap : Array Value) (w0 : World) (x : Tu) (res : Option Tu) : Prop :=
  ∀ (W : World) (bo : Nat) (A' : Option Addr) (c' : Nat), Below w0.heap.size w0 W → w0.heap.size ≤ bo → TB W bo x A' c' → LI W A' x.log.length c' x.log → (∀ a, A' = some a → a.block ≠ bo ∧ a.block < W.heap.size) →
    Calls Try.prog g (#[.pointer (some ⟨bo, 0, none⟩)] ++ cap) W fun e w' => KeepB (fun k => k ≠ bo) W w' ∧
      ((∃ y A2 c2, res = some y ∧ e = .returned (.tuple #[]) ∧ TB w' bo y A2 c2 ∧ LI w' A2 y.log.length c2 y.log ∧ (∀ a, A2 = some a → a.block < w'.heap.size ∧ ((∃ a', A' = some a' ∧ a.block = a'.block) ∨ W.heap.size ≤ a.block))) ∨
        (res = none ∧ e = .panicked badP ∧ TB8 w' bo))
/-- Is it done? -/
def doneB (x : Tu) (res : Option Tu) : Option Tu := if tupB x = true then (match res with | some y => if tupB y = true then some y else none | none => none) else none
theorem tupB_bd (x : Tu) (h : tupB x = true) : -2000000000000 ≤ x.snap.index ∧ x.snap.index ≤ 1073740824 ∧ 0 ≤ x.snap.index ∧ x.log.length ≤ 200 := by
  unfold tupB at h
  simp only [Bool.and_eq_true, decide_eq_true_eq] at h
  obtain ⟨⟨⟨h1, h2⟩, _⟩, _⟩ := h
  rcases (fineB_iff _).1 h1 with h3 | h3
  · rw [h3]; simp [firstS]; rw [h3] at h2; exact h2.2.1
  · exact ⟨by omega, h2.1, by omega, h2.2.1⟩

theorem changed1_any (x : Tu) (res : Option Tu) (A A' : Option Addr) (c c' : Nat) (bw bd bo g : Nat) (cap : Array Value) (wB w0 : World) (he : enterB Try.prog g = true)
    (hx : LI w0 A x.log.length c x.log) (hA : ∀ a, A = some a → a.block < w0.heap.size ∧ a.block ≠ bo)
    (hbw : w0.heap[bw]? = some (.cells #[.int .i64 x.snap.index, .int .i64 x.snap.term, .int .i64 x.snap.sum, .int .i64 x.snap.level, .bool x.snap.final, .slice A x.log.length c, .int .i64 x.term, .int .i64 x.vote] 26)) (hbd : w0.heap[bd]? = some (.cells #[.func (.func g) #[] cap] 64))
    (hbo : TB w0 bo x A' c') (hx' : LI w0 A' x.log.length c' x.log) (hA' : ∀ a, A' = some a → a.block < w0.heap.size ∧ a.block ≠ bo) (h1 : bw ≠ bo) (h2 : bd ≠ bo) (hB : Below wB.heap.size wB w0) (hBo : wB.heap.size ≤ bo)
    (hd : tupB x = true → Does g cap wB x res) :
    Calls Try.prog 64 #[.pointer (some ⟨bw, 0, none⟩), .pointer (some ⟨bd, 0, none⟩), .pointer (some ⟨bo, 0, none⟩)] w0 fun e w' => KeepB (fun k => k ≠ bo) w0 w' ∧
      ((∃ y A2 c2, doneB x res = some y ∧ e = .returned (.tuple #[]) ∧ TB w' bo y A2 c2 ∧ LI w' A2 y.log.length c2 y.log ∧ (∀ a, A2 = some a → a.block < w'.heap.size ∧ ((∃ a', A' = some a' ∧ a.block = a'.block) ∨ w0.heap.size ≤ a.block))) ∨
        (doneB x res = none ∧ e = .panicked badP ∧ TB8 w' bo)) := by
  have hbl : bo < w0.heap.size := (Array.getElem?_eq_some_iff.1 hbo).1
  have hch := check_any x.snap A c x.log x.term x.vote w0 hx.rd ⟨hx.le, hx.cap⟩ (by have := hx.small; omega) (fun a ha => (hA a ha).1)
  refine gw_enter3 Try.func64 rfl Try.ntmps64 rfl ?_
  have hS := St0.old (w := w0) (fun k => k ≠ bo) (e := .box bo [.int .i64 x.snap.index, .int .i64 x.snap.term, .int .i64 x.snap.sum, .int .i64 x.snap.level, .bool x.snap.final, .slice A' x.log.length c', .int .i64 x.term, .int .i64 x.vote] 26) hbo (fun k hk => by subst hk; exact ⟨hbl, by simp⟩)
  cases hT : tupB x with
  | false =>
    have hdn : doneB x res = none := by unfold doneB; rw [hT]; rfl
    repeat (first | (apply wpC_seq_k; intro K hK) | apply wpC_region | (apply wpS_g; refine wpS_put rfl rfl rfl (by first | (apply yv_g_load; first | exact yv_load_obA (by first | exact ag_26) rfl (RW.here _) hS (by first | trivial) (by first | trivial) (by assumption) (by repeat (first | exact Seg.here (by repeat (first | exact Pre.zero | apply Pre.succ)))))) ?_))
    refine wpS_callPanic rfl rfl (by kernel_rfl) rfl hch ?_
    rintro e w1 ⟨h3, hB1⟩
    rcases h3 with ⟨h3, _⟩ | ⟨_, rfl⟩
    · rw [hT] at h3; cases h3
    · refine ⟨_, rfl, ?_⟩
      repeat (first | apply QH_then_panic)
      exact QH_panic rfl ⟨(hS.below hB1).base, .inr ⟨hdn, rfl, TB8.below (TB.eight hbo) hB1⟩⟩
  | true =>
    repeat (first | (apply wpC_seq_k; intro K hK) | apply wpC_region | (apply wpS_g; refine wpS_put rfl rfl rfl (by first | (apply yv_g_load; first | exact yv_load_obA (by first | exact ag_26) rfl (RW.here _) hS (by first | trivial) (by first | trivial) (by assumption) (by repeat (first | exact Seg.here (by repeat (first | exact Pre.zero | apply Pre.succ)))))) ?_))
    refine wpS_call rfl rfl rfl rfl (by kernel_rfl) rfl hch ?_
    rintro e w1 ⟨h3, hB1⟩
    rcases h3 with ⟨_, rfl⟩ | ⟨h3, _⟩
    case inr => rw [hT] at h3; cases h3
    refine ⟨_, rfl, ?_⟩
    replace hS := hS.below hB1
    repeat (first | apply wpS_nil | (apply QH_seq_k; assumption) | (apply wpC_seq_k; intro K hK) | apply wpC_region | (apply wpS_g; refine wpS_put rfl rfl rfl (by first | (apply yv_g_load; first | exact yv_load_ob (by first | exact sc_64) rfl (RW.here _) hS (by first | trivial) (by first | trivial) (by assumption) (by repeat (first | exact Seg.here (Pre.succ Pre.zero))))) ?_))
    have hk1 := hS.base
    have hA1 : LI w1 A' x.log.length c' x.log := hx'.keep hk1 (fun a ha => (hA' a ha).2)
    have hB2 : Below wB.heap.size wB w1 := bTr hB hB1
    cases hr : res with
    | none =>
      subst hr
      have hdn : doneB x none = none := by unfold doneB; rw [hT]; rfl
      refine wpS_callPanic rfl rfl he rfl (hd hT w1 bo A' c' hB2 hBo ((hB1.block bo hbl).trans hbo) hA1 (fun a ha => ⟨(hA' a ha).2, Nat.lt_of_lt_of_le (hA' a ha).1 hB1.size⟩)) ?_
      rintro e w2 ⟨hk, (⟨y, A2, c2, h4, _⟩ | ⟨_, rfl, h8⟩)⟩
      · cases h4
      · refine ⟨_, rfl, ?_⟩
        repeat (first | apply QH_then_panic)
        exact QH_panic rfl ⟨hk1.trans hk, .inr ⟨hdn, rfl, h8⟩⟩
    | some y =>
      subst hr
      refine wpS_call rfl rfl rfl rfl he rfl (hd hT w1 bo A' c' hB2 hBo ((hB1.block bo hbl).trans hbo) hA1 (fun a ha => ⟨(hA' a ha).2, Nat.lt_of_lt_of_le (hA' a ha).1 hB1.size⟩)) ?_
      rintro e w2 ⟨hk, (⟨y', A2, c2, h4, rfl, htb, hli, hbk⟩ | ⟨h4, _⟩)⟩
      case inr => cases h4
      injection h4 with h4
      subst h4
      refine ⟨_, rfl, ?_⟩
      replace hS := hS.wrote Pos.head hk htb
      have hch2 := check_any y.snap A2 c2 y.log y.term y.vote w2 hli.rd ⟨hli.le, hli.cap⟩ (by have := hli.small; omega) (fun a ha => (hbk a ha).1)
      have hk2 := hk1.trans hk
      repeat (first | apply wpS_nil | (apply QH_seq_k; assumption) | apply wpC_region | (apply wpS_g; refine wpS_put rfl rfl rfl (by first | (apply yv_g_load; first | exact yv_load_boxA (by first | exact ag_26) rfl (RW.here _) hS (by repeat (first | exact Has.head)) (by first | trivial) (by repeat (first | exact Seg.here (by repeat (first | exact Pre.zero | apply Pre.succ)))))) ?_))
      cases hTy : tupB y with
      | true =>
        have hdn : doneB x (some y) = some y := by unfold doneB; simp [hT, hTy]
        refine wpS_call rfl rfl rfl rfl (by kernel_rfl) rfl hch2 ?_
        rintro e w3 ⟨h5, hB3⟩
        rcases h5 with ⟨_, rfl⟩ | ⟨h5, _⟩
        case inr => rw [hTy] at h5; cases h5
        refine ⟨_, rfl, ?_⟩
        have hbl2 : bo < w2.heap.size := Nat.lt_of_lt_of_le hbl hk2.size
        repeat (first | apply wpS_nil)
        refine QH_end rfl (by first | exact RV.nil) rfl ?_
        refine ⟨hk2.below hB3, .inl ⟨y, A2, c2, hdn, rfl, (hB3.block bo hbl2).trans htb, hli.below hB3, fun a ha => ⟨Nat.lt_of_lt_of_le (hbk a ha).1 hB3.size, ?_⟩⟩⟩
        rcases (hbk a ha).2 with h6 | h6
        · exact .inl h6
        · exact .inr (Nat.le_trans hB1.size h6)
      | false =>
        have hdn : doneB x (some y) = none := by unfold doneB; simp [hT, hTy]
        refine wpS_callPanic rfl rfl (by kernel_rfl) rfl hch2 ?_
        rintro e w3 ⟨h5, hB3⟩
        rcases h5 with ⟨h5, _⟩ | ⟨_, rfl⟩
        · rw [hTy] at h5; cases h5
        · refine ⟨_, rfl, ?_⟩
          exact QH_panic rfl ⟨hk2.below hB3, .inr ⟨hdn, rfl, TB8.below (TB.eight htb) hB3⟩⟩

/-- What is changed, or as it was, and the error. -/
def chgS (x : Tu) (res : Option Tu) : Tu := match doneB x res with | some y => y | none => x
def chgE (x : Tu) (res : Option Tu) : Int := match doneB x res with | some _ => 0 | none => 2
theorem changed_any (x : Tu) (res : Option Tu) (A : Option Addr) (c : Nat) (g : Nat) (cap : Array Value) (w0 : World) (he : enterB Try.prog g = true)
    (hx : LI w0 A x.log.length c x.log) (hA : ∀ a, A = some a → a.block < w0.heap.size)
    (hd : tupB x = true → Does g cap w0 x res) :
    Calls Try.prog 41 #[.agg #[.int .i64 x.snap.index, .int .i64 x.snap.term, .int .i64 x.snap.sum, .int .i64 x.snap.level, .bool x.snap.final, .slice A x.log.length c, .int .i64 x.term, .int .i64 x.vote], .func (.func g) #[] cap] w0 fun e w' => ∃ A2 c2, (e = .returned (.tuple #[.agg #[.int .i64 (chgS x res).snap.index, .int .i64 (chgS x res).snap.term, .int .i64 (chgS x res).snap.sum, .int .i64 (chgS x res).snap.level, .bool (chgS x res).snap.final, .slice A2 (chgS x res).log.length c2, .int .i64 (chgS x res).term, .int .i64 (chgS x res).vote], .int .i64 (chgE x res)]) ∧ Sl w0 w' A2 (chgS x res).log.length c2 3 (ens (chgS x res).log)) ∧ Below w0.heap.size w0 w' := by
  refine gw_enter2 Try.func41 rfl Try.ntmps41 rfl ?_
  have hS := St0.start All w0
  repeat (first | (apply wpC_seq_k; intro K hK) | apply wpC_region)
  first | (apply wpS_g_box; refine wpS_box rfl rfl rfl (by first | exact CellsOf.agg) hS (fun bw w hS hB => ?_))
  first | (apply wpS_g_box; refine wpS_box rfl rfl rfl (by first | exact CellsOf.func) hS (fun bd w hS hB => ?_))
  first | (apply wpS_g_alloc; refine wpS_alloc rfl rfl (by first | exact zc_26) hS (fun bo w hS hB => ?_))
  repeat (first | apply wpS_nil | (apply QH_seq_k; assumption) | (apply wpC_seq_k; intro K hK) | apply wpC_region | (apply wpS_g; refine wpS_put rfl rfl rfl (by first | exact yv_assign rfl | (apply yv_g_load; first | exact yv_load_boxA (by first | exact ag_26) rfl (RW.here _) hS (by repeat (first | exact Has.head | apply Has.tail)) (by first | trivial) (by repeat (first | exact Seg.here (by repeat (first | exact Pre.zero | apply Pre.succ)))))) ?_))
  refine wpS_call rfl rfl rfl rfl (by kernel_rfl) rfl (own_any x.snap A x.log.length c x.log x.term x.vote _ (hx.below hS.pure)) ?_
  rintro e w1 ⟨A', c', ⟨rfl, hs⟩, hB⟩
  refine ⟨_, rfl, ?_⟩
  have hz1 := hS.size
  replace hS := hS.slice hs hB
  repeat (first | apply wpS_nil | (apply QH_seq_k; assumption) | (apply wpC_seq_k; intro K hK) | (apply wpS_g_store; refine wpS_store rfl rfl rfl (by first | exact CellsOf.agg) hS (by repeat (first | exact Pos.head | apply Pos.tail)) (by repeat (first | exact SetC.here (by repeat (first | exact Ovr.nil | apply Ovr.cons)))) (by kernel_rfl) rfl (fun w hS hB => ?_)))
  apply wpC_region
  repeat (first | (apply wpS_g; refine wpS_put rfl rfl rfl (by first | exact yv_makeFunc rfl rfl) ?_))
  have hbw := hS.box_ge (b := bw) (by repeat (first | exact Has.head | apply Has.tail))
  have hbd := hS.box_ge (b := bd) (by repeat (first | exact Has.head | apply Has.tail))
  have hbo := hS.box_ge (b := bo) (by repeat (first | exact Has.head | apply Has.tail))
  have hnw : bw ≠ bo := hS.ne 3 1 rfl rfl rfl
  have hnd : bd ≠ bo := hS.ne 2 1 rfl rfl rfl
  have hAo := hS.rd_ne 0 1 rfl rfl rfl
  have hAr := hS.rd_rng (A := A') (by repeat (first | exact Has.head))
  have hA'w : LI w A' x.log.length c' x.log := ⟨rfl, hx.small, hs.le, hs.cap, hS.rd (by repeat (first | exact Has.head))⟩
  have hAw := hx.below hS.pure
  have hz2 := hS.size
  refine wpS_call rfl rfl rfl rfl (by kernel_rfl) rfl (told_any 64 #[.pointer (some ⟨bw, 0, none⟩), .pointer (some ⟨bd, 0, none⟩), .pointer (some ⟨bo, 0, none⟩)] w (fun k => k ≠ bo)
    (fun B => ∃ y A2 c2, doneB x res = some y ∧ TB B bo y A2 c2 ∧ LI B A2 y.log.length c2 y.log ∧ (∀ a, A2 = some a → a.block < B.heap.size ∧ w0.heap.size ≤ a.block ∧ a.block ≠ bo ∧ a.block ≠ w.heap.size)) (fun B => doneB x res = none ∧ TB8 B bo) (by kernel_rfl) (fun W hz hBW => ?_)
    (fun C D h hk => ?_) (fun C D h hk => ⟨h.1, ?_⟩)) ?_
  · refine (changed1_any x res A A' c c' bw bd bo g cap w0 W he (hAw.below hBW) (fun a ha => ?_) ((hBW.block bw hbw.2.1).trans hbw.2.2) ((hBW.block bd hbd.2.1).trans hbd.2.2) ((hBW.block bo hbo.2.1).trans hbo.2.2) (hA'w.below hBW) (fun a ha => ?_) hnw hnd (bTr hS.pure hBW) hbo.1 hd).mono fun e w' h1 => ?_
    · have := hA a ha; exact ⟨by omega, by omega⟩
    · have := hAr a ha; exact ⟨by omega, hAo a ha⟩
    · refine ⟨h1.1.sub fun k _ hk => ?_, ?_⟩
      · rcases hk with hk | hk
        · exact hk
        · omega
      rcases h1.2 with ⟨y, A2, c2, h3, h4, h5, h6, h7⟩ | ⟨h3, h4⟩
      · refine .inl ⟨h4, y, A2, c2, h3, h5, h6, fun a ha => ?_⟩
        obtain ⟨h8, h9⟩ := h7 a ha
        rcases h9 with ⟨a', ha', hb'⟩ | h9
        · have := hAr a' ha'; have := hAo a' ha'; exact ⟨h8, by omega, by omega, by omega⟩
        · exact ⟨h8, by omega, by omega, by omega⟩
      · exact .inr ⟨h4.1, h3, h4.2⟩
  · obtain ⟨y, A2, c2, h3, h5, h6, h7⟩ := h
    exact ⟨y, A2, c2, h3, (hk.block bo (Array.getElem?_eq_some_iff.1 h5).1 (by omega)).trans h5, h6.keep hk (fun a ha => (h7 a ha).2.2.2), fun a ha => ⟨Nat.lt_of_lt_of_le (h7 a ha).1 hk.size, (h7 a ha).2⟩⟩
  · obtain ⟨v1, v2, v3, v4, v5, v6, v7, v8, h8⟩ := h.2
    exact ⟨v1, v2, v3, v4, v5, v6, v7, v8, (hk.block bo (Array.getElem?_eq_some_iff.1 h8).1 (by omega)).trans h8⟩
  rintro e w1 ⟨hk, (⟨rfl, y, A2, c2, hdn, htb, hli, hbk⟩ | ⟨rfl, hdn, h8⟩)⟩
  · refine ⟨_, rfl, ?_⟩
    have hS2 := (hS.wrote (.tail .head) hk htb).sub (H' := [.box bo [.int .i64 y.snap.index, .int .i64 y.snap.term, .int .i64 y.snap.sum, .int .i64 y.snap.level, .bool y.snap.final, .slice A2 y.log.length c2, .int .i64 y.term, .int .i64 y.vote] 26]) (by first | ((try dsimp only); repeat (first | exact List.Sublist.slnil | (refine List.Sublist.cons_cons _ ?_) | (refine List.Sublist.cons _ ?_))))
    have hS3 := hS2.addE (e := .rd A2 (ens y.log)) hli.rd (fun k ⟨a, ha, hak⟩ => by subst hak; exact ⟨(hbk a ha).1, fun hlt => by have := (hbk a ha).2.1; omega⟩) (fun e' he' k ⟨a, ha, hak⟩ hx' => by
      obtain rfl := List.mem_singleton.1 he'
      obtain rfl : k = bo := hx'
      exact (hbk a ha).2.2.1 hak)
    have e1 : chgS x res = y := by unfold chgS; rw [hdn]
    have e2 : chgE x res = 0 := by unfold chgE; rw [hdn]
    clear hS hS2 hd
    have hS := hS3
    clear hS3
    repeat (first | apply wpS_nil | (apply QH_seq_k; assumption) | (apply wpC_seq_k; intro K hK) | apply wpC_region | (apply wpS_g_store; refine wpS_store rfl rfl rfl (by first | exact CellsOf.agg) hS (by repeat (first | exact Pos.head | apply Pos.tail)) (by repeat (first | exact SetC.here (by repeat (first | exact Ovr.nil | apply Ovr.cons)))) (by kernel_rfl) rfl (fun w hS hB => ?_)) | (apply wpS_g; refine wpS_put rfl rfl rfl (by first | exact yv_move rfl | exact yv_assign rfl | (apply yv_g_load; first | exact yv_load_boxA (by first | exact ag_26) rfl (RW.here _) hS (by repeat (first | exact Has.head | apply Has.tail)) (by first | trivial) (by repeat (first | exact Seg.here (by repeat (first | exact Pre.zero | apply Pre.succ))))) | (apply yv_g_bin; first | exact yv_neq_f rfl rfl (by omega))) ?_) | apply wpC_cond_f rfl rfl | apply wpC_skip | apply wpC_ret)
    refine QH_ret rfl (by first | exact RV.cell rfl (load_boxA (by first | exact ag_26) hS (by repeat (first | exact Has.head | apply Has.tail)) (by repeat (first | exact Seg.here (by repeat (first | exact Pre.zero | apply Pre.succ))))) (RV.tmp rfl RV.nil)) rfl ?_
    rw [e1, e2]
    exact ⟨A2, c2, ⟨rfl, hS.giveS (by repeat (first | exact Has.head)) (by rw [ens_length]; omega) hli.le hli.cap⟩, hS.pure⟩
  · refine ⟨_, rfl, ?_⟩
    obtain ⟨v1, v2, v3, v4, v5, v6, v7, v8, h8⟩ := h8
    have hS2 := (hS.wrote (.tail .head) hk h8).sub (H' := [.box bo [v1, v2, v3, v4, v5, v6, v7, v8] 26, .box bd [.func (.func g) #[] cap] 64, .box bw [.int .i64 x.snap.index, .int .i64 x.snap.term, .int .i64 x.snap.sum, .int .i64 x.snap.level, .bool x.snap.final, .slice A x.log.length c, .int .i64 x.term, .int .i64 x.vote] 26]) (by first | ((try dsimp only); repeat (first | exact List.Sublist.refl _ | (refine List.Sublist.cons _ ?_))))
    have e1 : chgS x res = x := by unfold chgS; rw [hdn]
    have e2 : chgE x res = 2 := by unfold chgE; rw [hdn]
    clear hS hd
    have hS := hS2
    clear hS2
    repeat (first | apply wpS_nil | (apply QH_seq_k; assumption) | (apply wpC_seq_k; intro K hK) | apply wpC_region | (apply wpS_g; refine wpS_put rfl rfl rfl (by first | exact yv_move rfl | exact yv_assign rfl | (apply yv_g_load; first | exact yv_load_boxA (by first | exact ag_26) rfl (RW.here _) hS (by repeat (first | exact Has.head | apply Has.tail)) (by first | trivial) (by repeat (first | exact Seg.here (by repeat (first | exact Pre.zero | apply Pre.succ))))) | (apply yv_g_bin; first | exact yv_neq_t rfl rfl (by omega))) ?_) | apply wpC_cond_t rfl rfl)
    refine wpS_call rfl rfl rfl rfl (by kernel_rfl) rfl (own_any x.snap A x.log.length c x.log x.term x.vote _ (hx.below hS.pure)) ?_
    rintro e w2 ⟨A3, c3, ⟨rfl, hs3⟩, hB3⟩
    refine ⟨_, rfl, ?_⟩
    replace hS := hS.slice hs3 hB3
    repeat (first | apply wpS_nil | (apply QH_seq_k; assumption) | (apply wpS_g_store; refine wpS_store rfl rfl rfl (by first | exact CellsOf.agg) hS (by repeat (first | exact Pos.head | apply Pos.tail)) (by repeat (first | exact SetC.here (by repeat (first | exact Ovr.nil | apply Ovr.cons)))) (by kernel_rfl) rfl (fun w hS hB => ?_)) | (apply wpS_g; refine wpS_put rfl rfl rfl (by first | exact yv_move rfl | exact yv_assign rfl) ?_) | apply wpC_ret | apply QH_then_ret)
    refine QH_ret rfl (by first | exact RV.cell rfl (load_boxA (by first | exact ag_26) hS (by repeat (first | exact Has.head | apply Has.tail)) (by repeat (first | exact Seg.here (by repeat (first | exact Pre.zero | apply Pre.succ))))) (RV.tmp rfl RV.nil)) rfl ?_
    rw [e1, e2]
    exact ⟨A3, c3, ⟨rfl, hS.giveS (by repeat (first | exact Has.head)) hs3.len hs3.le hs3.cap⟩, hS.pure⟩
end Go.Proofs.Ythngkojbokknfaa
/- The walks of tuples: Last, At. -/
namespace Go.Proofs.Ythngkojbokknfaa
open Go Go.RowKit
set_option maxRecDepth 10000
theorem last_any (s : St) (A : Option Addr) (n c : Nat) (t v : Int) (w : World) (h : -2000000000000 ≤ s.index ∧ s.index ≤ 2000000000000) (hn : n ≤ 1000000) :
    PureC Try.prog 15 #[.agg #[.int .i64 s.index, .int .i64 s.term, .int .i64 s.sum, .int .i64 s.level, .bool s.final, .slice A n c, .int .i64 t, .int .i64 v]] w (.int .i64 (s.index + n)) := by
  refine PureC.mk ?_
  refine gw_enter1 Try.func15 rfl Try.ntmps15 rfl ?_
  have hS := St0.start All w
  repeat (first | apply wpS_nil | (apply QH_seq_k; assumption) | (apply wpC_seq_k; intro K hK) | apply wpC_region | (apply wpS_g_box; refine wpS_box rfl rfl rfl (by first | exact CellsOf.agg) hS (fun b w hS hB => ?_)) | (apply wpS_g; refine wpS_put rfl rfl rfl (by first | exact yv_assign rfl | exact yv_fieldAddr (by first | exact fo_23_0 | exact fo_26_0 | exact fo_26_1) rfl | (apply yv_g_load; first | exact yv_load_box (by first | exact sc_3 | exact sc_24) rfl (RW.here _) hS (by repeat (first | exact Has.head)) (by first | trivial) (by repeat (first | exact Seg.here (Pre.succ Pre.zero) | apply Seg.succ))) | (apply yv_g_bin; first | exact yv_add rfl rfl (by omega)) | (apply yv_g_bi; first | exact yv_len (by first | exact el_24) rfl)) ?_) | apply wpC_ret)
  refine QH_ret rfl (by first | exact RV.tmp rfl RV.nil) rfl ?_
  exact ⟨rfl, hS.pure⟩
theorem at_no (s : St) (A : Option Addr) (n c : Nat) (t v i : Int) (w : World) (h : -2000000000000 ≤ s.index ∧ s.index ≤ 2000000000000) (hn : n ≤ 1000000) (hi : i ≤ s.index ∨ s.index + n < i) :
    PureC Try.prog 29 #[.agg #[.int .i64 s.index, .int .i64 s.term, .int .i64 s.sum, .int .i64 s.level, .bool s.final, .slice A n c, .int .i64 t, .int .i64 v], .int .i64 i] w (.tuple #[.agg #[.int .i64 0, .int .i64 0, .int .i64 0], .bool false]) := by
  refine PureC.mk ?_
  refine gw_enter2 Try.func29 rfl Try.ntmps29 rfl ?_
  have hS := St0.start All w
  rcases Int.lt_or_le s.index i with h1 | h1
  · repeat (first | apply wpS_nil | (apply QH_seq_k; assumption) | (apply wpC_seq_k; intro K hK) | apply wpC_region | (apply wpS_g_store; refine wpS_store rfl rfl rfl (by first | exact CellsOf.agg) hS (by repeat (first | exact Pos.head)) (by repeat (first | exact SetC.here (by repeat (first | exact Ovr.nil | apply Ovr.cons)))) (by kernel_rfl) rfl (fun w hS hB => ?_)) | (apply wpS_g_call; first | refine wpS_callP rfl rfl rfl (by kernel_rfl) rfl (last_any _ _ _ _ _ _ _ (by omega) (by omega)) hS (fun w hS hB => ?_)) | (apply wpS_g_box; refine wpS_box rfl rfl rfl (by first | exact CellsOf.agg) hS (fun b w hS hB => ?_)) | (apply wpS_g_alloc; refine wpS_alloc rfl rfl (by first | exact zc_50) hS (fun b w hS hB => ?_)) | (apply wpS_g; refine wpS_put rfl rfl rfl (by first | exact yv_move rfl | exact yv_assign rfl | exact yv_fieldAddr (by first | exact fo_23_0 | exact fo_26_0) rfl | (apply yv_g_load; first | exact yv_load_box (by first | exact sc_3) rfl (RW.here _) hS (by repeat (first | exact Has.head | apply Has.tail)) (by first | trivial) (by repeat (first | exact Seg.here (Pre.succ Pre.zero))) | exact yv_load_boxA (by first | exact ag_26 | exact ag_50) rfl (RW.here _) hS (by repeat (first | exact Has.head | apply Has.tail)) (by first | trivial) (by repeat (first | exact Seg.here (by repeat (first | exact Pre.zero | apply Pre.succ))))) | (apply yv_g_bin; first | exact yv_leq_f rfl rfl (by omega) | exact yv_gtr_t rfl rfl (by omega)) | (apply yv_g_pick; first | exact yv_pick_f rfl rfl rfl)) ?_) | apply wpC_cond_t rfl rfl | apply wpC_ret | apply QH_then_ret)
    refine QH_ret rfl (by first | exact RV.cell rfl (load_boxA (by first | exact ag_50) hS (by repeat (first | exact Has.head)) (by repeat (first | exact Seg.here (by repeat (first | exact Pre.zero | apply Pre.succ))))) (RV.tmp rfl RV.nil)) rfl ?_
    exact ⟨rfl, hS.pure⟩
  · repeat (first | apply wpS_nil | (apply QH_seq_k; assumption) | (apply wpC_seq_k; intro K hK) | apply wpC_region | (apply wpS_g; refine wpS_skip rfl rfl rfl ?_) | (apply wpS_g_store; refine wpS_store rfl rfl rfl (by first | exact CellsOf.agg) hS (by repeat (first | exact Pos.head)) (by repeat (first | exact SetC.here (by repeat (first | exact Ovr.nil | apply Ovr.cons)))) (by kernel_rfl) rfl (fun w hS hB => ?_)) | (apply wpS_g_box; refine wpS_box rfl rfl rfl (by first | exact CellsOf.agg) hS (fun b w hS hB => ?_)) | (apply wpS_g_alloc; refine wpS_alloc rfl rfl (by first | exact zc_50) hS (fun b w hS hB => ?_)) | (apply wpS_g; refine wpS_put rfl rfl rfl (by first | exact yv_move rfl | exact yv_assign rfl | exact yv_fieldAddr (by first | exact fo_23_0 | exact fo_26_0) rfl | (apply yv_g_load; first | exact yv_load_box (by first | exact sc_3) rfl (RW.here _) hS (by repeat (first | exact Has.head | apply Has.tail)) (by first | trivial) (by repeat (first | exact Seg.here (Pre.succ Pre.zero))) | exact yv_load_boxA (by first | exact ag_50) rfl (RW.here _) hS (by repeat (first | exact Has.head)) (by first | trivial) (by repeat (first | exact Seg.here (by repeat (first | exact Pre.zero | apply Pre.succ))))) | (apply yv_g_bin; first | exact yv_leq_t rfl rfl (by omega)) | (apply yv_g_pick; first | exact yv_pick_t rfl rfl rfl)) ?_) | apply wpC_cond_t rfl rfl | apply wpC_ret | apply QH_then_ret)
    refine QH_ret rfl (by first | exact RV.cell rfl (load_boxA (by first | exact ag_50) hS (by repeat (first | exact Has.head)) (by repeat (first | exact Seg.here (by repeat (first | exact Pre.zero | apply Pre.succ))))) (RV.tmp rfl RV.nil)) rfl ?_
    exact ⟨rfl, hS.pure⟩
theorem at_yes (s : St) (A : Option Addr) (n c : Nat) (t v i : Int) (w : World) (h : -2000000000000 ≤ s.index ∧ s.index ≤ 2000000000000) (hn : n ≤ 1000000) (k : Nat) (hi : i = s.index + 1 + k) (hk : k < n) (l : List En) (hA : Rd w A (ens l)) (hl : l.length = n) (e : En) (he : l[k]? = some e) :
    PureC Try.prog 29 #[.agg #[.int .i64 s.index, .int .i64 s.term, .int .i64 s.sum, .int .i64 s.level, .bool s.final, .slice A n c, .int .i64 t, .int .i64 v], .int .i64 i] w (.tuple #[.agg #[.int .i64 e.term, .int .i64 e.kind, .int .i64 e.value], .bool true]) := by
  refine PureC.mk ?_
  obtain ⟨b0, o0, rfl, hb, hr⟩ := hA.entR he
  refine gw_enter2 Try.func29 rfl Try.ntmps29 rfl ?_
  have hS := St0.start All w
  repeat (first | apply wpS_nil | (apply QH_seq_k; assumption) | (apply wpC_seq_k; intro K hK) | apply wpC_region | (apply wpS_g_store; refine wpS_store rfl rfl rfl (by first | exact CellsOf.agg) hS (by repeat (first | exact Pos.head)) (by repeat (first | exact SetC.here (by repeat (first | exact Ovr.nil | apply Ovr.cons)))) (by kernel_rfl) rfl (fun w hS hB => ?_)) | refine wpS_put rfl rfl rfl (yv_indexAddr (j := k) (by first | exact el_24) rfl rfl (by omega) (by omega)) ?_ | (apply wpS_g_call; first | refine wpS_callP rfl rfl rfl (by kernel_rfl) rfl (last_any _ _ _ _ _ _ _ (by omega) (by omega)) hS (fun w hS hB => ?_)) | (apply wpS_g_box; refine wpS_box rfl rfl rfl (by first | exact CellsOf.agg) hS (fun b w hS hB => ?_)) | (apply wpS_g_alloc; refine wpS_alloc rfl rfl (by first | exact zc_50) hS (fun b w hS hB => ?_)) | (apply wpS_g; refine wpS_put rfl rfl rfl (by first | exact yv_move rfl | exact yv_assign rfl | exact yv_fieldAddr (by first | exact fo_23_0 | exact fo_26_0 | exact fo_26_1) rfl | (apply yv_g_load; first | exact yv_load_box (by first | exact sc_3 | exact sc_24) rfl (RW.here _) hS (by repeat (first | exact Has.head | apply Has.tail)) (by first | trivial) (by repeat (first | exact Seg.here (Pre.succ Pre.zero) | apply Seg.succ)) | exact yv_load_boxA (by first | exact ag_26 | exact ag_50) rfl (RW.here _) hS (by repeat (first | exact Has.head | apply Has.tail)) (by first | trivial) (by repeat (first | exact Seg.here (by repeat (first | exact Pre.zero | apply Pre.succ)))) | exact yv_loadA_old (by first | exact ag_50) rfl (RW.here _) hS (by first | trivial) (by first | trivial) (by assumption) (by rfl)) | (apply yv_g_bin; first | exact yv_leq_f rfl rfl (by omega) | exact yv_gtr_f rfl rfl (by omega) | exact yv_sub rfl rfl (by omega)) | (apply yv_g_pick; first | exact yv_pick_f rfl rfl rfl)) ?_) | apply wpC_cond_f rfl rfl | apply wpC_skip | apply wpC_ret)
  refine QH_ret rfl (by first | exact RV.cell rfl (load_boxA (by first | exact ag_50) hS (by repeat (first | exact Has.head)) (by repeat (first | exact Seg.here (by repeat (first | exact Pre.zero | apply Pre.succ))))) (RV.tmp rfl RV.nil)) rfl ?_
  exact ⟨rfl, hS.pure⟩
end Go.Proofs.Ythngkojbokknfaa
/- The walks of tuples: Append, Cut, Hard. -/
namespace Go.Proofs.Ythngkojbokknfaa
open Go Go.RowKit
set_option maxRecDepth 10000

theorem Rd.blk {w : World} {A : Option Addr} {xs : List Value} (h : Rd w A xs) (hne : xs ≠ []) : ∀ a, A = some a → a.block < w.heap.size := fun a ha => by
  cases xs with
  | nil => exact (hne rfl).elim
  | cons v xs =>
    obtain ⟨b, o, hA, hb, _⟩ := h 0 v rfl
    rw [ha] at hA
    injection hA with hA
    subst hA
    exact hb
theorem KeepB.rdN {S : Nat → Prop} {w w' : World} {A : Option Addr} {xs : List Value} (hk : KeepB S w w') (h : Rd w A xs) (hs : ∀ a, A = some a → xs ≠ [] → S a.block) : Rd w' A xs := by
  cases xs with
  | nil => exact Rd.nil _ _
  | cons v xs => exact hk.rd h (fun a ha => hs a ha (by simp))
theorem append1_does (bl m d : Nat) (B : Option Addr) (l : List En) (w0 : World) (hbl : w0.heap[bl]? = some (.cells #[.slice B m d] 24)) (hl : LI w0 B m d l) (x : Tu) (hm : m ≤ 300) (hx : tupB x = true) :
    Does 46 #[.pointer (some ⟨bl, 0, none⟩)] w0 x (some { x with log := x.log ++ l }) := by
  intro W bo A' c' hB hbo hT hLI hA'
  have hxb := tupB_bd x hx
  have hol : bo < W.heap.size := (Array.getElem?_eq_some_iff.1 hT).1
  have hbl' : bl < w0.heap.size := (Array.getElem?_eq_some_iff.1 hbl).1
  have hblW : W.heap[bl]? = some (.cells #[.slice B m d] 24) := (hB.block bl hbl').trans hbl
  have hne : bl ≠ bo := by omega
  have hlW := hl.below hB
  show Calls _ _ #[_, _] _ _
  refine gw_enter2 Try.func46 rfl Try.ntmps46 rfl ?_
  have hS := St0.old (w := W) (fun k => k ≠ bo) (e := .box bo [.int .i64 x.snap.index, .int .i64 x.snap.term, .int .i64 x.snap.sum, .int .i64 x.snap.level, .bool x.snap.final, .slice A' x.log.length c', .int .i64 x.term, .int .i64 x.vote] 26) hT (fun k hk => by subst hk; exact ⟨hol, by simp⟩)
  refine wpC_draw 11 [10] (fun i b => (i = 10 → b ≠ bo)) ⟨by kernel_rfl, by kernel_rfl⟩ hS (fun w hS hB => ?_)
  refine wpR_batch [true, true, true, true, true, true] (by decide +kernel) (by repeat (first | exact PF.body)) ?_
  repeat (first | refine LtK.put rfl rfl rfl (by first | exact yv_move rfl | exact yv_fieldAddr (by first | exact fo_23_0 | exact fo_26_1) rfl | (apply yv_g_load; first | exact yv_load_box (by first | exact sc_1 | exact sc_24) rfl (RW.below _) hS (by repeat (first | exact Has.head | apply Has.tail)) (by first | trivial) (by repeat (first | exact Seg.here (Pre.succ Pre.zero) | apply Seg.succ)) | exact yv_load_ob (by first | exact sc_1 | exact sc_24) rfl (RW.below _) hS (by first | trivial) (by first | trivial) (by assumption) (by repeat (first | exact Seg.here (Pre.succ Pre.zero)))) | exact yv_nilCheck rfl) ?_)
  refine LtK.nil ?_
  refine wpR_call [false, false, false, false, false, false, true] 6 ⟨by decide, by kernel_rfl, by kernel_rfl⟩ rfl rfl ?_
  dsimp only [pickL]
  repeat (first | apply wpS_nil | (apply wpS_g; refine wpS_sliceM (ps := [(0, .tmp 7), (1, .tmp 8)]) [.slice A' x.log.length c', .slice B m d] (by first | exact el_79) (by first | exact zc_24) rfl rfl rfl rfl rfl (by kernel_rfl) hS ?_; rintro bq w hS hB))
  refine QH_step (by first | assumption) ?_
  refine wpR_call [false, false, false, false, false, false, false, true] 7 ⟨by decide, by kernel_rfl, by kernel_rfl⟩ rfl rfl ?_
  dsimp only [pickL]
  repeat (first | apply wpS_nil | (apply wpS_g_call; refine wpS_call rfl rfl rfl rfl (by kernel_rfl) rfl (concat_any bq 2 A' B x.log.length m c' d x.log l _ rfl hl.len (by omega) (hS.base.rd hLI.rd (fun a ha => (hA' a ha).1)) (hS.base.rdN hlW.rd (fun a ha hne => by have := hl.rd.blk hne a ha; omega)) (hS.box_cell (b := bq) (by repeat (first | exact Has.head)) (by repeat (first | exact Seg.here (Pre.succ Pre.zero)))) (hS.box_cell (b := bq) (by repeat (first | exact Has.head)) (by repeat (first | exact Seg.here (Pre.succ Pre.zero) | apply Seg.succ))) (by omega)) ?_; rintro e w1 ⟨A2, c2, ⟨rfl, hs⟩, hB⟩; refine ⟨_, rfl, ?_⟩; have hS := hS.slice hs hB))
  refine QH_step (by first | assumption) ?_
  refine wpR_batchG [false, false, false, false, false, false, false, false, true] [10] (fun b => b ≠ bo) (by decide +kernel) (by intro j hj b hb; simp only [List.mem_cons, List.not_mem_nil, or_false] at hj; (try rcases hj with rfl | rfl) <;> simp_all) (by repeat (first | exact PF.body)) ?_
  repeat (first | refine LtK.put rfl rfl rfl (by first | exact yv_nilCheck rfl) ?_)
  refine LtK.nil ?_
  refine wpR_batch [false, false, false, false, false, false, false, false, false, true] (by decide +kernel) (by repeat (first | exact PF.body)) ?_
  repeat (first | refine LtK.put rfl rfl rfl (by first | exact yv_fieldAddr (by first | exact fo_23_0 | exact fo_26_1) rfl) ?_)
  refine LtK.nil ?_
  refine wpR_seal [false, false, false, false, false, false, false, false, false, false, true] 10 ⟨by decide, by kernel_rfl, by kernel_rfl⟩ rfl rfl ?_
  dsimp only [pickL]
  repeat (first | apply wpS_nil | (apply wpS_g_store; refine wpS_store rfl rfl rfl (by first | exact CellsOf.slice) hS (by repeat (first | exact Pos.head | apply Pos.tail)) (by repeat (first | exact SetC.here (by repeat (first | exact Ovr.nil | apply Ovr.cons)) | apply SetC.succ)) (by kernel_rfl) rfl (fun w hS hB => ?_)))
  refine QH_stepG (by first | exact hB.sub (fun _ _ h => by simpa using h)) ?_
  refine wpR_end (by kernel_rfl) ?_
  refine QH_end rfl (by first | exact RV.nil) rfl ?_
  have hob := hS.ok (.box bo [.int .i64 x.snap.index, .int .i64 x.snap.term, .int .i64 x.snap.sum, .int .i64 x.snap.level, .bool x.snap.final, .slice A2 (x.log.length + m) c2, .int .i64 x.term, .int .i64 x.vote] 26) (Has.mem (by repeat (first | exact Has.head | apply Has.tail)))
  have hrd : LI w A2 (x.log ++ l).length c2 (x.log ++ l) := ⟨rfl, by rw [List.length_append, hl.len]; omega, by rw [List.length_append, hl.len]; exact hs.le, hs.cap, hS.rd (by repeat (first | exact Has.head))⟩
  have hln : (x.log ++ l).length = x.log.length + m := by rw [List.length_append, hl.len]
  refine ⟨hS.base, .inl ⟨_, A2, c2, rfl, rfl, ?_, hrd, fun a ha => ⟨(hS.rng (.rd A2 (ens (x.log ++ l))) (Has.mem (by repeat (first | exact Has.head))) a.block ⟨a, ha, rfl⟩).1, .inr ?_⟩⟩⟩
  · unfold TB; rw [hln]; exact hob
  · exact Nat.le_of_not_lt fun hlt => (hS.rng (.rd A2 (ens (x.log ++ l))) (Has.mem (by repeat (first | exact Has.head))) a.block ⟨a, ha, rfl⟩).2 hlt (hS.rd_ne 0 2 rfl rfl rfl a ha)

/-- What a deed hands back. -/
def Chg (w0 : World) (x : Tu) (res : Option Tu) (e : Ending) (w' : World) : Prop := ∃ A2 c2, (e = .returned (.tuple #[.agg #[.int .i64 (chgS x res).snap.index, .int .i64 (chgS x res).snap.term, .int .i64 (chgS x res).snap.sum, .int .i64 (chgS x res).snap.level, .bool (chgS x res).snap.final, .slice A2 (chgS x res).log.length c2, .int .i64 (chgS x res).term, .int .i64 (chgS x res).vote], .int .i64 (chgE x res)]) ∧ Sl w0 w' A2 (chgS x res).log.length c2 3 (ens (chgS x res).log)) ∧ Below w0.heap.size w0 w'
theorem append_any (x : Tu) (A B : Option Addr) (c m d : Nat) (l : List En) (w0 : World) (hx : LI w0 A x.log.length c x.log) (hA : ∀ a, A = some a → a.block < w0.heap.size) (hl : LI w0 B m d l) (hm : m ≤ 300) :
    Calls Try.prog 17 #[.agg #[.int .i64 x.snap.index, .int .i64 x.snap.term, .int .i64 x.snap.sum, .int .i64 x.snap.level, .bool x.snap.final, .slice A x.log.length c, .int .i64 x.term, .int .i64 x.vote], .slice B m d] w0 (Chg w0 x (some { x with log := x.log ++ l })) := by
  refine gw_enter2 Try.func17 rfl Try.ntmps17 rfl ?_
  have hS := St0.start All w0
  repeat (first | (apply wpC_seq_k; intro K hK) | apply wpC_region)
  first | (apply wpS_g_box; refine wpS_box rfl rfl rfl (by first | exact CellsOf.agg) hS (fun bt w hS hB => ?_))
  first | (apply wpS_g_box; refine wpS_box rfl rfl rfl (by first | exact CellsOf.slice) hS (fun bl w hS hB => ?_))
  repeat (first | apply wpS_nil | (apply QH_seq_k; assumption) | (apply wpC_seq_k; intro K hK) | apply wpC_region | (apply wpS_g_alloc; refine wpS_alloc rfl rfl (by first | exact zc_26) hS (fun b w hS hB => ?_)) | (apply wpS_g; refine wpS_put rfl rfl rfl (by first | exact yv_assign rfl | (apply yv_g_load; first | exact yv_load_boxA (by first | exact ag_26) rfl (RW.here _) hS (by repeat (first | exact Has.head | apply Has.tail)) (by first | trivial) (by repeat (first | exact Seg.here (by repeat (first | exact Pre.zero | apply Pre.succ))))) | exact yv_makeFunc rfl rfl) ?_))
  have hbl := (hS.box_ge (b := bl) (by repeat (first | exact Has.head | apply Has.tail)))
  refine wpS_call rfl rfl rfl rfl (by kernel_rfl) rfl (changed_any x (some { x with log := x.log ++ l }) A c 46 #[.pointer (some ⟨bl, 0, none⟩)] _ (by kernel_rfl) (hx.below hS.pure) (fun a ha => Nat.lt_of_lt_of_le (hA a ha) hS.size)
    (fun hT => append1_does bl m d B l _ hbl.2.2 (hl.below hS.pure) x hm hT)) ?_
  rintro e w1 ⟨A2, c2, ⟨rfl, hs⟩, hB⟩
  refine ⟨_, rfl, ?_⟩
  replace hS := hS.slice hs hB
  repeat (first | apply wpS_nil | (apply QH_seq_k; assumption) | (apply wpS_g_store; refine wpS_store rfl rfl rfl (by first | exact CellsOf.agg) hS (by repeat (first | exact Pos.head | apply Pos.tail)) (by repeat (first | exact SetC.here (by repeat (first | exact Ovr.nil | apply Ovr.cons)))) (by kernel_rfl) rfl (fun w hS hB => ?_)) | (apply wpS_g; refine wpS_put rfl rfl rfl (by first | exact yv_assign rfl | exact yv_extract rfl rfl) ?_) | apply wpC_ret)
  refine QH_ret rfl (by first | exact RV.cell rfl (load_boxA (by first | exact ag_26) hS (by repeat (first | exact Has.head | apply Has.tail)) (by repeat (first | exact Seg.here (by repeat (first | exact Pre.zero | apply Pre.succ))))) (RV.tmp rfl RV.nil)) rfl ?_
  exact ⟨A2, c2, ⟨rfl, hS.giveS (by repeat (first | exact Has.head)) hs.len hs.le hs.cap⟩, hS.pure⟩

/-- Cut's change. -/
def cutR (x : Tu) (i : Int) : Option Tu := if x.snap.index < i ∧ i ≤ x.last + 1 then some { x with log := x.log.take (i - x.snap.index - 1).toNat } else none
theorem cut1_does (bf : Nat) (i : Int) (w0 : World) (hbf : w0.heap[bf]? = some (.cells #[.int .i64 i] 3)) (x : Tu) (hx : tupB x = true) :
    Does 44 #[.pointer (some ⟨bf, 0, none⟩)] w0 x (cutR x i) := by
  intro W bo A' c' hB hbo hT hLI hA'
  have hxb := tupB_bd x hx
  have hol : bo < W.heap.size := (Array.getElem?_eq_some_iff.1 hT).1
  have hbf' : bf < w0.heap.size := (Array.getElem?_eq_some_iff.1 hbf).1
  have hbW : W.heap[bf]? = some (.cells #[.int .i64 i] 3) := (hB.block bf hbf').trans hbf
  have hne : bf ≠ bo := by omega
  have hle := hLI.le
  show Calls _ _ #[_, _] _ _
  refine gw_enter2 Try.func44 rfl Try.ntmps44 rfl ?_
  have hS := St0.old (w := W) (fun k => k ≠ bo) (e := .box bo [.int .i64 x.snap.index, .int .i64 x.snap.term, .int .i64 x.snap.sum, .int .i64 x.snap.level, .bool x.snap.final, .slice A' x.log.length c', .int .i64 x.term, .int .i64 x.vote] 26) hT (fun k hk => by subst hk; exact ⟨hol, by simp⟩)
  by_cases h1 : x.snap.index < i
  · by_cases h2 : i ≤ x.snap.index + x.log.length + 1
    · have e1 : cutR x i = some { x with log := x.log.take (i - x.snap.index - 1).toNat } := if_pos ⟨h1, h2⟩
      rw [e1]
      obtain ⟨k, hk⟩ : ∃ k : Nat, i - x.snap.index - 1 = k := ⟨(i - x.snap.index - 1).toNat, by omega⟩
      have hkn : (i - x.snap.index - 1).toNat = k := by omega
      repeat (first | (apply wpC_seq_k; intro K hK))
      refine wpC_draw 17 [] (fun _ _ => True) ⟨by kernel_rfl, by kernel_rfl⟩ hS (fun w hS hB => ?_)
      refine wpR_batch [true, true, true, true, true, true, true, true, true, true, true, true] (by decide +kernel) (by repeat (first | exact PF.body | apply PF.then)) ?_
      repeat (first | refine LtK.put rfl rfl rfl (by first | exact yv_move rfl | exact yv_fieldAddr (by first | exact fo_23_0 | exact fo_26_0) rfl | (apply yv_g_load; first | exact yv_load_box (by first | exact sc_1 | exact sc_3) rfl (RW.below _) hS (by repeat (first | exact Has.head | apply Has.tail)) (by first | trivial) (by repeat (first | exact Seg.here (Pre.succ Pre.zero))) | exact yv_load_boxA (by first | exact ag_23 | exact ag_26) rfl (RW.below _) hS (by repeat (first | exact Has.head)) (by first | trivial) (by repeat (first | exact Seg.here (by repeat (first | exact Pre.zero | apply Pre.succ)))) | exact yv_load_ob (by first | exact sc_1 | exact sc_3) rfl (RW.below _) hS (by first | trivial) (by first | trivial) (by assumption) (by repeat (first | exact Seg.here (Pre.succ Pre.zero)))) | (apply yv_g_bin; first | exact yv_gtr_t rfl rfl (by omega)) | exact yv_nilCheck rfl) ?_)
      refine LtK.nil ?_
      refine wpR_call [false, false, false, false, false, false, false, false, false, false, false, false, true] 12 ⟨by decide, by kernel_rfl, by kernel_rfl⟩ rfl rfl ?_
      dsimp only [pickL]
      repeat (first | apply wpS_nil | (apply wpS_g_call; first | refine wpS_callP rfl rfl rfl (by kernel_rfl) rfl (last_any _ _ _ _ _ _ _ (by omega) (by omega)) hS (fun w hS hB => ?_)))
      refine QH_step (by first | assumption) ?_
      refine wpR_batch [false, false, false, false, false, false, false, false, false, false, false, false, false, true, true, true] (by decide +kernel) (by repeat (first | exact PF.body | apply PF.then)) ?_
      repeat (first | refine LtK.put rfl rfl rfl (by first | (apply yv_g_bin; first | exact yv_leq_t rfl rfl (by omega) | exact yv_add rfl rfl (by omega)) | (apply yv_g_pick; first | exact yv_pick_t rfl rfl rfl)) ?_)
      refine LtK.nil ?_
      refine wpR_call [false, false, false, false, false, false, false, false, false, false, false, false, false, false, false, false, true] 16 ⟨by decide, by kernel_rfl, by kernel_rfl⟩ rfl rfl ?_
      dsimp only [pickL]
      repeat (first | apply wpS_nil | (apply wpS_g_call; first | refine wpS_callP rfl rfl rfl (by kernel_rfl) rfl (must_t _) hS (fun w hS hB => ?_)))
      refine QH_step (by first | assumption) ?_
      refine wpR_end (by kernel_rfl) ?_
      repeat (first | (apply QH_seq_k; assumption))
      refine wpC_draw 17 [16] (fun i b => (i = 16 → b ≠ bo)) ⟨by kernel_rfl, by kernel_rfl⟩ hS (fun w hS hB => ?_)
      refine wpR_batch [true, true, true, true, true, true, true, true, true, true, true, true, true, true] (by decide +kernel) (by repeat (first | exact PF.body)) ?_
      repeat (first | refine LtK.put rfl rfl rfl (by first | exact yv_slice_h (h := k) (by first | exact el_24) rfl rfl (by omega) (by omega) | exact yv_move rfl | exact yv_fieldAddr (by first | exact fo_23_0 | exact fo_26_0 | exact fo_26_1) rfl | (apply yv_g_load; first | exact yv_load_box (by first | exact sc_1 | exact sc_3 | exact sc_24) rfl (RW.below _) hS (by repeat (first | exact Has.head | apply Has.tail)) (by first | trivial) (by repeat (first | exact Seg.here (Pre.succ Pre.zero) | apply Seg.succ)) | exact yv_load_ob (by first | exact sc_1 | exact sc_3) rfl (RW.below _) hS (by first | trivial) (by first | trivial) (by assumption) (by repeat (first | exact Seg.here (Pre.succ Pre.zero)))) | (apply yv_g_bin; first | exact yv_sub rfl rfl (by omega)) | exact yv_nilCheck rfl) ?_)
      refine LtK.nil ?_
      refine wpR_batchG [false, false, false, false, false, false, false, false, false, false, false, false, false, false, true] [16] (fun b => b ≠ bo) (by decide +kernel) (by intro j hj b hb; simp only [List.mem_cons, List.not_mem_nil, or_false] at hj; (try rcases hj with rfl | rfl) <;> simp_all) (by repeat (first | exact PF.body)) ?_
      repeat (first | refine LtK.put rfl rfl rfl (by first | exact yv_nilCheck rfl) ?_)
      refine LtK.nil ?_
      refine wpR_batch [false, false, false, false, false, false, false, false, false, false, false, false, false, false, false, true] (by decide +kernel) (by repeat (first | exact PF.body)) ?_
      repeat (first | refine LtK.put rfl rfl rfl (by first | exact yv_fieldAddr (by first | exact fo_23_0 | exact fo_26_1) rfl) ?_)
      refine LtK.nil ?_
      refine wpR_seal [false, false, false, false, false, false, false, false, false, false, false, false, false, false, false, false, true] 16 ⟨by decide, by kernel_rfl, by kernel_rfl⟩ rfl rfl ?_
      dsimp only [pickL]
      repeat (first | apply wpS_nil | (apply wpS_g_store; refine wpS_store rfl rfl rfl (by first | exact CellsOf.slice) hS (by repeat (first | exact Pos.head)) (by repeat (first | exact SetC.here (by repeat (first | exact Ovr.nil | apply Ovr.cons)) | apply SetC.succ)) (by kernel_rfl) rfl (fun w hS hB => ?_)))
      refine QH_stepG (by first | exact hB.sub (fun _ _ h => by simpa using h)) ?_
      refine wpR_end (by kernel_rfl) ?_
      refine QH_end rfl (by first | exact RV.nil) rfl ?_
      have hob := hS.ok (.box bo [.int .i64 x.snap.index, .int .i64 x.snap.term, .int .i64 x.snap.sum, .int .i64 x.snap.level, .bool x.snap.final, .slice A' k c', .int .i64 x.term, .int .i64 x.vote] 26) (Has.mem (by repeat (first | exact Has.head)))
      have hkl : (x.log.take k).length = k := by rw [List.length_take]; omega
      rw [hkn]
      refine ⟨hS.base, .inl ⟨_, A', c', rfl, rfl, ?_, ⟨rfl, by have := hLI.small; dsimp only; rw [hkl]; omega, by dsimp only; rw [hkl]; omega, hLI.cap, ?_⟩, fun a ha => ⟨Nat.lt_of_lt_of_le (hA' a ha).2 hS.base.size, .inl ⟨a, ha, rfl⟩⟩⟩⟩
      · unfold TB; dsimp only; rw [hkl]; exact hob
      · have h5 := (hS.base.rd hLI.rd (fun a ha => (hA' a ha).1)).take (3 * k)
        have e2 : (ens x.log).take (3 * k) = ens (x.log.take k) := by
          have := ens_app (x.log.take k) (x.log.drop k)
          rw [List.take_append_drop] at this
          rw [this, List.take_left' (by rw [ens_length, hkl])]
        rwa [e2] at h5
    · have e1 : cutR x i = none := if_neg (fun h => h2 (by have := h.2; unfold Tu.last at this; exact this))
      rw [e1]
      repeat (first | (apply wpC_seq_k; intro K hK))
      refine wpC_draw 17 [] (fun _ _ => True) ⟨by kernel_rfl, by kernel_rfl⟩ hS (fun w hS hB => ?_)
      refine wpR_batch [true, true, true, true, true, true, true, true, true, true, true, true] (by decide +kernel) (by repeat (first | exact PF.body | apply PF.then)) ?_
      repeat (first | refine LtK.put rfl rfl rfl (by first | exact yv_move rfl | exact yv_fieldAddr (by first | exact fo_23_0 | exact fo_26_0) rfl | (apply yv_g_load; first | exact yv_load_box (by first | exact sc_1 | exact sc_3) rfl (RW.below _) hS (by repeat (first | exact Has.head | apply Has.tail)) (by first | trivial) (by repeat (first | exact Seg.here (Pre.succ Pre.zero))) | exact yv_load_boxA (by first | exact ag_23 | exact ag_26) rfl (RW.below _) hS (by repeat (first | exact Has.head)) (by first | trivial) (by repeat (first | exact Seg.here (by repeat (first | exact Pre.zero | apply Pre.succ)))) | exact yv_load_ob (by first | exact sc_1 | exact sc_3) rfl (RW.below _) hS (by first | trivial) (by first | trivial) (by assumption) (by repeat (first | exact Seg.here (Pre.succ Pre.zero)))) | (apply yv_g_bin; first | exact yv_gtr_t rfl rfl (by omega)) | exact yv_nilCheck rfl) ?_)
      refine LtK.nil ?_
      refine wpR_call [false, false, false, false, false, false, false, false, false, false, false, false, true] 12 ⟨by decide, by kernel_rfl, by kernel_rfl⟩ rfl rfl ?_
      dsimp only [pickL]
      repeat (first | apply wpS_nil | (apply wpS_g_call; first | refine wpS_callP rfl rfl rfl (by kernel_rfl) rfl (last_any _ _ _ _ _ _ _ (by omega) (by omega)) hS (fun w hS hB => ?_)))
      refine QH_step (by first | assumption) ?_
      refine wpR_batch [false, false, false, false, false, false, false, false, false, false, false, false, false, true, true, true] (by decide +kernel) (by repeat (first | exact PF.body | apply PF.then)) ?_
      repeat (first | refine LtK.put rfl rfl rfl (by first | (apply yv_g_bin; first | exact yv_leq_f rfl rfl (by omega) | exact yv_add rfl rfl (by omega)) | (apply yv_g_pick; first | exact yv_pick_t rfl rfl rfl)) ?_)
      refine LtK.nil ?_
      refine wpR_call [false, false, false, false, false, false, false, false, false, false, false, false, false, false, false, false, true] 16 ⟨by decide, by kernel_rfl, by kernel_rfl⟩ rfl rfl ?_
      dsimp only [pickL]
      repeat (first | (apply wpS_g_call; first | (refine wpS_callPanic rfl rfl (by kernel_rfl) rfl (must_f _) ?_; rintro e w2 ⟨rfl, hB2⟩; refine ⟨_, rfl, ?_⟩)) | apply QH_then_panic)
      exact QH_panic rfl ⟨(hS.below hB2).base, .inr ⟨rfl, rfl, TB.eight (x := x) (A := A') (c := c') ((hS.below hB2).ok (.box bo [.int .i64 x.snap.index, .int .i64 x.snap.term, .int .i64 x.snap.sum, .int .i64 x.snap.level, .bool x.snap.final, .slice A' x.log.length c', .int .i64 x.term, .int .i64 x.vote] 26) (Has.mem (by repeat (first | exact Has.head))))⟩⟩
  · have e1 : cutR x i = none := if_neg (fun h => h1 h.1)
    rw [e1]
    repeat (first | (apply wpC_seq_k; intro K hK))
    refine wpC_draw 17 [] (fun _ _ => True) ⟨by kernel_rfl, by kernel_rfl⟩ hS (fun w hS hB => ?_)
    refine wpR_batch [true, true, true, true, true, true, true, true, true, true, true, true] (by decide +kernel) (by repeat (first | exact PF.body | apply PF.then)) ?_
    repeat (first | refine LtK.put rfl rfl rfl (by first | exact yv_move rfl | exact yv_fieldAddr (by first | exact fo_23_0 | exact fo_26_0) rfl | (apply yv_g_load; first | exact yv_load_box (by first | exact sc_1 | exact sc_3) rfl (RW.below _) hS (by repeat (first | exact Has.head | apply Has.tail)) (by first | trivial) (by repeat (first | exact Seg.here (Pre.succ Pre.zero))) | exact yv_load_ob (by first | exact sc_1 | exact sc_3) rfl (RW.below _) hS (by first | trivial) (by first | trivial) (by assumption) (by repeat (first | exact Seg.here (Pre.succ Pre.zero)))) | (apply yv_g_bin; first | exact yv_gtr_f rfl rfl (by omega)) | exact yv_nilCheck rfl) ?_ | refine LtK.skip rfl rfl rfl ?_)
    refine LtK.nil ?_
    refine wpR_call [false, false, false, false, false, false, false, false, false, false, false, false, true] 12 ⟨by decide, by kernel_rfl, by kernel_rfl⟩ rfl rfl ?_
    dsimp only [pickL]
    repeat (first | apply wpS_nil | (apply wpS_g; refine wpS_skip rfl rfl rfl ?_))
    refine QH_step (by first | exact Below.refl _ _) ?_
    refine wpR_batch [false, false, false, false, false, false, false, false, false, false, false, false, false, true, true, true] (by decide +kernel) (by repeat (first | exact PF.body | apply PF.then)) ?_
    repeat (first | refine LtK.put rfl rfl rfl (by first | (apply yv_g_pick; first | exact yv_pick_f rfl rfl rfl)) ?_ | refine LtK.skip rfl rfl rfl ?_)
    refine LtK.nil ?_
    refine wpR_call [false, false, false, false, false, false, false, false, false, false, false, false, false, false, false, false, true] 16 ⟨by decide, by kernel_rfl, by kernel_rfl⟩ rfl rfl ?_
    dsimp only [pickL]
    repeat (first | (apply wpS_g_call; first | (refine wpS_callPanic rfl rfl (by kernel_rfl) rfl (must_f _) ?_; rintro e w2 ⟨rfl, hB2⟩; refine ⟨_, rfl, ?_⟩)) | apply QH_then_panic)
    exact QH_panic rfl ⟨(hS.below hB2).base, .inr ⟨rfl, rfl, TB.eight (x := x) (A := A') (c := c') ((hS.below hB2).ok (.box bo [.int .i64 x.snap.index, .int .i64 x.snap.term, .int .i64 x.snap.sum, .int .i64 x.snap.level, .bool x.snap.final, .slice A' x.log.length c', .int .i64 x.term, .int .i64 x.vote] 26) (Has.mem (by repeat (first | exact Has.head))))⟩⟩
end Go.Proofs.Ythngkojbokknfaa
/- The walks of tuples: TermAt, save, Save, Cut, Install, Hard. -/
namespace Go.Proofs.Ythngkojbokknfaa
open Go Go.RowKit
set_option maxRecDepth 10000

theorem Rd.cutE {w : World} {A : Option Addr} {l : List En} (h : Rd w A (ens l)) {k c : Nat} (hc : l.length ≤ c) : Rd w (if c = k then A else A.map (·.add (k * 3))) (ens (l.drop k)) := by
  split
  · rename_i hck
    have : l.drop k = [] := List.drop_eq_nil_of_le (by omega)
    rw [this]; exact Rd.nil w A
  · rw [ens_drop, Nat.mul_comm]; exact h.drop (3 * k)

/-- The term at an index. -/
def termAt (x : Tu) (i : Int) : Option Int := if i = x.snap.index then some x.snap.term else if x.snap.index < i ∧ i ≤ x.last then (x.log[(i - x.snap.index - 1).toNat]?).map En.term else none
theorem term_any (x : Tu) (A : Option Addr) (c : Nat) (i : Int) (w : World) (h : -2000000000000 ≤ x.snap.index ∧ x.snap.index ≤ 2000000000000) (hl : LI w A x.log.length c x.log) :
    PureC Try.prog 14 #[.agg #[.int .i64 x.snap.index, .int .i64 x.snap.term, .int .i64 x.snap.sum, .int .i64 x.snap.level, .bool x.snap.final, .slice A x.log.length c, .int .i64 x.term, .int .i64 x.vote], .int .i64 i] w (.tuple #[.int .i64 ((termAt x i).getD 0), .bool (termAt x i).isSome]) := by
  have hsm := hl.small
  by_cases h1 : i = x.snap.index
  · have e1 : termAt x i = some x.snap.term := if_pos h1
    rw [e1]
    refine PureC.mk ?_
    refine gw_enter2 Try.func14 rfl Try.ntmps14 rfl ?_
    have hS := St0.start All w
    repeat (first | apply wpS_nil | (apply QH_seq_k; assumption) | (apply wpC_seq_k; intro K hK) | apply wpC_region | (apply wpS_g_box; refine wpS_box rfl rfl rfl (by first | exact CellsOf.agg) hS (fun b w hS hB => ?_)) | (apply wpS_g; refine wpS_put rfl rfl rfl (by first | exact yv_move rfl | exact yv_assign rfl | exact yv_fieldAddr (by first | exact fo_23_0 | exact fo_23_1 | exact fo_26_0) rfl | (apply yv_g_load; first | exact yv_load_box (by first | exact sc_3) rfl (RW.here _) hS (by repeat (first | exact Has.head)) (by first | trivial) (by repeat (first | exact Seg.here (Pre.succ Pre.zero) | apply Seg.succ))) | (apply yv_g_bin; first | exact yv_eql_t rfl rfl (by omega))) ?_) | apply wpC_cond_t rfl rfl | apply wpC_ret | apply QH_then_ret)
    refine QH_ret rfl (by first | exact RV.tmp rfl (RV.tmp rfl RV.nil)) rfl ?_
    exact ⟨rfl, hS.pure⟩
  · by_cases h2 : x.snap.index < i ∧ i ≤ x.last
    · have h3 : i ≤ x.snap.index + x.log.length := h2.2
      obtain ⟨k, hk⟩ : ∃ k : Nat, i - x.snap.index - 1 = k := ⟨(i - x.snap.index - 1).toNat, by omega⟩
      have hkn : (i - x.snap.index - 1).toNat = k := by omega
      have hkl : k < x.log.length := by omega
      have e1 : termAt x i = some (x.log[k]'hkl).term := by unfold termAt; rw [if_neg h1, if_pos h2, hkn, List.getElem?_eq_getElem hkl]; rfl
      rw [e1]
      refine PureC.mk ?_
      refine gw_enter2 Try.func14 rfl Try.ntmps14 rfl ?_
      have hS := St0.start All w
      repeat (first | apply wpS_nil | (apply QH_seq_k; assumption) | (apply wpC_seq_k; intro K hK) | apply wpC_region | (apply wpS_g_store; refine wpS_store rfl rfl rfl (by first | exact CellsOf.agg) hS (by repeat (first | exact Pos.head)) (by repeat (first | exact SetC.here (by repeat (first | exact Ovr.nil | apply Ovr.cons)))) (by kernel_rfl) rfl (fun w hS hB => ?_)) | (apply wpS_g_call; first | refine wpS_callP rfl rfl rfl (by kernel_rfl) rfl (at_yes x.snap A x.log.length c x.term x.vote i _ (by omega) (by omega) k (by omega) hkl x.log (hS.rd0 hl.rd) rfl _ (List.getElem?_eq_getElem hkl)) hS (fun w hS hB => ?_)) | (apply wpS_g_box; refine wpS_box rfl rfl rfl (by first | exact CellsOf.agg) hS (fun b w hS hB => ?_)) | (apply wpS_g_alloc; refine wpS_alloc rfl rfl (by first | exact zc_50) hS (fun b w hS hB => ?_)) | (apply wpS_g; refine wpS_put rfl rfl rfl (by first | exact yv_move rfl | exact yv_assign rfl | exact yv_fieldAddr (by first | exact fo_23_0 | exact fo_26_0 | exact fo_50_0) rfl | (apply yv_g_load; first | exact yv_load_box (by first | exact sc_3) rfl (RW.here _) hS (by repeat (first | exact Has.head)) (by first | trivial) (by repeat (first | exact Seg.here (Pre.succ Pre.zero))) | exact yv_load_boxA (by first | exact ag_26) rfl (RW.here _) hS (by repeat (first | exact Has.head)) (by first | trivial) (by repeat (first | exact Seg.here (by repeat (first | exact Pre.zero | apply Pre.succ))))) | (apply yv_g_bin; first | exact yv_eql_f rfl rfl (by omega)) | exact yv_extract rfl rfl) ?_) | apply wpC_cond_f rfl rfl | apply wpC_skip | apply wpC_ret)
      refine QH_ret rfl (by first | exact RV.tmp rfl (RV.tmp rfl RV.nil)) rfl ?_
      exact ⟨rfl, hS.pure⟩
    · have e1 : termAt x i = none := by unfold termAt; rw [if_neg h1, if_neg h2]
      rw [e1]
      have h3 : i ≤ x.snap.index ∨ x.snap.index + x.log.length < i := by
        rcases Int.lt_or_le x.snap.index i with h | h
        · exact .inr (Int.not_le.1 fun h' => h2 ⟨h, h'⟩)
        · exact .inl h
      refine PureC.mk ?_
      refine gw_enter2 Try.func14 rfl Try.ntmps14 rfl ?_
      have hS := St0.start All w
      repeat (first | apply wpS_nil | (apply QH_seq_k; assumption) | (apply wpC_seq_k; intro K hK) | apply wpC_region | (apply wpS_g_store; refine wpS_store rfl rfl rfl (by first | exact CellsOf.agg) hS (by repeat (first | exact Pos.head)) (by repeat (first | exact SetC.here (by repeat (first | exact Ovr.nil | apply Ovr.cons)))) (by kernel_rfl) rfl (fun w hS hB => ?_)) | (apply wpS_g_call; first | refine wpS_callP rfl rfl rfl (by kernel_rfl) rfl (at_no x.snap A x.log.length c x.term x.vote i _ (by omega) (by omega) h3) hS (fun w hS hB => ?_)) | (apply wpS_g_box; refine wpS_box rfl rfl rfl (by first | exact CellsOf.agg) hS (fun b w hS hB => ?_)) | (apply wpS_g_alloc; refine wpS_alloc rfl rfl (by first | exact zc_50) hS (fun b w hS hB => ?_)) | (apply wpS_g; refine wpS_put rfl rfl rfl (by first | exact yv_move rfl | exact yv_assign rfl | exact yv_fieldAddr (by first | exact fo_23_0 | exact fo_26_0 | exact fo_50_0) rfl | (apply yv_g_load; first | exact yv_load_box (by first | exact sc_3) rfl (RW.here _) hS (by repeat (first | exact Has.head)) (by first | trivial) (by repeat (first | exact Seg.here (Pre.succ Pre.zero))) | exact yv_load_boxA (by first | exact ag_26) rfl (RW.here _) hS (by repeat (first | exact Has.head)) (by first | trivial) (by repeat (first | exact Seg.here (by repeat (first | exact Pre.zero | apply Pre.succ))))) | (apply yv_g_bin; first | exact yv_eql_f rfl rfl (by omega)) | exact yv_extract rfl rfl) ?_) | apply wpC_cond_f rfl rfl | apply wpC_skip | apply wpC_ret)
      refine QH_ret rfl (by first | exact RV.tmp rfl (RV.tmp rfl RV.nil)) rfl ?_
      exact ⟨rfl, hS.pure⟩
theorem term_in (x : Tu) (i t : Int) (h : termAt x i = some t) : x.snap.index ≤ i ∧ i ≤ x.snap.index + x.log.length := by
  unfold termAt at h
  split at h
  · rename_i h1; omega
  · split at h
    · rename_i h1; have := h1.2; unfold Tu.last at this; omega
    · cases h

/-- Save's change. -/
def saveR (x : Tu) (s : St) : Option Tu := if termAt x s.index = some s.term ∧ fineB s = true then some { x with snap := s, log := x.log.drop (s.index - x.snap.index).toNat } else none
theorem save_does (s : St) (w0 : World) (x : Tu) (hx : tupB x = true) : Does 43 #[.agg #[.int .i64 s.index, .int .i64 s.term, .int .i64 s.sum, .int .i64 s.level, .bool s.final]] w0 x (saveR x s) := by
  intro W bo A' c' hB hbo hT hLI hA'
  have hxb := tupB_bd x hx
  have hol : bo < W.heap.size := (Array.getElem?_eq_some_iff.1 hT).1
  have hle := hLI.le
  have hcp := hLI.cap
  have hAn := fun a ha => (hA' a ha).1
  have htm := fun W' (h : LI W' A' x.log.length c' x.log) => term_any x A' c' s.index W' (by omega) h
  show Calls _ _ #[_, _] _ _
  have hS := St0.old (w := W) (fun k => k ≠ bo) (e := .box bo [.int .i64 x.snap.index, .int .i64 x.snap.term, .int .i64 x.snap.sum, .int .i64 x.snap.level, .bool x.snap.final, .slice A' x.log.length c', .int .i64 x.term, .int .i64 x.vote] 26) hT (fun k hk => by subst hk; exact ⟨hol, by simp⟩)
  refine gw_enter2 Try.func43 rfl Try.ntmps43 rfl ?_
  cases ht : termAt x s.index with
  | none =>
    have e1 : saveR x s = none := if_neg (fun h => by rw [ht] at h; cases h.1)
    rw [e1]
    have htm' : ∀ W', LI W' A' x.log.length c' x.log → PureC Try.prog 14 #[.agg #[.int .i64 x.snap.index, .int .i64 x.snap.term, .int .i64 x.snap.sum, .int .i64 x.snap.level, .bool x.snap.final, .slice A' x.log.length c', .int .i64 x.term, .int .i64 x.vote], .int .i64 s.index] W' (.tuple #[.int .i64 0, .bool false]) := fun W' h => by have := htm W' h; rw [ht] at this; exact this
    repeat (first | (apply wpC_seq_k; intro K hK))
    apply wpC_region
    repeat (first | apply wpS_nil | (apply QH_seq_k; assumption) | (apply wpC_seq_k; intro K hK) | (apply wpS_g_box; refine wpS_box rfl rfl rfl (by first | exact CellsOf.agg) hS (fun b w hS hB => ?_)))
    refine wpC_draw 11 [] (fun _ _ => True) ⟨by kernel_rfl, by kernel_rfl⟩ hS (fun w hS hB => ?_)
    refine wpR_batch [true, true, true, true, true] (by decide +kernel) (by repeat (first | exact PF.body | apply PF.then)) ?_
    repeat (first | refine LtK.put rfl rfl rfl (by first | exact yv_move rfl | exact yv_fieldAddr (by first | exact fo_23_0) rfl | (apply yv_g_load; first | exact yv_load_box (by first | exact sc_1 | exact sc_3) rfl (RW.below _) hS (by repeat (first | exact Has.head)) (by first | trivial) (by repeat (first | exact Seg.here (Pre.succ Pre.zero))) | exact yv_load_boxA (by first | exact ag_23 | exact ag_26) rfl (RW.below _) hS (by repeat (first | exact Has.head | apply Has.tail)) (by first | trivial) (by repeat (first | exact Seg.here (by repeat (first | exact Pre.zero | apply Pre.succ))))) | exact yv_nilCheck rfl) ?_)
    refine LtK.nil ?_
    refine wpR_call [false, false, false, false, false, true] 5 ⟨by decide, by kernel_rfl, by kernel_rfl⟩ rfl rfl ?_
    dsimp only [pickL]
    repeat (first | apply wpS_nil | (apply wpS_g_call; first | refine wpS_callP rfl rfl rfl (by kernel_rfl) rfl (htm' _ (hLI.keep hS.base hAn)) hS (fun w hS hB => ?_)))
    refine QH_step (by first | assumption) ?_
    refine wpR_batch [false, false, false, false, false, false, true, true, true, true, true] (by decide +kernel) (by repeat (first | exact PF.body | apply PF.then)) ?_
    repeat (first | refine LtK.put rfl rfl rfl (by first | exact yv_move rfl | exact yv_assign rfl | exact yv_extract rfl rfl) ?_)
    refine LtK.nil ?_
    refine wpR_end (by kernel_rfl) ?_
    repeat (first | (apply QH_seq_k; assumption) | (apply wpC_seq_k; intro K hK) | apply wpC_region | (apply wpS_g; refine wpS_skip rfl rfl rfl ?_) | (apply wpS_g_call; first | (refine wpS_callPanic rfl rfl (by kernel_rfl) rfl (must_f _) ?_; rintro e w2 ⟨rfl, hB2⟩; refine ⟨_, rfl, ?_⟩)) | (apply wpS_g; refine wpS_put rfl rfl rfl (by first | exact yv_move rfl | (apply yv_g_pick; first | exact yv_pick_f rfl rfl rfl)) ?_) | apply QH_then_panic)
    exact QH_panic rfl ⟨(hS.below hB2).base, .inr ⟨rfl, rfl, TB.eight (x := x) (A := A') (c := c') ((hS.below hB2).ok (.box bo [.int .i64 x.snap.index, .int .i64 x.snap.term, .int .i64 x.snap.sum, .int .i64 x.snap.level, .bool x.snap.final, .slice A' x.log.length c', .int .i64 x.term, .int .i64 x.vote] 26) (Has.mem (by repeat (first | exact Has.head | apply Has.tail))))⟩⟩
  | some t =>
    have htm' : ∀ W', LI W' A' x.log.length c' x.log → PureC Try.prog 14 #[.agg #[.int .i64 x.snap.index, .int .i64 x.snap.term, .int .i64 x.snap.sum, .int .i64 x.snap.level, .bool x.snap.final, .slice A' x.log.length c', .int .i64 x.term, .int .i64 x.vote], .int .i64 s.index] W' (.tuple #[.int .i64 t, .bool true]) := fun W' h => by have := htm W' h; rw [ht] at this; exact this
    by_cases hts : t = s.term
    · cases hf : fineB s with
      | false =>
        have e1 : saveR x s = none := if_neg (fun h => by rw [hf] at h; cases h.2)
        rw [e1]
        repeat (first | (apply wpC_seq_k; intro K hK))
        apply wpC_region
        repeat (first | apply wpS_nil | (apply QH_seq_k; assumption) | (apply wpC_seq_k; intro K hK) | (apply wpS_g_box; refine wpS_box rfl rfl rfl (by first | exact CellsOf.agg) hS (fun b w hS hB => ?_)))
        refine wpC_draw 11 [] (fun _ _ => True) ⟨by kernel_rfl, by kernel_rfl⟩ hS (fun w hS hB => ?_)
        refine wpR_batch [true, true, true, true, true] (by decide +kernel) (by repeat (first | exact PF.body | apply PF.then)) ?_
        repeat (first | refine LtK.put rfl rfl rfl (by first | exact yv_move rfl | exact yv_fieldAddr (by first | exact fo_23_0) rfl | (apply yv_g_load; first | exact yv_load_box (by first | exact sc_1 | exact sc_3) rfl (RW.below _) hS (by repeat (first | exact Has.head)) (by first | trivial) (by repeat (first | exact Seg.here (Pre.succ Pre.zero))) | exact yv_load_boxA (by first | exact ag_23 | exact ag_26) rfl (RW.below _) hS (by repeat (first | exact Has.head | apply Has.tail)) (by first | trivial) (by repeat (first | exact Seg.here (by repeat (first | exact Pre.zero | apply Pre.succ))))) | exact yv_nilCheck rfl) ?_)
        refine LtK.nil ?_
        refine wpR_call [false, false, false, false, false, true] 5 ⟨by decide, by kernel_rfl, by kernel_rfl⟩ rfl rfl ?_
        dsimp only [pickL]
        repeat (first | apply wpS_nil | (apply wpS_g_call; first | refine wpS_callP rfl rfl rfl (by kernel_rfl) rfl (htm' _ (hLI.keep hS.base hAn)) hS (fun w hS hB => ?_)))
        refine QH_step (by first | assumption) ?_
        refine wpR_batch [false, false, false, false, false, false, true, true, true, true, true] (by decide +kernel) (by repeat (first | exact PF.body | apply PF.then)) ?_
        repeat (first | refine LtK.put rfl rfl rfl (by first | exact yv_move rfl | exact yv_assign rfl | exact yv_extract rfl rfl) ?_)
        refine LtK.nil ?_
        refine wpR_end (by kernel_rfl) ?_
        repeat (first | (apply QH_seq_k; assumption) | (apply wpC_seq_k; intro K hK) | apply wpC_region | (apply wpS_g_call; first | refine wpS_callP rfl rfl rfl (by kernel_rfl) rfl (fine_b s _ false hf) hS (fun w hS hB => ?_) | (refine wpS_callPanic rfl rfl (by kernel_rfl) rfl (must_f _) ?_; rintro e w2 ⟨rfl, hB2⟩; refine ⟨_, rfl, ?_⟩)) | (apply wpS_g; refine wpS_put rfl rfl rfl (by first | exact yv_move rfl | exact yv_fieldAddr (by first | exact fo_23_0 | exact fo_23_1) rfl | (apply yv_g_load; first | exact yv_load_box (by first | exact sc_3) rfl (RW.here _) hS (by repeat (first | exact Has.head)) (by first | trivial) (by repeat (first | exact Seg.here (Pre.succ Pre.zero) | apply Seg.succ)) | exact yv_load_boxA (by first | exact ag_23) rfl (RW.here _) hS (by repeat (first | exact Has.head)) (by first | trivial) (by repeat (first | exact Seg.here (by repeat (first | exact Pre.zero | apply Pre.succ))))) | (apply yv_g_bin; first | exact yv_eql_t rfl rfl (by omega)) | (apply yv_g_pick; first | exact yv_pick_t rfl rfl rfl)) ?_) | apply QH_then_panic)
        exact QH_panic rfl ⟨(hS.below hB2).base, .inr ⟨rfl, rfl, TB.eight (x := x) (A := A') (c := c') ((hS.below hB2).ok (.box bo [.int .i64 x.snap.index, .int .i64 x.snap.term, .int .i64 x.snap.sum, .int .i64 x.snap.level, .bool x.snap.final, .slice A' x.log.length c', .int .i64 x.term, .int .i64 x.vote] 26) (Has.mem (by repeat (first | exact Has.head | apply Has.tail))))⟩⟩
      | true =>
        have e1 : saveR x s = some { x with snap := s, log := x.log.drop (s.index - x.snap.index).toNat } := if_pos ⟨by rw [ht, hts], hf⟩
        rw [e1]
        have hin := term_in x _ _ ht
        obtain ⟨k, hk⟩ : ∃ k : Nat, s.index - x.snap.index = k := ⟨(s.index - x.snap.index).toNat, by omega⟩
        have hkn : (s.index - x.snap.index).toNat = k := by omega
        have hkl : (x.log.drop k).length = x.log.length - k := List.length_drop
        rw [hkn]
        repeat (first | (apply wpC_seq_k; intro K hK))
        apply wpC_region
        first | (apply wpS_g_box; refine wpS_box rfl rfl rfl (by first | exact CellsOf.agg) hS (fun bs w hS hB => ?_))
        repeat (first | apply wpS_nil | (apply QH_seq_k; assumption) | (apply wpC_seq_k; intro K hK))
        have hnb : bs ≠ bo := hS.ne 0 1 rfl rfl rfl
        refine wpC_draw 11 [] (fun _ _ => True) ⟨by kernel_rfl, by kernel_rfl⟩ hS (fun w hS hB => ?_)
        refine wpR_batch [true, true, true, true, true] (by decide +kernel) (by repeat (first | exact PF.body | apply PF.then)) ?_
        repeat (first | refine LtK.put rfl rfl rfl (by first | exact yv_move rfl | exact yv_fieldAddr (by first | exact fo_23_0) rfl | (apply yv_g_load; first | exact yv_load_box (by first | exact sc_1 | exact sc_3) rfl (RW.below _) hS (by repeat (first | exact Has.head)) (by first | trivial) (by repeat (first | exact Seg.here (Pre.succ Pre.zero))) | exact yv_load_boxA (by first | exact ag_23 | exact ag_26) rfl (RW.below _) hS (by repeat (first | exact Has.head | apply Has.tail)) (by first | trivial) (by repeat (first | exact Seg.here (by repeat (first | exact Pre.zero | apply Pre.succ))))) | exact yv_nilCheck rfl) ?_)
        refine LtK.nil ?_
        refine wpR_call [false, false, false, false, false, true] 5 ⟨by decide, by kernel_rfl, by kernel_rfl⟩ rfl rfl ?_
        dsimp only [pickL]
        repeat (first | apply wpS_nil | (apply wpS_g_call; first | refine wpS_callP rfl rfl rfl (by kernel_rfl) rfl (htm' _ (hLI.keep hS.base hAn)) hS (fun w hS hB => ?_)))
        refine QH_step (by first | assumption) ?_
        refine wpR_batch [false, false, false, false, false, false, true, true, true, true, true] (by decide +kernel) (by repeat (first | exact PF.body | apply PF.then)) ?_
        repeat (first | refine LtK.put rfl rfl rfl (by first | exact yv_move rfl | exact yv_assign rfl | exact yv_extract rfl rfl) ?_)
        refine LtK.nil ?_
        refine wpR_end (by kernel_rfl) ?_
        repeat (first | (apply QH_seq_k; assumption) | (apply wpC_seq_k; intro K hK))
        apply wpC_region
        repeat (first | apply wpS_nil | (apply QH_seq_k; assumption) | (apply wpS_g_call; first | refine wpS_callP rfl rfl rfl (by kernel_rfl) rfl (fine_b s _ true hf) hS (fun w hS hB => ?_) | refine wpS_callP rfl rfl rfl (by kernel_rfl) rfl (must_t _) hS (fun w hS hB => ?_)) | (apply wpS_g; refine wpS_put rfl rfl rfl (by first | exact yv_move rfl | exact yv_fieldAddr (by first | exact fo_23_0 | exact fo_23_1) rfl | (apply yv_g_load; first | exact yv_load_box (by first | exact sc_3) rfl (RW.here _) hS (by repeat (first | exact Has.head)) (by first | trivial) (by repeat (first | exact Seg.here (Pre.succ Pre.zero) | apply Seg.succ)) | exact yv_load_boxA (by first | exact ag_23) rfl (RW.here _) hS (by repeat (first | exact Has.head)) (by first | trivial) (by repeat (first | exact Seg.here (by repeat (first | exact Pre.zero | apply Pre.succ))))) | (apply yv_g_bin; first | exact yv_eql_t rfl rfl (by omega)) | (apply yv_g_pick; first | exact yv_pick_t rfl rfl rfl)) ?_))
        refine wpC_draw 23 [19, 22] (fun i b => (i = 19 → b ≠ bo) ∧ (i = 22 → b ≠ bo)) ⟨by kernel_rfl, by kernel_rfl⟩ hS (fun w hS hB => ?_)
        refine wpR_batch [true, false, true, true, true, true, true, true, true, true, true, true, true, true, true] (by decide +kernel) (by repeat (first | exact PF.body)) ?_
        repeat (first | refine LtK.put rfl rfl rfl (by first | exact yv_slice_l (l := k) (by first | exact el_24) rfl rfl (by omega) (by omega) | exact yv_move rfl | exact yv_fieldAddr (by first | exact fo_23_0 | exact fo_26_0 | exact fo_26_1) rfl | (apply yv_g_load; first | exact yv_load_box (by first | exact sc_1 | exact sc_3 | exact sc_24) rfl (RW.below _) hS (by repeat (first | exact Has.head | apply Has.tail)) (by first | trivial) (by repeat (first | exact Seg.here (Pre.succ Pre.zero) | apply Seg.succ))) | (apply yv_g_bin; first | exact yv_sub rfl rfl (by omega)) | exact yv_nilCheck rfl) ?_)
        refine LtK.nil ?_
        refine wpR_batchG [false, true, false, false, false, false, false, false, false, false, false, false, false, false, false, false, true] [19] (fun b => b ≠ bo) (by decide +kernel) (by intro j hj b hb; simp only [List.mem_cons, List.not_mem_nil, or_false] at hj; (try rcases hj with rfl | rfl) <;> simp_all) (by repeat (first | exact PF.body)) ?_
        repeat (first | refine LtK.put rfl rfl rfl (by first | exact yv_move rfl | (apply yv_g_load; first | exact yv_load_boxA (by first | exact ag_23) rfl (RW.keepB _ _) hS (by repeat (first | exact Has.head)) (by first | trivial) (by repeat (first | exact Seg.here (by repeat (first | exact Pre.zero | apply Pre.succ)))))) ?_)
        refine LtK.nil ?_
        refine wpR_call [false, false, false, false, false, false, false, false, false, false, false, false, false, false, false, true] 15 ⟨by decide, by kernel_rfl, by kernel_rfl⟩ rfl rfl ?_
        dsimp only [pickL]
        repeat (first | apply wpS_nil | (apply wpS_g_call; refine wpS_call rfl rfl rfl rfl (by kernel_rfl) rfl (clone_any _ (x.log.length - k) (c' - k) (x.log.drop k) _ hkl (by omega) (by omega) ((hS.base.rd hLI.rd hAn).cutE hLI.le)) ?_; rintro e w1 ⟨A2, c2, ⟨rfl, hs⟩, hB⟩; refine ⟨_, rfl, ?_⟩; have hS := hS.slice hs hB))
        refine QH_step (by first | assumption) ?_
        refine wpR_batchG [false, false, false, false, false, false, false, false, false, false, false, false, false, false, false, false, false, true] [19] (fun b => b ≠ bo) (by decide +kernel) (by intro j hj b hb; simp only [List.mem_cons, List.not_mem_nil, or_false] at hj; (try rcases hj with rfl | rfl) <;> simp_all) (by repeat (first | exact PF.body)) ?_
        repeat (first | refine LtK.put rfl rfl rfl (by first | exact yv_nilCheck rfl) ?_)
        refine LtK.nil ?_
        refine wpR_batch [false, false, false, false, false, false, false, false, false, false, false, false, false, false, false, false, false, false, true] (by decide +kernel) (by repeat (first | exact PF.body)) ?_
        repeat (first | refine LtK.put rfl rfl rfl (by first | exact yv_fieldAddr (by first | exact fo_23_0 | exact fo_26_1) rfl) ?_)
        refine LtK.nil ?_
        refine wpR_seal [false, false, false, false, false, false, false, false, false, false, false, false, false, false, false, false, false, false, false, true] 19 ⟨by decide, by kernel_rfl, by kernel_rfl⟩ rfl rfl ?_
        dsimp only [pickL]
        repeat (first | apply wpS_nil | (apply wpS_g_store; refine wpS_store rfl rfl rfl (by first | exact CellsOf.slice) hS (by repeat (first | exact Pos.head | apply Pos.tail)) (by repeat (first | exact SetC.here (by repeat (first | exact Ovr.nil | apply Ovr.cons)) | apply SetC.succ)) (by kernel_rfl) rfl (fun w hS hB => ?_)))
        refine QH_stepG (by first | exact hB.sub (fun _ _ h => by simpa using h)) ?_
        refine wpR_batchG [false, false, false, false, false, false, false, false, false, false, false, false, false, false, false, false, false, false, false, false, true] [22] (fun b => b ≠ bo) (by decide +kernel) (by intro j hj b hb; simp only [List.mem_cons, List.not_mem_nil, or_false] at hj; (try rcases hj with rfl | rfl) <;> simp_all) (by repeat (first | exact PF.body)) ?_
        repeat (first | refine LtK.put rfl rfl rfl (by first | exact yv_nilCheck rfl) ?_)
        refine LtK.nil ?_
        refine wpR_batch [false, false, false, false, false, false, false, false, false, false, false, false, false, false, false, false, false, false, false, false, false, true] (by decide +kernel) (by repeat (first | exact PF.body)) ?_
        repeat (first | refine LtK.put rfl rfl rfl (by first | exact yv_fieldAddr (by first | exact fo_23_0 | exact fo_26_0) rfl) ?_)
        refine LtK.nil ?_
        refine wpR_seal [false, false, false, false, false, false, false, false, false, false, false, false, false, false, false, false, false, false, false, false, false, false, true] 22 ⟨by decide, by kernel_rfl, by kernel_rfl⟩ rfl rfl ?_
        dsimp only [pickL]
        repeat (first | apply wpS_nil | (apply wpS_g_store; refine wpS_store rfl rfl rfl (by first | exact CellsOf.agg) hS (by repeat (first | exact Pos.head | apply Pos.tail)) (by repeat (first | exact SetC.here (by repeat (first | exact Ovr.nil | apply Ovr.cons)))) (by kernel_rfl) rfl (fun w hS hB => ?_)))
        refine QH_stepG (by first | exact hB.sub (fun _ _ h => by simpa using h)) ?_
        refine wpR_end (by kernel_rfl) ?_
        refine QH_end rfl (by first | exact RV.nil) rfl ?_
        have hob := hS.ok (.box bo [.int .i64 s.index, .int .i64 s.term, .int .i64 s.sum, .int .i64 s.level, .bool s.final, .slice A2 (x.log.length - k) c2, .int .i64 x.term, .int .i64 x.vote] 26) (Has.mem (by repeat (first | exact Has.head | apply Has.tail)))
        refine ⟨hS.base, .inl ⟨_, A2, c2, rfl, rfl, ?_, ⟨rfl, by dsimp only; rw [hkl]; omega, by dsimp only; rw [hkl]; exact hs.le, hs.cap, hS.rd (by repeat (first | exact Has.head))⟩, fun a ha => ⟨(hS.rng (.rd A2 (ens (x.log.drop k))) (Has.mem (by repeat (first | exact Has.head))) a.block ⟨a, ha, rfl⟩).1, .inr ?_⟩⟩⟩
        · unfold TB; dsimp only; rw [hkl]; exact hob
        · have hne : a.block ≠ bo := hS.rd_ne 0 2 rfl rfl rfl a ha
          exact Nat.le_of_not_lt fun hlt => (hS.rng (.rd A2 (ens (x.log.drop k))) (Has.mem (by repeat (first | exact Has.head))) a.block ⟨a, ha, rfl⟩).2 hlt hne
    · have e1 : saveR x s = none := if_neg (fun h => by rw [ht] at h; injection h.1 with h; exact hts h)
      rw [e1]
      repeat (first | (apply wpC_seq_k; intro K hK))
      apply wpC_region
      repeat (first | apply wpS_nil | (apply QH_seq_k; assumption) | (apply wpC_seq_k; intro K hK) | (apply wpS_g_box; refine wpS_box rfl rfl rfl (by first | exact CellsOf.agg) hS (fun b w hS hB => ?_)))
      refine wpC_draw 11 [] (fun _ _ => True) ⟨by kernel_rfl, by kernel_rfl⟩ hS (fun w hS hB => ?_)
      refine wpR_batch [true, true, true, true, true] (by decide +kernel) (by repeat (first | exact PF.body | apply PF.then)) ?_
      repeat (first | refine LtK.put rfl rfl rfl (by first | exact yv_move rfl | exact yv_fieldAddr (by first | exact fo_23_0) rfl | (apply yv_g_load; first | exact yv_load_box (by first | exact sc_1 | exact sc_3) rfl (RW.below _) hS (by repeat (first | exact Has.head)) (by first | trivial) (by repeat (first | exact Seg.here (Pre.succ Pre.zero))) | exact yv_load_boxA (by first | exact ag_23 | exact ag_26) rfl (RW.below _) hS (by repeat (first | exact Has.head | apply Has.tail)) (by first | trivial) (by repeat (first | exact Seg.here (by repeat (first | exact Pre.zero | apply Pre.succ))))) | exact yv_nilCheck rfl) ?_)
      refine LtK.nil ?_
      refine wpR_call [false, false, false, false, false, true] 5 ⟨by decide, by kernel_rfl, by kernel_rfl⟩ rfl rfl ?_
      dsimp only [pickL]
      repeat (first | apply wpS_nil | (apply wpS_g_call; first | refine wpS_callP rfl rfl rfl (by kernel_rfl) rfl (htm' _ (hLI.keep hS.base hAn)) hS (fun w hS hB => ?_)))
      refine QH_step (by first | assumption) ?_
      refine wpR_batch [false, false, false, false, false, false, true, true, true, true, true] (by decide +kernel) (by repeat (first | exact PF.body | apply PF.then)) ?_
      repeat (first | refine LtK.put rfl rfl rfl (by first | exact yv_move rfl | exact yv_assign rfl | exact yv_extract rfl rfl) ?_)
      refine LtK.nil ?_
      refine wpR_end (by kernel_rfl) ?_
      repeat (first | (apply QH_seq_k; assumption) | (apply wpC_seq_k; intro K hK) | apply wpC_region | (apply wpS_g; refine wpS_skip rfl rfl rfl ?_) | (apply wpS_g_call; first | (refine wpS_callPanic rfl rfl (by kernel_rfl) rfl (must_f _) ?_; rintro e w2 ⟨rfl, hB2⟩; refine ⟨_, rfl, ?_⟩)) | (apply wpS_g; refine wpS_put rfl rfl rfl (by first | exact yv_move rfl | exact yv_fieldAddr (by first | exact fo_23_0 | exact fo_23_1) rfl | (apply yv_g_load; first | exact yv_load_box (by first | exact sc_3) rfl (RW.here _) hS (by repeat (first | exact Has.head)) (by first | trivial) (by repeat (first | exact Seg.here (Pre.succ Pre.zero) | apply Seg.succ))) | (apply yv_g_bin; first | exact yv_eql_f rfl rfl (by omega)) | (apply yv_g_pick; first | exact yv_pick_t rfl rfl rfl | exact yv_pick_f rfl rfl rfl)) ?_) | apply QH_then_panic)
      exact QH_panic rfl ⟨(hS.below hB2).base, .inr ⟨rfl, rfl, TB.eight (x := x) (A := A') (c := c') ((hS.below hB2).ok (.box bo [.int .i64 x.snap.index, .int .i64 x.snap.term, .int .i64 x.snap.sum, .int .i64 x.snap.level, .bool x.snap.final, .slice A' x.log.length c', .int .i64 x.term, .int .i64 x.vote] 26) (Has.mem (by repeat (first | exact Has.head | apply Has.tail))))⟩⟩
end Go.Proofs.Ythngkojbokknfaa
/- The walks of tuples: Save, Cut, Install, Hard. -/
namespace Go.Proofs.Ythngkojbokknfaa
open Go Go.RowKit
set_option maxRecDepth 10000
set_option maxHeartbeats 1000000

theorem cutR_index (x : Tu) (i : Int) (y : Tu) (h : cutR x i = some y) : y.snap.index = x.snap.index := by
  unfold cutR at h
  split at h
  · injection h with h; subst h; rfl
  · cases h
theorem saveR_index (x : Tu) (s : St) (y : Tu) (h : saveR x s = some y) : y.snap = s ∧ fineB s = true ∧ x.snap.index ≤ s.index ∧ s.index ≤ x.snap.index + x.log.length := by
  unfold saveR at h
  split at h
  · rename_i h1; have := term_in x _ _ h1.1; injection h with h; subst h; exact ⟨rfl, h1.2, this.1, this.2⟩
  · cases h

theorem cut_any (x : Tu) (A : Option Addr) (c : Nat) (i : Int) (w0 : World) (hx : LI w0 A x.log.length c x.log) (hA : ∀ a, A = some a → a.block < w0.heap.size) :
    Calls Try.prog 16 #[.agg #[.int .i64 x.snap.index, .int .i64 x.snap.term, .int .i64 x.snap.sum, .int .i64 x.snap.level, .bool x.snap.final, .slice A x.log.length c, .int .i64 x.term, .int .i64 x.vote], .int .i64 i] w0 (Chg w0 x (cutR x i)) := by
  refine gw_enter2 Try.func16 rfl Try.ntmps16 rfl ?_
  have hS := St0.start All w0
  repeat (first | (apply wpC_seq_k; intro K hK) | apply wpC_region)
  first | (apply wpS_g_box; refine wpS_box rfl rfl rfl (by first | exact CellsOf.agg) hS (fun bt w hS hB => ?_))
  first | (apply wpS_g_box; refine wpS_box rfl rfl rfl (by first | exact CellsOf.int) hS (fun bf w hS hB => ?_))
  repeat (first | apply wpS_nil | (apply QH_seq_k; assumption) | (apply wpC_seq_k; intro K hK) | apply wpC_region | (apply wpS_g_alloc; refine wpS_alloc rfl rfl (by first | exact zc_26) hS (fun b w hS hB => ?_)) | (apply wpS_g; refine wpS_put rfl rfl rfl (by first | exact yv_assign rfl | (apply yv_g_load; first | exact yv_load_boxA (by first | exact ag_26) rfl (RW.here _) hS (by repeat (first | exact Has.head | apply Has.tail)) (by first | trivial) (by repeat (first | exact Seg.here (by repeat (first | exact Pre.zero | apply Pre.succ))))) | exact yv_makeFunc rfl rfl) ?_))
  have hbf := (hS.box_ge (b := bf) (by repeat (first | exact Has.head | apply Has.tail)))
  refine wpS_call rfl rfl rfl rfl (by kernel_rfl) rfl (changed_any x (cutR x i) A c 44 #[.pointer (some ⟨bf, 0, none⟩)] _ (by kernel_rfl) (hx.below hS.pure) (fun a ha => Nat.lt_of_lt_of_le (hA a ha) hS.size)
    (fun hT => cut1_does bf i _ hbf.2.2 x hT)) ?_
  rintro e w1 ⟨A2, c2, ⟨rfl, hs⟩, hB⟩
  refine ⟨_, rfl, ?_⟩
  replace hS := hS.slice hs hB
  repeat (first | apply wpS_nil | (apply QH_seq_k; assumption) | (apply wpS_g_store; refine wpS_store rfl rfl rfl (by first | exact CellsOf.agg) hS (by repeat (first | exact Pos.head | apply Pos.tail)) (by repeat (first | exact SetC.here (by repeat (first | exact Ovr.nil | apply Ovr.cons)))) (by kernel_rfl) rfl (fun w hS hB => ?_)) | (apply wpS_g; refine wpS_put rfl rfl rfl (by first | exact yv_assign rfl | exact yv_extract rfl rfl) ?_) | apply wpC_ret)
  refine QH_ret rfl (by first | exact RV.cell rfl (load_boxA (by first | exact ag_26) hS (by repeat (first | exact Has.head | apply Has.tail)) (by repeat (first | exact Seg.here (by repeat (first | exact Pre.zero | apply Pre.succ))))) (RV.tmp rfl RV.nil)) rfl ?_
  exact ⟨A2, c2, ⟨rfl, hS.giveS (by repeat (first | exact Has.head)) hs.len hs.le hs.cap⟩, hS.pure⟩

theorem save1_does (bf : Nat) (s : St) (w0 : World) (hbf : w0.heap[bf]? = some (.cells #[.int .i64 s.index, .int .i64 s.term, .int .i64 s.sum, .int .i64 s.level, .bool s.final] 23)) (x : Tu) (hx : tupB x = true) :
    Does 42 #[.pointer (some ⟨bf, 0, none⟩)] w0 x (saveR x s) := by
  intro W bo A' c' hB hbo hT hLI hA'
  have hxb := tupB_bd x hx
  have hol : bo < W.heap.size := (Array.getElem?_eq_some_iff.1 hT).1
  have hle := hLI.le
  have hcp := hLI.cap
  have hAn := fun a ha => (hA' a ha).1
  have hbfl : bf < w0.heap.size := (Array.getElem?_eq_some_iff.1 hbf).1
  have hbfW : W.heap[bf]? = some (.cells #[.int .i64 s.index, .int .i64 s.term, .int .i64 s.sum, .int .i64 s.level, .bool s.final] 23) := (hB.block bf hbfl).trans hbf
  have hbfn : bf ≠ bo := by omega
  show Calls _ _ #[_, _] _ _
  refine gw_enter2 Try.func42 rfl Try.ntmps42 rfl ?_
  have hS := St0.old (w := W) (fun k => k ≠ bo) (e := .box bo [.int .i64 x.snap.index, .int .i64 x.snap.term, .int .i64 x.snap.sum, .int .i64 x.snap.level, .bool x.snap.final, .slice A' x.log.length c', .int .i64 x.term, .int .i64 x.vote] 26) hT (fun k hk => by subst hk; exact ⟨hol, by simp⟩)
  have hsd := save_does s w0 x hx W bo A' c' hB hbo hT hLI hA'
  repeat (first | apply wpC_region | (apply wpS_g; refine wpS_put rfl rfl rfl (by first | exact yv_move rfl | (apply yv_g_load; first | exact yv_load_obA (by first | exact ag_23) rfl (RW.here _) hS (by first | trivial) (by first | trivial) (by assumption) (by repeat (first | exact Seg.here (by repeat (first | exact Pre.zero | apply Pre.succ)))))) ?_))
  cases hr : saveR x s with
  | none =>
    rw [hr] at hsd
    refine wpS_callPanic rfl rfl (by kernel_rfl) rfl hsd ?_
    rintro e w2 ⟨hk, (⟨y, A2, c2, h4, _⟩ | ⟨_, rfl, h8⟩)⟩
    · cases h4
    · refine ⟨_, rfl, ?_⟩
      exact QH_panic rfl ⟨hk, .inr ⟨rfl, rfl, h8⟩⟩
  | some y =>
    rw [hr] at hsd
    refine wpS_call rfl rfl rfl rfl (by kernel_rfl) rfl hsd ?_
    rintro e w2 ⟨hk, (⟨y', A2, c2, h4, rfl, htb, hli, hbk⟩ | ⟨h4, _⟩)⟩
    case inr => cases h4
    injection h4 with h4
    subst h4
    refine ⟨_, rfl, ?_⟩
    replace hS := hS.wrote Pos.head hk htb
    repeat (first | apply wpS_nil)
    refine QH_end rfl (by first | exact RV.nil) rfl ?_
    exact ⟨hk, .inl ⟨y, A2, c2, rfl, rfl, htb, hli, hbk⟩⟩
theorem save_any (x : Tu) (A : Option Addr) (c : Nat) (s : St) (w0 : World) (hx : LI w0 A x.log.length c x.log) (hA : ∀ a, A = some a → a.block < w0.heap.size) :
    Calls Try.prog 13 #[.agg #[.int .i64 x.snap.index, .int .i64 x.snap.term, .int .i64 x.snap.sum, .int .i64 x.snap.level, .bool x.snap.final, .slice A x.log.length c, .int .i64 x.term, .int .i64 x.vote], .agg #[.int .i64 s.index, .int .i64 s.term, .int .i64 s.sum, .int .i64 s.level, .bool s.final]] w0 (Chg w0 x (saveR x s)) := by
  refine gw_enter2 Try.func13 rfl Try.ntmps13 rfl ?_
  have hS := St0.start All w0
  repeat (first | (apply wpC_seq_k; intro K hK) | apply wpC_region)
  first | (apply wpS_g_box; refine wpS_box rfl rfl rfl (by first | exact CellsOf.agg) hS (fun bt w hS hB => ?_))
  first | (apply wpS_g_box; refine wpS_box rfl rfl rfl (by first | exact CellsOf.agg) hS (fun bf w hS hB => ?_))
  repeat (first | apply wpS_nil | (apply QH_seq_k; assumption) | (apply wpC_seq_k; intro K hK) | apply wpC_region | (apply wpS_g_alloc; refine wpS_alloc rfl rfl (by first | exact zc_26) hS (fun b w hS hB => ?_)) | (apply wpS_g; refine wpS_put rfl rfl rfl (by first | exact yv_assign rfl | (apply yv_g_load; first | exact yv_load_boxA (by first | exact ag_26) rfl (RW.here _) hS (by repeat (first | exact Has.head | apply Has.tail)) (by first | trivial) (by repeat (first | exact Seg.here (by repeat (first | exact Pre.zero | apply Pre.succ))))) | exact yv_makeFunc rfl rfl) ?_))
  have hbf := (hS.box_ge (b := bf) (by repeat (first | exact Has.head | apply Has.tail)))
  refine wpS_call rfl rfl rfl rfl (by kernel_rfl) rfl (changed_any x (saveR x s) A c 42 #[.pointer (some ⟨bf, 0, none⟩)] _ (by kernel_rfl) (hx.below hS.pure) (fun a ha => Nat.lt_of_lt_of_le (hA a ha) hS.size)
    (fun hT => save1_does bf s _ hbf.2.2 x hT)) ?_
  rintro e w1 ⟨A2, c2, ⟨rfl, hs⟩, hB⟩
  refine ⟨_, rfl, ?_⟩
  replace hS := hS.slice hs hB
  repeat (first | apply wpS_nil | (apply QH_seq_k; assumption) | (apply wpS_g_store; refine wpS_store rfl rfl rfl (by first | exact CellsOf.agg) hS (by repeat (first | exact Pos.head | apply Pos.tail)) (by repeat (first | exact SetC.here (by repeat (first | exact Ovr.nil | apply Ovr.cons)))) (by kernel_rfl) rfl (fun w hS hB => ?_)) | (apply wpS_g; refine wpS_put rfl rfl rfl (by first | exact yv_assign rfl | exact yv_extract rfl rfl) ?_) | apply wpC_ret)
  refine QH_ret rfl (by first | exact RV.cell rfl (load_boxA (by first | exact ag_26) hS (by repeat (first | exact Has.head | apply Has.tail)) (by repeat (first | exact Seg.here (by repeat (first | exact Pre.zero | apply Pre.succ))))) (RV.tmp rfl RV.nil)) rfl ?_
  exact ⟨A2, c2, ⟨rfl, hS.giveS (by repeat (first | exact Has.head)) hs.len hs.le hs.cap⟩, hS.pure⟩

/-- Install's change. -/
def instR (x : Tu) (s : St) : Option Tu := if x.snap.index < s.index ∧ s.term ≤ x.term then (if termAt x s.index = some s.term then saveR x s else some { snap := s, log := [], term := x.term, vote := x.vote }) else none
theorem inst1_does (bf : Nat) (s : St) (w0 : World) (hbf : w0.heap[bf]? = some (.cells #[.int .i64 s.index, .int .i64 s.term, .int .i64 s.sum, .int .i64 s.level, .bool s.final] 23)) (x : Tu) (hx : tupB x = true) :
    Does 50 #[.pointer (some ⟨bf, 0, none⟩)] w0 x (instR x s) := by
  intro W bo A' c' hB hbo hT hLI hA'
  have hxb := tupB_bd x hx
  have hol : bo < W.heap.size := (Array.getElem?_eq_some_iff.1 hT).1
  have hle := hLI.le
  have hcp := hLI.cap
  have hAn := fun a ha => (hA' a ha).1
  have hbfl : bf < w0.heap.size := (Array.getElem?_eq_some_iff.1 hbf).1
  have hbfW : W.heap[bf]? = some (.cells #[.int .i64 s.index, .int .i64 s.term, .int .i64 s.sum, .int .i64 s.level, .bool s.final] 23) := (hB.block bf hbfl).trans hbf
  have hbfn : bf ≠ bo := by omega
  show Calls _ _ #[_, _] _ _
  refine gw_enter2 Try.func50 rfl Try.ntmps50 rfl ?_
  have hS := St0.old (w := W) (fun k => k ≠ bo) (e := .box bo [.int .i64 x.snap.index, .int .i64 x.snap.term, .int .i64 x.snap.sum, .int .i64 x.snap.level, .bool x.snap.final, .slice A' x.log.length c', .int .i64 x.term, .int .i64 x.vote] 26) hT (fun k hk => by subst hk; exact ⟨hol, by simp⟩)
  have htm := fun W' (h : LI W' A' x.log.length c' x.log) => term_any x A' c' s.index W' (by omega) h
  have hB0 := hB
  by_cases h1 : x.snap.index < s.index
  · by_cases h2 : s.term ≤ x.term
    · by_cases ht : termAt x s.index = some s.term
      · have e1 : instR x s = saveR x s := by unfold instR; rw [if_pos ⟨h1, h2⟩, if_pos ht]
        rw [e1]
        have htm' : ∀ W', LI W' A' x.log.length c' x.log → PureC Try.prog 14 #[.agg #[.int .i64 x.snap.index, .int .i64 x.snap.term, .int .i64 x.snap.sum, .int .i64 x.snap.level, .bool x.snap.final, .slice A' x.log.length c', .int .i64 x.term, .int .i64 x.vote], .int .i64 s.index] W' (.tuple #[.int .i64 s.term, .bool true]) := fun W' h => by have := htm W' h; rw [ht] at this; exact this
        repeat (first | (apply wpC_seq_k; intro K hK))
        refine wpC_draw 18 [] (fun _ _ => True) ⟨by kernel_rfl, by kernel_rfl⟩ hS (fun w hS hB => ?_)
        refine wpR_batch [true, true, true, true, true, true, true, true, true, true, true, true, true, true, true, true, true] (by decide +kernel) (by repeat (first | exact PF.body | apply PF.then)) ?_
        repeat (first | refine LtK.put rfl rfl rfl (by first | exact yv_move rfl | exact yv_fieldAddr (by first | exact fo_23_0 | exact fo_23_1 | exact fo_26_0 | exact fo_26_2) rfl | (apply yv_g_load; first | exact yv_load_box (by first | exact sc_1 | exact sc_3) rfl (RW.below _) hS (by repeat (first | exact Has.head | apply Has.tail)) (by first | trivial) (by repeat (first | exact Seg.here (Pre.succ Pre.zero) | apply Seg.succ)) | exact yv_load_ob (by first | exact sc_1 | exact sc_3) rfl (RW.below _) hS (by first | trivial) (by first | trivial) (by assumption) (by repeat (first | exact Seg.here (Pre.succ Pre.zero) | apply Seg.succ))) | (apply yv_g_bin; first | exact yv_leq_t rfl rfl (by omega) | exact yv_gtr_t rfl rfl (by omega)) | (apply yv_g_pick; first | exact yv_pick_t rfl rfl rfl) | exact yv_nilCheck rfl) ?_)
        refine LtK.nil ?_
        refine wpR_call [false, false, false, false, false, false, false, false, false, false, false, false, false, false, false, false, false, true] 17 ⟨by decide, by kernel_rfl, by kernel_rfl⟩ rfl rfl ?_
        dsimp only [pickL]
        repeat (first | apply wpS_nil | (apply wpS_g_call; first | refine wpS_callP rfl rfl rfl (by kernel_rfl) rfl (must_t _) hS (fun w hS hB => ?_)))
        refine QH_step (by first | assumption) ?_
        refine wpR_end (by kernel_rfl) ?_
        repeat (first | (apply QH_seq_k; assumption) | (apply wpC_seq_k; intro K hK))
        refine wpC_draw 11 [] (fun _ _ => True) ⟨by kernel_rfl, by kernel_rfl⟩ hS (fun w hS hB => ?_)
        refine wpR_batch [true, true, true, true, true] (by decide +kernel) (by repeat (first | exact PF.body | apply PF.then)) ?_
        repeat (first | refine LtK.put rfl rfl rfl (by first | exact yv_move rfl | exact yv_fieldAddr (by first | exact fo_23_0) rfl | (apply yv_g_load; first | exact yv_load_boxA (by first | exact ag_23 | exact ag_26) rfl (RW.below _) hS (by repeat (first | exact Has.head)) (by first | trivial) (by repeat (first | exact Seg.here (by repeat (first | exact Pre.zero | apply Pre.succ)))) | exact yv_load_ob (by first | exact sc_1 | exact sc_3) rfl (RW.below _) hS (by first | trivial) (by first | trivial) (by assumption) (by repeat (first | exact Seg.here (Pre.succ Pre.zero)))) | exact yv_nilCheck rfl) ?_)
        refine LtK.nil ?_
        refine wpR_call [false, false, false, false, false, true] 5 ⟨by decide, by kernel_rfl, by kernel_rfl⟩ rfl rfl ?_
        dsimp only [pickL]
        repeat (first | apply wpS_nil | (apply wpS_g_call; first | refine wpS_callP rfl rfl rfl (by kernel_rfl) rfl (htm' _ (hLI.keep hS.base hAn)) hS (fun w hS hB => ?_)))
        refine QH_step (by first | assumption) ?_
        refine wpR_batch [false, false, false, false, false, false, true, true, true, true, true] (by decide +kernel) (by repeat (first | exact PF.body | apply PF.then)) ?_
        repeat (first | refine LtK.put rfl rfl rfl (by first | exact yv_move rfl | exact yv_assign rfl | exact yv_extract rfl rfl) ?_)
        refine LtK.nil ?_
        refine wpR_end (by kernel_rfl) ?_
        repeat (first | apply wpS_nil | (apply QH_seq_k; assumption) | (apply wpC_seq_k; intro K hK) | apply wpC_region | (apply wpS_g; refine wpS_put rfl rfl rfl (by first | exact yv_move rfl | exact yv_fieldAddr (by first | exact fo_23_0 | exact fo_23_1) rfl | (apply yv_g_load; first | exact yv_load_ob (by first | exact sc_3) rfl (RW.here _) hS (by first | trivial) (by first | trivial) (by assumption) (by repeat (first | exact Seg.here (Pre.succ Pre.zero) | apply Seg.succ)) | exact yv_load_obA (by first | exact ag_23) rfl (RW.here _) hS (by first | trivial) (by first | trivial) (by assumption) (by repeat (first | exact Seg.here (by repeat (first | exact Pre.zero | apply Pre.succ))))) | (apply yv_g_bin; first | exact yv_eql_t rfl rfl (by omega)) | (apply yv_g_pick; first | exact yv_pick_t rfl rfl rfl)) ?_) | apply wpC_cond_t rfl rfl)
        have hBc : Below w0.heap.size w0 w := hB0.trans (hS.base.to_below hB0.size (fun k hk => Nat.ne_of_lt (Nat.lt_of_lt_of_le hk hbo)))
        have hbx := hS.ok (.box bo [.int .i64 x.snap.index, .int .i64 x.snap.term, .int .i64 x.snap.sum, .int .i64 x.snap.level, .bool x.snap.final, .slice A' x.log.length c', .int .i64 x.term, .int .i64 x.vote] 26) (Has.mem (by repeat (first | exact Has.head)))
        have hsd := save_does s w0 x hx w bo A' c' hBc hbo hbx (hLI.keep hS.base hAn) (fun a ha => ⟨(hA' a ha).1, Nat.lt_of_lt_of_le (hA' a ha).2 hS.base.size⟩)
        cases hr : saveR x s with
        | none =>
          rw [hr] at hsd
          refine wpS_callPanic rfl rfl (by kernel_rfl) rfl hsd ?_
          rintro e w2 ⟨hk, (⟨y, A2, c2, h4, _⟩ | ⟨_, rfl, h8⟩)⟩
          · cases h4
          · refine ⟨_, rfl, ?_⟩
            repeat (first | apply QH_then_panic)
            exact QH_panic rfl ⟨hS.base.trans hk, .inr ⟨by first | rfl, rfl, h8⟩⟩
        | some y =>
          rw [hr] at hsd
          refine wpS_call rfl rfl rfl rfl (by kernel_rfl) rfl hsd ?_
          rintro e w2 ⟨hk, (⟨y', A2, c2, h4, rfl, htb, hli, hbk⟩ | ⟨h4, _⟩)⟩
          case inr => cases h4
          injection h4 with h4
          subst h4
          refine ⟨_, rfl, ?_⟩
          have hsz := hS.base.size
          replace hS := hS.wrote Pos.head hk htb
          repeat (first | apply wpS_nil | (apply QH_seq_k; assumption) | apply wpC_ret | apply QH_then_ret)
          refine QH_ret rfl (by first | exact RV.nil) rfl ?_
          refine ⟨hS.base, .inl ⟨y, A2, c2, by first | exact hr, rfl, htb, hli, fun a ha => ⟨(hbk a ha).1, ?_⟩⟩⟩
          rcases (hbk a ha).2 with h6 | h6
          · exact .inl h6
          · exact .inr (Nat.le_trans hsz h6)
      · have e1 : instR x s = some { snap := s, log := [], term := x.term, vote := x.vote } := by unfold instR; rw [if_pos ⟨h1, h2⟩, if_neg ht]
        rw [e1]
        have hfin : ∀ w, KeepB (fun k => k ≠ bo) W w → w.heap[bo]? = some (.cells #[.int .i64 s.index, .int .i64 s.term, .int .i64 s.sum, .int .i64 s.level, .bool s.final, .slice none 0 0, .int .i64 x.term, .int .i64 x.vote] 26) → (KeepB (fun k => k ≠ bo) W w ∧ ((∃ y A2 c2, some ({ snap := s, log := [], term := x.term, vote := x.vote } : Tu) = some y ∧ (Ending.returned (.tuple #[])) = .returned (.tuple #[]) ∧ TB w bo y A2 c2 ∧ LI w A2 y.log.length c2 y.log ∧ (∀ a, A2 = some a → a.block < w.heap.size ∧ ((∃ a', A' = some a' ∧ a.block = a'.block) ∨ W.heap.size ≤ a.block))) ∨ (some ({ snap := s, log := [], term := x.term, vote := x.vote } : Tu) = none ∧ (Ending.returned (.tuple #[])) = .panicked badP ∧ TB8 w bo))) :=
          fun w hk ho => ⟨hk, .inl ⟨_, none, 0, rfl, rfl, ho, ⟨rfl, by simp, by simp, by unfold maxLen; omega, Rd.nil _ _⟩, fun a ha => by cases ha⟩⟩
        cases hto : termAt x s.index with
        | none =>
          have htm' : ∀ W', LI W' A' x.log.length c' x.log → PureC Try.prog 14 #[.agg #[.int .i64 x.snap.index, .int .i64 x.snap.term, .int .i64 x.snap.sum, .int .i64 x.snap.level, .bool x.snap.final, .slice A' x.log.length c', .int .i64 x.term, .int .i64 x.vote], .int .i64 s.index] W' (.tuple #[.int .i64 0, .bool false]) := fun W' h => by have := htm W' h; rw [hto] at this; exact this
          repeat (first | (apply wpC_seq_k; intro K hK))
          refine wpC_draw 18 [] (fun _ _ => True) ⟨by kernel_rfl, by kernel_rfl⟩ hS (fun w hS hB => ?_)
          refine wpR_batch [true, true, true, true, true, true, true, true, true, true, true, true, true, true, true, true, true] (by decide +kernel) (by repeat (first | exact PF.body | apply PF.then)) ?_
          repeat (first | refine LtK.put rfl rfl rfl (by first | exact yv_move rfl | exact yv_fieldAddr (by first | exact fo_23_0 | exact fo_23_1 | exact fo_26_0 | exact fo_26_2) rfl | (apply yv_g_load; first | exact yv_load_box (by first | exact sc_1 | exact sc_3) rfl (RW.below _) hS (by repeat (first | exact Has.head | apply Has.tail)) (by first | trivial) (by repeat (first | exact Seg.here (Pre.succ Pre.zero) | apply Seg.succ)) | exact yv_load_ob (by first | exact sc_1 | exact sc_3) rfl (RW.below _) hS (by first | trivial) (by first | trivial) (by assumption) (by repeat (first | exact Seg.here (Pre.succ Pre.zero) | apply Seg.succ))) | (apply yv_g_bin; first | exact yv_leq_t rfl rfl (by omega) | exact yv_gtr_t rfl rfl (by omega)) | (apply yv_g_pick; first | exact yv_pick_t rfl rfl rfl) | exact yv_nilCheck rfl) ?_)
          refine LtK.nil ?_
          refine wpR_call [false, false, false, false, false, false, false, false, false, false, false, false, false, false, false, false, false, true] 17 ⟨by decide, by kernel_rfl, by kernel_rfl⟩ rfl rfl ?_
          dsimp only [pickL]
          repeat (first | apply wpS_nil | (apply wpS_g_call; first | refine wpS_callP rfl rfl rfl (by kernel_rfl) rfl (must_t _) hS (fun w hS hB => ?_)))
          refine QH_step (by first | assumption) ?_
          refine wpR_end (by kernel_rfl) ?_
          repeat (first | (apply QH_seq_k; assumption) | (apply wpC_seq_k; intro K hK))
          refine wpC_draw 11 [] (fun _ _ => True) ⟨by kernel_rfl, by kernel_rfl⟩ hS (fun w hS hB => ?_)
          refine wpR_batch [true, true, true, true, true] (by decide +kernel) (by repeat (first | exact PF.body | apply PF.then)) ?_
          repeat (first | refine LtK.put rfl rfl rfl (by first | exact yv_move rfl | exact yv_fieldAddr (by first | exact fo_23_0) rfl | (apply yv_g_load; first | exact yv_load_boxA (by first | exact ag_23 | exact ag_26) rfl (RW.below _) hS (by repeat (first | exact Has.head)) (by first | trivial) (by repeat (first | exact Seg.here (by repeat (first | exact Pre.zero | apply Pre.succ)))) | exact yv_load_ob (by first | exact sc_1 | exact sc_3) rfl (RW.below _) hS (by first | trivial) (by first | trivial) (by assumption) (by repeat (first | exact Seg.here (Pre.succ Pre.zero)))) | exact yv_nilCheck rfl) ?_)
          refine LtK.nil ?_
          refine wpR_call [false, false, false, false, false, true] 5 ⟨by decide, by kernel_rfl, by kernel_rfl⟩ rfl rfl ?_
          dsimp only [pickL]
          repeat (first | apply wpS_nil | (apply wpS_g_call; first | refine wpS_callP rfl rfl rfl (by kernel_rfl) rfl (htm' _ (hLI.keep hS.base hAn)) hS (fun w hS hB => ?_)))
          refine QH_step (by first | assumption) ?_
          refine wpR_batch [false, false, false, false, false, false, true, true, true, true, true] (by decide +kernel) (by repeat (first | exact PF.body | apply PF.then)) ?_
          repeat (first | refine LtK.put rfl rfl rfl (by first | exact yv_move rfl | exact yv_assign rfl | exact yv_extract rfl rfl) ?_)
          refine LtK.nil ?_
          refine wpR_end (by kernel_rfl) ?_
          repeat (first | apply wpS_nil | (apply QH_seq_k; assumption) | (apply wpC_seq_k; intro K hK) | apply wpC_region | (apply wpS_g; refine wpS_skip rfl rfl rfl ?_) | (apply wpS_g_store; refine wpS_store rfl rfl rfl (by first | exact CellsOf.slice | exact CellsOf.agg) hS (by repeat (first | exact Pos.head)) (by repeat (first | exact SetC.here (by repeat (first | exact Ovr.nil | apply Ovr.cons)) | apply SetC.succ)) (by kernel_rfl) rfl (fun w hS hB => ?_)) | (apply wpS_g; refine wpS_put rfl rfl rfl (by first | exact yv_move rfl | exact yv_fieldAddr (by first | exact fo_23_0 | exact fo_26_0 | exact fo_26_1) rfl | (apply yv_g_load; first | exact yv_load_obA (by first | exact ag_23) rfl (RW.here _) hS (by first | trivial) (by first | trivial) (by assumption) (by repeat (first | exact Seg.here (by repeat (first | exact Pre.zero | apply Pre.succ))))) | (apply yv_g_pick; first | exact yv_pick_f rfl rfl rfl) | exact yv_nilCheck rfl) ?_) | apply wpC_cond_f rfl rfl | apply wpC_skip)
          refine QH_end rfl (by first | exact RV.nil) rfl ?_
          exact hfin _ hS.base (hS.ok (.box bo [.int .i64 s.index, .int .i64 s.term, .int .i64 s.sum, .int .i64 s.level, .bool s.final, .slice none 0 0, .int .i64 x.term, .int .i64 x.vote] 26) (Has.mem (by repeat (first | exact Has.head))))
        | some t =>
          have hts : t ≠ s.term := fun h => ht (by rw [hto, h])
          have htm' : ∀ W', LI W' A' x.log.length c' x.log → PureC Try.prog 14 #[.agg #[.int .i64 x.snap.index, .int .i64 x.snap.term, .int .i64 x.snap.sum, .int .i64 x.snap.level, .bool x.snap.final, .slice A' x.log.length c', .int .i64 x.term, .int .i64 x.vote], .int .i64 s.index] W' (.tuple #[.int .i64 t, .bool true]) := fun W' h => by have := htm W' h; rw [hto] at this; exact this
          repeat (first | (apply wpC_seq_k; intro K hK))
          refine wpC_draw 18 [] (fun _ _ => True) ⟨by kernel_rfl, by kernel_rfl⟩ hS (fun w hS hB => ?_)
          refine wpR_batch [true, true, true, true, true, true, true, true, true, true, true, true, true, true, true, true, true] (by decide +kernel) (by repeat (first | exact PF.body | apply PF.then)) ?_
          repeat (first | refine LtK.put rfl rfl rfl (by first | exact yv_move rfl | exact yv_fieldAddr (by first | exact fo_23_0 | exact fo_23_1 | exact fo_26_0 | exact fo_26_2) rfl | (apply yv_g_load; first | exact yv_load_box (by first | exact sc_1 | exact sc_3) rfl (RW.below _) hS (by repeat (first | exact Has.head | apply Has.tail)) (by first | trivial) (by repeat (first | exact Seg.here (Pre.succ Pre.zero) | apply Seg.succ)) | exact yv_load_ob (by first | exact sc_1 | exact sc_3) rfl (RW.below _) hS (by first | trivial) (by first | trivial) (by assumption) (by repeat (first | exact Seg.here (Pre.succ Pre.zero) | apply Seg.succ))) | (apply yv_g_bin; first | exact yv_leq_t rfl rfl (by omega) | exact yv_gtr_t rfl rfl (by omega)) | (apply yv_g_pick; first | exact yv_pick_t rfl rfl rfl) | exact yv_nilCheck rfl) ?_)
          refine LtK.nil ?_
          refine wpR_call [false, false, false, false, false, false, false, false, false, false, false, false, false, false, false, false, false, true] 17 ⟨by decide, by kernel_rfl, by kernel_rfl⟩ rfl rfl ?_
          dsimp only [pickL]
          repeat (first | apply wpS_nil | (apply wpS_g_call; first | refine wpS_callP rfl rfl rfl (by kernel_rfl) rfl (must_t _) hS (fun w hS hB => ?_)))
          refine QH_step (by first | assumption) ?_
          refine wpR_end (by kernel_rfl) ?_
          repeat (first | (apply QH_seq_k; assumption) | (apply wpC_seq_k; intro K hK))
          refine wpC_draw 11 [] (fun _ _ => True) ⟨by kernel_rfl, by kernel_rfl⟩ hS (fun w hS hB => ?_)
          refine wpR_batch [true, true, true, true, true] (by decide +kernel) (by repeat (first | exact PF.body | apply PF.then)) ?_
          repeat (first | refine LtK.put rfl rfl rfl (by first | exact yv_move rfl | exact yv_fieldAddr (by first | exact fo_23_0) rfl | (apply yv_g_load; first | exact yv_load_boxA (by first | exact ag_23 | exact ag_26) rfl (RW.below _) hS (by repeat (first | exact Has.head)) (by first | trivial) (by repeat (first | exact Seg.here (by repeat (first | exact Pre.zero | apply Pre.succ)))) | exact yv_load_ob (by first | exact sc_1 | exact sc_3) rfl (RW.below _) hS (by first | trivial) (by first | trivial) (by assumption) (by repeat (first | exact Seg.here (Pre.succ Pre.zero)))) | exact yv_nilCheck rfl) ?_)
          refine LtK.nil ?_
          refine wpR_call [false, false, false, false, false, true] 5 ⟨by decide, by kernel_rfl, by kernel_rfl⟩ rfl rfl ?_
          dsimp only [pickL]
          repeat (first | apply wpS_nil | (apply wpS_g_call; first | refine wpS_callP rfl rfl rfl (by kernel_rfl) rfl (htm' _ (hLI.keep hS.base hAn)) hS (fun w hS hB => ?_)))
          refine QH_step (by first | assumption) ?_
          refine wpR_batch [false, false, false, false, false, false, true, true, true, true, true] (by decide +kernel) (by repeat (first | exact PF.body | apply PF.then)) ?_
          repeat (first | refine LtK.put rfl rfl rfl (by first | exact yv_move rfl | exact yv_assign rfl | exact yv_extract rfl rfl) ?_)
          refine LtK.nil ?_
          refine wpR_end (by kernel_rfl) ?_
          repeat (first | apply wpS_nil | (apply QH_seq_k; assumption) | (apply wpC_seq_k; intro K hK) | apply wpC_region | (apply wpS_g_store; refine wpS_store rfl rfl rfl (by first | exact CellsOf.slice | exact CellsOf.agg) hS (by repeat (first | exact Pos.head)) (by repeat (first | exact SetC.here (by repeat (first | exact Ovr.nil | apply Ovr.cons)) | apply SetC.succ)) (by kernel_rfl) rfl (fun w hS hB => ?_)) | (apply wpS_g; refine wpS_put rfl rfl rfl (by first | exact yv_move rfl | exact yv_fieldAddr (by first | exact fo_23_0 | exact fo_23_1 | exact fo_26_0 | exact fo_26_1) rfl | (apply yv_g_load; first | exact yv_load_ob (by first | exact sc_3) rfl (RW.here _) hS (by first | trivial) (by first | trivial) (by assumption) (by repeat (first | exact Seg.here (Pre.succ Pre.zero) | apply Seg.succ)) | exact yv_load_obA (by first | exact ag_23) rfl (RW.here _) hS (by first | trivial) (by first | trivial) (by assumption) (by repeat (first | exact Seg.here (by repeat (first | exact Pre.zero | apply Pre.succ))))) | (apply yv_g_bin; first | exact yv_eql_f rfl rfl (by omega)) | (apply yv_g_pick; first | exact yv_pick_t rfl rfl rfl) | exact yv_nilCheck rfl) ?_) | apply wpC_cond_f rfl rfl | apply wpC_skip)
          refine QH_end rfl (by first | exact RV.nil) rfl ?_
          exact hfin _ hS.base (hS.ok (.box bo [.int .i64 s.index, .int .i64 s.term, .int .i64 s.sum, .int .i64 s.level, .bool s.final, .slice none 0 0, .int .i64 x.term, .int .i64 x.vote] 26) (Has.mem (by repeat (first | exact Has.head))))
    · have e1 : instR x s = none := if_neg (fun h => h2 h.2)
      rw [e1]
      repeat (first | (apply wpC_seq_k; intro K hK))
      refine wpC_draw 18 [] (fun _ _ => True) ⟨by kernel_rfl, by kernel_rfl⟩ hS (fun w hS hB => ?_)
      refine wpR_batch [true, true, true, true, true, true, true, true, true, true, true, true, true, true, true, true, true] (by decide +kernel) (by repeat (first | exact PF.body | apply PF.then)) ?_
      repeat (first | refine LtK.put rfl rfl rfl (by first | exact yv_move rfl | exact yv_fieldAddr (by first | exact fo_23_0 | exact fo_23_1 | exact fo_26_0 | exact fo_26_2) rfl | (apply yv_g_load; first | exact yv_load_box (by first | exact sc_1 | exact sc_3) rfl (RW.below _) hS (by repeat (first | exact Has.head | apply Has.tail)) (by first | trivial) (by repeat (first | exact Seg.here (Pre.succ Pre.zero) | apply Seg.succ)) | exact yv_load_ob (by first | exact sc_1 | exact sc_3) rfl (RW.below _) hS (by first | trivial) (by first | trivial) (by assumption) (by repeat (first | exact Seg.here (Pre.succ Pre.zero) | apply Seg.succ))) | (apply yv_g_bin; first | exact yv_leq_f rfl rfl (by omega) | exact yv_gtr_t rfl rfl (by omega)) | (apply yv_g_pick; first | exact yv_pick_t rfl rfl rfl) | exact yv_nilCheck rfl) ?_)
      refine LtK.nil ?_
      refine wpR_call [false, false, false, false, false, false, false, false, false, false, false, false, false, false, false, false, false, true] 17 ⟨by decide, by kernel_rfl, by kernel_rfl⟩ rfl rfl ?_
      dsimp only [pickL]
      repeat (first | (apply wpS_g_call; first | (refine wpS_callPanic rfl rfl (by kernel_rfl) rfl (must_f _) ?_; rintro e w2 ⟨rfl, hB2⟩; refine ⟨_, rfl, ?_⟩)) | apply QH_then_panic)
      exact QH_panic rfl ⟨(hS.below hB2).base, .inr ⟨rfl, rfl, TB.eight (x := x) (A := A') (c := c') ((hS.below hB2).ok (.box bo [.int .i64 x.snap.index, .int .i64 x.snap.term, .int .i64 x.snap.sum, .int .i64 x.snap.level, .bool x.snap.final, .slice A' x.log.length c', .int .i64 x.term, .int .i64 x.vote] 26) (Has.mem (by repeat (first | exact Has.head))))⟩⟩
  · have e1 : instR x s = none := if_neg (fun h => h1 h.1)
    rw [e1]
    repeat (first | (apply wpC_seq_k; intro K hK))
    refine wpC_draw 18 [] (fun _ _ => True) ⟨by kernel_rfl, by kernel_rfl⟩ hS (fun w hS hB => ?_)
    refine wpR_batch [true, true, true, true, true, true, true, true, true, true, true, true, true, true, true, true, true] (by decide +kernel) (by repeat (first | exact PF.body | apply PF.then)) ?_
    repeat (first | refine LtK.put rfl rfl rfl (by first | exact yv_move rfl | exact yv_fieldAddr (by first | exact fo_23_0 | exact fo_23_1 | exact fo_26_0 | exact fo_26_2) rfl | (apply yv_g_load; first | exact yv_load_box (by first | exact sc_1 | exact sc_3) rfl (RW.below _) hS (by repeat (first | exact Has.head | apply Has.tail)) (by first | trivial) (by repeat (first | exact Seg.here (Pre.succ Pre.zero))) | exact yv_load_ob (by first | exact sc_1 | exact sc_3) rfl (RW.below _) hS (by first | trivial) (by first | trivial) (by assumption) (by repeat (first | exact Seg.here (Pre.succ Pre.zero)))) | (apply yv_g_bin; first | exact yv_gtr_f rfl rfl (by omega)) | (apply yv_g_pick; first | exact yv_pick_f rfl rfl rfl) | exact yv_nilCheck rfl) ?_ | refine LtK.skip rfl rfl rfl ?_)
    refine LtK.nil ?_
    refine wpR_call [false, false, false, false, false, false, false, false, false, false, false, false, false, false, false, false, false, true] 17 ⟨by decide, by kernel_rfl, by kernel_rfl⟩ rfl rfl ?_
    dsimp only [pickL]
    repeat (first | (apply wpS_g_call; first | (refine wpS_callPanic rfl rfl (by kernel_rfl) rfl (must_f _) ?_; rintro e w2 ⟨rfl, hB2⟩; refine ⟨_, rfl, ?_⟩)) | apply QH_then_panic)
    exact QH_panic rfl ⟨(hS.below hB2).base, .inr ⟨rfl, rfl, TB.eight (x := x) (A := A') (c := c') ((hS.below hB2).ok (.box bo [.int .i64 x.snap.index, .int .i64 x.snap.term, .int .i64 x.snap.sum, .int .i64 x.snap.level, .bool x.snap.final, .slice A' x.log.length c', .int .i64 x.term, .int .i64 x.vote] 26) (Has.mem (by repeat (first | exact Has.head))))⟩⟩
theorem instR_index (x : Tu) (s : St) (y : Tu) (h : instR x s = some y) : y.snap = s := by
  unfold instR at h
  split at h
  · split at h
    · exact (saveR_index x s y h).1
    · injection h with h; subst h; rfl
  · cases h
theorem install_any (x : Tu) (A : Option Addr) (c : Nat) (s : St) (w0 : World) (hx : LI w0 A x.log.length c x.log) (hA : ∀ a, A = some a → a.block < w0.heap.size) :
    Calls Try.prog 20 #[.agg #[.int .i64 x.snap.index, .int .i64 x.snap.term, .int .i64 x.snap.sum, .int .i64 x.snap.level, .bool x.snap.final, .slice A x.log.length c, .int .i64 x.term, .int .i64 x.vote], .agg #[.int .i64 s.index, .int .i64 s.term, .int .i64 s.sum, .int .i64 s.level, .bool s.final]] w0 (Chg w0 x (instR x s)) := by
  refine gw_enter2 Try.func20 rfl Try.ntmps20 rfl ?_
  have hS := St0.start All w0
  repeat (first | (apply wpC_seq_k; intro K hK) | apply wpC_region)
  first | (apply wpS_g_box; refine wpS_box rfl rfl rfl (by first | exact CellsOf.agg) hS (fun bt w hS hB => ?_))
  first | (apply wpS_g_box; refine wpS_box rfl rfl rfl (by first | exact CellsOf.agg) hS (fun bf w hS hB => ?_))
  repeat (first | apply wpS_nil | (apply QH_seq_k; assumption) | (apply wpC_seq_k; intro K hK) | apply wpC_region | (apply wpS_g_alloc; refine wpS_alloc rfl rfl (by first | exact zc_26) hS (fun b w hS hB => ?_)) | (apply wpS_g; refine wpS_put rfl rfl rfl (by first | exact yv_assign rfl | (apply yv_g_load; first | exact yv_load_boxA (by first | exact ag_26) rfl (RW.here _) hS (by repeat (first | exact Has.head | apply Has.tail)) (by first | trivial) (by repeat (first | exact Seg.here (by repeat (first | exact Pre.zero | apply Pre.succ))))) | exact yv_makeFunc rfl rfl) ?_))
  have hbf := (hS.box_ge (b := bf) (by repeat (first | exact Has.head | apply Has.tail)))
  refine wpS_call rfl rfl rfl rfl (by kernel_rfl) rfl (changed_any x (instR x s) A c 50 #[.pointer (some ⟨bf, 0, none⟩)] _ (by kernel_rfl) (hx.below hS.pure) (fun a ha => Nat.lt_of_lt_of_le (hA a ha) hS.size)
    (fun hT => inst1_does bf s _ hbf.2.2 x hT)) ?_
  rintro e w1 ⟨A2, c2, ⟨rfl, hs⟩, hB⟩
  refine ⟨_, rfl, ?_⟩
  replace hS := hS.slice hs hB
  repeat (first | apply wpS_nil | (apply QH_seq_k; assumption) | (apply wpS_g_store; refine wpS_store rfl rfl rfl (by first | exact CellsOf.agg) hS (by repeat (first | exact Pos.head | apply Pos.tail)) (by repeat (first | exact SetC.here (by repeat (first | exact Ovr.nil | apply Ovr.cons)))) (by kernel_rfl) rfl (fun w hS hB => ?_)) | (apply wpS_g; refine wpS_put rfl rfl rfl (by first | exact yv_assign rfl | exact yv_extract rfl rfl) ?_) | apply wpC_ret)
  refine QH_ret rfl (by first | exact RV.cell rfl (load_boxA (by first | exact ag_26) hS (by repeat (first | exact Has.head | apply Has.tail)) (by repeat (first | exact Seg.here (by repeat (first | exact Pre.zero | apply Pre.succ))))) (RV.tmp rfl RV.nil)) rfl ?_
  exact ⟨A2, c2, ⟨rfl, hS.giveS (by repeat (first | exact Has.head)) hs.len hs.le hs.cap⟩, hS.pure⟩

/-- Hard's change. -/
def hardR (x : Tu) (t v : Int) : Option Tu := if x.term < t ∨ t = x.term ∧ (x.vote = 0 ∨ x.vote = v) then some { x with term := t, vote := v } else none
theorem hard1_does (bf bg : Nat) (t v : Int) (w0 : World) (hbf : w0.heap[bf]? = some (.cells #[.int .i64 t] 3)) (hbg : w0.heap[bg]? = some (.cells #[.int .i64 v] 3)) (x : Tu) (hx : tupB x = true) :
    Does 53 #[.pointer (some ⟨bf, 0, none⟩), .pointer (some ⟨bg, 0, none⟩)] w0 x (hardR x t v) := by
  intro W bo A' c' hB hbo hT hLI hA'
  have hxb := tupB_bd x hx
  have hol : bo < W.heap.size := (Array.getElem?_eq_some_iff.1 hT).1
  have hle := hLI.le
  have hcp := hLI.cap
  have hAn := fun a ha => (hA' a ha).1
  have hbfl : bf < w0.heap.size := (Array.getElem?_eq_some_iff.1 hbf).1
  have hbfW : W.heap[bf]? = some (.cells #[.int .i64 t] 3) := (hB.block bf hbfl).trans hbf
  have hbfn : bf ≠ bo := by omega
  have hbgl : bg < w0.heap.size := (Array.getElem?_eq_some_iff.1 hbg).1
  have hbgW : W.heap[bg]? = some (.cells #[.int .i64 v] 3) := (hB.block bg hbgl).trans hbg
  have hbgn : bg ≠ bo := by omega
  show Calls _ _ #[_, _, _] _ _
  refine gw_enter3 Try.func53 rfl Try.ntmps53 rfl ?_
  have hS := St0.old (w := W) (fun k => k ≠ bo) (e := .box bo [.int .i64 x.snap.index, .int .i64 x.snap.term, .int .i64 x.snap.sum, .int .i64 x.snap.level, .bool x.snap.final, .slice A' x.log.length c', .int .i64 x.term, .int .i64 x.vote] 26) hT (fun k hk => by subst hk; exact ⟨hol, by simp⟩)
  by_cases h0 : x.term < t ∨ t = x.term ∧ (x.vote = 0 ∨ x.vote = v)
  · have e1 : hardR x t v = some { x with term := t, vote := v } := if_pos h0
    rw [e1]
    have hfin : ∀ w, KeepB (fun k => k ≠ bo) W w → w.heap[bo]? = some (.cells #[.int .i64 x.snap.index, .int .i64 x.snap.term, .int .i64 x.snap.sum, .int .i64 x.snap.level, .bool x.snap.final, .slice A' x.log.length c', .int .i64 t, .int .i64 v] 26) → (KeepB (fun k => k ≠ bo) W w ∧ ((∃ y A2 c2, some ({ x with term := t, vote := v } : Tu) = some y ∧ (Ending.returned (.tuple #[])) = .returned (.tuple #[]) ∧ TB w bo y A2 c2 ∧ LI w A2 y.log.length c2 y.log ∧ (∀ a, A2 = some a → a.block < w.heap.size ∧ ((∃ a', A' = some a' ∧ a.block = a'.block) ∨ W.heap.size ≤ a.block))) ∨ (some ({ x with term := t, vote := v } : Tu) = none ∧ (Ending.returned (.tuple #[])) = .panicked badP ∧ TB8 w bo))) :=
      fun w hk ho => ⟨hk, .inl ⟨_, A', c', rfl, rfl, ho, hLI.keep hk hAn, fun a ha => ⟨Nat.lt_of_lt_of_le (hA' a ha).2 hk.size, .inl ⟨a, ha, rfl⟩⟩⟩⟩
    by_cases h1 : x.term < t
    · repeat (first | (apply wpC_seq_k; intro K hK))
      refine wpC_draw 30 [] (fun _ _ => True) ⟨by kernel_rfl, by kernel_rfl⟩ hS (fun w hS hB => ?_)
      refine wpR_batch [true, true, true, true, true, true, true, true, true, true, true, true, true, true, true, true, true, true, true, true, true, true, true, true, true, true, true, true, true] (by decide +kernel) (by repeat (first | exact PF.body | apply PF.then)) ?_
      repeat (first | refine LtK.put rfl rfl rfl (by first | exact yv_move rfl | exact yv_fieldAddr (by first | exact fo_23_0 | exact fo_26_2 | exact fo_26_3) rfl | (apply yv_g_load; first | exact yv_load_box (by first | exact sc_1 | exact sc_3) rfl (RW.below _) hS (by repeat (first | exact Has.head | apply Has.tail)) (by first | trivial) (by repeat (first | exact Seg.here (Pre.succ Pre.zero) | apply Seg.succ)) | exact yv_load_ob (by first | exact sc_1 | exact sc_3) rfl (RW.below _) hS (by first | trivial) (by first | trivial) (by assumption) (by repeat (first | exact Seg.here (Pre.succ Pre.zero)))) | (apply yv_g_bin; first | exact yv_gtr_t rfl rfl (by omega)) | (apply yv_g_pick; first | exact yv_pick_t rfl rfl rfl) | exact yv_nilCheck rfl) ?_ | refine LtK.skip rfl rfl rfl ?_)
      refine LtK.nil ?_
      refine wpR_call [false, false, false, false, false, false, false, false, false, false, false, false, false, false, false, false, false, false, false, false, false, false, false, false, false, false, false, false, false, true] 29 ⟨by decide, by kernel_rfl, by kernel_rfl⟩ rfl rfl ?_
      dsimp only [pickL]
      repeat (first | apply wpS_nil | (apply wpS_g_call; first | refine wpS_callP rfl rfl rfl (by kernel_rfl) rfl (must_t _) hS (fun w hS hB => ?_)))
      refine QH_step (by first | assumption) ?_
      refine wpR_end (by kernel_rfl) ?_
      repeat (first | (apply QH_seq_k; assumption))
      refine wpC_draw 10 [6, 9] (fun i b => (i = 6 → b ≠ bo) ∧ (i = 9 → b ≠ bo)) ⟨by kernel_rfl, by kernel_rfl⟩ hS (fun w hS hB => ?_)
      refine wpR_batch [true, false, true] (by decide +kernel) (by repeat (first | exact PF.body)) ?_
      repeat (first | refine LtK.put rfl rfl rfl (by first | exact yv_move rfl | (apply yv_g_load; first | exact yv_load_ob (by first | exact sc_1 | exact sc_3) rfl (RW.below _) hS (by first | trivial) (by first | trivial) (by assumption) (by repeat (first | exact Seg.here (Pre.succ Pre.zero))))) ?_)
      refine LtK.nil ?_
      refine wpR_batchG [false, true, false, true, true] [6] (fun b => b ≠ bo) (by decide +kernel) (by intro j hj b hb; simp only [List.mem_cons, List.not_mem_nil, or_false] at hj; (try rcases hj with rfl | rfl) <;> simp_all) (by repeat (first | exact PF.body)) ?_
      repeat (first | refine LtK.put rfl rfl rfl (by first | exact yv_move rfl | (apply yv_g_load; first | exact yv_load_ob (by first | exact sc_1 | exact sc_3) rfl (RW.keepB _ _) hS (by first | trivial) (by first | trivial) (by assumption) (by repeat (first | exact Seg.here (Pre.succ Pre.zero)))) | exact yv_nilCheck rfl) ?_)
      refine LtK.nil ?_
      refine wpR_batch [false, false, false, false, false, true] (by decide +kernel) (by repeat (first | exact PF.body)) ?_
      repeat (first | refine LtK.put rfl rfl rfl (by first | exact yv_fieldAddr (by first | exact fo_23_0 | exact fo_26_2) rfl) ?_)
      refine LtK.nil ?_
      refine wpR_seal [false, false, false, false, false, false, true] 6 ⟨by decide, by kernel_rfl, by kernel_rfl⟩ rfl rfl ?_
      dsimp only [pickL]
      repeat (first | apply wpS_nil | (apply wpS_g_store; refine wpS_store rfl rfl rfl (by first | exact CellsOf.int) hS (by repeat (first | exact Pos.head)) (by repeat (first | exact SetC.here (by repeat (first | exact Ovr.nil | apply Ovr.cons)) | apply SetC.succ)) (by kernel_rfl) rfl (fun w hS hB => ?_)))
      refine QH_stepG (by first | exact hB.sub (fun _ _ h => by simpa using h)) ?_
      refine wpR_batchG [false, false, false, false, false, false, false, true] [9] (fun b => b ≠ bo) (by decide +kernel) (by intro j hj b hb; simp only [List.mem_cons, List.not_mem_nil, or_false] at hj; (try rcases hj with rfl | rfl) <;> simp_all) (by repeat (first | exact PF.body)) ?_
      repeat (first | refine LtK.put rfl rfl rfl (by first | exact yv_nilCheck rfl) ?_)
      refine LtK.nil ?_
      refine wpR_batch [false, false, false, false, false, false, false, false, true] (by decide +kernel) (by repeat (first | exact PF.body)) ?_
      repeat (first | refine LtK.put rfl rfl rfl (by first | exact yv_fieldAddr (by first | exact fo_23_0 | exact fo_26_3) rfl) ?_)
      refine LtK.nil ?_
      refine wpR_seal [false, false, false, false, false, false, false, false, false, true] 9 ⟨by decide, by kernel_rfl, by kernel_rfl⟩ rfl rfl ?_
      dsimp only [pickL]
      repeat (first | apply wpS_nil | (apply wpS_g_store; refine wpS_store rfl rfl rfl (by first | exact CellsOf.int) hS (by repeat (first | exact Pos.head)) (by repeat (first | exact SetC.here (by repeat (first | exact Ovr.nil | apply Ovr.cons)) | apply SetC.succ)) (by kernel_rfl) rfl (fun w hS hB => ?_)))
      refine QH_stepG (by first | exact hB.sub (fun _ _ h => by simpa using h)) ?_
      refine wpR_end (by kernel_rfl) ?_
      refine QH_end rfl (by first | exact RV.nil) rfl ?_
      exact hfin _ hS.base (hS.ok (.box bo [.int .i64 x.snap.index, .int .i64 x.snap.term, .int .i64 x.snap.sum, .int .i64 x.snap.level, .bool x.snap.final, .slice A' x.log.length c', .int .i64 t, .int .i64 v] 26) (Has.mem (by repeat (first | exact Has.head))))
    · have h2 : t = x.term := by omega
      by_cases h3 : x.vote = 0
      · repeat (first | (apply wpC_seq_k; intro K hK))
        refine wpC_draw 30 [] (fun _ _ => True) ⟨by kernel_rfl, by kernel_rfl⟩ hS (fun w hS hB => ?_)
        refine wpR_batch [true, true, true, true, true, true, true, true, true, true, true, true, true, true, true, true, true, true, true, true, true, true, true, true, true, true, true, true, true] (by decide +kernel) (by repeat (first | exact PF.body | apply PF.then)) ?_
        repeat (first | refine LtK.put rfl rfl rfl (by first | exact yv_move rfl | exact yv_fieldAddr (by first | exact fo_23_0 | exact fo_26_2 | exact fo_26_3) rfl | (apply yv_g_load; first | exact yv_load_box (by first | exact sc_1 | exact sc_3) rfl (RW.below _) hS (by repeat (first | exact Has.head | apply Has.tail)) (by first | trivial) (by repeat (first | exact Seg.here (Pre.succ Pre.zero) | apply Seg.succ)) | exact yv_load_ob (by first | exact sc_1 | exact sc_3) rfl (RW.below _) hS (by first | trivial) (by first | trivial) (by assumption) (by repeat (first | exact Seg.here (Pre.succ Pre.zero)))) | (apply yv_g_bin; first | exact yv_gtr_f rfl rfl (by omega) | exact yv_eql_t rfl rfl (by omega)) | (apply yv_g_pick; first | exact yv_pick_t rfl rfl rfl | exact yv_pick_f rfl rfl rfl) | exact yv_nilCheck rfl) ?_ | refine LtK.skip rfl rfl rfl ?_)
        refine LtK.nil ?_
        refine wpR_call [false, false, false, false, false, false, false, false, false, false, false, false, false, false, false, false, false, false, false, false, false, false, false, false, false, false, false, false, false, true] 29 ⟨by decide, by kernel_rfl, by kernel_rfl⟩ rfl rfl ?_
        dsimp only [pickL]
        repeat (first | apply wpS_nil | (apply wpS_g_call; first | refine wpS_callP rfl rfl rfl (by kernel_rfl) rfl (must_t _) hS (fun w hS hB => ?_)))
        refine QH_step (by first | assumption) ?_
        refine wpR_end (by kernel_rfl) ?_
        repeat (first | (apply QH_seq_k; assumption))
        refine wpC_draw 10 [6, 9] (fun i b => (i = 6 → b ≠ bo) ∧ (i = 9 → b ≠ bo)) ⟨by kernel_rfl, by kernel_rfl⟩ hS (fun w hS hB => ?_)
        refine wpR_batch [true, false, true] (by decide +kernel) (by repeat (first | exact PF.body)) ?_
        repeat (first | refine LtK.put rfl rfl rfl (by first | exact yv_move rfl | (apply yv_g_load; first | exact yv_load_ob (by first | exact sc_1 | exact sc_3) rfl (RW.below _) hS (by first | trivial) (by first | trivial) (by assumption) (by repeat (first | exact Seg.here (Pre.succ Pre.zero))))) ?_)
        refine LtK.nil ?_
        refine wpR_batchG [false, true, false, true, true] [6] (fun b => b ≠ bo) (by decide +kernel) (by intro j hj b hb; simp only [List.mem_cons, List.not_mem_nil, or_false] at hj; (try rcases hj with rfl | rfl) <;> simp_all) (by repeat (first | exact PF.body)) ?_
        repeat (first | refine LtK.put rfl rfl rfl (by first | exact yv_move rfl | (apply yv_g_load; first | exact yv_load_ob (by first | exact sc_1 | exact sc_3) rfl (RW.keepB _ _) hS (by first | trivial) (by first | trivial) (by assumption) (by repeat (first | exact Seg.here (Pre.succ Pre.zero)))) | exact yv_nilCheck rfl) ?_)
        refine LtK.nil ?_
        refine wpR_batch [false, false, false, false, false, true] (by decide +kernel) (by repeat (first | exact PF.body)) ?_
        repeat (first | refine LtK.put rfl rfl rfl (by first | exact yv_fieldAddr (by first | exact fo_23_0 | exact fo_26_2) rfl) ?_)
        refine LtK.nil ?_
        refine wpR_seal [false, false, false, false, false, false, true] 6 ⟨by decide, by kernel_rfl, by kernel_rfl⟩ rfl rfl ?_
        dsimp only [pickL]
        repeat (first | apply wpS_nil | (apply wpS_g_store; refine wpS_store rfl rfl rfl (by first | exact CellsOf.int) hS (by repeat (first | exact Pos.head)) (by repeat (first | exact SetC.here (by repeat (first | exact Ovr.nil | apply Ovr.cons)) | apply SetC.succ)) (by kernel_rfl) rfl (fun w hS hB => ?_)))
        refine QH_stepG (by first | exact hB.sub (fun _ _ h => by simpa using h)) ?_
        refine wpR_batchG [false, false, false, false, false, false, false, true] [9] (fun b => b ≠ bo) (by decide +kernel) (by intro j hj b hb; simp only [List.mem_cons, List.not_mem_nil, or_false] at hj; (try rcases hj with rfl | rfl) <;> simp_all) (by repeat (first | exact PF.body)) ?_
        repeat (first | refine LtK.put rfl rfl rfl (by first | exact yv_nilCheck rfl) ?_)
        refine LtK.nil ?_
        refine wpR_batch [false, false, false, false, false, false, false, false, true] (by decide +kernel) (by repeat (first | exact PF.body)) ?_
        repeat (first | refine LtK.put rfl rfl rfl (by first | exact yv_fieldAddr (by first | exact fo_23_0 | exact fo_26_3) rfl) ?_)
        refine LtK.nil ?_
        refine wpR_seal [false, false, false, false, false, false, false, false, false, true] 9 ⟨by decide, by kernel_rfl, by kernel_rfl⟩ rfl rfl ?_
        dsimp only [pickL]
        repeat (first | apply wpS_nil | (apply wpS_g_store; refine wpS_store rfl rfl rfl (by first | exact CellsOf.int) hS (by repeat (first | exact Pos.head)) (by repeat (first | exact SetC.here (by repeat (first | exact Ovr.nil | apply Ovr.cons)) | apply SetC.succ)) (by kernel_rfl) rfl (fun w hS hB => ?_)))
        refine QH_stepG (by first | exact hB.sub (fun _ _ h => by simpa using h)) ?_
        refine wpR_end (by kernel_rfl) ?_
        refine QH_end rfl (by first | exact RV.nil) rfl ?_
        exact hfin _ hS.base (hS.ok (.box bo [.int .i64 x.snap.index, .int .i64 x.snap.term, .int .i64 x.snap.sum, .int .i64 x.snap.level, .bool x.snap.final, .slice A' x.log.length c', .int .i64 t, .int .i64 v] 26) (Has.mem (by repeat (first | exact Has.head))))
      · have h4 : x.vote = v := by omega
        repeat (first | (apply wpC_seq_k; intro K hK))
        refine wpC_draw 30 [] (fun _ _ => True) ⟨by kernel_rfl, by kernel_rfl⟩ hS (fun w hS hB => ?_)
        refine wpR_batch [true, true, true, true, true, true, true, true, true, true, true, true, true, true, true, true, true, true, true, true, true, true, true, true, true, true, true, true, true] (by decide +kernel) (by repeat (first | exact PF.body | apply PF.then)) ?_
        repeat (first | refine LtK.put rfl rfl rfl (by first | exact yv_move rfl | exact yv_fieldAddr (by first | exact fo_23_0 | exact fo_26_2 | exact fo_26_3) rfl | (apply yv_g_load; first | exact yv_load_box (by first | exact sc_1 | exact sc_3) rfl (RW.below _) hS (by repeat (first | exact Has.head | apply Has.tail)) (by first | trivial) (by repeat (first | exact Seg.here (Pre.succ Pre.zero) | apply Seg.succ)) | exact yv_load_ob (by first | exact sc_1 | exact sc_3) rfl (RW.below _) hS (by first | trivial) (by first | trivial) (by assumption) (by repeat (first | exact Seg.here (Pre.succ Pre.zero)))) | (apply yv_g_bin; first | exact yv_gtr_f rfl rfl (by omega) | exact yv_eql_t rfl rfl (by omega) | exact yv_eql_f rfl rfl (by omega)) | (apply yv_g_pick; first | exact yv_pick_t rfl rfl rfl | exact yv_pick_f rfl rfl rfl) | exact yv_nilCheck rfl) ?_)
        refine LtK.nil ?_
        refine wpR_call [false, false, false, false, false, false, false, false, false, false, false, false, false, false, false, false, false, false, false, false, false, false, false, false, false, false, false, false, false, true] 29 ⟨by decide, by kernel_rfl, by kernel_rfl⟩ rfl rfl ?_
        dsimp only [pickL]
        repeat (first | apply wpS_nil | (apply wpS_g_call; first | refine wpS_callP rfl rfl rfl (by kernel_rfl) rfl (must_t _) hS (fun w hS hB => ?_)))
        refine QH_step (by first | assumption) ?_
        refine wpR_end (by kernel_rfl) ?_
        repeat (first | (apply QH_seq_k; assumption))
        refine wpC_draw 10 [6, 9] (fun i b => (i = 6 → b ≠ bo) ∧ (i = 9 → b ≠ bo)) ⟨by kernel_rfl, by kernel_rfl⟩ hS (fun w hS hB => ?_)
        refine wpR_batch [true, false, true] (by decide +kernel) (by repeat (first | exact PF.body)) ?_
        repeat (first | refine LtK.put rfl rfl rfl (by first | exact yv_move rfl | (apply yv_g_load; first | exact yv_load_ob (by first | exact sc_1 | exact sc_3) rfl (RW.below _) hS (by first | trivial) (by first | trivial) (by assumption) (by repeat (first | exact Seg.here (Pre.succ Pre.zero))))) ?_)
        refine LtK.nil ?_
        refine wpR_batchG [false, true, false, true, true] [6] (fun b => b ≠ bo) (by decide +kernel) (by intro j hj b hb; simp only [List.mem_cons, List.not_mem_nil, or_false] at hj; (try rcases hj with rfl | rfl) <;> simp_all) (by repeat (first | exact PF.body)) ?_
        repeat (first | refine LtK.put rfl rfl rfl (by first | exact yv_move rfl | (apply yv_g_load; first | exact yv_load_ob (by first | exact sc_1 | exact sc_3) rfl (RW.keepB _ _) hS (by first | trivial) (by first | trivial) (by assumption) (by repeat (first | exact Seg.here (Pre.succ Pre.zero)))) | exact yv_nilCheck rfl) ?_)
        refine LtK.nil ?_
        refine wpR_batch [false, false, false, false, false, true] (by decide +kernel) (by repeat (first | exact PF.body)) ?_
        repeat (first | refine LtK.put rfl rfl rfl (by first | exact yv_fieldAddr (by first | exact fo_23_0 | exact fo_26_2) rfl) ?_)
        refine LtK.nil ?_
        refine wpR_seal [false, false, false, false, false, false, true] 6 ⟨by decide, by kernel_rfl, by kernel_rfl⟩ rfl rfl ?_
        dsimp only [pickL]
        repeat (first | apply wpS_nil | (apply wpS_g_store; refine wpS_store rfl rfl rfl (by first | exact CellsOf.int) hS (by repeat (first | exact Pos.head)) (by repeat (first | exact SetC.here (by repeat (first | exact Ovr.nil | apply Ovr.cons)) | apply SetC.succ)) (by kernel_rfl) rfl (fun w hS hB => ?_)))
        refine QH_stepG (by first | exact hB.sub (fun _ _ h => by simpa using h)) ?_
        refine wpR_batchG [false, false, false, false, false, false, false, true] [9] (fun b => b ≠ bo) (by decide +kernel) (by intro j hj b hb; simp only [List.mem_cons, List.not_mem_nil, or_false] at hj; (try rcases hj with rfl | rfl) <;> simp_all) (by repeat (first | exact PF.body)) ?_
        repeat (first | refine LtK.put rfl rfl rfl (by first | exact yv_nilCheck rfl) ?_)
        refine LtK.nil ?_
        refine wpR_batch [false, false, false, false, false, false, false, false, true] (by decide +kernel) (by repeat (first | exact PF.body)) ?_
        repeat (first | refine LtK.put rfl rfl rfl (by first | exact yv_fieldAddr (by first | exact fo_23_0 | exact fo_26_3) rfl) ?_)
        refine LtK.nil ?_
        refine wpR_seal [false, false, false, false, false, false, false, false, false, true] 9 ⟨by decide, by kernel_rfl, by kernel_rfl⟩ rfl rfl ?_
        dsimp only [pickL]
        repeat (first | apply wpS_nil | (apply wpS_g_store; refine wpS_store rfl rfl rfl (by first | exact CellsOf.int) hS (by repeat (first | exact Pos.head)) (by repeat (first | exact SetC.here (by repeat (first | exact Ovr.nil | apply Ovr.cons)) | apply SetC.succ)) (by kernel_rfl) rfl (fun w hS hB => ?_)))
        refine QH_stepG (by first | exact hB.sub (fun _ _ h => by simpa using h)) ?_
        refine wpR_end (by kernel_rfl) ?_
        refine QH_end rfl (by first | exact RV.nil) rfl ?_
        exact hfin _ hS.base (hS.ok (.box bo [.int .i64 x.snap.index, .int .i64 x.snap.term, .int .i64 x.snap.sum, .int .i64 x.snap.level, .bool x.snap.final, .slice A' x.log.length c', .int .i64 t, .int .i64 v] 26) (Has.mem (by repeat (first | exact Has.head))))
  · have e1 : hardR x t v = none := if_neg h0
    rw [e1]
    have h1 : ¬ x.term < t := fun h => h0 (.inl h)
    by_cases h2 : t = x.term
    · have h3 : x.vote ≠ 0 := fun h => h0 (.inr ⟨h2, .inl h⟩)
      have h4 : x.vote ≠ v := fun h => h0 (.inr ⟨h2, .inr h⟩)
      repeat (first | (apply wpC_seq_k; intro K hK))
      refine wpC_draw 30 [] (fun _ _ => True) ⟨by kernel_rfl, by kernel_rfl⟩ hS (fun w hS hB => ?_)
      refine wpR_batch [true, true, true, true, true, true, true, true, true, true, true, true, true, true, true, true, true, true, true, true, true, true, true, true, true, true, true, true, true] (by decide +kernel) (by repeat (first | exact PF.body | apply PF.then)) ?_
      repeat (first | refine LtK.put rfl rfl rfl (by first | exact yv_move rfl | exact yv_fieldAddr (by first | exact fo_23_0 | exact fo_26_2 | exact fo_26_3) rfl | (apply yv_g_load; first | exact yv_load_box (by first | exact sc_1 | exact sc_3) rfl (RW.below _) hS (by repeat (first | exact Has.head | apply Has.tail)) (by first | trivial) (by repeat (first | exact Seg.here (Pre.succ Pre.zero) | apply Seg.succ)) | exact yv_load_ob (by first | exact sc_1 | exact sc_3) rfl (RW.below _) hS (by first | trivial) (by first | trivial) (by assumption) (by repeat (first | exact Seg.here (Pre.succ Pre.zero)))) | (apply yv_g_bin; first | exact yv_gtr_f rfl rfl (by omega) | exact yv_eql_t rfl rfl (by omega) | exact yv_eql_f rfl rfl (by omega)) | (apply yv_g_pick; first | exact yv_pick_t rfl rfl rfl | exact yv_pick_f rfl rfl rfl) | exact yv_nilCheck rfl) ?_)
      refine LtK.nil ?_
      refine wpR_call [false, false, false, false, false, false, false, false, false, false, false, false, false, false, false, false, false, false, false, false, false, false, false, false, false, false, false, false, false, true] 29 ⟨by decide, by kernel_rfl, by kernel_rfl⟩ rfl rfl ?_
      dsimp only [pickL]
      repeat (first | (apply wpS_g_call; first | (refine wpS_callPanic rfl rfl (by kernel_rfl) rfl (must_f _) ?_; rintro e w2 ⟨rfl, hB2⟩; refine ⟨_, rfl, ?_⟩)) | apply QH_then_panic)
      exact QH_panic rfl ⟨(hS.below hB2).base, .inr ⟨rfl, rfl, TB.eight (x := x) (A := A') (c := c') ((hS.below hB2).ok (.box bo [.int .i64 x.snap.index, .int .i64 x.snap.term, .int .i64 x.snap.sum, .int .i64 x.snap.level, .bool x.snap.final, .slice A' x.log.length c', .int .i64 x.term, .int .i64 x.vote] 26) (Has.mem (by repeat (first | exact Has.head))))⟩⟩
    · repeat (first | (apply wpC_seq_k; intro K hK))
      refine wpC_draw 30 [] (fun _ _ => True) ⟨by kernel_rfl, by kernel_rfl⟩ hS (fun w hS hB => ?_)
      refine wpR_batch [true, true, true, true, true, true, true, true, true, true, true, true, true, true, true, true, true, true, true, true, true, true, true, true, true, true, true, true, true] (by decide +kernel) (by repeat (first | exact PF.body | apply PF.then)) ?_
      repeat (first | refine LtK.put rfl rfl rfl (by first | exact yv_move rfl | exact yv_fieldAddr (by first | exact fo_23_0 | exact fo_26_2 | exact fo_26_3) rfl | (apply yv_g_load; first | exact yv_load_box (by first | exact sc_1 | exact sc_3) rfl (RW.below _) hS (by repeat (first | exact Has.head | apply Has.tail)) (by first | trivial) (by repeat (first | exact Seg.here (Pre.succ Pre.zero) | apply Seg.succ)) | exact yv_load_ob (by first | exact sc_1 | exact sc_3) rfl (RW.below _) hS (by first | trivial) (by first | trivial) (by assumption) (by repeat (first | exact Seg.here (Pre.succ Pre.zero)))) | (apply yv_g_bin; first | exact yv_gtr_f rfl rfl (by omega) | exact yv_eql_f rfl rfl (by omega)) | (apply yv_g_pick; first | exact yv_pick_f rfl rfl rfl) | exact yv_nilCheck rfl) ?_ | refine LtK.skip rfl rfl rfl ?_)
      refine LtK.nil ?_
      refine wpR_call [false, false, false, false, false, false, false, false, false, false, false, false, false, false, false, false, false, false, false, false, false, false, false, false, false, false, false, false, false, true] 29 ⟨by decide, by kernel_rfl, by kernel_rfl⟩ rfl rfl ?_
      dsimp only [pickL]
      repeat (first | (apply wpS_g_call; first | (refine wpS_callPanic rfl rfl (by kernel_rfl) rfl (must_f _) ?_; rintro e w2 ⟨rfl, hB2⟩; refine ⟨_, rfl, ?_⟩)) | apply QH_then_panic)
      exact QH_panic rfl ⟨(hS.below hB2).base, .inr ⟨rfl, rfl, TB.eight (x := x) (A := A') (c := c') ((hS.below hB2).ok (.box bo [.int .i64 x.snap.index, .int .i64 x.snap.term, .int .i64 x.snap.sum, .int .i64 x.snap.level, .bool x.snap.final, .slice A' x.log.length c', .int .i64 x.term, .int .i64 x.vote] 26) (Has.mem (by repeat (first | exact Has.head))))⟩⟩
theorem hardR_index (x : Tu) (t v : Int) (y : Tu) (h : hardR x t v = some y) : y.snap = x.snap := by
  unfold hardR at h
  split at h
  · injection h with h; subst h; rfl
  · cases h
theorem hard_any (x : Tu) (A : Option Addr) (c : Nat) (t v : Int) (w0 : World) (hx : LI w0 A x.log.length c x.log) (hA : ∀ a, A = some a → a.block < w0.heap.size) :
    Calls Try.prog 26 #[.agg #[.int .i64 x.snap.index, .int .i64 x.snap.term, .int .i64 x.snap.sum, .int .i64 x.snap.level, .bool x.snap.final, .slice A x.log.length c, .int .i64 x.term, .int .i64 x.vote], .int .i64 t, .int .i64 v] w0 (Chg w0 x (hardR x t v)) := by
  refine gw_enter3 Try.func26 rfl Try.ntmps26 rfl ?_
  have hS := St0.start All w0
  repeat (first | (apply wpC_seq_k; intro K hK) | apply wpC_region)
  first | (apply wpS_g_box; refine wpS_box rfl rfl rfl (by first | exact CellsOf.agg) hS (fun bt w hS hB => ?_))
  first | (apply wpS_g_box; refine wpS_box rfl rfl rfl (by first | exact CellsOf.int) hS (fun bf w hS hB => ?_))
  first | (apply wpS_g_box; refine wpS_box rfl rfl rfl (by first | exact CellsOf.int) hS (fun bg w hS hB => ?_))
  repeat (first | apply wpS_nil | (apply QH_seq_k; assumption) | (apply wpC_seq_k; intro K hK) | apply wpC_region | (apply wpS_g_alloc; refine wpS_alloc rfl rfl (by first | exact zc_26) hS (fun b w hS hB => ?_)) | (apply wpS_g; refine wpS_put rfl rfl rfl (by first | exact yv_assign rfl | (apply yv_g_load; first | exact yv_load_boxA (by first | exact ag_26) rfl (RW.here _) hS (by repeat (first | exact Has.head | apply Has.tail)) (by first | trivial) (by repeat (first | exact Seg.here (by repeat (first | exact Pre.zero | apply Pre.succ))))) | exact yv_makeFunc rfl rfl) ?_))
  have hbf := (hS.box_ge (b := bf) (by repeat (first | exact Has.head | apply Has.tail)))
  have hbg := (hS.box_ge (b := bg) (by repeat (first | exact Has.head | apply Has.tail)))
  refine wpS_call rfl rfl rfl rfl (by kernel_rfl) rfl (changed_any x (hardR x t v) A c 53 #[.pointer (some ⟨bf, 0, none⟩), .pointer (some ⟨bg, 0, none⟩)] _ (by kernel_rfl) (hx.below hS.pure) (fun a ha => Nat.lt_of_lt_of_le (hA a ha) hS.size)
    (fun hT => hard1_does bf bg t v _ hbf.2.2 hbg.2.2 x hT)) ?_
  rintro e w1 ⟨A2, c2, ⟨rfl, hs⟩, hB⟩
  refine ⟨_, rfl, ?_⟩
  replace hS := hS.slice hs hB
  repeat (first | apply wpS_nil | (apply QH_seq_k; assumption) | (apply wpS_g_store; refine wpS_store rfl rfl rfl (by first | exact CellsOf.agg) hS (by repeat (first | exact Pos.head | apply Pos.tail)) (by repeat (first | exact SetC.here (by repeat (first | exact Ovr.nil | apply Ovr.cons)))) (by kernel_rfl) rfl (fun w hS hB => ?_)) | (apply wpS_g; refine wpS_put rfl rfl rfl (by first | exact yv_assign rfl | exact yv_extract rfl rfl) ?_) | apply wpC_ret)
  refine QH_ret rfl (by first | exact RV.cell rfl (load_boxA (by first | exact ag_26) hS (by repeat (first | exact Has.head | apply Has.tail)) (by repeat (first | exact Seg.here (by repeat (first | exact Pre.zero | apply Pre.succ))))) (RV.tmp rfl RV.nil)) rfl ?_
  exact ⟨A2, c2, ⟨rfl, hS.giveS (by repeat (first | exact Has.head)) hs.len hs.le hs.cap⟩, hS.pure⟩

end Go.Proofs.Ythngkojbokknfaa
/- The walks of tuples: State, First. -/
namespace Go.Proofs.Ythngkojbokknfaa
open Go Go.RowKit
set_option maxRecDepth 10000

theorem next_p (s : St) (e : En) (w : World) : PureC Try.prog 40 #[.agg #[.int .i64 s.index, .int .i64 s.term, .int .i64 s.sum, .int .i64 s.level, .bool s.final], .agg #[.int .i64 e.term, .int .i64 e.kind, .int .i64 e.value]] w (.agg #[.int .i64 (nextS s e).index, .int .i64 (nextS s e).term, .int .i64 (nextS s e).sum, .int .i64 (nextS s e).level, .bool (nextS s e).final]) := ⟨next_any s e w⟩
theorem fineR_b (s : St) (w : World) (b : Bool) (h : fineB s = b) : PureC Try.prog 19 #[.agg #[.int .i64 s.index, .int .i64 s.term, .int .i64 s.sum, .int .i64 s.level, .bool s.final]] w (.bool b) := ⟨by subst h; exact fineR_any s w⟩
theorem rightR_b (e : En) (w : World) (b : Bool) (h : rightB e = b) : PureC Try.prog 38 #[.agg #[.int .i64 e.term, .int .i64 e.kind, .int .i64 e.value]] w (.bool b) := ⟨by subst h; exact rightR_any e w⟩
theorem firstE_p (w : World) : PureC Try.prog 58 #[] w (.agg #[.int .i64 0, .int .i64 0, .int .i64 0, .int .i64 1, .bool false]) := ⟨firstE_any w⟩
theorem firstR_p (w : World) : PureC Try.prog 49 #[] w (.agg #[.int .i64 0, .int .i64 0, .int .i64 0, .int .i64 1, .bool false]) := ⟨firstR_any w⟩

theorem built_first : Try.prog.built 26 [(0, .agg #[.int .i64 0, .int .i64 0, .int .i64 0, .int .i64 1, .bool false])] = some #[.int .i64 0, .int .i64 0, .int .i64 0, .int .i64 1, .bool false, .slice none 0 0, .int .i64 0, .int .i64 0] := by kernel_rfl
theorem first_any (w : World) : PureC Try.prog 34 #[] w (.agg #[.int .i64 0, .int .i64 0, .int .i64 0, .int .i64 1, .bool false, .slice none 0 0, .int .i64 0, .int .i64 0]) := by
  refine PureC.mk ?_
  refine gw_enter0 Try.func34 rfl Try.ntmps34 rfl ?_
  have hS := St0.start All w
  repeat (first | apply wpS_nil | (apply QH_seq_k; assumption) | (apply wpC_seq_k; intro K hK) | apply wpC_region | (apply wpS_g_store; refine wpS_store rfl rfl rfl (by first | exact CellsOf.agg) hS (by repeat (first | exact Pos.head)) (by repeat (first | exact SetC.here (by repeat (first | exact Ovr.nil | apply Ovr.cons)))) (by kernel_rfl) rfl (fun w hS hB => ?_)) | (apply wpS_g_call; first | refine wpS_callP rfl rfl rfl (by kernel_rfl) rfl (firstE_p _) hS (fun w hS hB => ?_)) | (apply wpS_g_alloc; refine wpS_alloc rfl rfl (by first | exact zc_26) hS (fun b w hS hB => ?_)) | (apply wpS_g; refine wpS_put rfl rfl rfl (by first | exact yv_build rfl built_first) ?_) | apply wpC_ret)
  refine QH_ret rfl (by first | exact RV.cell rfl (load_boxA (by first | exact ag_26) hS (by repeat (first | exact Has.head)) (by repeat (first | exact Seg.here (by repeat (first | exact Pre.zero | apply Pre.succ))))) RV.nil) rfl ?_
  exact ⟨rfl, hS.pure⟩

/-- Where State's loop is. -/
structure SX where
  bt : Nat
  bs : Nat
  A : Option Addr
  c : Nat
  j : Nat
  n : Nat
theorem state_yes (x : Tu) (A : Option Addr) (c : Nat) (k : Nat) (w0 : World) (h : -2000000000000 ≤ x.snap.index ∧ x.snap.index ≤ 2000000000000) (hl : LI w0 A x.log.length c x.log) (i : Int) (hi : i = x.snap.index + k) (hk : k ≤ x.log.length) :
    PureC Try.prog 12 #[.agg #[.int .i64 x.snap.index, .int .i64 x.snap.term, .int .i64 x.snap.sum, .int .i64 x.snap.level, .bool x.snap.final, .slice A x.log.length c, .int .i64 x.term, .int .i64 x.vote], .int .i64 i] w0 (.tuple #[.agg #[.int .i64 (allS x.snap (x.log.take k)).index, .int .i64 (allS x.snap (x.log.take k)).term, .int .i64 (allS x.snap (x.log.take k)).sum, .int .i64 (allS x.snap (x.log.take k)).level, .bool (allS x.snap (x.log.take k)).final], .bool true]) := by
  refine PureC.mk ?_
  have hsm := hl.small
  have hle := hl.le
  have hcp := hl.cap
  have hkl : (x.log.take k).length = k := by rw [List.length_take]; omega
  have hrd : Rd w0 A (ens (x.log.take k)) := by
    have := hl.rd.take (3 * k)
    have e2 : (ens x.log).take (3 * k) = ens (x.log.take k) := by
      have := ens_app (x.log.take k) (x.log.drop k)
      rw [List.take_append_drop] at this
      rw [this, List.take_left' (by rw [ens_length, hkl])]
    rwa [e2] at this
  refine gw_enter2 Try.func12 rfl Try.ntmps12 rfl ?_
  have hS := St0.start All w0
  repeat (first | (apply wpC_seq_k; intro K hK) | apply wpC_region)
  first | (apply wpS_g_box; refine wpS_box rfl rfl rfl (by first | exact CellsOf.agg) hS (fun bt w hS hB => ?_))
  first | (apply wpS_g_alloc; refine wpS_alloc rfl rfl (by first | exact zc_23) hS (fun bs w hS hB => ?_))
  repeat (first | apply wpS_nil | (apply QH_seq_k; assumption) | (apply wpS_g; refine wpS_put rfl rfl rfl (by first | exact yv_assign rfl) ?_))
  refine wpC_scope 0 (fun y : SX => [(6, .slice y.A y.n y.c), (5, .bool false), (4, .pointer (some ⟨y.bs, 0, none⟩)), (2, .pointer (some ⟨y.bt, 0, none⟩)), (1, .int .i64 i)])
    (fun y w => y.j + y.n = k ∧ y.n ≤ y.c ∧ y.c ≤ maxLen ∧ Rd w0 y.A (ens ((x.log.take k).drop y.j)) ∧ St0 All w0 w [.box y.bs [.int .i64 (allS x.snap (x.log.take y.j)).index, .int .i64 (allS x.snap (x.log.take y.j)).term, .int .i64 (allS x.snap (x.log.take y.j)).sum, .int .i64 (allS x.snap (x.log.take y.j)).level, .bool (allS x.snap (x.log.take y.j)).final] 23, .box y.bt [.int .i64 x.snap.index, .int .i64 x.snap.term, .int .i64 x.snap.sum, .int .i64 x.snap.level, .bool x.snap.final, .slice A x.log.length c, .int .i64 x.term, .int .i64 x.vote] 26])
    (fun y => y.n) rfl ?_ ?_
  · rintro ⟨bt, bs, Aj, cj, j, n⟩ w ⟨hj, hcj, hcm, hrj, hS⟩
    dsimp only at hj hcj hcm hrj hS ⊢
    rcases Nat.eq_zero_or_pos n with rfl | hn
    · obtain rfl : j = k := by omega
      repeat (first | apply wpS_nil | (apply QH_seq_k; assumption) | (apply wpC_seq_k; intro K hK) | apply wpC_region | (apply wpS_g_store; refine wpS_store rfl rfl rfl (by first | exact CellsOf.agg) hS (by repeat (first | exact Pos.head)) (by repeat (first | exact SetC.here (by repeat (first | exact Ovr.nil | apply Ovr.cons)))) (by kernel_rfl) rfl (fun w hS hB => ?_)) | (apply wpS_g; refine wpS_put rfl rfl rfl (by first | exact yv_move rfl | exact yv_assign rfl | (apply yv_g_load; first | exact yv_load_boxA (by first | exact ag_23) rfl (RW.here _) hS (by repeat (first | exact Has.head)) (by first | trivial) (by repeat (first | exact Seg.here (by repeat (first | exact Pre.zero | apply Pre.succ))))) | (apply yv_g_bin; first | exact yv_gtr_f rfl rfl (by omega)) | (apply yv_g_bi; first | exact yv_len (by first | exact el_24) rfl)) ?_) | apply wpC_cond_f rfl rfl | apply wpC_skip | apply wpC_ret | apply QH_jmp_ret)
      refine QH_ret rfl (by first | exact RV.cell rfl (load_boxA (by first | exact ag_23) hS (by repeat (first | exact Has.head)) (by repeat (first | exact Seg.here (by repeat (first | exact Pre.zero | apply Pre.succ))))) (RV.tmp rfl RV.nil)) rfl ?_
      exact ⟨rfl, hS.pure⟩
    · obtain ⟨e, he⟩ : ∃ e, ((x.log.take k).drop j)[0]? = some e := ⟨_, List.getElem?_eq_getElem (by rw [List.length_drop]; omega)⟩
      obtain ⟨b1, o1, hA1, hb1, hr1⟩ := hrj.entR he
      subst hA1
      have htk : x.log.take (j + 1) = x.log.take j ++ [e] := by
        rw [List.getElem?_drop, List.getElem?_take] at he
        split at he
        · rw [List.take_add_one]; rw [show x.log[j]? = some e from by simpa using he]; rfl
        · cases he
      repeat (first | (apply QH_seq_k; assumption) | (apply wpC_seq_k; intro K hK) | apply wpC_skip)
      apply wpC_region
      repeat (first | apply wpS_nil | (apply QH_seq_k; assumption) | (apply wpC_seq_k; intro K hK) | (apply wpS_g; refine wpS_put rfl rfl rfl (by first | exact yv_move rfl | (apply yv_g_bin; first | exact yv_gtr_t rfl rfl (by omega)) | (apply yv_g_bi; first | exact yv_len (by first | exact el_24) rfl)) ?_) | apply wpC_cond_t rfl rfl)
      refine wpC_draw 9 [7] (fun i b => (i = 7 → b ≠ bs)) ⟨by kernel_rfl, by kernel_rfl⟩ hS (fun w hS hB => ?_)
      refine wpR_batch [true, true, true, true] (by decide +kernel) (by repeat (first | exact PF.body | apply PF.then | apply PF.jump)) ?_
      repeat (first | refine LtK.put rfl rfl rfl (by first | exact yv_indexAddr (j := 0) (by first | exact el_24) rfl rfl rfl (by omega) | exact yv_move rfl | (apply yv_g_load; first | exact yv_load_boxA (by first | exact ag_23 | exact ag_50) rfl (RW.below _) hS (by repeat (first | exact Has.head | apply Has.tail)) (by first | trivial) (by repeat (first | exact Seg.here (by repeat (first | exact Pre.zero | apply Pre.succ)))) | exact yv_loadA_old (by first | exact ag_23 | exact ag_50) rfl (RW.below _) hS (by first | trivial) (by first | trivial) (by assumption) (by rfl))) ?_)
      refine LtK.nil ?_
      refine wpR_batchG [false, false, false, false, false, true, true] [7] (fun b => b ≠ bs) (by decide +kernel) (by intro j hj b hb; simp only [List.mem_cons, List.not_mem_nil, or_false] at hj; (try rcases hj with rfl | rfl) <;> simp_all) (by repeat (first | exact PF.body | apply PF.then | apply PF.jump)) ?_
      repeat (first | refine LtK.put rfl rfl rfl (by first | exact yv_slice_l (l := 1) (by first | exact el_24) rfl rfl rfl (by omega) | exact yv_move rfl) ?_)
      refine LtK.nil ?_
      refine wpR_call [false, false, false, false, true] 4 ⟨by decide, by kernel_rfl, by kernel_rfl⟩ rfl rfl ?_
      dsimp only [pickL]
      repeat (first | apply wpS_nil | (apply wpS_g_call; first | refine wpS_callP rfl rfl rfl (by kernel_rfl) rfl (next_p _ _ _) hS (fun w hS hB => ?_)))
      refine QH_step (by first | assumption) ?_
      refine wpR_seal [false, false, false, false, false, false, false, true] 7 ⟨by decide, by kernel_rfl, by kernel_rfl⟩ rfl rfl ?_
      dsimp only [pickL]
      repeat (first | apply wpS_nil | (apply wpS_g_store; refine wpS_store rfl rfl rfl (by first | exact CellsOf.agg) hS (by repeat (first | exact Pos.head)) (by repeat (first | exact SetC.here (by repeat (first | exact Ovr.nil | apply Ovr.cons)))) (by kernel_rfl) rfl (fun w hS hB => ?_)))
      refine QH_stepG (by first | exact hB.sub (fun _ _ h => by simpa using h)) ?_
      refine wpR_batch [false, false, false, false, false, false, false, false, true] (by decide +kernel) (by repeat (first | exact PF.body | apply PF.then | apply PF.jump)) ?_
      repeat (first | refine LtK.put rfl rfl rfl (by first | exact yv_assign rfl) ?_)
      refine LtK.nil ?_
      refine wpR_end (by kernel_rfl) ?_
      repeat (first | (apply QH_seq_k; assumption) | apply wpC_goto | apply QH_then_goto)
      refine QH_jump ⟨bt, bs, _, _, j + 1, n - 1⟩ (by repeat (first | exact Sub.nil | refine Sub.cons rfl ?_)) ⟨by dsimp only; omega, by dsimp only; omega, by dsimp only; omega, ?_, ?_⟩ (by dsimp only; omega)
      · dsimp only
        have h3 := hrj.cutE (k := 1) (c := cj) (by rw [List.length_drop, hkl]; omega)
        rwa [List.drop_drop] at h3
      · dsimp only
        rw [htk, allS_snoc]
        exact hS
  · intro hpass
    repeat (first | apply wpS_nil | (apply QH_seq_k; assumption) | (apply wpC_seq_k; intro K hK) | apply wpC_region | (apply wpS_g_store; refine wpS_store rfl rfl rfl (by first | exact CellsOf.agg) hS (by repeat (first | exact Pos.head)) (by repeat (first | exact SetC.here (by repeat (first | exact Ovr.nil | apply Ovr.cons)))) (by kernel_rfl) rfl (fun w hS hB => ?_)) | (apply wpS_g_call; first | refine wpS_callP rfl rfl rfl (by kernel_rfl) rfl (last_any _ _ _ _ _ _ _ (by omega) (by omega)) hS (fun w hS hB => ?_)) | (apply wpS_g; refine wpS_put rfl rfl rfl (by first | exact yv_slice_h (h := k) (by first | exact el_24) rfl rfl (by omega) (by omega) | exact yv_move rfl | exact yv_assign rfl | exact yv_fieldAddr (by first | exact fo_23_0 | exact fo_26_0 | exact fo_26_1) rfl | (apply yv_g_load; first | exact yv_load_box (by first | exact sc_3 | exact sc_24) rfl (RW.here _) hS (by repeat (first | exact Has.head | apply Has.tail)) (by first | trivial) (by repeat (first | exact Seg.here (Pre.succ Pre.zero) | apply Seg.succ)) | exact yv_load_boxA (by first | exact ag_23 | exact ag_26) rfl (RW.here _) hS (by repeat (first | exact Has.head | apply Has.tail)) (by first | trivial) (by repeat (first | exact Seg.here (by repeat (first | exact Pre.zero | apply Pre.succ))))) | (apply yv_g_bin; first | exact yv_lss_f rfl rfl (by omega) | exact yv_gtr_f rfl rfl (by omega) | exact yv_sub rfl rfl (by omega)) | (apply yv_g_pick; first | exact yv_pick_f rfl rfl rfl)) ?_) | apply wpC_cond_f rfl rfl | apply wpC_skip)
    apply wpC_label
    apply QH_seq_k
    assumption
    rcases Nat.eq_zero_or_pos k with hk0 | hn
    · repeat (first | apply wpS_nil | (apply QH_seq_k; assumption) | (apply wpC_seq_k; intro K hK) | apply wpC_region | (apply wpS_g_store; refine wpS_store rfl rfl rfl (by first | exact CellsOf.agg) hS (by repeat (first | exact Pos.head)) (by repeat (first | exact SetC.here (by repeat (first | exact Ovr.nil | apply Ovr.cons)))) (by kernel_rfl) rfl (fun w hS hB => ?_)) | (apply wpS_g; refine wpS_put rfl rfl rfl (by first | exact yv_move rfl | exact yv_assign rfl | (apply yv_g_load; first | exact yv_load_boxA (by first | exact ag_23) rfl (RW.here _) hS (by repeat (first | exact Has.head)) (by first | trivial) (by repeat (first | exact Seg.here (by repeat (first | exact Pre.zero | apply Pre.succ))))) | (apply yv_g_bin; first | exact yv_gtr_f rfl rfl (by omega)) | (apply yv_g_bi; first | exact yv_len (by first | exact el_24) rfl)) ?_) | apply wpC_cond_f rfl rfl | apply wpC_skip | apply wpC_ret | apply QH_jmp_ret)
      refine QH_ret rfl (by first | exact RV.cell rfl (load_boxA (by first | exact ag_23) hS (by repeat (first | exact Has.head)) (by repeat (first | exact Seg.here (by repeat (first | exact Pre.zero | apply Pre.succ))))) (RV.tmp rfl RV.nil)) rfl ?_
      subst hk0
      exact ⟨rfl, hS.pure⟩
    · obtain ⟨e, he⟩ : ∃ e, (x.log.take k)[0]? = some e := ⟨_, List.getElem?_eq_getElem (by omega)⟩
      obtain ⟨b1, o1, hA1, hb1, hr1⟩ := hrd.entR he
      subst hA1
      have htk : x.log.take 1 = [e] := by
        rw [List.getElem?_take, if_pos hn] at he
        rw [List.take_add_one, he]; rfl
      repeat (first | (apply wpC_seq_k; intro K hK))
      apply wpC_region
      repeat (first | apply wpS_nil | (apply QH_seq_k; assumption) | (apply wpC_seq_k; intro K hK) | (apply wpS_g; refine wpS_put rfl rfl rfl (by first | exact yv_move rfl | (apply yv_g_bin; first | exact yv_gtr_t rfl rfl (by omega)) | (apply yv_g_bi; first | exact yv_len (by first | exact el_24) rfl)) ?_) | apply wpC_cond_t rfl rfl)
      refine wpC_draw 9 [7] (fun i b => (i = 7 → b ≠ bs)) ⟨by kernel_rfl, by kernel_rfl⟩ hS (fun w hS hB => ?_)
      refine wpR_batch [true, true, true, true] (by decide +kernel) (by repeat (first | exact PF.body | apply PF.then | apply PF.jump)) ?_
      repeat (first | refine LtK.put rfl rfl rfl (by first | exact yv_indexAddr (j := 0) (by first | exact el_24) rfl rfl rfl (by omega) | exact yv_move rfl | (apply yv_g_load; first | exact yv_load_boxA (by first | exact ag_23 | exact ag_50) rfl (RW.below _) hS (by repeat (first | exact Has.head | apply Has.tail)) (by first | trivial) (by repeat (first | exact Seg.here (by repeat (first | exact Pre.zero | apply Pre.succ)))) | exact yv_loadA_old (by first | exact ag_23 | exact ag_50) rfl (RW.below _) hS (by first | trivial) (by first | trivial) (by assumption) (by rfl))) ?_)
      refine LtK.nil ?_
      refine wpR_batchG [false, false, false, false, false, true, true] [7] (fun b => b ≠ bs) (by decide +kernel) (by intro j hj b hb; simp only [List.mem_cons, List.not_mem_nil, or_false] at hj; (try rcases hj with rfl | rfl) <;> simp_all) (by repeat (first | exact PF.body | apply PF.then | apply PF.jump)) ?_
      repeat (first | refine LtK.put rfl rfl rfl (by first | exact yv_slice_l (l := 1) (by first | exact el_24) rfl rfl rfl (by omega) | exact yv_move rfl) ?_)
      refine LtK.nil ?_
      refine wpR_call [false, false, false, false, true] 4 ⟨by decide, by kernel_rfl, by kernel_rfl⟩ rfl rfl ?_
      dsimp only [pickL]
      repeat (first | apply wpS_nil | (apply wpS_g_call; first | refine wpS_callP rfl rfl rfl (by kernel_rfl) rfl (next_p _ _ _) hS (fun w hS hB => ?_)))
      refine QH_step (by first | assumption) ?_
      refine wpR_seal [false, false, false, false, false, false, false, true] 7 ⟨by decide, by kernel_rfl, by kernel_rfl⟩ rfl rfl ?_
      dsimp only [pickL]
      repeat (first | apply wpS_nil | (apply wpS_g_store; refine wpS_store rfl rfl rfl (by first | exact CellsOf.agg) hS (by repeat (first | exact Pos.head)) (by repeat (first | exact SetC.here (by repeat (first | exact Ovr.nil | apply Ovr.cons)))) (by kernel_rfl) rfl (fun w hS hB => ?_)))
      refine QH_stepG (by first | exact hB.sub (fun _ _ h => by simpa using h)) ?_
      refine wpR_batch [false, false, false, false, false, false, false, false, true] (by decide +kernel) (by repeat (first | exact PF.body | apply PF.then | apply PF.jump)) ?_
      repeat (first | refine LtK.put rfl rfl rfl (by first | exact yv_assign rfl) ?_)
      refine LtK.nil ?_
      refine wpR_end (by kernel_rfl) ?_
      repeat (first | (apply QH_seq_k; assumption) | apply wpC_goto | apply QH_then_goto)
      refine QH_jump0 ⟨bt, bs, _, _, 1, k - 1⟩ (by repeat (first | exact Sub.nil | refine Sub.cons rfl ?_)) ⟨by dsimp only; omega, by dsimp only; omega, by dsimp only; omega, ?_, ?_⟩
      · dsimp only
        exact hrd.cutE (k := 1) (c := c) (by omega)
      · dsimp only
        rw [htk]
        exact hS
theorem state_no (x : Tu) (A : Option Addr) (c : Nat) (w0 : World) (h : -2000000000000 ≤ x.snap.index ∧ x.snap.index ≤ 2000000000000) (hsm : x.log.length ≤ 1000000) (i : Int) (hi : i < x.snap.index ∨ x.snap.index + x.log.length < i) :
    PureC Try.prog 12 #[.agg #[.int .i64 x.snap.index, .int .i64 x.snap.term, .int .i64 x.snap.sum, .int .i64 x.snap.level, .bool x.snap.final, .slice A x.log.length c, .int .i64 x.term, .int .i64 x.vote], .int .i64 i] w0 (.tuple #[.agg #[.int .i64 0, .int .i64 0, .int .i64 0, .int .i64 0, .bool false], .bool false]) := by
  refine PureC.mk ?_
  refine gw_enter2 Try.func12 rfl Try.ntmps12 rfl ?_
  have hS := St0.start All w0
  repeat (first | apply wpS_nil | (apply QH_seq_k; assumption) | (apply wpC_seq_k; intro K hK) | apply wpC_region | (apply wpS_g_box; refine wpS_box rfl rfl rfl (by first | exact CellsOf.agg) hS (fun b w hS hB => ?_)) | (apply wpS_g_alloc; refine wpS_alloc rfl rfl (by first | exact zc_23) hS (fun b w hS hB => ?_)) | (apply wpS_g; refine wpS_put rfl rfl rfl (by first | exact yv_assign rfl) ?_))
  refine wpC_scope 0 (X := Unit) (fun _ => []) (fun _ _ => False) (fun _ => 0) rfl (fun _ _ h => h.elim) ?_
  intro hpass
  by_cases h1 : i < x.snap.index
  · repeat (first | apply wpS_nil | (apply QH_seq_k; assumption) | (apply wpC_seq_k; intro K hK) | apply wpC_region | (apply wpS_g; refine wpS_skip rfl rfl rfl ?_) | (apply wpS_g_store; refine wpS_store rfl rfl rfl (by first | exact CellsOf.agg) hS (by repeat (first | exact Pos.head)) (by repeat (first | exact SetC.here (by repeat (first | exact Ovr.nil | apply Ovr.cons)))) (by kernel_rfl) rfl (fun w hS hB => ?_)) | (apply wpS_g; refine wpS_put rfl rfl rfl (by first | exact yv_move rfl | exact yv_assign rfl | exact yv_fieldAddr (by first | exact fo_23_0 | exact fo_26_0) rfl | (apply yv_g_load; first | exact yv_load_box (by first | exact sc_3) rfl (RW.here _) hS (by repeat (first | exact Has.head | apply Has.tail)) (by first | trivial) (by repeat (first | exact Seg.here (Pre.succ Pre.zero))) | exact yv_load_boxA (by first | exact ag_23) rfl (RW.here _) hS (by repeat (first | exact Has.head)) (by first | trivial) (by repeat (first | exact Seg.here (by repeat (first | exact Pre.zero | apply Pre.succ))))) | (apply yv_g_bin; first | exact yv_lss_t rfl rfl (by omega)) | (apply yv_g_pick; first | exact yv_pick_t rfl rfl rfl)) ?_) | apply wpC_cond_t rfl rfl | apply wpC_ret | apply QH_then_ret | apply QH_jmp_ret)
    refine QH_ret rfl (by first | exact RV.cell rfl (load_boxA (by first | exact ag_23) hS (by repeat (first | exact Has.head)) (by repeat (first | exact Seg.here (by repeat (first | exact Pre.zero | apply Pre.succ))))) (RV.tmp rfl RV.nil)) rfl ?_
    exact ⟨rfl, hS.pure⟩
  · have h2 : x.snap.index + x.log.length < i := by omega
    repeat (first | apply wpS_nil | (apply QH_seq_k; assumption) | (apply wpC_seq_k; intro K hK) | apply wpC_region | (apply wpS_g_store; refine wpS_store rfl rfl rfl (by first | exact CellsOf.agg) hS (by repeat (first | exact Pos.head)) (by repeat (first | exact SetC.here (by repeat (first | exact Ovr.nil | apply Ovr.cons)))) (by kernel_rfl) rfl (fun w hS hB => ?_)) | (apply wpS_g_call; first | refine wpS_callP rfl rfl rfl (by kernel_rfl) rfl (last_any _ _ _ _ _ _ _ (by omega) (by omega)) hS (fun w hS hB => ?_)) | (apply wpS_g; refine wpS_put rfl rfl rfl (by first | exact yv_move rfl | exact yv_assign rfl | exact yv_fieldAddr (by first | exact fo_23_0 | exact fo_26_0) rfl | (apply yv_g_load; first | exact yv_load_box (by first | exact sc_3) rfl (RW.here _) hS (by repeat (first | exact Has.head | apply Has.tail)) (by first | trivial) (by repeat (first | exact Seg.here (Pre.succ Pre.zero))) | exact yv_load_boxA (by first | exact ag_23 | exact ag_26) rfl (RW.here _) hS (by repeat (first | exact Has.head | apply Has.tail)) (by first | trivial) (by repeat (first | exact Seg.here (by repeat (first | exact Pre.zero | apply Pre.succ))))) | (apply yv_g_bin; first | exact yv_lss_f rfl rfl (by omega) | exact yv_gtr_t rfl rfl (by omega)) | (apply yv_g_pick; first | exact yv_pick_f rfl rfl rfl)) ?_) | apply wpC_cond_t rfl rfl | apply wpC_ret | apply QH_then_ret | apply QH_jmp_ret)
    refine QH_ret rfl (by first | exact RV.cell rfl (load_boxA (by first | exact ag_23) hS (by repeat (first | exact Has.head)) (by repeat (first | exact Seg.here (by repeat (first | exact Pre.zero | apply Pre.succ))))) (RV.tmp rfl RV.nil)) rfl ?_
    exact ⟨rfl, hS.pure⟩
end Go.Proofs.Ythngkojbokknfaa
/- Sums of data, as plain numbers. -/
namespace Go.Proofs.Ythngkojbokknfaa
open Go Go.RowKit

theorem FineP.bounds {s : St} (h : FineP s) : 0 ≤ s.index ∧ s.index ≤ 1073741824 ∧ 0 ≤ s.sum ∧ s.sum ≤ 1073741824 := by
  rcases h with rfl | h
  · simp [firstS]
  · omega
theorem next_data (s : St) (hf : FineP s) (hi : s.index < 1073741824) (v : Int) (h0 : 0 ≤ v) (h1 : v ≤ 1073741824) : nextS s ⟨1, 1, v⟩ = ⟨s.index + 1, 1, (31 * s.sum + v + 1) % 1073741824, s.level, s.final⟩ := by
  unfold nextS
  rw [if_pos ⟨by simp [rightB, h0, h1], (fineB_iff s).2 hf, hi⟩]
  rfl
def SumInv (l : List Int) (q : Nat) (value : Int) (s : St) (k : Nat) (a b : St) : Prop :=
  FineP a ∧ FineP b ∧ a.index = s.index + k ∧ b.index = s.index + k ∧ (k ≤ q → a = b) ∧
    (q < k → a.sum < 1073741824 ∧ b.sum < 1073741824 ∧ ∃ x, l[q]? = some x ∧ 0 ≤ x ∧ x ≤ 999 ∧
      ((k = q + 1 ∧ (a.sum - b.sum - (x - value)) % 1073741824 = 0) ∨ (k = q + 2 ∧ (a.sum - b.sum - 31 * (x - value)) % 1073741824 = 0) ∨ (k = q + 3 ∧ (a.sum - b.sum - 961 * (x - value)) % 1073741824 = 0)))
theorem SumInv.start (l : List Int) (q : Nat) (value : Int) (s : St) (h : FineP s) : SumInv l q value s 0 s s := ⟨h, h, by simp, by simp, fun _ => rfl, fun h => by omega⟩
theorem SumInv.step {l : List Int} {q : Nat} {value : Int} {s : St} {k : Nat} {a b : St} (h : SumInv l q value s k a b) (hs : s.index ≤ 1073741624) (hk : k < 3) (v : Int) (hv : l[k]? = some v) (h0 : 0 ≤ v) (h1 : v ≤ 999) (g0 : 0 ≤ value) (g1 : value ≤ 999) :
    SumInv l q value s (k + 1) (nextS a ⟨1, 1, v⟩) (nextS b ⟨1, 1, if k = q then value else v⟩) := by
  obtain ⟨fa, fb, ia, ib, he, hd⟩ := h
  refine ⟨nextS_fine _ _ fa, nextS_fine _ _ fb, ?_⟩
  have va : 0 ≤ (if k = q then value else v) ∧ (if k = q then value else v) ≤ 999 := by split <;> omega
  rw [next_data a fa (by omega) v h0 (by omega), next_data b fb (by omega) _ va.1 (by omega)]
  refine ⟨by show a.index + 1 = _; omega, by show b.index + 1 = _; omega, fun hkq => ?_, fun hkq => ?_⟩
  · rw [if_neg (by omega), he (by omega)]
  · refine ⟨by show _ % _ < _; omega, by show _ % _ < _; omega, ?_⟩
    by_cases e : k = q
    · subst e
      refine ⟨v, hv, h0, h1, .inl ⟨rfl, ?_⟩⟩
      rw [if_pos rfl, he (by omega)]
      show ((31 * b.sum + v + 1) % 1073741824 - (31 * b.sum + value + 1) % 1073741824 - (v - value)) % 1073741824 = 0
      omega
    · obtain ⟨_, _, x, hx, x0, x1, hh⟩ := hd (by omega)
      refine ⟨x, hx, x0, x1, ?_⟩
      rw [if_neg e]
      have goal : ∀ c : Int, (a.sum - b.sum - c) % 1073741824 = 0 → ((31 * a.sum + v + 1) % 1073741824 - (31 * b.sum + v + 1) % 1073741824 - 31 * c) % 1073741824 = 0 := fun c hc => by omega
      rcases hh with ⟨rfl, hh⟩ | ⟨rfl, hh⟩ | ⟨rfl, hh⟩
      · exact .inr (.inl ⟨rfl, goal _ hh⟩)
      · refine .inr (.inr ⟨rfl, ?_⟩)
        have := goal _ hh
        show ((31 * a.sum + v + 1) % 1073741824 - (31 * b.sum + v + 1) % 1073741824 - 961 * (x - value)) % 1073741824 = 0
        omega
      · omega
theorem SumInv.last {l : List Int} {q : Nat} {value : Int} {s : St} {k : Nat} {a b : St} (h : SumInv l q value s k a b) (hq : q < k) (g0 : 0 ≤ value) (g1 : value ≤ 999) {x : Int} (hx : l[q]? = some x) :
    ((a.sum == b.sum) == (x == value)) = true := by
  obtain ⟨fa, fb, _, _, _, hd⟩ := h
  obtain ⟨la, lb, x', hx', x0, x1, hh⟩ := hd hq
  rw [hx] at hx'
  obtain rfl := Option.some.inj hx'
  have ba := fa.bounds
  have bb := fb.bounds
  rw [beq_iff_eq, Bool.eq_iff_iff, beq_iff_eq, beq_iff_eq]
  omega
end Go.Proofs.Ythngkojbokknfaa
/- What comes behind an entry, as the law of layer 6 asks for it. -/
namespace Go.Proofs.Ythngkojbokknfaa
open Go Go.RowKit
theorem next_right (s : St) (e : En) (hf : FineP s) (hi : s.index < 1073741824) (hr : rightB e = true) : nextS s e = deedS e.kind e.value { s with index := s.index + 1, term := e.term } :=
  if_pos ⟨hr, (fineB_iff s).2 hf, hi⟩
theorem next_wrong (s : St) (e : En) (hr : rightB e = false) : nextS s e = s := if_neg (by simp [hr])
theorem next_final (s : St) (e : En) (hf : FineP s) (hi : s.index < 1073741824) (h : s.final = true) : (nextS s e).final = true ∧ (nextS s e).level = 2 := by
  have h2 : s.level = 2 := by
    rcases hf with rfl | hf
    · cases h
    · exact hf.2.2.2.2.2.2.2 h
  cases hr : rightB e with
  | false => rw [next_wrong s e hr]; exact ⟨h, h2⟩
  | true =>
    rw [next_right s e hf hi hr]
    unfold deedS
    repeat' split
    all_goals simp_all
theorem next_index (s : St) (e : En) : (nextS s e).index ≤ s.index + 1 ∧ s.index ≤ (nextS s e).index := by
  unfold nextS
  split
  · rw [deedS_index]; exact ⟨Int.le_refl _, by show s.index ≤ s.index + 1; omega⟩
  · omega
/-- What is kept, by the kind. -/
theorem next_parts (s : St) (e : En) (hf : FineP s) (hi : s.index < 1073741824) (hr : rightB e = true) :
    (nextS s e).index = s.index + 1 ∧ (nextS s e).term = e.term ∧ (e.kind ≠ 1 → (nextS s e).sum = s.sum) ∧ (e.kind = 0 ∨ e.kind = 1 → (nextS s e).level = s.level ∧ (nextS s e).final = s.final) := by
  rw [next_right s e hf hi hr, deedS_index, deedS_term]
  refine ⟨rfl, rfl, fun h => ?_, fun h => ?_⟩
  · unfold deedS
    rw [if_neg h]
    repeat' split
    all_goals rfl
  · unfold deedS
    rcases h with h | h <;> rw [h] <;> simp
end Go.Proofs.Ythngkojbokknfaa
/- Tuples' changes, as plain numbers: what the laws of layer 12 ask. -/
namespace Go.Proofs.Ythngkojbokknfaa
open Go Go.RowKit

theorem lastT_app (t : Int) (a b : List En) : lastT t (a ++ b) = lastT (lastT t a) b := by
  induction a generalizing t with
  | nil => rfl
  | cons e a ih => exact ih _
theorem logB_app (t : Int) (a b : List En) : logB t (a ++ b) = (logB t a && logB (lastT t a) b) := by
  induction a generalizing t with
  | nil => simp [logB, lastT]
  | cons e a ih => simp [logB, lastT, ih, Bool.and_assoc]
theorem logB_drop (t : Int) (l : List En) (k : Nat) (h : logB t l = true) : logB (lastT t (l.take k)) (l.drop k) = true := by
  have h' := h
  rw [← List.take_append_drop k l, logB_app, Bool.and_eq_true] at h'
  exact h'.2
theorem lastT_cut (t : Int) (l : List En) (k : Nat) : lastT (lastT t (l.take k)) (l.drop k) = lastT t l := by rw [← lastT_app, List.take_append_drop]
/-- Up to an index terms are no greater than at the end. -/
theorem lastT_mono (t : Int) (l : List En) (h : logB t l = true) : t ≤ lastT t l := by
  induction l generalizing t with
  | nil => exact Int.le_refl _
  | cons e l ih =>
    simp only [logB, Bool.and_eq_true, decide_eq_true_eq] at h
    exact Int.le_trans h.1.2 (ih _ h.2)
theorem tupB_iff (t : Tu) : tupB t = true ↔ FineP t.snap ∧ (t.snap.index ≤ 1073740824 ∧ t.log.length ≤ 200 ∧ 0 ≤ t.vote ∧ t.vote ≤ 5 ∧ t.term ≤ 1073741824) ∧ logB t.snap.term t.log = true ∧ lastT t.snap.term t.log ≤ t.term := by
  unfold tupB
  simp only [Bool.and_eq_true, decide_eq_true_eq, fineB_iff, and_assoc]
theorem chg_no (x : Tu) (res : Option Tu) (h : ∀ y, res = some y → tupB y = false) : chgS x res = x ∧ chgE x res = 2 := by
  have : doneB x res = none := by
    unfold doneB
    split
    · cases res with
      | none => rfl
      | some y => simp [h y rfl]
    · rfl
  unfold chgS chgE
  rw [this]
  exact ⟨rfl, rfl⟩
theorem chg_yes (x y : Tu) (res : Option Tu) (hx : tupB x = true) (h : res = some y) (hy : tupB y = true) : chgS x res = y ∧ chgE x res = 0 := by
  have : doneB x res = some y := by unfold doneB; rw [if_pos hx, h]; exact if_pos hy
  unfold chgS chgE
  rw [this]
  exact ⟨rfl, rfl⟩
/-- A tuple behind a deed, as the stage's theorem asks. -/
structure Step (x y : Tu) (e : Int) : Prop where
  right : tupB y = true
  err : e = 0 ∨ (e = 2 ∧ y = x)
  term : x.term ≤ y.term
  index : x.snap.index ≤ y.snap.index
  vote : y.term = x.term → 0 < x.vote → y.vote = x.vote
theorem step_no (x : Tu) (hx : tupB x = true) : Step x x 2 := ⟨hx, .inr ⟨rfl, rfl⟩, Int.le_refl _, Int.le_refl _, fun _ _ => rfl⟩
theorem step_of (x : Tu) (res : Option Tu) (hx : tupB x = true) (h : ∀ y, res = some y → x.term ≤ y.term ∧ x.snap.index ≤ y.snap.index ∧ (y.term = x.term → 0 < x.vote → y.vote = x.vote)) : Step x (chgS x res) (chgE x res) := by
  cases hr : res with
  | none => have := chg_no x none (fun y h => by cases h); rw [this.1, this.2]; exact step_no x hx
  | some y =>
    cases hy : tupB y with
    | false => have := chg_no x (some y) (fun z h => by cases h; exact hy); rw [this.1, this.2]; exact step_no x hx
    | true =>
      have := chg_yes x y (some y) hx rfl hy
      rw [this.1, this.2]
      obtain ⟨h1, h2, h3⟩ := h y hr
      exact ⟨hy, .inl rfl, h1, h2, h3⟩
theorem step_append (x : Tu) (l : List En) (hx : tupB x = true) : Step x (chgS x (some { x with log := x.log ++ l })) (chgE x (some { x with log := x.log ++ l })) :=
  step_of x _ hx fun y h => by injection h with h; subst h; exact ⟨Int.le_refl _, Int.le_refl _, fun _ _ => rfl⟩
theorem step_cut (x : Tu) (i : Int) (hx : tupB x = true) : Step x (chgS x (cutR x i)) (chgE x (cutR x i)) :=
  step_of x _ hx fun y h => by
    unfold cutR at h
    split at h
    · injection h with h; subst h; exact ⟨Int.le_refl _, Int.le_refl _, fun _ _ => rfl⟩
    · cases h
theorem saveR_parts (x : Tu) (s : St) (y : Tu) (h : saveR x s = some y) : y.term = x.term ∧ y.vote = x.vote ∧ x.snap.index ≤ y.snap.index := by
  have h1 := saveR_index x s y h
  unfold saveR at h
  split at h
  · injection h with h; subst h; exact ⟨rfl, rfl, h1.2.2.1⟩
  · cases h
theorem step_save (x : Tu) (s : St) (hx : tupB x = true) : Step x (chgS x (saveR x s)) (chgE x (saveR x s)) :=
  step_of x _ hx fun y h => by
    have := saveR_parts x s y h
    exact ⟨by omega, this.2.2, fun _ _ => this.2.1⟩
theorem step_inst (x : Tu) (s : St) (hx : tupB x = true) : Step x (chgS x (instR x s)) (chgE x (instR x s)) :=
  step_of x _ hx fun y h => by
    unfold instR at h
    split at h
    · rename_i h0
      split at h
      · have := saveR_parts x s y h
        exact ⟨by omega, this.2.2, fun _ _ => this.2.1⟩
      · injection h with h; subst h; exact ⟨Int.le_refl _, by show x.snap.index ≤ s.index; omega, fun _ _ => rfl⟩
    · cases h
theorem step_hard (x : Tu) (t v : Int) (hx : tupB x = true) : Step x (chgS x (hardR x t v)) (chgE x (hardR x t v)) :=
  step_of x _ hx fun y h => by
    unfold hardR at h
    split at h
    · rename_i h0
      injection h with h; subst h
      exact ⟨by show x.term ≤ t; omega, Int.le_refl _, fun (h1 : t = x.term) h2 => by show v = x.vote; omega⟩
    · cases h

/-- A state behind entries of a log that is right. -/
theorem allS_log (s : St) (l : List En) (hs : FineP s) (h : logB s.term l = true) (hi : s.index + l.length ≤ 1073741824) : (allS s l).index = s.index + l.length ∧ (allS s l).term = lastT s.term l := by
  induction l generalizing s with
  | nil => exact ⟨by simp [allS], rfl⟩
  | cons e l ih =>
    simp only [logB, Bool.and_eq_true, decide_eq_true_eq] at h
    rw [List.length_cons] at hi
    obtain ⟨h1, h2, _⟩ := next_parts s e hs (by omega) h.1.1
    have h3 := ih (nextS s e) (nextS_fine s e hs) (by rw [h2]; exact h.2) (by rw [h1]; omega)
    refine ⟨?_, ?_⟩
    · show (allS (nextS s e) l).index = _
      rw [h3.1, h1, List.length_cons]; omega
    · show (allS (nextS s e) l).term = _
      rw [h3.2, h2]; rfl
theorem termAt_log (x : Tu) (k : Nat) (hk : k ≤ x.log.length) : termAt x (x.snap.index + k) = some (lastT x.snap.term (x.log.take k)) := by
  unfold termAt Tu.last
  cases k with
  | zero => rw [if_pos (by simp)]; rfl
  | succ k =>
    rw [if_neg (by omega), if_pos (by omega)]
    have : (x.snap.index + ((k + 1 : Nat) : Int) - x.snap.index - 1).toNat = k := by omega
    rw [this, List.getElem?_eq_getElem (by omega), List.take_add_one, List.getElem?_eq_getElem (by omega)]
    show _ = some (lastT _ (_ ++ [x.log[k]]))
    rw [lastT_snoc]; rfl
theorem termAt_no (x : Tu) (i : Int) (h : i < x.snap.index ∨ x.snap.index + x.log.length < i) : termAt x i = none := by
  unfold termAt Tu.last
  rw [if_neg (by omega), if_neg (by omega)]
/-- Saved at an index, by what the entries come to. -/
theorem save_at (x : Tu) (k : Nat) (hx : tupB x = true) (hk : k ≤ x.log.length) :
    (allS x.snap (x.log.take k)).index = x.snap.index + k ∧ (allS x.snap (x.log.take k)).term = lastT x.snap.term (x.log.take k) ∧ FineP (allS x.snap (x.log.take k)) ∧
      saveR x (allS x.snap (x.log.take k)) = some { x with snap := allS x.snap (x.log.take k), log := x.log.drop k } := by
  obtain ⟨h1, h2, h3, h4⟩ := (tupB_iff x).1 hx
  have hl : (x.log.take k).length = k := by rw [List.length_take]; omega
  obtain ⟨h5, h6⟩ := allS_log x.snap (x.log.take k) h1 (logB_take _ _ _ h3) (by rw [hl]; omega)
  rw [hl] at h5
  have h7 := allS_fine x.snap (x.log.take k) h1
  refine ⟨h5, h6, h7, ?_⟩
  unfold saveR
  rw [h5, h6, if_pos ⟨termAt_log x k hk, (fineB_iff _).2 h7⟩]
  have : (x.snap.index + (k : Int) - x.snap.index).toNat = k := by omega
  rw [this]
theorem save_no (x : Tu) (k : Nat) (hx : tupB x = true) (hk : k ≤ x.log.length) (h : 1073740824 < x.snap.index + k) :
    chgS x (saveR x (allS x.snap (x.log.take k))) = x ∧ chgE x (saveR x (allS x.snap (x.log.take k))) = 2 := by
  obtain ⟨h1, h2, h3, h4⟩ := save_at x k hx hk
  refine chg_no x _ fun y hy => ?_
  rw [h4] at hy
  injection hy with hy
  subst hy
  refine Bool.eq_false_iff.2 fun hT => ?_
  have h5 := ((tupB_iff _).1 hT).2.1.1
  dsimp only at h5
  omega
theorem save_yes (x : Tu) (k : Nat) (hx : tupB x = true) (hk : k ≤ x.log.length) (h : x.snap.index + k ≤ 1073740824) :
    chgS x (saveR x (allS x.snap (x.log.take k))) = { x with snap := allS x.snap (x.log.take k), log := x.log.drop k } ∧ chgE x (saveR x (allS x.snap (x.log.take k))) = 0 := by
  obtain ⟨h1, h2, h3, h4⟩ := save_at x k hx hk
  obtain ⟨g1, g2, g3, g4⟩ := (tupB_iff x).1 hx
  refine chg_yes x _ _ hx h4 ((tupB_iff _).2 ⟨h3, ⟨?_, ?_, g2.2.2⟩, ?_, ?_⟩)
  · dsimp only; omega
  · dsimp only; rw [List.length_drop]; omega
  · dsimp only; rw [h2]; exact logB_drop _ _ _ g3
  · dsimp only; rw [h2, lastT_cut]; exact g4
/-- At an index that stays, states are as they were. -/
theorem save_state (x : Tu) (k j : Nat) (h : k ≤ j) : allS (allS x.snap (x.log.take k)) ((x.log.drop k).take (j - k)) = allS x.snap (x.log.take j) := by
  have : x.log.take j = x.log.take k ++ (x.log.drop k).take (j - k) := by
    rw [← List.take_add]; congr 1; omega
  rw [this]
  unfold allS
  rw [List.foldl_append]
theorem save_term (x : Tu) (k j : Nat) (hx : tupB x = true) (h : k ≤ j) (hk : j ≤ x.log.length) :
    termAt { x with snap := allS x.snap (x.log.take k), log := x.log.drop k } (x.snap.index + j) = some (lastT x.snap.term (x.log.take j)) := by
  obtain ⟨h1, h2, h3, h4⟩ := save_at x k hx (by omega)
  have h5 := termAt_log { x with snap := allS x.snap (x.log.take k), log := x.log.drop k } (j - k) (by dsimp only; rw [List.length_drop]; omega)
  dsimp only at h5
  rw [h1, h2] at h5
  have e1 : x.snap.index + (k : Int) + ((j - k : Nat) : Int) = x.snap.index + j := by omega
  have e2 : x.log.take j = x.log.take k ++ (x.log.drop k).take (j - k) := by rw [← List.take_add]; congr 1; omega
  rw [e1] at h5
  rw [h5, e2, lastT_app]
/-- Cut, and what was behind appended again. -/
theorem cut_yes (x : Tu) (k : Nat) (hx : tupB x = true) (hk : k ≤ x.log.length) :
    chgS x (cutR x (x.snap.index + 1 + k)) = { x with log := x.log.take k } ∧ chgE x (cutR x (x.snap.index + 1 + k)) = 0 ∧ tupB { x with log := x.log.take k } = true := by
  obtain ⟨g1, g2, g3, g4⟩ := (tupB_iff x).1 hx
  have hT : tupB { x with log := x.log.take k } = true := by
    refine (tupB_iff _).2 ⟨g1, ⟨g2.1, ?_, g2.2.2⟩, logB_take _ _ _ g3, ?_⟩
    · dsimp only; rw [List.length_take]; omega
    · dsimp only
      refine Int.le_trans ?_ g4
      have h := lastT_mono _ _ (logB_drop x.snap.term x.log k g3)
      rw [lastT_cut] at h
      exact h
  have hr : cutR x (x.snap.index + 1 + k) = some { x with log := x.log.take k } := by
    unfold cutR Tu.last
    rw [if_pos (by omega)]
    have : (x.snap.index + 1 + (k : Int) - x.snap.index - 1).toNat = k := by omega
    rw [this]
  have := chg_yes x _ _ hx hr hT
  exact ⟨this.1, this.2, hT⟩
theorem cut_no (x : Tu) (i : Int) (h : i ≤ x.snap.index ∨ x.snap.index + x.log.length + 1 < i) : chgS x (cutR x i) = x ∧ chgE x (cutR x i) = 2 :=
  chg_no x _ fun y hy => by
    unfold cutR Tu.last at hy
    rw [if_neg (by omega)] at hy
    cases hy
theorem append_back (x : Tu) (k : Nat) (hx : tupB x = true) (hk : k ≤ x.log.length) :
    chgS { x with log := x.log.take k } (some { x with log := x.log.take k ++ x.log.drop k }) = x ∧ chgE { x with log := x.log.take k } (some { x with log := x.log.take k ++ x.log.drop k }) = 0 := by
  have h : ({ x with log := x.log.take k ++ x.log.drop k } : Tu) = x := by rw [List.take_append_drop]
  rw [h]
  exact chg_yes _ _ _ (cut_yes x k hx hk).2.2 rfl hx
/-- Installed, or not. -/
theorem inst_no (x : Tu) (s : St) (h : s.index ≤ x.snap.index ∨ 1073740824 < s.index ∨ x.term < s.term) : chgS x (instR x s) = x ∧ chgE x (instR x s) = 2 :=
  chg_no x _ fun y hy => by
    by_cases h1 : x.snap.index < s.index ∧ s.term ≤ x.term
    · have h2 := instR_index x s y hy
      refine Bool.eq_false_iff.2 fun hT => ?_
      have h5 := ((tupB_iff _).1 hT).2.1.1
      rw [h2] at h5
      omega
    · unfold instR at hy
      rw [if_neg h1] at hy
      cases hy
theorem inst_keep (x : Tu) (s : St) (k : Nat) (e : En) (hx : tupB x = true) (hs : FineP s) (h1 : s.index ≤ 1073740824) (h2 : s.term ≤ x.term) (hk : s.index = x.snap.index + ((k + 1 : Nat) : Int)) (he : x.log[k]? = some e) (ht : e.term = s.term) :
    chgS x (instR x s) = { x with snap := s, log := x.log.drop (k + 1) } ∧ chgE x (instR x s) = 0 := by
  obtain ⟨g1, g2, g3, g4⟩ := (tupB_iff x).1 hx
  have hkl := (List.getElem?_eq_some_iff.1 he).1
  have h3 : lastT x.snap.term (x.log.take (k + 1)) = s.term := by
    rw [List.take_add_one, he]
    show lastT _ (_ ++ [e]) = _
    rw [lastT_snoc]; exact ht
  have h4 := termAt_log x (k + 1) (by omega)
  rw [← hk, h3] at h4
  have hr : instR x s = some { x with snap := s, log := x.log.drop (k + 1) } := by
    unfold instR
    rw [if_pos (by omega), if_pos h4]
    unfold saveR
    rw [if_pos ⟨h4, (fineB_iff _).2 hs⟩]
    have : (s.index - x.snap.index).toNat = k + 1 := by omega
    rw [this]
  refine chg_yes x _ _ hx hr ((tupB_iff _).2 ⟨hs, ⟨h1, ?_, g2.2.2⟩, ?_, ?_⟩)
  · dsimp only; rw [List.length_drop]; omega
  · dsimp only; rw [← h3]; exact logB_drop _ _ _ g3
  · dsimp only; rw [← h3, lastT_cut]; exact g4
theorem inst_drop (x : Tu) (s : St) (hx : tupB x = true) (hs : FineP s) (h0 : x.snap.index < s.index) (h1 : s.index ≤ 1073740824) (h2 : s.term ≤ x.term)
    (hk : ∀ (k : Nat) (e : En), s.index = x.snap.index + ((k + 1 : Nat) : Int) → x.log[k]? = some e → e.term ≠ s.term) :
    chgS x (instR x s) = { x with snap := s, log := [] } ∧ chgE x (instR x s) = 0 := by
  obtain ⟨g1, g2, g3, g4⟩ := (tupB_iff x).1 hx
  have hn : termAt x s.index ≠ some s.term := by
    unfold termAt Tu.last
    rw [if_neg (by omega)]
    split
    · intro h
      obtain ⟨e, he, h5⟩ := Option.map_eq_some_iff.1 h
      exact hk _ e (by omega) he h5
    · intro h; cases h
  have hr : instR x s = some { x with snap := s, log := [] } := by
    unfold instR
    rw [if_pos (by omega), if_neg hn]
  refine chg_yes x _ _ hx hr ((tupB_iff _).2 ⟨hs, ⟨h1, ?_, g2.2.2⟩, rfl, h2⟩)
  dsimp only; simp
end Go.Proofs.Ythngkojbokknfaa
