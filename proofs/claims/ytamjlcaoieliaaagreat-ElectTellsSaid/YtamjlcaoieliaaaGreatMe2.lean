/- Texts of one claim put together. -/
import Derived.Test.YtamjlcaoieliaaaGreatMe1
import Derived.Test.YtamjlcaoieliaaaGreatMe0
import Derived.Deep.DeepCutAuto
namespace Go.Proofs.YtamjlcaoieliaaaGreat

section
open Go Go.RowKit
set_option maxRecDepth 100000
def TB (w : World) (b : Nat) (x : Tu) (A : OA) (c : Nat) : Prop := w.heap[b]? = some (.cells #[.int .i64 x.snap.index, .int .i64 x.snap.term, .int .i64 x.snap.sum, .int .i64 x.snap.level, .bool x.snap.final, .slice A x.log.length c, .int .i64 x.term, .int .i64 x.vote] 26)
def TB8 (w : World) (b : Nat) : Prop := ∃ v1 v2 v3 v4 v5 v6 v7 v8 : Value, w.heap[b]? = some (.cells #[v1, v2, v3, v4, v5, v6, v7, v8] 26)
theorem TB.eight {w : World} {b c : Nat} {x : Tu} {A : OA} (h : TB w b x A c) : TB8 w b := ⟨_, _, _, _, _, _, _, _, h⟩
theorem TB8.below {w w' : World} {b : Nat} (h : TB8 w b) (hb : Below w.heap.size w w') : TB8 w' b := by
 obtain ⟨v1, v2, v3, v4, v5, v6, v7, v8, h⟩ := h
 exact ⟨v1, v2, v3, v4, v5, v6, v7, v8, (hb.block b (Array.getElem?_eq_some_iff.1 h).1).trans h⟩
def Does (g : Nat) (cap : Array Value) (w0 : World) (x : Tu) (res : Option Tu) : Prop :=
 ∀ (W : World) (bo : Nat) (A' : OA) (c' : Nat), Below w0.heap.size w0 W → w0.heap.size ≤ bo → TB W bo x A' c' → LI W A' x.log.length c' x.log → (∀ a, A' = some a → a.block ≠ bo ∧ a.block < W.heap.size) →
  Calls Tryz.prog g (#[.pointer (some ⟨bo, 0, none⟩)] ++ cap) W fun e w' => KeepB (fun k => k ≠ bo) W w' ∧
   ((∃ y A2 c2, res = some y ∧ e = .returned (.tuple #[]) ∧ TB w' bo y A2 c2 ∧ LI w' A2 y.log.length c2 y.log ∧ (∀ a, A2 = some a → a.block < w'.heap.size ∧ ((∃ a', A' = some a' ∧ a.block = a'.block) ∨ W.heap.size ≤ a.block))) ∨
    (res = none ∧ e = .panicked badP ∧ TB8 w' bo))
def Zc0 (x : Tu) (res : Option Tu) : Option Tu := if Zad x = true then (match res with | some y => if Zad y = true then some y else none | none => none) else none
theorem tupB_bd (x : Tu) (h : Zad x = true) : -2000000000000 ≤ x.snap.index ∧ x.snap.index ≤ 1073740824 ∧ 0 ≤ x.snap.index ∧ x.log.length ≤ 200 := by
 unfold Zad at h
 simp only [Bool.and_eq_true, decide_eq_true_eq] at h
 obtain ⟨⟨⟨h1, h2⟩, _⟩, _⟩ := h
 rcases (Zdb _).1 h1 with h3 | h3
 ·rw [h3]; simp [firstS]; rw [h3] at h2; exact h2.2.1
 ·exact ⟨by omega, h2.1, by omega, h2.2.1⟩
theorem changed1_any (x : Tu) (res : Option Tu) (A A' : OA) (c c' : Nat) (bw bd bo g : Nat) (cap : Array Value) (wB w0 : World) (he : Zgu Tryz.prog g = true)
  (hx : LI w0 A x.log.length c x.log) (hA : ∀ a, A = some a → a.block < w0.heap.size ∧ a.block ≠ bo)
  (hbw : w0.heap[bw]? = some (.cells #[.int .i64 x.snap.index, .int .i64 x.snap.term, .int .i64 x.snap.sum, .int .i64 x.snap.level, .bool x.snap.final, .slice A x.log.length c, .int .i64 x.term, .int .i64 x.vote] 26)) (hbd : w0.heap[bd]? = some (.cells #[.func (.func g) #[] cap] 108))
  (hbo : TB w0 bo x A' c') (hx' : LI w0 A' x.log.length c' x.log) (hA' : ∀ a, A' = some a → a.block < w0.heap.size ∧ a.block ≠ bo) (h1 : bw ≠ bo) (h2 : bd ≠ bo) (hB : Below wB.heap.size wB w0) (hBo : wB.heap.size ≤ bo)
  (hd : Zad x = true → Does g cap wB x res) :
  Calls Tryz.prog 133 #[.pointer (some ⟨bw, 0, none⟩), .pointer (some ⟨bd, 0, none⟩), .pointer (some ⟨bo, 0, none⟩)] w0 fun e w' => KeepB (fun k => k ≠ bo) w0 w' ∧
   ((∃ y A2 c2, Zc0 x res = some y ∧ e = .returned (.tuple #[]) ∧ TB w' bo y A2 c2 ∧ LI w' A2 y.log.length c2 y.log ∧ (∀ a, A2 = some a → a.block < w'.heap.size ∧ ((∃ a', A' = some a' ∧ a.block = a'.block) ∨ w0.heap.size ≤ a.block))) ∨
    (Zc0 x res = none ∧ e = .panicked badP ∧ TB8 w' bo)) := by
 have hbl : bo < w0.heap.size := (Array.getElem?_eq_some_iff.1 hbo).1
 have hch := Zhb x.snap A c x.log x.term x.vote w0 hx.rd ⟨hx.le, hx.cap⟩ (by have := hx.small; omega) (fun a ha => (hA a ha).1)
 refine Zaj Tryz.func133 rfl Tryz.ntmps133 rfl ?_
 have hS := St0.old (w := w0) (fun k => k ≠ bo) (e := .box bo [.int .i64 x.snap.index, .int .i64 x.snap.term, .int .i64 x.snap.sum, .int .i64 x.snap.level, .bool x.snap.final, .slice A' x.log.length c', .int .i64 x.term, .int .i64 x.vote] 26) hbo (fun k hk => by subst hk; exact ⟨hbl, by simp⟩)
 cases hT : Zad x with
 | false =>
  have hdn : Zc0 x res = none := by unfold Zc0; rw [hT]; rfl
  repeat (first | (apply Zd; intro K hK) | apply Zf | (apply Yw; refine Za rfl rfl rfl (by first | (apply Yi; first | exact Zgp (by first | exact Yp) rfl (Zhe _) hS (by first | trivial) (by first | trivial) (by assumption) (by repeat (first | exact Seg.here (by repeat (first | exact Pre.zero | apply Pre.succ)))))) ?_))
  refine Xx rfl rfl (by kernel_rfl) rfl hch ?_
  rintro e w1 ⟨h3, hB1⟩
  rcases h3 with ⟨h3, _⟩ | ⟨_, rfl⟩
  ·rw [hT] at h3; cases h3
  ·refine ⟨_, rfl, ?_⟩
   repeat (first | apply Xs)
   exact Jw rfl ⟨(hS.below hB1).base, .inr ⟨hdn, rfl, TB8.below (TB.eight hbo) hB1⟩⟩
 | true =>
  repeat (first | (apply Zd; intro K hK) | apply Zf | (apply Yw; refine Za rfl rfl rfl (by first | (apply Yi; first | exact Zgp (by first | exact Yp) rfl (Zhe _) hS (by first | trivial) (by first | trivial) (by assumption) (by repeat (first | exact Seg.here (by repeat (first | exact Pre.zero | apply Pre.succ)))))) ?_))
  refine Zn rfl rfl rfl rfl (by kernel_rfl) rfl hch ?_
  rintro e w1 ⟨h3, hB1⟩
  rcases h3 with ⟨_, rfl⟩ | ⟨h3, _⟩
  case inr => rw [hT] at h3; cases h3
  refine ⟨_, rfl, ?_⟩
  replace hS := hS.below hB1
  repeat (first | apply Zg | (apply Zc; assumption) | (apply Zd; intro K hK) | apply Zf | (apply Yw; refine Za rfl rfl rfl (by first | (apply Yi; first | exact X3 (by first | exact sc_108) rfl (Zhe _) hS (by first | trivial) (by first | trivial) (by assumption) (by repeat (first | exact Seg.here (Pre.succ Pre.zero))))) ?_))
  have hk1 := hS.base
  have hA1 : LI w1 A' x.log.length c' x.log := hx'.keep hk1 (fun a ha => (hA' a ha).2)
  have hB2 : Below wB.heap.size wB w1 := bTr hB hB1
  cases hr : res with
  | none =>
   subst hr
   have hdn : Zc0 x none = none := by unfold Zc0; rw [hT]; rfl
   refine Xx rfl rfl he rfl (hd hT w1 bo A' c' hB2 hBo ((hB1.block bo hbl).trans hbo) hA1 (fun a ha => ⟨(hA' a ha).2, Nat.lt_of_lt_of_le (hA' a ha).1 hB1.size⟩)) ?_
   rintro e w2 ⟨hk, (⟨y, A2, c2, h4, _⟩ | ⟨_, rfl, h8⟩)⟩
   ·cases h4
   ·refine ⟨_, rfl, ?_⟩
    repeat (first | apply Xs)
    exact Jw rfl ⟨hk1.trans hk, .inr ⟨hdn, rfl, h8⟩⟩
  | some y =>
   subst hr
   refine Zn rfl rfl rfl rfl he rfl (hd hT w1 bo A' c' hB2 hBo ((hB1.block bo hbl).trans hbo) hA1 (fun a ha => ⟨(hA' a ha).2, Nat.lt_of_lt_of_le (hA' a ha).1 hB1.size⟩)) ?_
   rintro e w2 ⟨hk, (⟨y', A2, c2, h4, rfl, htb, hli, hbk⟩ | ⟨h4, _⟩)⟩
   case inr => cases h4
   injection h4 with h4
   subst h4
   refine ⟨_, rfl, ?_⟩
   replace hS := hS.wrote Pos.head hk htb
   have hch2 := Zhb y.snap A2 c2 y.log y.term y.vote w2 hli.rd ⟨hli.le, hli.cap⟩ (by have := hli.small; omega) (fun a ha => (hbk a ha).1)
   have hk2 := hk1.trans hk
   repeat (first | apply Zg | (apply Zc; assumption) | apply Zf | (apply Yw; refine Za rfl rfl rfl (by first | (apply Yi; first | exact Zi (by first | exact Yp) rfl (Zhe _) hS (by repeat (first | exact Has.head)) (by first | trivial) (by repeat (first | exact Seg.here (by repeat (first | exact Pre.zero | apply Pre.succ)))))) ?_))
   cases hTy : Zad y with
   | true =>
    have hdn : Zc0 x (some y) = some y := by unfold Zc0; simp [hT, hTy]
    refine Zn rfl rfl rfl rfl (by kernel_rfl) rfl hch2 ?_
    rintro e w3 ⟨h5, hB3⟩
    rcases h5 with ⟨_, rfl⟩ | ⟨h5, _⟩
    case inr => rw [hTy] at h5; cases h5
    refine ⟨_, rfl, ?_⟩
    have hbl2 : bo < w2.heap.size := Nat.lt_of_lt_of_le hbl hk2.size
    repeat (first | apply Zg)
    refine Zfp rfl (by first | exact RV.nil) rfl ?_
    refine ⟨hk2.below hB3, .inl ⟨y, A2, c2, hdn, rfl, (hB3.block bo hbl2).trans htb, hli.below hB3, fun a ha => ⟨Nat.lt_of_lt_of_le (hbk a ha).1 hB3.size, ?_⟩⟩⟩
    rcases (hbk a ha).2 with h6 | h6
    ·exact .inl h6
    ·exact .inr (Nat.le_trans hB1.size h6)
   | false =>
    have hdn : Zc0 x (some y) = none := by unfold Zc0; simp [hT, hTy]
    refine Xx rfl rfl (by kernel_rfl) rfl hch2 ?_
    rintro e w3 ⟨h5, hB3⟩
    rcases h5 with ⟨h5, _⟩ | ⟨_, rfl⟩
    ·rw [hTy] at h5; cases h5
    ·refine ⟨_, rfl, ?_⟩
     exact Jw rfl ⟨hk2.below hB3, .inr ⟨hdn, rfl, TB8.below (TB.eight htb) hB3⟩⟩
def Zc6 (x : Tu) (res : Option Tu) : Tu := match Zc0 x res with | some y => y | none => x
def chgE (x : Tu) (res : Option Tu) : Int := match Zc0 x res with | some _ => 0 | none => 2
theorem changed_any (x : Tu) (res : Option Tu) (A : OA) (c : Nat) (g : Nat) (cap : Array Value) (w0 : World) (he : Zgu Tryz.prog g = true)
  (hx : LI w0 A x.log.length c x.log) (hA : ∀ a, A = some a → a.block < w0.heap.size)
  (hd : Zad x = true → Does g cap w0 x res) :
  Calls Tryz.prog 105 #[.agg #[.int .i64 x.snap.index, .int .i64 x.snap.term, .int .i64 x.snap.sum, .int .i64 x.snap.level, .bool x.snap.final, .slice A x.log.length c, .int .i64 x.term, .int .i64 x.vote], .func (.func g) #[] cap] w0 fun e w' => ∃ A2 c2, (e = .returned (.tuple #[.agg #[.int .i64 (Zc6 x res).snap.index, .int .i64 (Zc6 x res).snap.term, .int .i64 (Zc6 x res).snap.sum, .int .i64 (Zc6 x res).snap.level, .bool (Zc6 x res).snap.final, .slice A2 (Zc6 x res).log.length c2, .int .i64 (Zc6 x res).term, .int .i64 (Zc6 x res).vote], .int .i64 (chgE x res)]) ∧ Sl w0 w' A2 (Zc6 x res).log.length c2 3 (ens (Zc6 x res).log)) ∧ Below w0.heap.size w0 w' := by
 refine Ys Tryz.func105 rfl Tryz.ntmps105 rfl ?_
 have hS := St0.start All w0
 repeat (first | (apply Zd; intro K hK) | apply Zf)
 first | (apply Vl; refine Z7 rfl rfl rfl (by first | exact CellsOf.agg) hS (fun bw w hS hB => ?_))
 first | (apply Vl; refine Z7 rfl rfl rfl (by first | exact CellsOf.func) hS (fun bd w hS hB => ?_))
 first | (apply Zbc; refine Yd rfl rfl (by first | exact Zeq) hS (fun bo w hS hB => ?_))
 repeat (first | apply Zg | (apply Zc; assumption) | (apply Zd; intro K hK) | apply Zf | (apply Yw; refine Za rfl rfl rfl (by first | exact Z2 rfl | (apply Yi; first | exact Zi (by first | exact Yp) rfl (Zhe _) hS (by repeat (first | exact Has.head | apply Has.tail)) (by first | trivial) (by repeat (first | exact Seg.here (by repeat (first | exact Pre.zero | apply Pre.succ)))))) ?_))
 refine Zn rfl rfl rfl rfl (by kernel_rfl) rfl (own_any x.snap A x.log.length c x.log x.term x.vote _ (hx.below hS.pure)) ?_
 rintro e w1 ⟨A', c', ⟨rfl, hs⟩, hB⟩
 refine ⟨_, rfl, ?_⟩
 have hz1 := hS.size
 replace hS := hS.slice hs hB
 repeat (first | apply Zg | (apply Zc; assumption) | (apply Zd; intro K hK) | (apply Xc; refine Zl rfl rfl rfl (by first | exact CellsOf.agg) hS (by repeat (first | exact Pos.head | apply Pos.tail)) (by repeat (first | exact SetC.here (by repeat (first | exact Ovr.nil | apply Ovr.cons)))) (by kernel_rfl) rfl (fun w hS hB => ?_)))
 apply Zf
 repeat (first | (apply Yw; refine Za rfl rfl rfl (by first | exact Vn rfl rfl) ?_))
 have hbw := hS.box_ge (b := bw) (by repeat (first | exact Has.head | apply Has.tail))
 have hbd := hS.box_ge (b := bd) (by repeat (first | exact Has.head | apply Has.tail))
 have hbo := hS.box_ge (b := bo) (by repeat (first | exact Has.head | apply Has.tail))
 have hnw : bw ≠ bo := hS.ne 3 1 rfl rfl rfl
 have hnd : bd ≠ bo := hS.ne 2 1 rfl rfl rfl
 have hAo := hS.rd_ne 0 1 rfl rfl rfl
 have hAr := hS.rd_rng (A := A') (by repeat (first | exact Has.head))
 have hA'w : LI w A' x.log.length c' x.log := ⟨rfl, hx.small, hs.le, hs.cap, hS.rd (by repeat (first | exact Has.head))⟩
 have hAw := hx.below hS.pure
 have hz2 := hS.size
 refine Zn rfl rfl rfl rfl (by kernel_rfl) rfl (told_any 133 #[.pointer (some ⟨bw, 0, none⟩), .pointer (some ⟨bd, 0, none⟩), .pointer (some ⟨bo, 0, none⟩)] w (fun k => k ≠ bo)
  (fun B => ∃ y A2 c2, Zc0 x res = some y ∧ TB B bo y A2 c2 ∧ LI B A2 y.log.length c2 y.log ∧ (∀ a, A2 = some a → a.block < B.heap.size ∧ w0.heap.size ≤ a.block ∧ a.block ≠ bo ∧ a.block ≠ w.heap.size)) (fun B => Zc0 x res = none ∧ TB8 B bo) (by kernel_rfl) (fun W hz hBW => ?_)
  (fun C D h hk => ?_) (fun C D h hk => ⟨h.1, ?_⟩)) ?_
 ·refine (changed1_any x res A A' c c' bw bd bo g cap w0 W he (hAw.below hBW) (fun a ha => ?_) ((hBW.block bw hbw.2.1).trans hbw.2.2) ((hBW.block bd hbd.2.1).trans hbd.2.2) ((hBW.block bo hbo.2.1).trans hbo.2.2) (hA'w.below hBW) (fun a ha => ?_) hnw hnd (bTr hS.pure hBW) hbo.1 hd).mono fun e w' h1 => ?_
  ·have := hA a ha; exact ⟨by omega, by omega⟩
  ·have := hAr a ha; exact ⟨by omega, hAo a ha⟩
  ·refine ⟨h1.1.sub fun k _ hk => ?_, ?_⟩
   ·rcases hk with hk | hk
    ·exact hk
    ·omega
   rcases h1.2 with ⟨y, A2, c2, h3, h4, h5, h6, h7⟩ | ⟨h3, h4⟩
   ·refine .inl ⟨h4, y, A2, c2, h3, h5, h6, fun a ha => ?_⟩
    obtain ⟨h8, h9⟩ := h7 a ha
    rcases h9 with ⟨a', ha', hb'⟩ | h9
    ·have := hAr a' ha'; have := hAo a' ha'; exact ⟨h8, by omega, by omega, by omega⟩
    ·exact ⟨h8, by omega, by omega, by omega⟩
   ·exact .inr ⟨h4.1, h3, h4.2⟩
 ·obtain ⟨y, A2, c2, h3, h5, h6, h7⟩ := h
  exact ⟨y, A2, c2, h3, (hk.block bo (Array.getElem?_eq_some_iff.1 h5).1 (by omega)).trans h5, h6.keep hk (fun a ha => (h7 a ha).2.2.2), fun a ha => ⟨Nat.lt_of_lt_of_le (h7 a ha).1 hk.size, (h7 a ha).2⟩⟩
 ·obtain ⟨v1, v2, v3, v4, v5, v6, v7, v8, h8⟩ := h.2
  exact ⟨v1, v2, v3, v4, v5, v6, v7, v8, (hk.block bo (Array.getElem?_eq_some_iff.1 h8).1 (by omega)).trans h8⟩
 rintro e w1 ⟨hk, (⟨rfl, y, A2, c2, hdn, htb, hli, hbk⟩ | ⟨rfl, hdn, h8⟩)⟩
 ·refine ⟨_, rfl, ?_⟩
  have hS2 := (hS.wrote (.tail .head) hk htb).sub (H' := [.box bo [.int .i64 y.snap.index, .int .i64 y.snap.term, .int .i64 y.snap.sum, .int .i64 y.snap.level, .bool y.snap.final, .slice A2 y.log.length c2, .int .i64 y.term, .int .i64 y.vote] 26]) (by first | ((try dsimp only); repeat (first | exact List.Sublist.slnil | (refine List.Sublist.cons_cons _ ?_) | (refine List.Sublist.cons _ ?_))))
  have hS3 := hS2.addE (e := .rd A2 (ens y.log)) hli.rd (fun k ⟨a, ha, hak⟩ => by subst hak; exact ⟨(hbk a ha).1, fun hlt => by have := (hbk a ha).2.1; omega⟩) (fun e' he' k ⟨a, ha, hak⟩ hx' => by
   obtain rfl := List.mem_singleton.1 he'
   obtain rfl : k = bo := hx'
   exact (hbk a ha).2.2.1 hak)
  have e1 : Zc6 x res = y := by unfold Zc6; rw [hdn]
  have e2 : chgE x res = 0 := by unfold chgE; rw [hdn]
  clear hS hS2 hd
  have hS := hS3
  clear hS3
  repeat (first | apply Zg | (apply Zc; assumption) | (apply Zd; intro K hK) | apply Zf | (apply Xc; refine Zl rfl rfl rfl (by first | exact CellsOf.agg) hS (by repeat (first | exact Pos.head | apply Pos.tail)) (by repeat (first | exact SetC.here (by repeat (first | exact Ovr.nil | apply Ovr.cons)))) (by kernel_rfl) rfl (fun w hS hB => ?_)) | (apply Yw; refine Za rfl rfl rfl (by first | exact Zy rfl | exact Z2 rfl | (apply Yi; first | exact Zi (by first | exact Yp) rfl (Zhe _) hS (by repeat (first | exact Has.head | apply Has.tail)) (by first | trivial) (by repeat (first | exact Seg.here (by repeat (first | exact Pre.zero | apply Pre.succ))))) | (apply Yt; first | exact yv_neq_f rfl rfl (by omega))) ?_) | apply Yg rfl rfl | apply Zs | apply Zk)
  refine Zm rfl (by first | exact RV.cell rfl (Zt (by first | exact Yp) hS (by repeat (first | exact Has.head | apply Has.tail)) (by repeat (first | exact Seg.here (by repeat (first | exact Pre.zero | apply Pre.succ))))) (RV.tmp rfl RV.nil)) rfl ?_
  rw [e1, e2]
  exact ⟨A2, c2, ⟨rfl, hS.giveS (by repeat (first | exact Has.head)) (by rw [Zew]; omega) hli.le hli.cap⟩, hS.pure⟩
 ·refine ⟨_, rfl, ?_⟩
  obtain ⟨v1, v2, v3, v4, v5, v6, v7, v8, h8⟩ := h8
  have hS2 := (hS.wrote (.tail .head) hk h8).sub (H' := [.box bo [v1, v2, v3, v4, v5, v6, v7, v8] 26, .box bd [.func (.func g) #[] cap] 108, .box bw [.int .i64 x.snap.index, .int .i64 x.snap.term, .int .i64 x.snap.sum, .int .i64 x.snap.level, .bool x.snap.final, .slice A x.log.length c, .int .i64 x.term, .int .i64 x.vote] 26]) (by first | ((try dsimp only); repeat (first | exact List.Sublist.refl _ | (refine List.Sublist.cons _ ?_))))
  have e1 : Zc6 x res = x := by unfold Zc6; rw [hdn]
  have e2 : chgE x res = 2 := by unfold chgE; rw [hdn]
  clear hS hd
  have hS := hS2
  clear hS2
  repeat (first | apply Zg | (apply Zc; assumption) | (apply Zd; intro K hK) | apply Zf | (apply Yw; refine Za rfl rfl rfl (by first | exact Zy rfl | exact Z2 rfl | (apply Yi; first | exact Zi (by first | exact Yp) rfl (Zhe _) hS (by repeat (first | exact Has.head | apply Has.tail)) (by first | trivial) (by repeat (first | exact Seg.here (by repeat (first | exact Pre.zero | apply Pre.succ))))) | (apply Yt; first | exact yv_neq_t rfl rfl (by omega))) ?_) | apply Zu rfl rfl)
  refine Zn rfl rfl rfl rfl (by kernel_rfl) rfl (own_any x.snap A x.log.length c x.log x.term x.vote _ (hx.below hS.pure)) ?_
  rintro e w2 ⟨A3, c3, ⟨rfl, hs3⟩, hB3⟩
  refine ⟨_, rfl, ?_⟩
  replace hS := hS.slice hs3 hB3
  repeat (first | apply Zg | (apply Zc; assumption) | (apply Xc; refine Zl rfl rfl rfl (by first | exact CellsOf.agg) hS (by repeat (first | exact Pos.head | apply Pos.tail)) (by repeat (first | exact SetC.here (by repeat (first | exact Ovr.nil | apply Ovr.cons)))) (by kernel_rfl) rfl (fun w hS hB => ?_)) | (apply Yw; refine Za rfl rfl rfl (by first | exact Zy rfl | exact Z2 rfl) ?_) | apply Zk | apply Zj)
  refine Zm rfl (by first | exact RV.cell rfl (Zt (by first | exact Yp) hS (by repeat (first | exact Has.head | apply Has.tail)) (by repeat (first | exact Seg.here (by repeat (first | exact Pre.zero | apply Pre.succ))))) (RV.tmp rfl RV.nil)) rfl ?_
  rw [e1, e2]
  exact ⟨A3, c3, ⟨rfl, hS.giveS (by repeat (first | exact Has.head)) hs3.len hs3.le hs3.cap⟩, hS.pure⟩
end
section
open Go Go.RowKit
set_option maxRecDepth 100000
theorem last_any (s : St) (A : OA) (n c : Nat) (t v : Int) (w : World) (h : -2000000000000 ≤ s.index ∧ s.index ≤ 2000000000000) (hn : n ≤ 1000000) :
  PureC Tryz.prog 67 #[.agg #[.int .i64 s.index, .int .i64 s.term, .int .i64 s.sum, .int .i64 s.level, .bool s.final, .slice A n c, .int .i64 t, .int .i64 v]] w (.int .i64 (s.index + n)) := by
 refine PureC.mk ?_
 refine Yh Tryz.func67 rfl Tryz.ntmps67 rfl ?_
 have hS := St0.start All w
 repeat (first | apply Zg | (apply Zc; assumption) | (apply Zd; intro K hK) | apply Zf | (apply Vl; refine Z7 rfl rfl rfl (by first | exact CellsOf.agg) hS (fun b w hS hB => ?_)) | (apply Yw; refine Za rfl rfl rfl (by first | exact Z2 rfl | exact Ze (by first | exact Yl | exact Xy | exact X7) rfl | (apply Yi; first | exact Zh (by first | exact Z3 | exact Vm) rfl (Zhe _) hS (by repeat (first | exact Has.head)) (by first | trivial) (by repeat (first | exact Seg.here (Pre.succ Pre.zero) | apply Seg.succ))) | (apply Yt; first | exact Zf9 rfl rfl (by omega)) | (apply Jr; first | exact Yz (by first | exact Xq) rfl)) ?_) | apply Zk)
 refine Zm rfl (by first | exact RV.tmp rfl RV.nil) rfl ?_
 exact ⟨rfl, hS.pure⟩
end
section
open Go Go.RowKit
set_option maxRecDepth 100000
theorem Rd.blk {w : World} {A : OA} {xs : List Value} (h : Rd w A xs) (hne : xs ≠ []) : ∀ a, A = some a → a.block < w.heap.size := fun a ha => by
 cases xs with
 | nil => exact (hne rfl).elim
 | cons v xs =>
  obtain ⟨b, o, hA, hb, _⟩ := h 0 v rfl
  rw [ha] at hA
  injection hA with hA
  subst hA
  exact hb
theorem KeepB.rdN {S : Nat → Prop} {w w' : World} {A : OA} {xs : List Value} (hk : KeepB S w w') (h : Rd w A xs) (hs : ∀ a, A = some a → xs ≠ [] → S a.block) : Rd w' A xs := by
 cases xs with
 | nil => exact Rd.nil _ _
 | cons v xs => exact hk.rd h (fun a ha => hs a ha (by simp))
theorem append1_does (bl m d : Nat) (B : OA) (l : List En) (w0 : World) (hbl : w0.heap[bl]? = some (.cells #[.slice B m d] 24)) (hl : LI w0 B m d l) (x : Tu) (hm : m ≤ 300) (hx : Zad x = true) :
  Does 110 #[.pointer (some ⟨bl, 0, none⟩)] w0 x (some { x with log := x.log ++ l }) := by
 intro W bo A' c' hB hbo hT hLI hA'
 have hxb := tupB_bd x hx
 have hol : bo < W.heap.size := (Array.getElem?_eq_some_iff.1 hT).1
 have hbl' : bl < w0.heap.size := (Array.getElem?_eq_some_iff.1 hbl).1
 have hblW : W.heap[bl]? = some (.cells #[.slice B m d] 24) := (hB.block bl hbl').trans hbl
 have hne : bl ≠ bo := by omega
 have hlW := hl.below hB
 show Calls _ _ #[_, _] _ _
 refine Ys Tryz.func110 rfl Tryz.ntmps110 rfl ?_
 have hS := St0.old (w := W) (fun k => k ≠ bo) (e := .box bo [.int .i64 x.snap.index, .int .i64 x.snap.term, .int .i64 x.snap.sum, .int .i64 x.snap.level, .bool x.snap.final, .slice A' x.log.length c', .int .i64 x.term, .int .i64 x.vote] 26) hT (fun k hk => by subst hk; exact ⟨hol, by simp⟩)
 refine Yn 11 [10] (fun i b => (i = 10 → b ≠ bo)) ⟨by kernel_rfl, by kernel_rfl⟩ hS (fun w hS hB => ?_)
 refine Zr [true, true, true, true, true, true] (by decide +kernel) (by repeat (first | exact PF.body)) ?_
 repeat (first | refine LtK.put rfl rfl rfl (by first | exact Zy rfl | exact Ze (by first | exact Yl | exact X7) rfl | (apply Yi; first | exact Zh (by first | exact Zg5 | exact Vm) rfl (Zhf _) hS (by repeat (first | exact Has.head | apply Has.tail)) (by first | trivial) (by repeat (first | exact Seg.here (Pre.succ Pre.zero) | apply Seg.succ)) | exact X3 (by first | exact Zg5 | exact Vm) rfl (Zhf _) hS (by first | trivial) (by first | trivial) (by assumption) (by repeat (first | exact Seg.here (Pre.succ Pre.zero)))) | exact Vu rfl) ?_)
 refine LtK.nil ?_
 refine Z5 [false, false, false, false, false, false, true] 6 ⟨by decide, by kernel_rfl, by kernel_rfl⟩ rfl rfl ?_
 dsimp only [Zw]
 repeat (first | apply Zg | (apply Yw; refine Ym (ps := [(0, .tmp 7), (1, .tmp 8)]) [.slice A' x.log.length c', .slice B m d] (by first | exact el_122) (by first | exact zc_24) rfl rfl rfl rfl rfl (by kernel_rfl) hS ?_; rintro bq w hS hB))
 refine Z6 (by first | assumption) ?_
 refine Z5 [false, false, false, false, false, false, false, true] 7 ⟨by decide, by kernel_rfl, by kernel_rfl⟩ rfl rfl ?_
 dsimp only [Zw]
 repeat (first | apply Zg | (apply Xv; refine Zn rfl rfl rfl rfl (by kernel_rfl) rfl (concat_any bq 2 A' B x.log.length m c' d x.log l _ rfl hl.len (by omega) (hS.base.rd hLI.rd (fun a ha => (hA' a ha).1)) (hS.base.rdN hlW.rd (fun a ha hne => by have := hl.rd.blk hne a ha; omega)) (hS.box_cell (b := bq) (by repeat (first | exact Has.head)) (by repeat (first | exact Seg.here (Pre.succ Pre.zero)))) (hS.box_cell (b := bq) (by repeat (first | exact Has.head)) (by repeat (first | exact Seg.here (Pre.succ Pre.zero) | apply Seg.succ))) (by omega)) ?_; rintro e w1 ⟨A2, c2, ⟨rfl, hs⟩, hB⟩; refine ⟨_, rfl, ?_⟩; have hS := hS.slice hs hB))
 refine Z6 (by first | assumption) ?_
 refine Y1 [false, false, false, false, false, false, false, false, true] [10] (fun b => b ≠ bo) (by decide +kernel) (by intro j hj b hb; simp only [List.mem_cons, List.not_mem_nil, or_false] at hj; (try rcases hj with rfl | rfl) <;> simp_all) (by repeat (first | exact PF.body)) ?_
 repeat (first | refine LtK.put rfl rfl rfl (by first | exact Vu rfl) ?_)
 refine LtK.nil ?_
 refine Zr [false, false, false, false, false, false, false, false, false, true] (by decide +kernel) (by repeat (first | exact PF.body)) ?_
 repeat (first | refine LtK.put rfl rfl rfl (by first | exact Ze (by first | exact Yl | exact X7) rfl) ?_)
 refine LtK.nil ?_
 refine Yk [false, false, false, false, false, false, false, false, false, false, true] 10 ⟨by decide, by kernel_rfl, by kernel_rfl⟩ rfl rfl ?_
 dsimp only [Zw]
 repeat (first | apply Zg | (apply Xc; refine Zl rfl rfl rfl (by first | exact CellsOf.slice) hS (by repeat (first | exact Pos.head | apply Pos.tail)) (by repeat (first | exact SetC.here (by repeat (first | exact Ovr.nil | apply Ovr.cons)) | apply SetC.succ)) (by kernel_rfl) rfl (fun w hS hB => ?_)))
 refine Yb (by first | exact hB.sub (fun _ _ h => by simpa using h)) ?_
 refine Ye (by kernel_rfl) ?_
 refine Zfp rfl (by first | exact RV.nil) rfl ?_
 have hob := hS.ok (.box bo [.int .i64 x.snap.index, .int .i64 x.snap.term, .int .i64 x.snap.sum, .int .i64 x.snap.level, .bool x.snap.final, .slice A2 (x.log.length + m) c2, .int .i64 x.term, .int .i64 x.vote] 26) (Has.mem (by repeat (first | exact Has.head | apply Has.tail)))
 have hrd : LI w A2 (x.log ++ l).length c2 (x.log ++ l) := ⟨rfl, by rw [List.length_append, hl.len]; omega, by rw [List.length_append, hl.len]; exact hs.le, hs.cap, hS.rd (by repeat (first | exact Has.head))⟩
 have hln : (x.log ++ l).length = x.log.length + m := by rw [List.length_append, hl.len]
 refine ⟨hS.base, .inl ⟨_, A2, c2, rfl, rfl, ?_, hrd, fun a ha => ⟨(hS.rng (.rd A2 (ens (x.log ++ l))) (Has.mem (by repeat (first | exact Has.head))) a.block ⟨a, ha, rfl⟩).1, .inr ?_⟩⟩⟩
 ·unfold TB; rw [hln]; exact hob
 ·exact Nat.le_of_not_lt fun hlt => (hS.rng (.rd A2 (ens (x.log ++ l))) (Has.mem (by repeat (first | exact Has.head))) a.block ⟨a, ha, rfl⟩).2 hlt (hS.rd_ne 0 2 rfl rfl rfl a ha)
def Chg (w0 : World) (x : Tu) (res : Option Tu) (e : Ending) (w' : World) : Prop := ∃ A2 c2, (e = .returned (.tuple #[.agg #[.int .i64 (Zc6 x res).snap.index, .int .i64 (Zc6 x res).snap.term, .int .i64 (Zc6 x res).snap.sum, .int .i64 (Zc6 x res).snap.level, .bool (Zc6 x res).snap.final, .slice A2 (Zc6 x res).log.length c2, .int .i64 (Zc6 x res).term, .int .i64 (Zc6 x res).vote], .int .i64 (chgE x res)]) ∧ Sl w0 w' A2 (Zc6 x res).log.length c2 3 (ens (Zc6 x res).log)) ∧ Below w0.heap.size w0 w'
theorem append_any (x : Tu) (A B : OA) (c m d : Nat) (l : List En) (w0 : World) (hx : LI w0 A x.log.length c x.log) (hA : ∀ a, A = some a → a.block < w0.heap.size) (hl : LI w0 B m d l) (hm : m ≤ 300) :
  Calls Tryz.prog 66 #[.agg #[.int .i64 x.snap.index, .int .i64 x.snap.term, .int .i64 x.snap.sum, .int .i64 x.snap.level, .bool x.snap.final, .slice A x.log.length c, .int .i64 x.term, .int .i64 x.vote], .slice B m d] w0 (Chg w0 x (some { x with log := x.log ++ l })) := by
 refine Ys Tryz.func66 rfl Tryz.ntmps66 rfl ?_
 have hS := St0.start All w0
 repeat (first | (apply Zd; intro K hK) | apply Zf)
 first | (apply Vl; refine Z7 rfl rfl rfl (by first | exact CellsOf.agg) hS (fun bt w hS hB => ?_))
 first | (apply Vl; refine Z7 rfl rfl rfl (by first | exact CellsOf.slice) hS (fun bl w hS hB => ?_))
 repeat (first | apply Zg | (apply Zc; assumption) | (apply Zd; intro K hK) | apply Zf | (apply Zbc; refine Yd rfl rfl (by first | exact Zeq) hS (fun b w hS hB => ?_)) | (apply Yw; refine Za rfl rfl rfl (by first | exact Z2 rfl | (apply Yi; first | exact Zi (by first | exact Yp) rfl (Zhe _) hS (by repeat (first | exact Has.head | apply Has.tail)) (by first | trivial) (by repeat (first | exact Seg.here (by repeat (first | exact Pre.zero | apply Pre.succ))))) | exact Vn rfl rfl) ?_))
 have hbl := (hS.box_ge (b := bl) (by repeat (first | exact Has.head | apply Has.tail)))
 refine Zn rfl rfl rfl rfl (by kernel_rfl) rfl (changed_any x (some { x with log := x.log ++ l }) A c 110 #[.pointer (some ⟨bl, 0, none⟩)] _ (by kernel_rfl) (hx.below hS.pure) (fun a ha => Nat.lt_of_lt_of_le (hA a ha) hS.size)
  (fun hT => append1_does bl m d B l _ hbl.2.2 (hl.below hS.pure) x hm hT)) ?_
 rintro e w1 ⟨A2, c2, ⟨rfl, hs⟩, hB⟩
 refine ⟨_, rfl, ?_⟩
 replace hS := hS.slice hs hB
 repeat (first | apply Zg | (apply Zc; assumption) | (apply Xc; refine Zl rfl rfl rfl (by first | exact CellsOf.agg) hS (by repeat (first | exact Pos.head | apply Pos.tail)) (by repeat (first | exact SetC.here (by repeat (first | exact Ovr.nil | apply Ovr.cons)))) (by kernel_rfl) rfl (fun w hS hB => ?_)) | (apply Yw; refine Za rfl rfl rfl (by first | exact Z2 rfl | exact Z0 rfl rfl) ?_) | apply Zk)
 refine Zm rfl (by first | exact RV.cell rfl (Zt (by first | exact Yp) hS (by repeat (first | exact Has.head | apply Has.tail)) (by repeat (first | exact Seg.here (by repeat (first | exact Pre.zero | apply Pre.succ))))) (RV.tmp rfl RV.nil)) rfl ?_
 exact ⟨A2, c2, ⟨rfl, hS.giveS (by repeat (first | exact Has.head)) hs.len hs.le hs.cap⟩, hS.pure⟩
end
section
open Go Go.RowKit
set_option maxRecDepth 100000
theorem Rd.cutE {w : World} {A : OA} {l : List En} (h : Rd w A (ens l)) {k c : Nat} (hc : l.length ≤ c) : Rd w (if c = k then A else A.map (·.add (k * 3))) (ens (l.drop k)) := by
 split
 ·rename_i hck
  have : l.drop k = [] := List.drop_eq_nil_of_le (by omega)
  rw [this]; exact Rd.nil w A
 ·rw [ens_drop, Nat.mul_comm]; exact h.drop (3 * k)
def termAt (x : Tu) (i : Int) : Option Int := if i = x.snap.index then some x.snap.term else if x.snap.index < i ∧ i ≤ x.last then (x.log[(i - x.snap.index - 1).toNat]?).map En.term else none
end
section
open Go Go.RowKit
set_option maxRecDepth 100000
set_option maxHeartbeats 1000000
def Zfq (x : Tu) (t v : Int) : Option Tu := if x.term < t ∨ t = x.term ∧ (x.vote = 0 ∨ x.vote = v) then some { x with term := t, vote := v } else none
theorem hard1_does (bf bg : Nat) (t v : Int) (w0 : World) (hbf : w0.heap[bf]? = some (.cells #[.int .i64 t] 3)) (hbg : w0.heap[bg]? = some (.cells #[.int .i64 v] 3)) (x : Tu) (hx : Zad x = true) :
  Does 106 #[.pointer (some ⟨bf, 0, none⟩), .pointer (some ⟨bg, 0, none⟩)] w0 x (Zfq x t v) := by
 intro W bo A' c' hB hbo hT hLI hA'
 have hxb := tupB_bd x hx
 have hol : bo < W.heap.size := (Array.getElem?_eq_some_iff.1 hT).1
 have hle := hLI.le
 have hcp := hLI.cap
 have hAn := fun a ha => (hA' a ha).1
 have hbfl : bf < w0.heap.size := (Array.getElem?_eq_some_iff.1 hbf).1
 have hbfW : W.heap[bf]? = some (.cells #[.int .i64 t] 3) := (hB.block bf hbfl).trans hbf
 have hbfn : bf ≠ bo := by omega
 have hbgl : bg < w0.heap.size := (Array.getElem?_eq_some_iff.1 hbg).1
 have hbgW : W.heap[bg]? = some (.cells #[.int .i64 v] 3) := (hB.block bg hbgl).trans hbg
 have hbgn : bg ≠ bo := by omega
 show Calls _ _ #[_, _, _] _ _
 refine Zaj Tryz.func106 rfl Tryz.ntmps106 rfl ?_
 have hS := St0.old (w := W) (fun k => k ≠ bo) (e := .box bo [.int .i64 x.snap.index, .int .i64 x.snap.term, .int .i64 x.snap.sum, .int .i64 x.snap.level, .bool x.snap.final, .slice A' x.log.length c', .int .i64 x.term, .int .i64 x.vote] 26) hT (fun k hk => by subst hk; exact ⟨hol, by simp⟩)
 by_cases h0 : x.term < t ∨ t = x.term ∧ (x.vote = 0 ∨ x.vote = v)
 ·have e1 : Zfq x t v = some { x with term := t, vote := v } := if_pos h0
  rw [e1]
  have hfin : ∀ w, KeepB (fun k => k ≠ bo) W w → w.heap[bo]? = some (.cells #[.int .i64 x.snap.index, .int .i64 x.snap.term, .int .i64 x.snap.sum, .int .i64 x.snap.level, .bool x.snap.final, .slice A' x.log.length c', .int .i64 t, .int .i64 v] 26) → (KeepB (fun k => k ≠ bo) W w ∧ ((∃ y A2 c2, some ({ x with term := t, vote := v } : Tu) = some y ∧ (Ending.returned (.tuple #[])) = .returned (.tuple #[]) ∧ TB w bo y A2 c2 ∧ LI w A2 y.log.length c2 y.log ∧ (∀ a, A2 = some a → a.block < w.heap.size ∧ ((∃ a', A' = some a' ∧ a.block = a'.block) ∨ W.heap.size ≤ a.block))) ∨ (some ({ x with term := t, vote := v } : Tu) = none ∧ (Ending.returned (.tuple #[])) = .panicked badP ∧ TB8 w bo))) :=
   fun w hk ho => ⟨hk, .inl ⟨_, A', c', rfl, rfl, ho, hLI.keep hk hAn, fun a ha => ⟨Nat.lt_of_lt_of_le (hA' a ha).2 hk.size, .inl ⟨a, ha, rfl⟩⟩⟩⟩
  by_cases h1 : x.term < t
  ·repeat (first | (apply Zd; intro K hK))
   refine Yn 30 [] (fun _ _ => True) ⟨by kernel_rfl, by kernel_rfl⟩ hS (fun w hS hB => ?_)
   refine Zr [true, true, true, true, true, true, true, true, true, true, true, true, true, true, true, true, true, true, true, true, true, true, true, true, true, true, true, true, true] (by decide +kernel) (by repeat (first | exact PF.body | apply PF.then)) ?_
   repeat (first | refine LtK.put rfl rfl rfl (by first | exact Zy rfl | exact Ze (by first | exact Yl | exact Xl | exact Vp) rfl | (apply Yi; first | exact Zh (by first | exact Zg5 | exact Z3) rfl (Zhf _) hS (by repeat (first | exact Has.head | apply Has.tail)) (by first | trivial) (by repeat (first | exact Seg.here (Pre.succ Pre.zero) | apply Seg.succ)) | exact X3 (by first | exact Zg5 | exact Z3) rfl (Zhf _) hS (by first | trivial) (by first | trivial) (by assumption) (by repeat (first | exact Seg.here (Pre.succ Pre.zero)))) | (apply Yt; first | exact yv_gtr_t rfl rfl (by omega)) | (apply Xz; first | exact Xf rfl rfl rfl) | exact Vu rfl) ?_ | refine LtK.skip rfl rfl rfl ?_)
   refine LtK.nil ?_
   refine Z5 [false, false, false, false, false, false, false, false, false, false, false, false, false, false, false, false, false, false, false, false, false, false, false, false, false, false, false, false, false, true] 29 ⟨by decide, by kernel_rfl, by kernel_rfl⟩ rfl rfl ?_
   dsimp only [Zw]
   repeat (first | apply Zg | (apply Xv; first | refine X6 rfl rfl rfl (by kernel_rfl) rfl (must_t _) hS (fun w hS hB => ?_)))
   refine Z6 (by first | assumption) ?_
   refine Ye (by kernel_rfl) ?_
   repeat (first | (apply Zc; assumption))
   refine Yn 10 [6, 9] (fun i b => (i = 6 → b ≠ bo) ∧ (i = 9 → b ≠ bo)) ⟨by kernel_rfl, by kernel_rfl⟩ hS (fun w hS hB => ?_)
   refine Zr [true, false, true] (by decide +kernel) (by repeat (first | exact PF.body)) ?_
   repeat (first | refine LtK.put rfl rfl rfl (by first | exact Zy rfl | (apply Yi; first | exact X3 (by first | exact Zg5 | exact Z3) rfl (Zhf _) hS (by first | trivial) (by first | trivial) (by assumption) (by repeat (first | exact Seg.here (Pre.succ Pre.zero))))) ?_)
   refine LtK.nil ?_
   refine Y1 [false, true, false, true, true] [6] (fun b => b ≠ bo) (by decide +kernel) (by intro j hj b hb; simp only [List.mem_cons, List.not_mem_nil, or_false] at hj; (try rcases hj with rfl | rfl) <;> simp_all) (by repeat (first | exact PF.body)) ?_
   repeat (first | refine LtK.put rfl rfl rfl (by first | exact Zy rfl | (apply Yi; first | exact X3 (by first | exact Zg5 | exact Z3) rfl (Zhg _ _) hS (by first | trivial) (by first | trivial) (by assumption) (by repeat (first | exact Seg.here (Pre.succ Pre.zero)))) | exact Vu rfl) ?_)
   refine LtK.nil ?_
   refine Zr [false, false, false, false, false, true] (by decide +kernel) (by repeat (first | exact PF.body)) ?_
   repeat (first | refine LtK.put rfl rfl rfl (by first | exact Ze (by first | exact Yl | exact Xl) rfl) ?_)
   refine LtK.nil ?_
   refine Yk [false, false, false, false, false, false, true] 6 ⟨by decide, by kernel_rfl, by kernel_rfl⟩ rfl rfl ?_
   dsimp only [Zw]
   repeat (first | apply Zg | (apply Xc; refine Zl rfl rfl rfl (by first | exact CellsOf.int) hS (by repeat (first | exact Pos.head)) (by repeat (first | exact SetC.here (by repeat (first | exact Ovr.nil | apply Ovr.cons)) | apply SetC.succ)) (by kernel_rfl) rfl (fun w hS hB => ?_)))
   refine Yb (by first | exact hB.sub (fun _ _ h => by simpa using h)) ?_
   refine Y1 [false, false, false, false, false, false, false, true] [9] (fun b => b ≠ bo) (by decide +kernel) (by intro j hj b hb; simp only [List.mem_cons, List.not_mem_nil, or_false] at hj; (try rcases hj with rfl | rfl) <;> simp_all) (by repeat (first | exact PF.body)) ?_
   repeat (first | refine LtK.put rfl rfl rfl (by first | exact Vu rfl) ?_)
   refine LtK.nil ?_
   refine Zr [false, false, false, false, false, false, false, false, true] (by decide +kernel) (by repeat (first | exact PF.body)) ?_
   repeat (first | refine LtK.put rfl rfl rfl (by first | exact Ze (by first | exact Yl | exact Vp) rfl) ?_)
   refine LtK.nil ?_
   refine Yk [false, false, false, false, false, false, false, false, false, true] 9 ⟨by decide, by kernel_rfl, by kernel_rfl⟩ rfl rfl ?_
   dsimp only [Zw]
   repeat (first | apply Zg | (apply Xc; refine Zl rfl rfl rfl (by first | exact CellsOf.int) hS (by repeat (first | exact Pos.head)) (by repeat (first | exact SetC.here (by repeat (first | exact Ovr.nil | apply Ovr.cons)) | apply SetC.succ)) (by kernel_rfl) rfl (fun w hS hB => ?_)))
   refine Yb (by first | exact hB.sub (fun _ _ h => by simpa using h)) ?_
   refine Ye (by kernel_rfl) ?_
   refine Zfp rfl (by first | exact RV.nil) rfl ?_
   exact hfin _ hS.base (hS.ok (.box bo [.int .i64 x.snap.index, .int .i64 x.snap.term, .int .i64 x.snap.sum, .int .i64 x.snap.level, .bool x.snap.final, .slice A' x.log.length c', .int .i64 t, .int .i64 v] 26) (Has.mem (by repeat (first | exact Has.head))))
  ·have h2 : t = x.term := by omega
   by_cases h3 : x.vote = 0
   ·repeat (first | (apply Zd; intro K hK))
    refine Yn 30 [] (fun _ _ => True) ⟨by kernel_rfl, by kernel_rfl⟩ hS (fun w hS hB => ?_)
    refine Zr [true, true, true, true, true, true, true, true, true, true, true, true, true, true, true, true, true, true, true, true, true, true, true, true, true, true, true, true, true] (by decide +kernel) (by repeat (first | exact PF.body | apply PF.then)) ?_
    repeat (first | refine LtK.put rfl rfl rfl (by first | exact Zy rfl | exact Ze (by first | exact Yl | exact Xl | exact Vp) rfl | (apply Yi; first | exact Zh (by first | exact Zg5 | exact Z3) rfl (Zhf _) hS (by repeat (first | exact Has.head | apply Has.tail)) (by first | trivial) (by repeat (first | exact Seg.here (Pre.succ Pre.zero) | apply Seg.succ)) | exact X3 (by first | exact Zg5 | exact Z3) rfl (Zhf _) hS (by first | trivial) (by first | trivial) (by assumption) (by repeat (first | exact Seg.here (Pre.succ Pre.zero)))) | (apply Yt; first | exact Zfi rfl rfl (by omega) | exact yv_eql_t rfl rfl (by omega)) | (apply Xz; first | exact Xf rfl rfl rfl | exact Xd rfl rfl rfl) | exact Vu rfl) ?_ | refine LtK.skip rfl rfl rfl ?_)
    refine LtK.nil ?_
    refine Z5 [false, false, false, false, false, false, false, false, false, false, false, false, false, false, false, false, false, false, false, false, false, false, false, false, false, false, false, false, false, true] 29 ⟨by decide, by kernel_rfl, by kernel_rfl⟩ rfl rfl ?_
    dsimp only [Zw]
    repeat (first | apply Zg | (apply Xv; first | refine X6 rfl rfl rfl (by kernel_rfl) rfl (must_t _) hS (fun w hS hB => ?_)))
    refine Z6 (by first | assumption) ?_
    refine Ye (by kernel_rfl) ?_
    repeat (first | (apply Zc; assumption))
    refine Yn 10 [6, 9] (fun i b => (i = 6 → b ≠ bo) ∧ (i = 9 → b ≠ bo)) ⟨by kernel_rfl, by kernel_rfl⟩ hS (fun w hS hB => ?_)
    refine Zr [true, false, true] (by decide +kernel) (by repeat (first | exact PF.body)) ?_
    repeat (first | refine LtK.put rfl rfl rfl (by first | exact Zy rfl | (apply Yi; first | exact X3 (by first | exact Zg5 | exact Z3) rfl (Zhf _) hS (by first | trivial) (by first | trivial) (by assumption) (by repeat (first | exact Seg.here (Pre.succ Pre.zero))))) ?_)
    refine LtK.nil ?_
    refine Y1 [false, true, false, true, true] [6] (fun b => b ≠ bo) (by decide +kernel) (by intro j hj b hb; simp only [List.mem_cons, List.not_mem_nil, or_false] at hj; (try rcases hj with rfl | rfl) <;> simp_all) (by repeat (first | exact PF.body)) ?_
    repeat (first | refine LtK.put rfl rfl rfl (by first | exact Zy rfl | (apply Yi; first | exact X3 (by first | exact Zg5 | exact Z3) rfl (Zhg _ _) hS (by first | trivial) (by first | trivial) (by assumption) (by repeat (first | exact Seg.here (Pre.succ Pre.zero)))) | exact Vu rfl) ?_)
    refine LtK.nil ?_
    refine Zr [false, false, false, false, false, true] (by decide +kernel) (by repeat (first | exact PF.body)) ?_
    repeat (first | refine LtK.put rfl rfl rfl (by first | exact Ze (by first | exact Yl | exact Xl) rfl) ?_)
    refine LtK.nil ?_
    refine Yk [false, false, false, false, false, false, true] 6 ⟨by decide, by kernel_rfl, by kernel_rfl⟩ rfl rfl ?_
    dsimp only [Zw]
    repeat (first | apply Zg | (apply Xc; refine Zl rfl rfl rfl (by first | exact CellsOf.int) hS (by repeat (first | exact Pos.head)) (by repeat (first | exact SetC.here (by repeat (first | exact Ovr.nil | apply Ovr.cons)) | apply SetC.succ)) (by kernel_rfl) rfl (fun w hS hB => ?_)))
    refine Yb (by first | exact hB.sub (fun _ _ h => by simpa using h)) ?_
    refine Y1 [false, false, false, false, false, false, false, true] [9] (fun b => b ≠ bo) (by decide +kernel) (by intro j hj b hb; simp only [List.mem_cons, List.not_mem_nil, or_false] at hj; (try rcases hj with rfl | rfl) <;> simp_all) (by repeat (first | exact PF.body)) ?_
    repeat (first | refine LtK.put rfl rfl rfl (by first | exact Vu rfl) ?_)
    refine LtK.nil ?_
    refine Zr [false, false, false, false, false, false, false, false, true] (by decide +kernel) (by repeat (first | exact PF.body)) ?_
    repeat (first | refine LtK.put rfl rfl rfl (by first | exact Ze (by first | exact Yl | exact Vp) rfl) ?_)
    refine LtK.nil ?_
    refine Yk [false, false, false, false, false, false, false, false, false, true] 9 ⟨by decide, by kernel_rfl, by kernel_rfl⟩ rfl rfl ?_
    dsimp only [Zw]
    repeat (first | apply Zg | (apply Xc; refine Zl rfl rfl rfl (by first | exact CellsOf.int) hS (by repeat (first | exact Pos.head)) (by repeat (first | exact SetC.here (by repeat (first | exact Ovr.nil | apply Ovr.cons)) | apply SetC.succ)) (by kernel_rfl) rfl (fun w hS hB => ?_)))
    refine Yb (by first | exact hB.sub (fun _ _ h => by simpa using h)) ?_
    refine Ye (by kernel_rfl) ?_
    refine Zfp rfl (by first | exact RV.nil) rfl ?_
    exact hfin _ hS.base (hS.ok (.box bo [.int .i64 x.snap.index, .int .i64 x.snap.term, .int .i64 x.snap.sum, .int .i64 x.snap.level, .bool x.snap.final, .slice A' x.log.length c', .int .i64 t, .int .i64 v] 26) (Has.mem (by repeat (first | exact Has.head))))
   ·have h4 : x.vote = v := by omega
    repeat (first | (apply Zd; intro K hK))
    refine Yn 30 [] (fun _ _ => True) ⟨by kernel_rfl, by kernel_rfl⟩ hS (fun w hS hB => ?_)
    refine Zr [true, true, true, true, true, true, true, true, true, true, true, true, true, true, true, true, true, true, true, true, true, true, true, true, true, true, true, true, true] (by decide +kernel) (by repeat (first | exact PF.body | apply PF.then)) ?_
    repeat (first | refine LtK.put rfl rfl rfl (by first | exact Zy rfl | exact Ze (by first | exact Yl | exact Xl | exact Vp) rfl | (apply Yi; first | exact Zh (by first | exact Zg5 | exact Z3) rfl (Zhf _) hS (by repeat (first | exact Has.head | apply Has.tail)) (by first | trivial) (by repeat (first | exact Seg.here (Pre.succ Pre.zero) | apply Seg.succ)) | exact X3 (by first | exact Zg5 | exact Z3) rfl (Zhf _) hS (by first | trivial) (by first | trivial) (by assumption) (by repeat (first | exact Seg.here (Pre.succ Pre.zero)))) | (apply Yt; first | exact Zfi rfl rfl (by omega) | exact yv_eql_t rfl rfl (by omega) | exact yv_eql_f rfl rfl (by omega)) | (apply Xz; first | exact Xf rfl rfl rfl | exact Xd rfl rfl rfl) | exact Vu rfl) ?_)
    refine LtK.nil ?_
    refine Z5 [false, false, false, false, false, false, false, false, false, false, false, false, false, false, false, false, false, false, false, false, false, false, false, false, false, false, false, false, false, true] 29 ⟨by decide, by kernel_rfl, by kernel_rfl⟩ rfl rfl ?_
    dsimp only [Zw]
    repeat (first | apply Zg | (apply Xv; first | refine X6 rfl rfl rfl (by kernel_rfl) rfl (must_t _) hS (fun w hS hB => ?_)))
    refine Z6 (by first | assumption) ?_
    refine Ye (by kernel_rfl) ?_
    repeat (first | (apply Zc; assumption))
    refine Yn 10 [6, 9] (fun i b => (i = 6 → b ≠ bo) ∧ (i = 9 → b ≠ bo)) ⟨by kernel_rfl, by kernel_rfl⟩ hS (fun w hS hB => ?_)
    refine Zr [true, false, true] (by decide +kernel) (by repeat (first | exact PF.body)) ?_
    repeat (first | refine LtK.put rfl rfl rfl (by first | exact Zy rfl | (apply Yi; first | exact X3 (by first | exact Zg5 | exact Z3) rfl (Zhf _) hS (by first | trivial) (by first | trivial) (by assumption) (by repeat (first | exact Seg.here (Pre.succ Pre.zero))))) ?_)
    refine LtK.nil ?_
    refine Y1 [false, true, false, true, true] [6] (fun b => b ≠ bo) (by decide +kernel) (by intro j hj b hb; simp only [List.mem_cons, List.not_mem_nil, or_false] at hj; (try rcases hj with rfl | rfl) <;> simp_all) (by repeat (first | exact PF.body)) ?_
    repeat (first | refine LtK.put rfl rfl rfl (by first | exact Zy rfl | (apply Yi; first | exact X3 (by first | exact Zg5 | exact Z3) rfl (Zhg _ _) hS (by first | trivial) (by first | trivial) (by assumption) (by repeat (first | exact Seg.here (Pre.succ Pre.zero)))) | exact Vu rfl) ?_)
    refine LtK.nil ?_
    refine Zr [false, false, false, false, false, true] (by decide +kernel) (by repeat (first | exact PF.body)) ?_
    repeat (first | refine LtK.put rfl rfl rfl (by first | exact Ze (by first | exact Yl | exact Xl) rfl) ?_)
    refine LtK.nil ?_
    refine Yk [false, false, false, false, false, false, true] 6 ⟨by decide, by kernel_rfl, by kernel_rfl⟩ rfl rfl ?_
    dsimp only [Zw]
    repeat (first | apply Zg | (apply Xc; refine Zl rfl rfl rfl (by first | exact CellsOf.int) hS (by repeat (first | exact Pos.head)) (by repeat (first | exact SetC.here (by repeat (first | exact Ovr.nil | apply Ovr.cons)) | apply SetC.succ)) (by kernel_rfl) rfl (fun w hS hB => ?_)))
    refine Yb (by first | exact hB.sub (fun _ _ h => by simpa using h)) ?_
    refine Y1 [false, false, false, false, false, false, false, true] [9] (fun b => b ≠ bo) (by decide +kernel) (by intro j hj b hb; simp only [List.mem_cons, List.not_mem_nil, or_false] at hj; (try rcases hj with rfl | rfl) <;> simp_all) (by repeat (first | exact PF.body)) ?_
    repeat (first | refine LtK.put rfl rfl rfl (by first | exact Vu rfl) ?_)
    refine LtK.nil ?_
    refine Zr [false, false, false, false, false, false, false, false, true] (by decide +kernel) (by repeat (first | exact PF.body)) ?_
    repeat (first | refine LtK.put rfl rfl rfl (by first | exact Ze (by first | exact Yl | exact Vp) rfl) ?_)
    refine LtK.nil ?_
    refine Yk [false, false, false, false, false, false, false, false, false, true] 9 ⟨by decide, by kernel_rfl, by kernel_rfl⟩ rfl rfl ?_
    dsimp only [Zw]
    repeat (first | apply Zg | (apply Xc; refine Zl rfl rfl rfl (by first | exact CellsOf.int) hS (by repeat (first | exact Pos.head)) (by repeat (first | exact SetC.here (by repeat (first | exact Ovr.nil | apply Ovr.cons)) | apply SetC.succ)) (by kernel_rfl) rfl (fun w hS hB => ?_)))
    refine Yb (by first | exact hB.sub (fun _ _ h => by simpa using h)) ?_
    refine Ye (by kernel_rfl) ?_
    refine Zfp rfl (by first | exact RV.nil) rfl ?_
    exact hfin _ hS.base (hS.ok (.box bo [.int .i64 x.snap.index, .int .i64 x.snap.term, .int .i64 x.snap.sum, .int .i64 x.snap.level, .bool x.snap.final, .slice A' x.log.length c', .int .i64 t, .int .i64 v] 26) (Has.mem (by repeat (first | exact Has.head))))
 ·have e1 : Zfq x t v = none := if_neg h0
  rw [e1]
  have h1 : ¬ x.term < t := fun h => h0 (.inl h)
  by_cases h2 : t = x.term
  ·have h3 : x.vote ≠ 0 := fun h => h0 (.inr ⟨h2, .inl h⟩)
   have h4 : x.vote ≠ v := fun h => h0 (.inr ⟨h2, .inr h⟩)
   repeat (first | (apply Zd; intro K hK))
   refine Yn 30 [] (fun _ _ => True) ⟨by kernel_rfl, by kernel_rfl⟩ hS (fun w hS hB => ?_)
   refine Zr [true, true, true, true, true, true, true, true, true, true, true, true, true, true, true, true, true, true, true, true, true, true, true, true, true, true, true, true, true] (by decide +kernel) (by repeat (first | exact PF.body | apply PF.then)) ?_
   repeat (first | refine LtK.put rfl rfl rfl (by first | exact Zy rfl | exact Ze (by first | exact Yl | exact Xl | exact Vp) rfl | (apply Yi; first | exact Zh (by first | exact Zg5 | exact Z3) rfl (Zhf _) hS (by repeat (first | exact Has.head | apply Has.tail)) (by first | trivial) (by repeat (first | exact Seg.here (Pre.succ Pre.zero) | apply Seg.succ)) | exact X3 (by first | exact Zg5 | exact Z3) rfl (Zhf _) hS (by first | trivial) (by first | trivial) (by assumption) (by repeat (first | exact Seg.here (Pre.succ Pre.zero)))) | (apply Yt; first | exact Zfi rfl rfl (by omega) | exact yv_eql_t rfl rfl (by omega) | exact yv_eql_f rfl rfl (by omega)) | (apply Xz; first | exact Xf rfl rfl rfl | exact Xd rfl rfl rfl) | exact Vu rfl) ?_)
   refine LtK.nil ?_
   refine Z5 [false, false, false, false, false, false, false, false, false, false, false, false, false, false, false, false, false, false, false, false, false, false, false, false, false, false, false, false, false, true] 29 ⟨by decide, by kernel_rfl, by kernel_rfl⟩ rfl rfl ?_
   dsimp only [Zw]
   repeat (first | (apply Xv; first | (refine Xx rfl rfl (by kernel_rfl) rfl (Zgd _) ?_; rintro e w2 ⟨rfl, hB2⟩; refine ⟨_, rfl, ?_⟩)) | apply Xs)
   exact Jw rfl ⟨(hS.below hB2).base, .inr ⟨rfl, rfl, TB.eight (x := x) (A := A') (c := c') ((hS.below hB2).ok (.box bo [.int .i64 x.snap.index, .int .i64 x.snap.term, .int .i64 x.snap.sum, .int .i64 x.snap.level, .bool x.snap.final, .slice A' x.log.length c', .int .i64 x.term, .int .i64 x.vote] 26) (Has.mem (by repeat (first | exact Has.head))))⟩⟩
  ·repeat (first | (apply Zd; intro K hK))
   refine Yn 30 [] (fun _ _ => True) ⟨by kernel_rfl, by kernel_rfl⟩ hS (fun w hS hB => ?_)
   refine Zr [true, true, true, true, true, true, true, true, true, true, true, true, true, true, true, true, true, true, true, true, true, true, true, true, true, true, true, true, true] (by decide +kernel) (by repeat (first | exact PF.body | apply PF.then)) ?_
   repeat (first | refine LtK.put rfl rfl rfl (by first | exact Zy rfl | exact Ze (by first | exact Yl | exact Xl | exact Vp) rfl | (apply Yi; first | exact Zh (by first | exact Zg5 | exact Z3) rfl (Zhf _) hS (by repeat (first | exact Has.head | apply Has.tail)) (by first | trivial) (by repeat (first | exact Seg.here (Pre.succ Pre.zero) | apply Seg.succ)) | exact X3 (by first | exact Zg5 | exact Z3) rfl (Zhf _) hS (by first | trivial) (by first | trivial) (by assumption) (by repeat (first | exact Seg.here (Pre.succ Pre.zero)))) | (apply Yt; first | exact Zfi rfl rfl (by omega) | exact yv_eql_f rfl rfl (by omega)) | (apply Xz; first | exact Xd rfl rfl rfl) | exact Vu rfl) ?_ | refine LtK.skip rfl rfl rfl ?_)
   refine LtK.nil ?_
   refine Z5 [false, false, false, false, false, false, false, false, false, false, false, false, false, false, false, false, false, false, false, false, false, false, false, false, false, false, false, false, false, true] 29 ⟨by decide, by kernel_rfl, by kernel_rfl⟩ rfl rfl ?_
   dsimp only [Zw]
   repeat (first | (apply Xv; first | (refine Xx rfl rfl (by kernel_rfl) rfl (Zgd _) ?_; rintro e w2 ⟨rfl, hB2⟩; refine ⟨_, rfl, ?_⟩)) | apply Xs)
   exact Jw rfl ⟨(hS.below hB2).base, .inr ⟨rfl, rfl, TB.eight (x := x) (A := A') (c := c') ((hS.below hB2).ok (.box bo [.int .i64 x.snap.index, .int .i64 x.snap.term, .int .i64 x.snap.sum, .int .i64 x.snap.level, .bool x.snap.final, .slice A' x.log.length c', .int .i64 x.term, .int .i64 x.vote] 26) (Has.mem (by repeat (first | exact Has.head))))⟩⟩
theorem hard_any (x : Tu) (A : OA) (c : Nat) (t v : Int) (w0 : World) (hx : LI w0 A x.log.length c x.log) (hA : ∀ a, A = some a → a.block < w0.heap.size) :
  Calls Tryz.prog 60 #[.agg #[.int .i64 x.snap.index, .int .i64 x.snap.term, .int .i64 x.snap.sum, .int .i64 x.snap.level, .bool x.snap.final, .slice A x.log.length c, .int .i64 x.term, .int .i64 x.vote], .int .i64 t, .int .i64 v] w0 (Chg w0 x (Zfq x t v)) := by
 refine Zaj Tryz.func60 rfl Tryz.ntmps60 rfl ?_
 have hS := St0.start All w0
 repeat (first | (apply Zd; intro K hK) | apply Zf)
 first | (apply Vl; refine Z7 rfl rfl rfl (by first | exact CellsOf.agg) hS (fun bt w hS hB => ?_))
 first | (apply Vl; refine Z7 rfl rfl rfl (by first | exact CellsOf.int) hS (fun bf w hS hB => ?_))
 first | (apply Vl; refine Z7 rfl rfl rfl (by first | exact CellsOf.int) hS (fun bg w hS hB => ?_))
 repeat (first | apply Zg | (apply Zc; assumption) | (apply Zd; intro K hK) | apply Zf | (apply Zbc; refine Yd rfl rfl (by first | exact Zeq) hS (fun b w hS hB => ?_)) | (apply Yw; refine Za rfl rfl rfl (by first | exact Z2 rfl | (apply Yi; first | exact Zi (by first | exact Yp) rfl (Zhe _) hS (by repeat (first | exact Has.head | apply Has.tail)) (by first | trivial) (by repeat (first | exact Seg.here (by repeat (first | exact Pre.zero | apply Pre.succ))))) | exact Vn rfl rfl) ?_))
 have hbf := (hS.box_ge (b := bf) (by repeat (first | exact Has.head | apply Has.tail)))
 have hbg := (hS.box_ge (b := bg) (by repeat (first | exact Has.head | apply Has.tail)))
 refine Zn rfl rfl rfl rfl (by kernel_rfl) rfl (changed_any x (Zfq x t v) A c 106 #[.pointer (some ⟨bf, 0, none⟩), .pointer (some ⟨bg, 0, none⟩)] _ (by kernel_rfl) (hx.below hS.pure) (fun a ha => Nat.lt_of_lt_of_le (hA a ha) hS.size)
  (fun hT => hard1_does bf bg t v _ hbf.2.2 hbg.2.2 x hT)) ?_
 rintro e w1 ⟨A2, c2, ⟨rfl, hs⟩, hB⟩
 refine ⟨_, rfl, ?_⟩
 replace hS := hS.slice hs hB
 repeat (first | apply Zg | (apply Zc; assumption) | (apply Xc; refine Zl rfl rfl rfl (by first | exact CellsOf.agg) hS (by repeat (first | exact Pos.head | apply Pos.tail)) (by repeat (first | exact SetC.here (by repeat (first | exact Ovr.nil | apply Ovr.cons)))) (by kernel_rfl) rfl (fun w hS hB => ?_)) | (apply Yw; refine Za rfl rfl rfl (by first | exact Z2 rfl | exact Z0 rfl rfl) ?_) | apply Zk)
 refine Zm rfl (by first | exact RV.cell rfl (Zt (by first | exact Yp) hS (by repeat (first | exact Has.head | apply Has.tail)) (by repeat (first | exact Seg.here (by repeat (first | exact Pre.zero | apply Pre.succ))))) (RV.tmp rfl RV.nil)) rfl ?_
 exact ⟨A2, c2, ⟨rfl, hS.giveS (by repeat (first | exact Has.head)) hs.len hs.le hs.cap⟩, hS.pure⟩
end
section
open Go Go.RowKit
set_option maxRecDepth 100000
theorem next_p (s : St) (e : En) (w : World) : PureC Tryz.prog 120 #[.agg #[.int .i64 s.index, .int .i64 s.term, .int .i64 s.sum, .int .i64 s.level, .bool s.final], .agg #[.int .i64 e.term, .int .i64 e.kind, .int .i64 e.value]] w (.agg #[.int .i64 (Zbr s e).index, .int .i64 (Zbr s e).term, .int .i64 (Zbr s e).sum, .int .i64 (Zbr s e).level, .bool (Zbr s e).final]) := ⟨next_any s e w⟩
structure SX where
 bt : Nat
 bs : Nat
 A : OA
 c : Nat
 j : Nat
 n : Nat
theorem state_yes (x : Tu) (A : OA) (c : Nat) (k : Nat) (w0 : World) (h : -2000000000000 ≤ x.snap.index ∧ x.snap.index ≤ 2000000000000) (hl : LI w0 A x.log.length c x.log) (i : Int) (hi : i = x.snap.index + k) (hk : k ≤ x.log.length) :
  PureC Tryz.prog 76 #[.agg #[.int .i64 x.snap.index, .int .i64 x.snap.term, .int .i64 x.snap.sum, .int .i64 x.snap.level, .bool x.snap.final, .slice A x.log.length c, .int .i64 x.term, .int .i64 x.vote], .int .i64 i] w0 (.tuple #[.agg #[.int .i64 (allS x.snap (x.log.take k)).index, .int .i64 (allS x.snap (x.log.take k)).term, .int .i64 (allS x.snap (x.log.take k)).sum, .int .i64 (allS x.snap (x.log.take k)).level, .bool (allS x.snap (x.log.take k)).final], .bool true]) := by
 refine PureC.mk ?_
 have hsm := hl.small
 have hle := hl.le
 have hcp := hl.cap
 have hkl : (x.log.take k).length = k := by rw [List.length_take]; omega
 have hrd : Rd w0 A (ens (x.log.take k)) := by
  have := hl.rd.take (3 * k)
  have e2 : (ens x.log).take (3 * k) = ens (x.log.take k) := by
   have := ens_app (x.log.take k) (x.log.drop k)
   rw [List.take_append_drop] at this
   rw [this, List.take_left' (by rw [Zew, hkl])]
  rwa [e2] at this
 refine Ys Tryz.func76 rfl Tryz.ntmps76 rfl ?_
 have hS := St0.start All w0
 repeat (first | (apply Zd; intro K hK) | apply Zf)
 first | (apply Vl; refine Z7 rfl rfl rfl (by first | exact CellsOf.agg) hS (fun bt w hS hB => ?_))
 first | (apply Zbc; refine Yd rfl rfl (by first | exact zc_23) hS (fun bs w hS hB => ?_))
 repeat (first | apply Zg | (apply Zc; assumption) | (apply Yw; refine Za rfl rfl rfl (by first | exact Z2 rfl) ?_))
 refine wpC_scope 0 (fun y : SX => [(6, .slice y.A y.n y.c), (5, .bool false), (4, .pointer (some ⟨y.bs, 0, none⟩)), (2, .pointer (some ⟨y.bt, 0, none⟩)), (1, .int .i64 i)])
  (fun y w => y.j + y.n = k ∧ y.n ≤ y.c ∧ y.c ≤ maxLen ∧ Rd w0 y.A (ens ((x.log.take k).drop y.j)) ∧ St0 All w0 w [.box y.bs [.int .i64 (allS x.snap (x.log.take y.j)).index, .int .i64 (allS x.snap (x.log.take y.j)).term, .int .i64 (allS x.snap (x.log.take y.j)).sum, .int .i64 (allS x.snap (x.log.take y.j)).level, .bool (allS x.snap (x.log.take y.j)).final] 23, .box y.bt [.int .i64 x.snap.index, .int .i64 x.snap.term, .int .i64 x.snap.sum, .int .i64 x.snap.level, .bool x.snap.final, .slice A x.log.length c, .int .i64 x.term, .int .i64 x.vote] 26])
  (fun y => y.n) rfl ?_ ?_
 ·rintro ⟨bt, bs, Aj, cj, j, n⟩ w ⟨hj, hcj, hcm, hrj, hS⟩
  dsimp only at hj hcj hcm hrj hS ⊢
  rcases Nat.eq_zero_or_pos n with rfl | hn
  ·obtain rfl : j = k := by omega
   repeat (first | apply Zg | (apply Zc; assumption) | (apply Zd; intro K hK) | apply Zf | (apply Xc; refine Zl rfl rfl rfl (by first | exact CellsOf.agg) hS (by repeat (first | exact Pos.head)) (by repeat (first | exact SetC.here (by repeat (first | exact Ovr.nil | apply Ovr.cons)))) (by kernel_rfl) rfl (fun w hS hB => ?_)) | (apply Yw; refine Za rfl rfl rfl (by first | exact Zy rfl | exact Z2 rfl | (apply Yi; first | exact Zi (by first | exact Y3) rfl (Zhe _) hS (by repeat (first | exact Has.head)) (by first | trivial) (by repeat (first | exact Seg.here (by repeat (first | exact Pre.zero | apply Pre.succ))))) | (apply Yt; first | exact Zfi rfl rfl (by omega)) | (apply Jr; first | exact Yz (by first | exact Xq) rfl)) ?_) | apply Yg rfl rfl | apply Zs | apply Zk | apply Yj)
   refine Zm rfl (by first | exact RV.cell rfl (Zt (by first | exact Y3) hS (by repeat (first | exact Has.head)) (by repeat (first | exact Seg.here (by repeat (first | exact Pre.zero | apply Pre.succ))))) (RV.tmp rfl RV.nil)) rfl ?_
   exact ⟨rfl, hS.pure⟩
  ·obtain ⟨e, he⟩ : ∃ e, ((x.log.take k).drop j)[0]? = some e := ⟨_, List.getElem?_eq_getElem (by rw [List.length_drop]; omega)⟩
   obtain ⟨b1, o1, hA1, hb1, hr1⟩ := hrj.entR he
   subst hA1
   have htk : x.log.take (j + 1) = x.log.take j ++ [e] := by
    rw [List.getElem?_drop, List.getElem?_take] at he
    split at he
    ·rw [List.take_add_one]; rw [show x.log[j]? = some e from by simpa using he]; rfl
    ·cases he
   repeat (first | (apply Zc; assumption) | (apply Zd; intro K hK) | apply Zs)
   apply Zf
   repeat (first | apply Zg | (apply Zc; assumption) | (apply Zd; intro K hK) | (apply Yw; refine Za rfl rfl rfl (by first | exact Zy rfl | (apply Yt; first | exact yv_gtr_t rfl rfl (by omega)) | (apply Jr; first | exact Yz (by first | exact Xq) rfl)) ?_) | apply Zu rfl rfl)
   refine Yn 9 [7] (fun i b => (i = 7 → b ≠ bs)) ⟨by kernel_rfl, by kernel_rfl⟩ hS (fun w hS hB => ?_)
   refine Zr [true, true, true, true] (by decide +kernel) (by repeat (first | exact PF.body | apply PF.then | apply PF.jump)) ?_
   repeat (first | refine LtK.put rfl rfl rfl (by first | exact Zbe (j := 0) (by first | exact Xq) rfl rfl rfl (by omega) | exact Zy rfl | (apply Yi; first | exact Zi (by first | exact Y3 | exact Zbw) rfl (Zhf _) hS (by repeat (first | exact Has.head | apply Has.tail)) (by first | trivial) (by repeat (first | exact Seg.here (by repeat (first | exact Pre.zero | apply Pre.succ)))) | exact Zf1 (by first | exact Y3 | exact Zbw) rfl (Zhf _) hS (by first | trivial) (by first | trivial) (by assumption) (by rfl))) ?_)
   refine LtK.nil ?_
   refine Y1 [false, false, false, false, false, true, true] [7] (fun b => b ≠ bs) (by decide +kernel) (by intro j hj b hb; simp only [List.mem_cons, List.not_mem_nil, or_false] at hj; (try rcases hj with rfl | rfl) <;> simp_all) (by repeat (first | exact PF.body | apply PF.then | apply PF.jump)) ?_
   repeat (first | refine LtK.put rfl rfl rfl (by first | exact yv_slice_l (l := 1) (by first | exact Xq) rfl rfl rfl (by omega) | exact Zy rfl) ?_)
   refine LtK.nil ?_
   refine Z5 [false, false, false, false, true] 4 ⟨by decide, by kernel_rfl, by kernel_rfl⟩ rfl rfl ?_
   dsimp only [Zw]
   repeat (first | apply Zg | (apply Xv; first | refine X6 rfl rfl rfl (by kernel_rfl) rfl (next_p _ _ _) hS (fun w hS hB => ?_)))
   refine Z6 (by first | assumption) ?_
   refine Yk [false, false, false, false, false, false, false, true] 7 ⟨by decide, by kernel_rfl, by kernel_rfl⟩ rfl rfl ?_
   dsimp only [Zw]
   repeat (first | apply Zg | (apply Xc; refine Zl rfl rfl rfl (by first | exact CellsOf.agg) hS (by repeat (first | exact Pos.head)) (by repeat (first | exact SetC.here (by repeat (first | exact Ovr.nil | apply Ovr.cons)))) (by kernel_rfl) rfl (fun w hS hB => ?_)))
   refine Yb (by first | exact hB.sub (fun _ _ h => by simpa using h)) ?_
   refine Zr [false, false, false, false, false, false, false, false, true] (by decide +kernel) (by repeat (first | exact PF.body | apply PF.then | apply PF.jump)) ?_
   repeat (first | refine LtK.put rfl rfl rfl (by first | exact Z2 rfl) ?_)
   refine LtK.nil ?_
   refine Ye (by kernel_rfl) ?_
   repeat (first | (apply Zc; assumption) | apply V6 | apply Xj)
   refine QH_jump ⟨bt, bs, _, _, j + 1, n - 1⟩ (by repeat (first | exact Sub.nil | refine Sub.cons rfl ?_)) ⟨by dsimp only; omega, by dsimp only; omega, by dsimp only; omega, ?_, ?_⟩ (by dsimp only; omega)
   ·dsimp only
    have h3 := hrj.cutE (k := 1) (c := cj) (by rw [List.length_drop, hkl]; omega)
    rwa [List.drop_drop] at h3
   ·dsimp only
    rw [htk, allS_snoc]
    exact hS
 ·intro hpass
  repeat (first | apply Zg | (apply Zc; assumption) | (apply Zd; intro K hK) | apply Zf | (apply Xc; refine Zl rfl rfl rfl (by first | exact CellsOf.agg) hS (by repeat (first | exact Pos.head)) (by repeat (first | exact SetC.here (by repeat (first | exact Ovr.nil | apply Ovr.cons)))) (by kernel_rfl) rfl (fun w hS hB => ?_)) | (apply Xv; first | refine X6 rfl rfl rfl (by kernel_rfl) rfl (last_any _ _ _ _ _ _ _ (by omega) (by omega)) hS (fun w hS hB => ?_)) | (apply Yw; refine Za rfl rfl rfl (by first | exact yv_slice_h (h := k) (by first | exact Xq) rfl rfl (by omega) (by omega) | exact Zy rfl | exact Z2 rfl | exact Ze (by first | exact Yl | exact Xy | exact X7) rfl | (apply Yi; first | exact Zh (by first | exact Z3 | exact Vm) rfl (Zhe _) hS (by repeat (first | exact Has.head | apply Has.tail)) (by first | trivial) (by repeat (first | exact Seg.here (Pre.succ Pre.zero) | apply Seg.succ)) | exact Zi (by first | exact Y3 | exact Yp) rfl (Zhe _) hS (by repeat (first | exact Has.head | apply Has.tail)) (by first | trivial) (by repeat (first | exact Seg.here (by repeat (first | exact Pre.zero | apply Pre.succ))))) | (apply Yt; first | exact Zdl rfl rfl (by omega) | exact Zfi rfl rfl (by omega) | exact yv_sub rfl rfl (by omega)) | (apply Xz; first | exact Xd rfl rfl rfl)) ?_) | apply Yg rfl rfl | apply Zs)
  apply Zeu
  apply Zc
  assumption
  rcases Nat.eq_zero_or_pos k with hk0 | hn
  ·repeat (first | apply Zg | (apply Zc; assumption) | (apply Zd; intro K hK) | apply Zf | (apply Xc; refine Zl rfl rfl rfl (by first | exact CellsOf.agg) hS (by repeat (first | exact Pos.head)) (by repeat (first | exact SetC.here (by repeat (first | exact Ovr.nil | apply Ovr.cons)))) (by kernel_rfl) rfl (fun w hS hB => ?_)) | (apply Yw; refine Za rfl rfl rfl (by first | exact Zy rfl | exact Z2 rfl | (apply Yi; first | exact Zi (by first | exact Y3) rfl (Zhe _) hS (by repeat (first | exact Has.head)) (by first | trivial) (by repeat (first | exact Seg.here (by repeat (first | exact Pre.zero | apply Pre.succ))))) | (apply Yt; first | exact Zfi rfl rfl (by omega)) | (apply Jr; first | exact Yz (by first | exact Xq) rfl)) ?_) | apply Yg rfl rfl | apply Zs | apply Zk | apply Yj)
   refine Zm rfl (by first | exact RV.cell rfl (Zt (by first | exact Y3) hS (by repeat (first | exact Has.head)) (by repeat (first | exact Seg.here (by repeat (first | exact Pre.zero | apply Pre.succ))))) (RV.tmp rfl RV.nil)) rfl ?_
   subst hk0
   exact ⟨rfl, hS.pure⟩
  ·obtain ⟨e, he⟩ : ∃ e, (x.log.take k)[0]? = some e := ⟨_, List.getElem?_eq_getElem (by omega)⟩
   obtain ⟨b1, o1, hA1, hb1, hr1⟩ := hrd.entR he
   subst hA1
   have htk : x.log.take 1 = [e] := by
    rw [List.getElem?_take, if_pos hn] at he
    rw [List.take_add_one, he]; rfl
   repeat (first | (apply Zd; intro K hK))
   apply Zf
   repeat (first | apply Zg | (apply Zc; assumption) | (apply Zd; intro K hK) | (apply Yw; refine Za rfl rfl rfl (by first | exact Zy rfl | (apply Yt; first | exact yv_gtr_t rfl rfl (by omega)) | (apply Jr; first | exact Yz (by first | exact Xq) rfl)) ?_) | apply Zu rfl rfl)
   refine Yn 9 [7] (fun i b => (i = 7 → b ≠ bs)) ⟨by kernel_rfl, by kernel_rfl⟩ hS (fun w hS hB => ?_)
   refine Zr [true, true, true, true] (by decide +kernel) (by repeat (first | exact PF.body | apply PF.then | apply PF.jump)) ?_
   repeat (first | refine LtK.put rfl rfl rfl (by first | exact Zbe (j := 0) (by first | exact Xq) rfl rfl rfl (by omega) | exact Zy rfl | (apply Yi; first | exact Zi (by first | exact Y3 | exact Zbw) rfl (Zhf _) hS (by repeat (first | exact Has.head | apply Has.tail)) (by first | trivial) (by repeat (first | exact Seg.here (by repeat (first | exact Pre.zero | apply Pre.succ)))) | exact Zf1 (by first | exact Y3 | exact Zbw) rfl (Zhf _) hS (by first | trivial) (by first | trivial) (by assumption) (by rfl))) ?_)
   refine LtK.nil ?_
   refine Y1 [false, false, false, false, false, true, true] [7] (fun b => b ≠ bs) (by decide +kernel) (by intro j hj b hb; simp only [List.mem_cons, List.not_mem_nil, or_false] at hj; (try rcases hj with rfl | rfl) <;> simp_all) (by repeat (first | exact PF.body | apply PF.then | apply PF.jump)) ?_
   repeat (first | refine LtK.put rfl rfl rfl (by first | exact yv_slice_l (l := 1) (by first | exact Xq) rfl rfl rfl (by omega) | exact Zy rfl) ?_)
   refine LtK.nil ?_
   refine Z5 [false, false, false, false, true] 4 ⟨by decide, by kernel_rfl, by kernel_rfl⟩ rfl rfl ?_
   dsimp only [Zw]
   repeat (first | apply Zg | (apply Xv; first | refine X6 rfl rfl rfl (by kernel_rfl) rfl (next_p _ _ _) hS (fun w hS hB => ?_)))
   refine Z6 (by first | assumption) ?_
   refine Yk [false, false, false, false, false, false, false, true] 7 ⟨by decide, by kernel_rfl, by kernel_rfl⟩ rfl rfl ?_
   dsimp only [Zw]
   repeat (first | apply Zg | (apply Xc; refine Zl rfl rfl rfl (by first | exact CellsOf.agg) hS (by repeat (first | exact Pos.head)) (by repeat (first | exact SetC.here (by repeat (first | exact Ovr.nil | apply Ovr.cons)))) (by kernel_rfl) rfl (fun w hS hB => ?_)))
   refine Yb (by first | exact hB.sub (fun _ _ h => by simpa using h)) ?_
   refine Zr [false, false, false, false, false, false, false, false, true] (by decide +kernel) (by repeat (first | exact PF.body | apply PF.then | apply PF.jump)) ?_
   repeat (first | refine LtK.put rfl rfl rfl (by first | exact Z2 rfl) ?_)
   refine LtK.nil ?_
   refine Ye (by kernel_rfl) ?_
   repeat (first | (apply Zc; assumption) | apply V6 | apply Xj)
   refine QH_jump0 ⟨bt, bs, _, _, 1, k - 1⟩ (by repeat (first | exact Sub.nil | refine Sub.cons rfl ?_)) ⟨by dsimp only; omega, by dsimp only; omega, by dsimp only; omega, ?_, ?_⟩
   ·dsimp only
    exact hrd.cutE (k := 1) (c := c) (by omega)
   ·dsimp only
    rw [htk]
    exact hS
theorem state_no (x : Tu) (A : OA) (c : Nat) (w0 : World) (h : -2000000000000 ≤ x.snap.index ∧ x.snap.index ≤ 2000000000000) (hsm : x.log.length ≤ 1000000) (i : Int) (hi : i < x.snap.index ∨ x.snap.index + x.log.length < i) :
  PureC Tryz.prog 76 #[.agg #[.int .i64 x.snap.index, .int .i64 x.snap.term, .int .i64 x.snap.sum, .int .i64 x.snap.level, .bool x.snap.final, .slice A x.log.length c, .int .i64 x.term, .int .i64 x.vote], .int .i64 i] w0 (.tuple #[.agg #[.int .i64 0, .int .i64 0, .int .i64 0, .int .i64 0, .bool false], .bool false]) := by
 refine PureC.mk ?_
 refine Ys Tryz.func76 rfl Tryz.ntmps76 rfl ?_
 have hS := St0.start All w0
 repeat (first | apply Zg | (apply Zc; assumption) | (apply Zd; intro K hK) | apply Zf | (apply Vl; refine Z7 rfl rfl rfl (by first | exact CellsOf.agg) hS (fun b w hS hB => ?_)) | (apply Zbc; refine Yd rfl rfl (by first | exact zc_23) hS (fun b w hS hB => ?_)) | (apply Yw; refine Za rfl rfl rfl (by first | exact Z2 rfl) ?_))
 refine wpC_scope 0 (X := Unit) (fun _ => []) (fun _ _ => False) (fun _ => 0) rfl (fun _ _ h => h.elim) ?_
 intro hpass
 by_cases h1 : i < x.snap.index
 ·repeat (first | apply Zg | (apply Zc; assumption) | (apply Zd; intro K hK) | apply Zf | (apply Yw; refine Xr rfl rfl rfl ?_) | (apply Xc; refine Zl rfl rfl rfl (by first | exact CellsOf.agg) hS (by repeat (first | exact Pos.head)) (by repeat (first | exact SetC.here (by repeat (first | exact Ovr.nil | apply Ovr.cons)))) (by kernel_rfl) rfl (fun w hS hB => ?_)) | (apply Yw; refine Za rfl rfl rfl (by first | exact Zy rfl | exact Z2 rfl | exact Ze (by first | exact Yl | exact Xy) rfl | (apply Yi; first | exact Zh (by first | exact Z3) rfl (Zhe _) hS (by repeat (first | exact Has.head | apply Has.tail)) (by first | trivial) (by repeat (first | exact Seg.here (Pre.succ Pre.zero))) | exact Zi (by first | exact Y3) rfl (Zhe _) hS (by repeat (first | exact Has.head)) (by first | trivial) (by repeat (first | exact Seg.here (by repeat (first | exact Pre.zero | apply Pre.succ))))) | (apply Yt; first | exact Zff rfl rfl (by omega)) | (apply Xz; first | exact Xf rfl rfl rfl)) ?_) | apply Zu rfl rfl | apply Zk | apply Zj | apply Yj)
  refine Zm rfl (by first | exact RV.cell rfl (Zt (by first | exact Y3) hS (by repeat (first | exact Has.head)) (by repeat (first | exact Seg.here (by repeat (first | exact Pre.zero | apply Pre.succ))))) (RV.tmp rfl RV.nil)) rfl ?_
  exact ⟨rfl, hS.pure⟩
 ·have h2 : x.snap.index + x.log.length < i := by omega
  repeat (first | apply Zg | (apply Zc; assumption) | (apply Zd; intro K hK) | apply Zf | (apply Xc; refine Zl rfl rfl rfl (by first | exact CellsOf.agg) hS (by repeat (first | exact Pos.head)) (by repeat (first | exact SetC.here (by repeat (first | exact Ovr.nil | apply Ovr.cons)))) (by kernel_rfl) rfl (fun w hS hB => ?_)) | (apply Xv; first | refine X6 rfl rfl rfl (by kernel_rfl) rfl (last_any _ _ _ _ _ _ _ (by omega) (by omega)) hS (fun w hS hB => ?_)) | (apply Yw; refine Za rfl rfl rfl (by first | exact Zy rfl | exact Z2 rfl | exact Ze (by first | exact Yl | exact Xy) rfl | (apply Yi; first | exact Zh (by first | exact Z3) rfl (Zhe _) hS (by repeat (first | exact Has.head | apply Has.tail)) (by first | trivial) (by repeat (first | exact Seg.here (Pre.succ Pre.zero))) | exact Zi (by first | exact Y3 | exact Yp) rfl (Zhe _) hS (by repeat (first | exact Has.head | apply Has.tail)) (by first | trivial) (by repeat (first | exact Seg.here (by repeat (first | exact Pre.zero | apply Pre.succ))))) | (apply Yt; first | exact Zdl rfl rfl (by omega) | exact yv_gtr_t rfl rfl (by omega)) | (apply Xz; first | exact Xd rfl rfl rfl)) ?_) | apply Zu rfl rfl | apply Zk | apply Zj | apply Yj)
  refine Zm rfl (by first | exact RV.cell rfl (Zt (by first | exact Y3) hS (by repeat (first | exact Has.head)) (by repeat (first | exact Seg.here (by repeat (first | exact Pre.zero | apply Pre.succ))))) (RV.tmp rfl RV.nil)) rfl ?_
  exact ⟨rfl, hS.pure⟩
end
section
open Go Go.RowKit
set_option maxRecDepth 100000
theorem SlI.li {w : World} {A : OA} {c : Nat} {l : List En} (h : SlI w V3 A c l) (hn : l.length ≤ 1000000) : LI w A l.length c l := ⟨rfl, hn, h.le, h.cap, h.rd⟩
theorem Sl.st0 {w w' : World} {A : OA} {n c k : Nat} {xs : List Value} (hs : Sl w w' A n c k xs) (hB : Below w.heap.size w w') : St0 All w w' [.rd A xs] := (St0.start All w).slice hs hB
theorem PureC.st0 {P : Program} {f : Nat} {args : Array Value} {w : World} {v : Value} (h : PureC P f args w v) : Calls P f args w fun e w' => e = .returned v ∧ St0 All w w' [] := h.run.mono fun _ _ h => ⟨h.1, (St0.start All w).below h.2⟩
theorem calls_st0 {P : Program} {f : Nat} {args : Array Value} {w : World} {v : Value} (h : Calls P f args w fun e w' => e = .returned v ∧ Below w.heap.size w w') : Calls P f args w fun e w' => e = .returned v ∧ St0 All w w' [] := h.mono fun _ _ h => ⟨h.1, (St0.start All w).below h.2⟩
def okT (x : Tu) : Bool := decide (x.log.length ≤ 1000000 ∧ -2000000000000 ≤ x.snap.index ∧ x.snap.index ≤ 2000000000000)
theorem okT_iff {x : Tu} : okT x = true ↔ x.log.length ≤ 1000000 ∧ -2000000000000 ≤ x.snap.index ∧ x.snap.index ≤ 2000000000000 := decide_eq_true_iff
def Zgv (e : En) : Option Bool := some (Jl e)
theorem c_entry_Right (x0 : En) (w0 : World) {r : Bool} (H : Zgv x0 = some r) : Calls Tryz.prog 137 #[.agg #[.int .i64 x0.term, .int .i64 x0.kind, .int .i64 x0.value]] w0 fun e w' => e = .returned (.bool r) ∧ St0 All w0 w' [] := by
 obtain rfl := QJ H
 exact calls_st0 (Zf4 x0 w0)
def Zdn (x : Tu) : Option Bool := cond (okT x) (some (Zad x)) none
theorem c_tuple_Right (x0 : Tu) (A0 : OA) (c0 : Nat) (w0 : World) (s0 : SlI w0 V3 A0 c0 x0.log) {r : Bool} (H : Zdn x0 = some r) : Calls Tryz.prog 95 #[.agg #[.int .i64 x0.snap.index, .int .i64 x0.snap.term, .int .i64 x0.snap.sum, .int .i64 x0.snap.level, .bool x0.snap.final, .slice A0 x0.log.length c0, .int .i64 x0.term, .int .i64 x0.vote]] w0 fun e w' => e = .returned (.bool r) ∧ St0 All w0 w' [] := by
 unfold Zdn at H
 cases hb : okT x0 with
 | false => rw [hb] at H; cases H
 | true =>
  rw [hb] at H
  obtain rfl := QJ H
  have h := okT_iff.1 hb
  exact (right_any2 x0.snap A0 x0.log.length c0 x0.log x0.term x0.vote w0 (s0.li h.1) h.2 s0.blk).st0
def Zab (x : Tu) (i : Int) : Option (St × Bool) := cond (okT x) (cond (decide (x.snap.index ≤ i ∧ i ≤ x.snap.index + x.log.length)) (some (allS x.snap (x.log.take (i - x.snap.index).toNat), true)) (some (⟨0, 0, 0, 0, false⟩, false))) none
theorem c_tuple_State (x0 : Tu) (x1 : Int) (A0 : OA) (c0 : Nat) (w0 : World) (s0 : SlI w0 V3 A0 c0 x0.log) {r : St × Bool} (H : Zab x0 x1 = some r) : Calls Tryz.prog 76 #[.agg #[.int .i64 x0.snap.index, .int .i64 x0.snap.term, .int .i64 x0.snap.sum, .int .i64 x0.snap.level, .bool x0.snap.final, .slice A0 x0.log.length c0, .int .i64 x0.term, .int .i64 x0.vote], .int .i64 x1] w0 fun e w' => e = .returned (.tuple #[.agg #[.int .i64 r.1.index, .int .i64 r.1.term, .int .i64 r.1.sum, .int .i64 r.1.level, .bool r.1.final], .bool r.2]) ∧ St0 All w0 w' [] := by
 unfold Zab at H
 cases hb : okT x0 with
 | false => rw [hb] at H; cases H
 | true =>
  rw [hb] at H
  have h := okT_iff.1 hb
  by_cases hi : x0.snap.index ≤ x1 ∧ x1 ≤ x0.snap.index + x0.log.length
  ·rw [decide_eq_true hi] at H
   obtain rfl := QJ H
   exact (state_yes x0 A0 c0 (x1 - x0.snap.index).toNat w0 h.2 (s0.li h.1) x1 (by omega) (by omega)).st0
  ·rw [decide_eq_false hi] at H
   obtain rfl := QJ H
   exact (state_no x0 A0 c0 w0 h.2 h.1 x1 (by omega)).st0
def Zg3 (x : Tu) (res : Option Tu) : Tu × Int := (Zc6 x res, chgE x res)
theorem chg_st0 {w0 : World} {x : Tu} {res : Option Tu} {e : Ending} {w' : World} (h : Chg w0 x res e w') : ∃ (A0 : OA) (c0 : Nat), e = .returned (.tuple #[.agg #[.int .i64 (Zg3 x res).1.snap.index, .int .i64 (Zg3 x res).1.snap.term, .int .i64 (Zg3 x res).1.snap.sum, .int .i64 (Zg3 x res).1.snap.level, .bool (Zg3 x res).1.snap.final, .slice A0 (Zg3 x res).1.log.length c0, .int .i64 (Zg3 x res).1.term, .int .i64 (Zg3 x res).1.vote], .int .i64 (Zg3 x res).2]) ∧ ((Zg3 x res).1.log.length ≤ c0 ∧ c0 ≤ maxLen) ∧ St0 All w0 w' [.rd A0 (Yf V3 (Zg3 x res).1.log)] := by
 obtain ⟨A, c, ⟨rfl, hs⟩, hB⟩ := h
 exact ⟨A, c, rfl, ⟨hs.le, hs.cap⟩, hs.st0 hB⟩
def Zc5 (x : Tu) (l : List En) : Option (Tu × Int) := cond (decide (x.log.length ≤ 1000000 ∧ l.length ≤ 300)) (some (Zg3 x (some { x with log := x.log ++ l }))) none
theorem c_tuple_Append (x0 : Tu) (x1 : List En) (A0 : OA) (c0 : Nat) (A1 : OA) (c1 : Nat) (w0 : World) (s0 : SlI w0 V3 A0 c0 x0.log) (s1 : SlI w0 V3 A1 c1 x1) {r : Tu × Int} (H : Zc5 x0 x1 = some r) : Calls Tryz.prog 66 #[.agg #[.int .i64 x0.snap.index, .int .i64 x0.snap.term, .int .i64 x0.snap.sum, .int .i64 x0.snap.level, .bool x0.snap.final, .slice A0 x0.log.length c0, .int .i64 x0.term, .int .i64 x0.vote], .slice A1 x1.length c1] w0 fun e w' => ∃ (A0 : OA) (c0 : Nat), e = .returned (.tuple #[.agg #[.int .i64 r.1.snap.index, .int .i64 r.1.snap.term, .int .i64 r.1.snap.sum, .int .i64 r.1.snap.level, .bool r.1.snap.final, .slice A0 r.1.log.length c0, .int .i64 r.1.term, .int .i64 r.1.vote], .int .i64 r.2]) ∧ (r.1.log.length ≤ c0 ∧ c0 ≤ maxLen) ∧ St0 All w0 w' [.rd A0 (Yf V3 r.1.log)] := by
 unfold Zc5 at H
 by_cases h : x0.log.length ≤ 1000000 ∧ x1.length ≤ 300
 ·rw [decide_eq_true h] at H
  obtain rfl := QJ H
  exact (append_any x0 A0 A1 c0 x1.length c1 x1 w0 (s0.li h.1) s0.blk (s1.li (by omega)) h.2).mono fun _ _ h => chg_st0 h
 ·rw [decide_eq_false h] at H; cases H
def Jg (x : Tu) (t v : Int) : Option (Tu × Int) := cond (decide (x.log.length ≤ 1000000)) (some (Zg3 x (Zfq x t v))) none
theorem Zfu (x0 : Tu) (x1 x2 : Int) (A0 : OA) (c0 : Nat) (w0 : World) (s0 : SlI w0 V3 A0 c0 x0.log) {r : Tu × Int} (H : Jg x0 x1 x2 = some r) : Calls Tryz.prog 60 #[.agg #[.int .i64 x0.snap.index, .int .i64 x0.snap.term, .int .i64 x0.snap.sum, .int .i64 x0.snap.level, .bool x0.snap.final, .slice A0 x0.log.length c0, .int .i64 x0.term, .int .i64 x0.vote], .int .i64 x1, .int .i64 x2] w0 fun e w' => ∃ (A0 : OA) (c0 : Nat), e = .returned (.tuple #[.agg #[.int .i64 r.1.snap.index, .int .i64 r.1.snap.term, .int .i64 r.1.snap.sum, .int .i64 r.1.snap.level, .bool r.1.snap.final, .slice A0 r.1.log.length c0, .int .i64 r.1.term, .int .i64 r.1.vote], .int .i64 r.2]) ∧ (r.1.log.length ≤ c0 ∧ c0 ≤ maxLen) ∧ St0 All w0 w' [.rd A0 (Yf V3 r.1.log)] := by
 unfold Jg at H
 by_cases h : x0.log.length ≤ 1000000
 ·rw [decide_eq_true h] at H
  obtain rfl := QJ H
  exact (hard_any x0 A0 c0 x1 x2 w0 (s0.li h) s0.blk).mono fun _ _ h => chg_st0 h
 ·rw [decide_eq_false h] at H; cases H
end
section
open Go Go.RowKit
set_option maxRecDepth 100000
theorem FineP.bounds {s : St} (h : FineP s) : 0 ≤ s.index ∧ s.index ≤ 1073741824 ∧ 0 ≤ s.sum ∧ s.sum ≤ 1073741824 := by
 rcases h with rfl | h
 ·simp [firstS]
 ·omega
theorem next_data (s : St) (hf : FineP s) (hi : s.index < 1073741824) (v : Int) (h0 : 0 ≤ v) (h1 : v ≤ 1073741824) : Zbr s ⟨1, 1, v⟩ = ⟨s.index + 1, 1, (31 * s.sum + v + 1) % 1073741824, s.level, s.final⟩ := by
 unfold Zbr
 rw [if_pos ⟨by simp [Jl, h0, h1], (Zdb s).2 hf, hi⟩]
 rfl
def SumInv (l : List Int) (q : Nat) (value : Int) (s : St) (k : Nat) (a b : St) : Prop :=
 FineP a ∧ FineP b ∧ a.index = s.index + k ∧ b.index = s.index + k ∧ (k ≤ q → a = b) ∧
  (q < k → a.sum < 1073741824 ∧ b.sum < 1073741824 ∧ ∃ x, l[q]? = some x ∧ 0 ≤ x ∧ x ≤ 999 ∧
   ((k = q + 1 ∧ (a.sum - b.sum - (x - value)) % 1073741824 = 0) ∨ (k = q + 2 ∧ (a.sum - b.sum - 31 * (x - value)) % 1073741824 = 0) ∨ (k = q + 3 ∧ (a.sum - b.sum - 961 * (x - value)) % 1073741824 = 0)))
theorem SumInv.start (l : List Int) (q : Nat) (value : Int) (s : St) (h : FineP s) : SumInv l q value s 0 s s := ⟨h, h, by simp, by simp, fun _ => rfl, fun h => by omega⟩
theorem SumInv.step {l : List Int} {q : Nat} {value : Int} {s : St} {k : Nat} {a b : St} (h : SumInv l q value s k a b) (hs : s.index ≤ 1073741624) (hk : k < 3) (v : Int) (hv : l[k]? = some v) (h0 : 0 ≤ v) (h1 : v ≤ 999) (g0 : 0 ≤ value) (g1 : value ≤ 999) :
  SumInv l q value s (k + 1) (Zbr a ⟨1, 1, v⟩) (Zbr b ⟨1, 1, if k = q then value else v⟩) := by
 obtain ⟨fa, fb, ia, ib, he, hd⟩ := h
 refine ⟨nextS_fine _ _ fa, nextS_fine _ _ fb, ?_⟩
 have va : 0 ≤ (if k = q then value else v) ∧ (if k = q then value else v) ≤ 999 := by split <;> omega
 rw [next_data a fa (by omega) v h0 (by omega), next_data b fb (by omega) _ va.1 (by omega)]
 refine ⟨by show a.index + 1 = _; omega, by show b.index + 1 = _; omega, fun hkq => ?_, fun hkq => ?_⟩
 ·rw [if_neg (by omega), he (by omega)]
 ·refine ⟨by show _ % _ < _; omega, by show _ % _ < _; omega, ?_⟩
  by_cases e : k = q
  ·subst e
   refine ⟨v, hv, h0, h1, .inl ⟨rfl, ?_⟩⟩
   rw [if_pos rfl, he (by omega)]
   show ((31 * b.sum + v + 1) % 1073741824 - (31 * b.sum + value + 1) % 1073741824 - (v - value)) % 1073741824 = 0
   omega
  ·obtain ⟨_, _, x, hx, x0, x1, hh⟩ := hd (by omega)
   refine ⟨x, hx, x0, x1, ?_⟩
   rw [if_neg e]
   have goal : ∀ c : Int, (a.sum - b.sum - c) % 1073741824 = 0 → ((31 * a.sum + v + 1) % 1073741824 - (31 * b.sum + v + 1) % 1073741824 - 31 * c) % 1073741824 = 0 := fun c hc => by omega
   rcases hh with ⟨rfl, hh⟩ | ⟨rfl, hh⟩ | ⟨rfl, hh⟩
   ·exact .inr (.inl ⟨rfl, goal _ hh⟩)
   ·refine .inr (.inr ⟨rfl, ?_⟩)
    have := goal _ hh
    show ((31 * a.sum + v + 1) % 1073741824 - (31 * b.sum + v + 1) % 1073741824 - 961 * (x - value)) % 1073741824 = 0
    omega
   ·omega
theorem SumInv.last {l : List Int} {q : Nat} {value : Int} {s : St} {k : Nat} {a b : St} (h : SumInv l q value s k a b) (hq : q < k) (g0 : 0 ≤ value) (g1 : value ≤ 999) {x : Int} (hx : l[q]? = some x) :
  ((a.sum == b.sum) == (x == value)) = true := by
 obtain ⟨fa, fb, _, _, _, hd⟩ := h
 obtain ⟨la, lb, x', hx', x0, x1, hh⟩ := hd hq
 rw [hx] at hx'
 obtain rfl := QJ hx'
 have ba := fa.bounds
 have bb := fb.bounds
 rw [beq_iff_eq, Bool.eq_iff_iff, beq_iff_eq, beq_iff_eq]
 omega
end
section
open Go Go.RowKit
set_option maxRecDepth 100000
end
section
end
section
open Go Go.RowKit
set_option maxRecDepth 100000
end
section
open Go Go.RowKit Go.Shelf
set_option maxRecDepth 100000
attribute [local go_sem] Oper.semAt_some
end
section
open Go Go.RowKit Go.Shelf
set_option maxRecDepth 100000
theorem run_store_func {P : Program} {w : World} {a : Addr} (f : Fn) (vs bs : Array Value) (m : Mode) : (store a (.func f vs bs) m).run P w = stored P w a (.func f vs bs) m := run_store P w a _ m rfl
attribute [local go_sem] run_store_func
end
section
open Go Go.RowKit Go.Shelf
set_option maxRecDepth 100000
end
section
open Go Go.RowKit
set_option maxRecDepth 100000
end
section
open Go Go.RowKit
set_option maxRecDepth 100000
theorem Zb7 {n : Int} (h : -9223372036854775808 ≤ n ∧ n ≤ 9223372036854775807) : IntKind.wrap .i64 n = n := i64_in' h
theorem J5 {α : Type} (l : List α) (k : Nat) : idx l (k : Int) = l[k]? := by unfold idx; simp
theorem takeI_nat {α : Type} (l : List α) (k : Nat) (h : k ≤ l.length) : takeI l (k : Int) = some (l.take k) := by unfold takeI; rw [if_pos (by omega)]; simp
theorem Zb5 {α : Type} (l : List α) (h : l.length ≤ 1000000000) : Zfg l = some l := if_pos h
theorem makeI_nat {α : Type} (z : α) (n : Nat) (h : n ≤ 1000000000) : makeI z (n : Int) = some (List.replicate n z) := by unfold makeI; rw [if_pos (by omega)]; simp
theorem Xo {α : Type} {l : List α} {k : Nat} (h : k < l.length) : ∃ e, l[k]? = some e ∧ l.drop k = e :: l.drop (k + 1) := ⟨l[k], List.getElem?_eq_getElem h, List.drop_eq_getElem_cons h⟩
theorem snap_eq (a b : St) : (decide (a.index = b.index) && (decide (a.term = b.term) && (decide (a.sum = b.sum) && (decide (a.level = b.level) && decide (a.final = b.final))))) = decide (a = b) := by
 obtain ⟨a1, a2, a3, a4, a5⟩ := a; obtain ⟨b1, b2, b3, b4, b5⟩ := b
 rw [Bool.eq_iff_iff]; simp
theorem en_eq (a b : En) : (decide (a.term = b.term) && (decide (a.kind = b.kind) && decide (a.value = b.value))) = decide (a = b) := by
 obtain ⟨a1, a2, a3⟩ := a; obtain ⟨b1, b2, b3⟩ := b
 rw [Bool.eq_iff_iff]; simp
end
section
open Go Go.RowKit
set_option maxRecDepth 100000
def Za6 (id : Int) : Nat → Nat → List Int
 | _, 0 => []
 | k, m + 1 => if (k : Int) ≠ id then (k : Int) :: Za6 id (k + 1) m else Za6 id (k + 1) m
def m_it_others (x0 : Co) : Option (List Int) := some (Za6 x0.id 1 (min x0.n 5).toNat)
theorem it_others (x0 : Co) {A0 A1 A2 A3 A4 : OA} {c0 c1 c2 c3 c4 : Nat} (wB wM w : World) (hB0 : Below wB.heap.size wB wM) (b : Nat) (hN : St0 All wM w [.box b [.int .i64 x0.id, .int .i64 x0.n, .int .u8 x0.role, .int .i64 x0.binary, .int .i64 x0.tuple.snap.index, .int .i64 x0.tuple.snap.term, .int .i64 x0.tuple.snap.sum, .int .i64 x0.tuple.snap.level, .bool x0.tuple.snap.final, .slice A0 x0.tuple.log.length c0, .int .i64 x0.tuple.term, .int .i64 x0.tuple.vote, .int .i64 x0.commit, .int .i64 x0.applied.index, .int .i64 x0.applied.term, .int .i64 x0.applied.sum, .int .i64 x0.applied.level, .bool x0.applied.final, .slice A1 x0.votes.length c1, .slice A2 x0.next.length c2, .slice A3 x0.mtch.length c3, .slice A4 x0.caps.length c4] 30]) {xs : List Int} (H : m_it_others x0 = some xs) :
  IterP Tryz.prog 130 #[.pointer (some ⟨b, 0, none⟩)] (fun p : Int => [Value.int .i64 p].toArray) xs wB.heap.size wM.heap.size w := by
 obtain rfl := QJ H
 obtain ⟨hb, hbM, hbl⟩ := hN.cap
 intro lo J Jx Jp W hW hJ hJx hJp hy h0
 have hbW : W.heap[b]? = some (.cells #[.int .i64 x0.id, .int .i64 x0.n, .int .u8 x0.role, .int .i64 x0.binary, .int .i64 x0.tuple.snap.index, .int .i64 x0.tuple.snap.term, .int .i64 x0.tuple.snap.sum, .int .i64 x0.tuple.snap.level, .bool x0.tuple.snap.final, .slice A0 x0.tuple.log.length c0, .int .i64 x0.tuple.term, .int .i64 x0.tuple.vote, .int .i64 x0.commit, .int .i64 x0.applied.index, .int .i64 x0.applied.term, .int .i64 x0.applied.sum, .int .i64 x0.applied.level, .bool x0.applied.final, .slice A1 x0.votes.length c1, .slice A2 x0.next.length c2, .slice A3 x0.mtch.length c3, .slice A4 x0.caps.length c4] 30) := (hW.block b hbl).trans hb
 show Calls _ _ #[_, _] _ _
 refine Ys Tryz.func130 rfl Tryz.ntmps130 rfl ?_
 have hS := St0.start All W
 obtain ⟨M, hM⟩ : ∃ M, M = (min x0.n 5).toNat := ⟨_, rfl⟩
 rw [← hM] at hy
 try rw [← hM]
 repeat (first | apply Zg | (apply Zc; assumption) | (apply Zd; intro K hK) | apply Zf | (apply Yw; refine Za rfl rfl rfl (by first | exact Z2 rfl) ?_) | apply Yc)
 refine V7 (X := Nat × List Int) (fun z => [(3, .int .i64 z.1), (1, .pointer (some ⟨b, 0, none⟩)), (0, .func (.yield lo) #[] #[])])
  (fun z B => (1 ≤ z.1 ∧ z.1 ≤ M + 1) ∧ Za6 x0.id 1 M = z.2 ++ Za6 x0.id z.1 (M + 1 - z.1) ∧ J z.2.length B ∧ B.heap[b]? = some (.cells #[.int .i64 x0.id, .int .i64 x0.n, .int .u8 x0.role, .int .i64 x0.binary, .int .i64 x0.tuple.snap.index, .int .i64 x0.tuple.snap.term, .int .i64 x0.tuple.snap.sum, .int .i64 x0.tuple.snap.level, .bool x0.tuple.snap.final, .slice A0 x0.tuple.log.length c0, .int .i64 x0.tuple.term, .int .i64 x0.tuple.vote, .int .i64 x0.commit, .int .i64 x0.applied.index, .int .i64 x0.applied.term, .int .i64 x0.applied.sum, .int .i64 x0.applied.level, .bool x0.applied.final, .slice A1 x0.votes.length c1, .slice A2 x0.next.length c2, .slice A3 x0.mtch.length c3, .slice A4 x0.caps.length c4] 30) ∧ w.heap.size ≤ B.heap.size) (fun z => M + 1 - z.1) (1, []) (by repeat (first | exact Sub.nil | refine Sub.cons rfl ?_)) ⟨by dsimp only; omega, by simp, h0, hbW, hW.size⟩ ?_
 rintro ⟨k, done⟩ B ⟨⟨hk1, hk2⟩, hxs, hJk, hbB, hz⟩
 dsimp only at hk1 hk2 hxs hJk
 dsimp only
 clear hbW hS h0
 have hS := St0.start All B
 rcases Nat.lt_or_ge M k with hge | hlt
 ·obtain rfl : k = M + 1 := by omega
  have e0 : M + 1 - (M + 1) = 0 := by omega
  rw [e0] at hxs
  rw [show Za6 x0.id (M + 1) 0 = [] from rfl, List.append_nil] at hxs
  repeat (first | apply Zg | (apply Zc; assumption) | (apply Zd; intro K hK) | apply Zf | (apply Yw; refine Za rfl rfl rfl (by first | exact Zy rfl | exact Ze (by first | exact Yl | exact Vf) rfl | (apply Yi; first | exact X3 (by first | exact Z3) rfl (Zhe _) hS (by first | trivial) (by first | trivial) (by assumption) (by repeat (first | exact Seg.here (Pre.succ Pre.zero) | apply Seg.succ))) | (apply Yt; first | exact yv_leq_f rfl rfl (by omega)) | (apply Jr; first | exact yv_min rfl rfl)) ?_) | apply Yg rfl rfl | apply X0 | apply Z9 | apply Yy)
  refine Zfp rfl (by first | exact RV.nil) rfl ?_
  refine .inl ⟨⟨_, rfl⟩, .inl ?_⟩
  rw [hxs]
  exact hJ _ _ _ hJk (hS.base.sub fun _ _ _ => trivial)
 ·have hkn : (k : Int) ≤ min x0.n 5 := by omega
  have e0 : M + 1 - k = (M + 1 - (k + 1)) + 1 := by omega
  rw [e0, Za6] at hxs
  by_cases hid : (k : Int) ≠ x0.id
  ·rw [if_pos hid] at hxs
   repeat (first | (apply Zd; intro K hK))
   apply Zf
   repeat (first | apply Zg | (apply Zc; assumption) | (apply Zd; intro K hK) | (apply Yw; refine Za rfl rfl rfl (by first | exact Zy rfl | exact Ze (by first | exact Yl | exact Vf) rfl | (apply Yi; first | exact X3 (by first | exact Z3) rfl (Zhe _) hS (by first | trivial) (by first | trivial) (by assumption) (by repeat (first | exact Seg.here (Pre.succ Pre.zero) | apply Seg.succ))) | (apply Yt; first | exact Zgb rfl rfl (by omega)) | (apply Jr; first | exact yv_min rfl rfl)) ?_) | apply Zu rfl rfl | apply Zs | apply Yc)
   refine Zgm 7 (by repeat (first | exact NL.body (by intro _ h; simp at h) | apply NL.then | apply NL.inBlock)) (by kernel_rfl) ?_
   dsimp only [List.take, List.drop]
   repeat (first | apply Zg | (apply Yw; refine Za rfl rfl rfl (by first | exact Zy rfl | exact Ze (by first | exact Yl | exact Vo) rfl | (apply Yi; first | exact X3 (by first | exact Z3) rfl (Zhe _) hS (by first | trivial) (by first | trivial) (by assumption) (by repeat (first | exact Seg.here (Pre.succ Pre.zero)))) | (apply Yt; first | exact yv_neq_t rfl rfl (by omega))) ?_))
   refine QH_Y ?_
   have hk1' : KeepB All B B := hS.base
   refine wpSI_yield rfl rfl rfl rfl (hy done.length (k : Int) B (by rw [hxs]; simp) (hJ _ B B hJk (hk1'.sub fun _ _ _ => trivial)) hz) ?_
   rintro ex w2 (⟨rfl, hJ2, hk2'⟩ | ⟨rfl, hJ2, hk2'⟩ | ⟨ch, rfl, hJ2⟩)
   ·refine .inl ⟨_, rfl, Zer (by repeat (first | exact NL.body (by intro _ h; simp at h) | apply NL.then | apply NL.inBlock)) (by kernel_rfl) ?_⟩
    have hS := St0.start All w2
    repeat (first | apply Zg | (apply Zc; assumption) | apply Zf | (apply Yw; refine Za rfl rfl rfl (by first | exact Zy rfl | exact Z2 rfl | (apply Yt; first | exact Zf9 rfl rfl (by omega)) | (apply Xz; first | exact Xf rfl rfl rfl) | exact Yo rfl) ?_) | apply Yg rfl rfl | apply Zs | apply Z4)
    refine X9 (k + 1, done ++ [(k : Int)]) (by repeat (first | exact Sub.nil | refine Sub.cons rfl ?_)) ⟨by dsimp only; omega, by dsimp only; rw [hxs]; simp, ?_, ?_, ?_⟩ (by dsimp only; omega)
    ·dsimp only; rw [List.length_append]; exact hJ2
    ·exact (hk2'.block b (Nat.lt_of_lt_of_le hbl hz) (.inr ⟨hbM, hbl⟩)).trans hbB
    ·exact Nat.le_trans hz hk2'.size
   ·refine .inl ⟨_, rfl, Zer (by repeat (first | exact NL.body (by intro _ h; simp at h) | apply NL.then | apply NL.inBlock)) (by kernel_rfl) ?_⟩
    have hS := St0.start All w2
    repeat (first | apply Zg | (apply Zc; assumption) | (apply Yw; refine Za rfl rfl rfl (by first | (apply Xz; first | exact Xf rfl rfl rfl) | exact Yo rfl) ?_) | apply Zu rfl rfl | apply Zk | apply Zj | apply Zz)
    refine Zm rfl (by first | exact RV.nil) rfl ?_
    exact .inl ⟨⟨_, rfl⟩, .inr hJ2⟩
   ·refine .inr ⟨ch, rfl, ?_⟩
    repeat (first | apply Xs | apply Zbq)
    exact Jw rfl (.inr ⟨ch, rfl, hJ2⟩)
  ·rw [if_neg hid] at hxs
   have hid' : (k : Int) = x0.id := by omega
   repeat (first | apply Zg | (apply Zc; assumption) | (apply Zd; intro K hK) | apply Zf | (apply Yw; refine Xr rfl rfl rfl ?_) | (apply Yw; refine Za rfl rfl rfl (by first | exact Zy rfl | exact Z2 rfl | exact Ze (by first | exact Yl | exact Vo | exact Vf) rfl | (apply Yi; first | exact X3 (by first | exact Z3) rfl (Zhe _) hS (by first | trivial) (by first | trivial) (by assumption) (by repeat (first | exact Seg.here (Pre.succ Pre.zero) | apply Seg.succ))) | (apply Yt; first | exact Zgb rfl rfl (by omega) | exact yv_neq_f rfl rfl (by omega) | exact Zf9 rfl rfl (by omega)) | (apply Xz; first | exact Xd rfl rfl rfl) | (apply Jr; first | exact yv_min rfl rfl)) ?_) | apply Zu rfl rfl | apply Yg rfl rfl | apply Zs | apply Yc | apply Z4)
   refine X9 (k + 1, done) (by repeat (first | exact Sub.nil | refine Sub.cons rfl ?_)) ⟨by dsimp only; omega, by dsimp only; exact hxs, ?_, ?_, ?_⟩ (by dsimp only; omega)
   ·exact hJ _ _ _ hJk (hS.base.sub fun _ _ _ => trivial)
   ·exact (hS.base.block b (Nat.lt_of_lt_of_le hbl hz) trivial).trans hbB
   ·exact Nat.le_trans hz hS.base.size
end
section
open Go Go.RowKit
set_option maxRecDepth 100000
end
section
open Go Go.RowKit
set_option maxRecDepth 100000
def votesL : Nat → List Bool → List Int
 | _, [] => []
 | k, h :: t => if h = true then (k : Int) :: votesL (k + 1) t else votesL (k + 1) t
def m_it_votes (x0 : List Bool) : Option (List Int) := if x0.length ≤ 1000000 then some (votesL 0 x0) else none
theorem it_votes (x0 : List Bool) {A0 : OA} {c0 : Nat} (wB wM w : World) (s0 : SlI wB enO A0 c0 x0) (hB0 : Below wB.heap.size wB wM) (b : Nat) (hN : St0 All wM w [.box b [.slice A0 x0.length c0] 27]) {xs : List Int} (H : m_it_votes x0 = some xs) :
  IterP Tryz.prog 112 #[.pointer (some ⟨b, 0, none⟩)] (fun p : Int => [Value.int .i64 p].toArray) xs wB.heap.size wM.heap.size w := by
 unfold m_it_votes at H
 split at H
 case isFalse => cases H
 rename_i hl9
 obtain rfl := QJ H
 obtain ⟨hb, hbM, hbl⟩ := hN.cap
 have hA : Rd w A0 (Yf enO x0) := (s0.rd.below hB0).below hN.pure
 have hAn := s0.blk
 have hlc := s0.k
 intro lo J Jx Jp W hW hJ hJx hJp hy h0
 have hbW : W.heap[b]? = some (.cells #[.slice A0 x0.length c0] 27) := (hW.block b hbl).trans hb
 have hAW := hA.below hW
 show Calls _ _ #[_, _] _ _
 refine Ys Tryz.func112 rfl Tryz.ntmps112 rfl ?_
 have hS := St0.start All W
 repeat (first | apply Zg | (apply Zc; assumption) | (apply Zd; intro K hK) | apply Zf | (apply Yw; refine Za rfl rfl rfl (by first | exact Zy rfl | (apply Yi; first | exact X3 (by first | exact Zc1) rfl (Zhe _) hS (by first | trivial) (by first | trivial) (by assumption) (by repeat (first | exact Seg.here (Pre.succ Pre.zero)))) | (apply Jr; first | exact Yz (by first | exact Zbs) rfl)) ?_) | apply Yc)
 refine V7 (X := Nat × List Int) (fun z => [(7, .int .i64 z.1), (6, .int .i64 x0.length), (5, .slice A0 x0.length c0), (1, .pointer (some ⟨b, 0, none⟩)), (0, .func (.yield lo) #[] #[])])
  (fun z B => z.1 ≤ x0.length ∧ votesL 0 x0 = z.2 ++ votesL z.1 (x0.drop z.1) ∧ J z.2.length B ∧ Rd B A0 (Yf enO x0) ∧ w.heap.size ≤ B.heap.size) (fun z => x0.length - z.1) (0, []) (by repeat (first | exact Sub.nil | refine Sub.cons rfl ?_)) ⟨Nat.zero_le _, by simp, h0, hAW, hW.size⟩ ?_
 rintro ⟨k, done⟩ B ⟨hk, hxs, hJk, hAB, hz⟩
 dsimp only at hk hxs hJk
 dsimp only
 clear hbW hAW hS h0
 have hS := St0.start All B
 rcases Nat.lt_or_ge k x0.length with hlt | hge
 ·obtain ⟨e, he, hd⟩ := Xo hlt
  rw [hd, votesL] at hxs
  have hEl := Rd.el hAB V5 he
  cases e with
  | true =>
   rw [if_pos rfl] at hxs
   repeat (first | (apply Zd; intro K hK))
   apply Zf
   repeat (first | apply Zg | (apply Zc; assumption) | (apply Zd; intro K hK) | (apply Yw; refine Za rfl rfl rfl (by first | (apply Yt; first | exact Zff rfl rfl (by omega))) ?_) | apply Zu rfl rfl | apply Zs | apply Yc)
   apply Zf
   repeat (first | apply Zg | (apply Zc; assumption) | (apply Zd; intro K hK) | (apply Yw; refine Za rfl rfl rfl (by first | exact Xh (by first | exact Zbs) rfl rfl rfl hlt hEl | exact Zap (by first | exact Zg5 | exact sc_4) rfl (Zhe _) hEl rfl | exact Zy rfl | exact Z2 rfl) ?_))
   refine Zgm 4 (by repeat (first | exact NL.body (by intro _ h; simp at h) | apply NL.then | apply NL.inBlock)) (by kernel_rfl) ?_
   dsimp only [List.take, List.drop]
   repeat (first | apply Zg | (apply Yw; refine Za rfl rfl rfl (by first | exact Zy rfl) ?_))
   refine QH_Y ?_
   have hk1 : KeepB All B B := hS.base
   refine wpSI_yield rfl rfl rfl rfl (hy done.length (k : Int) B (by rw [hxs]; simp) (hJ _ B B hJk (hk1.sub fun _ _ _ => trivial)) hz) ?_
   rintro ex w2 (⟨rfl, hJ2, hk2⟩ | ⟨rfl, hJ2, hk2⟩ | ⟨ch, rfl, hJ2⟩)
   ·refine .inl ⟨_, rfl, Zer (by repeat (first | exact NL.body (by intro _ h; simp at h) | apply NL.then | apply NL.inBlock)) (by kernel_rfl) ?_⟩
    have hS := St0.start All w2
    repeat (first | apply Zg | (apply Zc; assumption) | apply Zf | (apply Yw; refine Za rfl rfl rfl (by first | exact Zy rfl | (apply Yt; first | exact Zf9 rfl rfl (by omega)) | (apply Xz; first | exact Xf rfl rfl rfl) | exact Yo rfl) ?_) | apply Yg rfl rfl | apply Zs | apply Z4)
    refine X9 (k + 1, done ++ [(k : Int)]) (by repeat (first | exact Sub.nil | refine Sub.cons rfl ?_)) ⟨hlt, by dsimp only; rw [hxs]; simp, ?_, ?_, ?_⟩ (by dsimp only; omega)
    ·dsimp only; rw [List.length_append]; exact hJ2
    ·exact hk2.rd hAB (fun p hp => .inl (hAn p hp))
    ·exact Nat.le_trans hz hk2.size
   ·refine .inl ⟨_, rfl, Zer (by repeat (first | exact NL.body (by intro _ h; simp at h) | apply NL.then | apply NL.inBlock)) (by kernel_rfl) ?_⟩
    have hS := St0.start All w2
    repeat (first | apply Zg | (apply Zc; assumption) | (apply Yw; refine Za rfl rfl rfl (by first | (apply Xz; first | exact Xf rfl rfl rfl) | exact Yo rfl) ?_) | apply Zu rfl rfl | apply Zk | apply Zj | apply Zz)
    refine Zm rfl (by first | exact RV.nil) rfl ?_
    exact .inl ⟨⟨_, rfl⟩, .inr hJ2⟩
   ·refine .inr ⟨ch, rfl, ?_⟩
    repeat (first | apply Xs | apply Zbq)
    exact Jw rfl (.inr ⟨ch, rfl, hJ2⟩)
  | false =>
   rw [if_neg (by decide)] at hxs
   repeat (first | (apply Zd; intro K hK))
   apply Zf
   repeat (first | apply Zg | (apply Zc; assumption) | (apply Zd; intro K hK) | (apply Yw; refine Za rfl rfl rfl (by first | (apply Yt; first | exact Zff rfl rfl (by omega))) ?_) | apply Zu rfl rfl | apply Zs | apply Yc)
   apply Zf
   repeat (first | apply Zg | (apply Zc; assumption) | (apply Zd; intro K hK) | (apply Yw; refine Za rfl rfl rfl (by first | exact Xh (by first | exact Zbs) rfl rfl rfl hlt hEl | exact Zap (by first | exact Zg5 | exact sc_4) rfl (Zhe _) hEl rfl | exact Zy rfl | exact Z2 rfl) ?_))
   refine Zgm 4 (by repeat (first | exact NL.body (by intro _ h; simp at h) | apply NL.then | apply NL.inBlock)) (by kernel_rfl) ?_
   dsimp only [List.take, List.drop]
   repeat (first | apply Zg | (apply Yw; refine Xr rfl rfl rfl ?_) | (apply Yw; refine Za rfl rfl rfl (by first | exact Zy rfl) ?_))
   refine QH_Y ?_
   refine Zer (by repeat (first | exact NL.body (by intro _ h; simp at h) | apply NL.then | apply NL.inBlock)) (by kernel_rfl) ?_
   repeat (first | apply Zg | (apply Zc; assumption) | apply Zf | (apply Yw; refine Xr rfl rfl rfl ?_) | (apply Yw; refine Za rfl rfl rfl (by first | exact Zy rfl | (apply Yt; first | exact Zf9 rfl rfl (by omega)) | (apply Xz; first | exact Xd rfl rfl rfl)) ?_) | apply Yg rfl rfl | apply Zs | apply Z4)
   refine X9 (k + 1, done) (by repeat (first | exact Sub.nil | refine Sub.cons rfl ?_)) ⟨hlt, hxs, ?_, ?_, ?_⟩ (by dsimp only; omega)
   ·exact hJ _ _ _ hJk (hS.base.sub fun _ _ _ => trivial)
   ·exact hAB
   ·exact hz
 ·obtain rfl : k = x0.length := by omega
  rw [List.drop_length, votesL, List.append_nil] at hxs
  repeat (first | apply Zg | (apply Zc; assumption) | (apply Zd; intro K hK) | apply Zf | (apply Yw; refine Za rfl rfl rfl (by first | (apply Yt; first | exact Zdl rfl rfl (by omega))) ?_) | apply Yg rfl rfl | apply X0 | apply Z9 | apply Yy)
  refine Zfp rfl (by first | exact RV.nil) rfl ?_
  refine .inl ⟨⟨_, rfl⟩, .inl ?_⟩
  rw [hxs]
  exact hJ _ _ _ hJk (hS.base.sub fun _ _ _ => trivial)
end
section
open Go Go.RowKit
set_option maxRecDepth 100000
def Zdp (x0 : Tu) : Option (Bool) :=
  some (decide (250 < (x0.log.length : Int)))
def Zbk (x0 : Co) : Option (Bool) := (Zdp x0.tuple).bind fun r5 =>
  cond r5 (some true) (cond (decide (9 < (x0.votes.length : Int))) (some true) (cond (decide (9 < (x0.next.length : Int))) (some true) (cond (decide (9 < (x0.mtch.length : Int))) (some true) (cond (decide (9 < (x0.caps.length : Int))) (some true) (cond (decide (1099511627776 < x0.tuple.snap.index)) (some true) (some (decide (x0.tuple.snap.index < (-1099511627776)))))))))
def Za2 : Option (St) :=
  some (⟨0, 0, 0, 1, false⟩ : St)
def Zdq : Option (Tu) := (Za2).bind fun r5 =>
  some (⟨r5, [], 0, 0⟩ : Tu)
def X1 (x0 : Tu) : Option (Tu) := (Zfg ([] ++ x0.log)).bind fun l9 =>
  some (⟨x0.snap, l9, x0.term, x0.vote⟩ : Tu)
def Vq (x0 : Tu) : Option (Int) :=
  some (IntKind.wrap .i64 (x0.snap.index + (x0.log.length : Int)))
def Zef (x0 : Int) (x1 : Int) (x2 : Int) (x3 : Tu) (r13 : Tu) : Nat → Int → List Bool → List Int → List Int → List Int → Option (Co)
 | 0, _, _, _, _, _ => none
 | n + 1, v24, v25, v30, v35, v40 =>
  cond (decide (v24 ≤ x1)) ((Zfg (v25 ++ ([false] : List Bool))).bind fun l51 =>
  (Vq x3).bind fun r57 =>
  (Zfg (v30 ++ ([(IntKind.wrap .i64 (r57 + 1))] : List Int))).bind fun l61 =>
  (Zfg (v35 ++ ([0] : List Int))).bind fun l69 =>
  (Zfg (v40 ++ ([0] : List Int))).bind fun l76 =>
  Zef x0 x1 x2 x3 r13 n (IntKind.wrap .i64 (v24 + 1)) l51 l61 l69 l76) ((idx v40 (IntKind.wrap .i64 (x0 - 1))).bind fun e82 =>
  some (⟨x0, x1, 0, x2, r13, x3.snap.index, x3.snap, v25, v30, v35, (Vw v40 (IntKind.wrap .i64 (x0 - 1)) x2)⟩ : Co))
def Zfe (x0 : Int) (x1 : Int) (x2 : Int) (x3 : Tu) : Option (Co) :=
  cond (decide (x1 < 0)) (some (⟨0, 0, 0, 0, (⟨(⟨0, 0, 0, 0, false⟩ : St), [], 0, 0⟩ : Tu), 0, (⟨0, 0, 0, 0, false⟩ : St), [], [], [], []⟩ : Co)) (cond (decide (5 < x1)) (some (⟨0, 0, 0, 0, (⟨(⟨0, 0, 0, 0, false⟩ : St), [], 0, 0⟩ : Tu), 0, (⟨0, 0, 0, 0, false⟩ : St), [], [], [], []⟩ : Co)) (cond (decide (x0 < 1)) (some (⟨0, 0, 0, 0, (⟨(⟨0, 0, 0, 0, false⟩ : St), [], 0, 0⟩ : Tu), 0, (⟨0, 0, 0, 0, false⟩ : St), [], [], [], []⟩ : Co)) (cond (decide (x1 < x0)) (some (⟨0, 0, 0, 0, (⟨(⟨0, 0, 0, 0, false⟩ : St), [], 0, 0⟩ : Tu), 0, (⟨0, 0, 0, 0, false⟩ : St), [], [], [], []⟩ : Co)) ((X1 x3).bind fun r13 =>
  Zef x0 x1 x2 x3 r13 Xw 1 [] [] [] []))))
def Y9 (x0 : List En) : Option (List En) := Zfg x0
def Zgo (x0 : Tu) : Option (Tu) := (Y9 x0.log).bind fun r7 =>
  some (⟨x0.snap, r7, x0.term, x0.vote⟩ : Tu)
def Ja (x0 : List Bool) : Option (List Bool) := Zfg x0
def Vb (x0 : List Int) : Option (List Int) := Zfg x0
def Zbb (x0 : Co) : Option (Co) := (Zgo x0.tuple).bind fun r7 =>
  (Ja x0.votes).bind fun r14 =>
  (Vb x0.next).bind fun r20 =>
  (Vb x0.mtch).bind fun r26 =>
  (Vb x0.caps).bind fun r32 =>
  some (⟨x0.id, x0.n, x0.role, x0.binary, r7, x0.commit, x0.applied, r14, r20, r26, r32⟩ : Co)
def Zbh (x0 : Tu) : Option (Int) :=
  some (IntKind.wrap .i64 (x0.snap.index + (x0.log.length : Int)))
def Vr (x0 : Int) (x1 : Int) (x2 : Int) : Option (Bool) :=
  cond (decide (x1 ≤ x0)) (some (decide (x0 ≤ x2))) (some false)
def Ze3 : Option (St) :=
  some (⟨0, 0, 0, 1, false⟩ : St)
def X4 (x0 : Int) : Option (Bool) :=
  cond (decide (0 ≤ x0)) (some (decide (x0 ≤ 1073741824))) (some false)
def Zaa (x0 : St) : Option (Bool) :=
  cond (decide (x0.index = 0)) ((Ze3).bind fun r7 =>
  some (decide (x0.index = r7.index) && (decide (x0.term = r7.term) && (decide (x0.sum = r7.sum) && (decide (x0.level = r7.level) && (decide (x0.final = r7.final))))))) (cond x0.final (cond (decide (x0.level = 2)) ((X4 x0.index).bind fun r11 =>
  cond r11 (cond (decide (0 < x0.term)) ((X4 x0.term).bind fun r13 =>
  cond r13 ((X4 x0.sum).bind fun r15 =>
  some r15) (some false)) (some false)) (some false)) (some false)) (cond (decide (x0.level = 1)) ((X4 x0.index).bind fun r18 =>
  cond r18 (cond (decide (0 < x0.term)) ((X4 x0.term).bind fun r20 =>
  cond r20 ((X4 x0.sum).bind fun r22 =>
  some r22) (some false)) (some false)) (some false)) (cond (decide (x0.level = 2)) ((X4 x0.index).bind fun r24 =>
  cond r24 (cond (decide (0 < x0.term)) ((X4 x0.term).bind fun r26 =>
  cond r26 ((X4 x0.sum).bind fun r28 =>
  some r28) (some false)) (some false)) (some false)) (some false))))
def Zbl (x0 : List Int) (x2 : Int) (x3 : Int) : Nat → Int → Int → Option (Bool)
 | 0, _, _ => none
 | n + 1, v12, v13 =>
  cond (decide (v13 < (x0.length : Int))) ((idx x0 v13).bind fun e19 =>
  (Vr e19 x2 x3).bind fun r24 =>
  cond (!r24) (some (!(decide (0 ≤ v13)))) (Zbl x0 x2 x3 n v12 (IntKind.wrap .i64 (v13 + 1)))) (some (!(decide (0 ≤ (-1)))))
def Zb4 (x0 : List Int) (x1 : Int) (x2 : Int) (x3 : Int) : Option (Bool) :=
  cond (decide ((x0.length : Int) = x1)) (Zbl x0 x2 x3 Xw 0 0) (some false)
def Za1 (x0 : Co) : Option (Bool) := (Zbh x0.tuple).bind fun r5 =>
  (Vr x0.n 1 5).bind fun r18 =>
  cond r18 ((Vr x0.id 1 x0.n).bind fun r20 =>
  cond (!r20) (some false) (cond (decide (x0.role ≤ 2)) ((Vr x0.binary 1 2).bind fun r30 =>
  cond r30 ((Zdn x0.tuple).bind fun r32 =>
  cond (!r32) (some false) ((Zab x0.tuple x0.commit).bind fun r42 =>
  cond r42.2 (cond (!(decide (r42.1.index = x0.applied.index) && (decide (r42.1.term = x0.applied.term) && (decide (r42.1.sum = x0.applied.sum) && (decide (r42.1.level = x0.applied.level) && (decide (r42.1.final = x0.applied.final))))))) (some false) (cond (decide ((x0.votes.length : Int) = x0.n)) ((Zb4 x0.next x0.n 1 (IntKind.wrap .i64 (r5 + 1))).bind fun r55 =>
  cond r55 ((Zb4 x0.mtch x0.n 0 r5).bind fun r57 =>
  cond (!r57) (some false) ((Zb4 x0.caps x0.n 0 2).bind fun r67 =>
  cond r67 ((idx x0.caps (IntKind.wrap .i64 (x0.id - 1))).bind fun e69 =>
  cond (!(decide (e69 = x0.binary))) (some false) (cond (decide (x0.role = 0)) (some true) (cond (decide (0 < x0.tuple.term)) (cond (!(decide (x0.tuple.vote = x0.id))) (some false) (some true)) (some false)))) (some false))) (some false)) (some false))) (some false))) (some false)) (some false))) (some false)
def Jn (x0 : List Bool) : List (Int) → Int → Option (Bool)
 | [], v12 =>
  some (decide ((x0.length : Int) < (IntKind.wrap .i64 (2 * v12))))
 | e11 :: l0, v12 =>
  Jn x0 l0 (IntKind.wrap .i64 (v12 + 1))
def Zav (x0 : List Bool) : Option (Bool) := (m_it_votes x0).bind fun xs13 =>
  Jn x0 xs13 0
def Zao (r7 : Co) (r38 : Tu × Int) (r52 : Int) : Nat → Int → List Int → List Int → Option (Co)
 | 0, _, _, _ => none
 | n + 1, v56, v57, v60 =>
  cond (decide (v56 < r7.n)) ((idx v57 v56).bind fun e67 =>
  (idx v60 v56).bind fun e70 =>
  Zao r7 r38 r52 n (IntKind.wrap .i64 (v56 + 1)) (Vw v57 v56 (IntKind.wrap .i64 (r52 + 1))) (Vw v60 v56 0)) ((idx v60 (IntKind.wrap .i64 (r7.id - 1))).bind fun e74 =>
  some (⟨r7.id, r7.n, 2, r7.binary, r38.1, r7.commit, r7.applied, r7.votes, v57, (Vw v60 (IntKind.wrap .i64 (r7.id - 1)) r52), r7.caps⟩ : Co))
def Vi (x0 : Co) : Option (Co) := (Zbb x0).bind fun r7 =>
  cond (decide (r7.role ≠ 1)) (some r7) ((Za1 r7).bind fun r32 =>
  cond (!r32) (some r7) ((Zc5 r7.tuple ([(⟨r7.tuple.term, 0, 0⟩ : En)] : List En)).bind fun r38 =>
  cond (decide (r38.2 ≠ 0)) (some (⟨r7.id, r7.n, 0, r7.binary, r7.tuple, r7.commit, r7.applied, r7.votes, r7.next, r7.mtch, r7.caps⟩ : Co)) ((Zbh r38.1).bind fun r52 =>
  Zao r7 r38 r52 Xw 0 r7.next r7.mtch)))
def m_tuple_At (x0 : Tu) (x1 : Int) : Option (En × Bool) :=
  cond (decide (x1 ≤ x0.snap.index)) (some ((⟨0, 0, 0⟩ : En), false)) ((Zbh x0).bind fun r9 =>
  cond (decide (r9 < x1)) (some ((⟨0, 0, 0⟩ : En), false)) ((idx x0.log (IntKind.wrap .i64 ((IntKind.wrap .i64 (x1 - x0.snap.index)) - 1))).bind fun e13 =>
  some (e13, true)))
def Zcx (x0 : Tu) (x1 : Int) : Option (Int × Bool) :=
  cond (decide (x1 = x0.snap.index)) (some (x0.snap.term, true)) ((m_tuple_At x0 x1).bind fun r8 =>
  some (r8.1.term, r8.2))
def Zcw (x0 : Co) : Option (Int × Int) := (Zbh x0.tuple).bind fun r5 =>
  (Zcx x0.tuple r5).bind fun r8 =>
  some (r5, r8.1)
def Jm (x0 : Co) (x1 : Ms) : List (Int) → List Ms → Option (List Ms)
 | [], v15 =>
  some v15
 | e14 :: l0, v15 =>
  (Y9 x1.entries).bind fun r30 =>
  (Zfg (v15 ++ [(⟨x1.kind, x0.id, e14, x0.tuple.term, x0.binary, x1.last, x1.lastTerm, x1.commit, x1.okk, r30, x1.snap⟩ : Ms)])).bind fun l38 =>
  Jm x0 x1 l0 l38
def Zb0 (x0 : Co) (x1 : Ms) : Option (List Ms) := (m_it_others x0).bind fun xs24 =>
  Jm x0 x1 xs24 []
def Ve (x0 : Co) : Option (Co × List Ms) := (Zbb x0).bind fun r7 =>
  (Za1 r7).bind fun r31 =>
  cond (!r31) (some (r7, [])) (cond (decide (r7.role = 2)) (some (r7, [])) (cond (decide (r7.tuple.term = 1073741824)) (some (r7, [])) ((Jg r7.tuple (IntKind.wrap .i64 (r7.tuple.term + 1)) r7.id).bind fun r45 =>
  (makeI false r7.n).bind fun l52 =>
  (idx ([r7.id] : List Int) 0).bind fun e64 =>
  (idx l52 (IntKind.wrap .i64 (e64 - 1))).bind fun e67 =>
  (Zav (Vw l52 (IntKind.wrap .i64 (e64 - 1)) true)).bind fun r75 =>
  cond r75 ((Vi (⟨r7.id, r7.n, 1, r7.binary, r45.1, r7.commit, r7.applied, (Vw l52 (IntKind.wrap .i64 (e64 - 1)) true), r7.next, r7.mtch, r7.caps⟩ : Co)).bind fun r78 =>
  some (r78, [])) ((Zcw (⟨r7.id, r7.n, 1, r7.binary, r45.1, r7.commit, r7.applied, (Vw l52 (IntKind.wrap .i64 (e64 - 1)) true), r7.next, r7.mtch, r7.caps⟩ : Co)).bind fun r101 =>
  (Zb0 (⟨r7.id, r7.n, 1, r7.binary, r45.1, r7.commit, r7.applied, (Vw l52 (IntKind.wrap .i64 (e64 - 1)) true), r7.next, r7.mtch, r7.caps⟩ : Co) (⟨1, 0, 0, 0, 0, r101.1, r101.2, 0, false, [], (⟨0, 0, 0, 0, false⟩ : St)⟩ : Ms)).bind fun r104 =>
  some ((⟨r7.id, r7.n, 1, r7.binary, r45.1, r7.commit, r7.applied, (Vw l52 (IntKind.wrap .i64 (e64 - 1)) true), r7.next, r7.mtch, r7.caps⟩ : Co), r104)))))
def J0 (x0 : Ms) : Nat → Bool → Int → Int → Option (Bool)
 | 0, _, _, _ => none
 | n + 1, v7, v8, v9 =>
  cond (decide (v9 < (x0.entries.length : Int))) ((idx x0.entries v9).bind fun e14 =>
  (Zgv e14).bind fun r21 =>
  cond (!r21) (some false) ((Vr e14.term v8 x0.term).bind fun r24 =>
  cond (!r24) (some false) (J0 x0 n v7 e14.term (IntKind.wrap .i64 (v9 + 1))))) (some (decide ((x0.entries.length : Int) ≤ 4)))
def Zdo (x0 : Ms) : Option (Bool) :=
  J0 x0 Xw false x0.lastTerm 0
def Zes (x0 : Ms) (x1 : Int) : Option (Bool) := (Vr x1 1 5).bind fun r6 =>
  cond (!r6) (some false) ((Zb4 ([x0.frm, x0.dst] : List Int) 2 1 x1).bind fun r12 =>
  cond (!r12) (some false) (cond (decide (x0.frm = x0.dst)) (some false) ((Vr (IntKind.wrap .i64 x0.kind) 1 5).bind fun r20 =>
  cond (!r20) (some false) ((Vr x0.term 1 1073741824).bind fun r24 =>
  cond (!r24) (some false) ((Vr x0.cap 1 2).bind fun r28 =>
  cond (!r28) (some false) ((Zb4 ([x0.last, x0.lastTerm, x0.commit] : List Int) 3 0 1073741824).bind fun r36 =>
  cond (!r36) (some false) ((Zdo x0).bind fun r40 =>
  cond (!r40) (some false) (cond (decide (x0.kind ≠ 3)) (cond (decide (0 < (x0.entries.length : Int))) (some false) (cond (decide (0 < x0.commit)) (some false) (cond x0.okk (cond (decide (x0.kind ≠ 2)) (cond (decide (x0.kind ≠ 4)) (some false) (cond (decide (x0.kind = 5)) (cond (decide (0 < x0.snap.index)) ((Zaa x0.snap).bind fun r57 =>
  some r57) (some false)) (some (decide (x0.snap.index = 0) && (decide (x0.snap.term = 0) && (decide (x0.snap.sum = 0) && (decide (x0.snap.level = 0) && (decide (x0.snap.final = false))))))))) (cond (decide (x0.kind = 5)) (cond (decide (0 < x0.snap.index)) ((Zaa x0.snap).bind fun r64 =>
  some r64) (some false)) (some (decide (x0.snap.index = 0) && (decide (x0.snap.term = 0) && (decide (x0.snap.sum = 0) && (decide (x0.snap.level = 0) && (decide (x0.snap.final = false))))))))) (cond (decide (x0.kind = 5)) (cond (decide (0 < x0.snap.index)) ((Zaa x0.snap).bind fun r71 =>
  some r71) (some false)) (some (decide (x0.snap.index = 0) && (decide (x0.snap.term = 0) && (decide (x0.snap.sum = 0) && (decide (x0.snap.level = 0) && (decide (x0.snap.final = false))))))))))) (cond x0.okk (cond (decide (x0.kind ≠ 2)) (cond (decide (x0.kind ≠ 4)) (some false) (cond (decide (x0.kind = 5)) (cond (decide (0 < x0.snap.index)) ((Zaa x0.snap).bind fun r82 =>
  some r82) (some false)) (some (decide (x0.snap.index = 0) && (decide (x0.snap.term = 0) && (decide (x0.snap.sum = 0) && (decide (x0.snap.level = 0) && (decide (x0.snap.final = false))))))))) (cond (decide (x0.kind = 5)) (cond (decide (0 < x0.snap.index)) ((Zaa x0.snap).bind fun r89 =>
  some r89) (some false)) (some (decide (x0.snap.index = 0) && (decide (x0.snap.term = 0) && (decide (x0.snap.sum = 0) && (decide (x0.snap.level = 0) && (decide (x0.snap.final = false))))))))) (cond (decide (x0.kind = 5)) (cond (decide (0 < x0.snap.index)) ((Zaa x0.snap).bind fun r96 =>
  some r96) (some false)) (some (decide (x0.snap.index = 0) && (decide (x0.snap.term = 0) && (decide (x0.snap.sum = 0) && (decide (x0.snap.level = 0) && (decide (x0.snap.final = false)))))))))))))))))
def Zb2 (x0 : Co) (x1 : Ms) : Option (Bool) :=
  cond (decide (x1.dst = x0.id)) ((Zes x1 x0.n).bind fun r7 =>
  cond r7 ((Za1 x0).bind fun r9 =>
  some r9) (some false)) (some false)
def Zfc (x0 : Co) (x1 : Ms) : Option (Bool) :=
  cond (decide (x1.dst ≠ x0.id)) (some false) ((Za1 x0).bind fun r10 =>
  cond (!r10) (some false) ((Zes x1 x0.n).bind fun r15 =>
  some r15))
def Zdw (x0 : Co) (x1 : Ms) : Option (Co) := (Zfc x0 x1).bind fun r9 =>
  (Zbb x0).bind fun r19 =>
  cond r9 ((Za1 r19).bind fun r43 =>
  cond r43 ((idx r19.caps (IntKind.wrap .i64 (x1.frm - 1))).bind fun e45 =>
  some (⟨r19.id, r19.n, r19.role, r19.binary, r19.tuple, r19.commit, r19.applied, r19.votes, r19.next, r19.mtch, (Vw r19.caps (IntKind.wrap .i64 (x1.frm - 1)) x1.cap)⟩ : Co)) (some r19)) (some r19)
def Zb6 (x0 : Co) (x1 : Ms) : Option (Co) := (Zbb x0).bind fun r9 =>
  (Zb2 r9 x1).bind fun r33 =>
  cond (!r33) (some r9) ((Zdw r9 x1).bind fun r39 =>
  cond (decide (r39.tuple.term < x1.term)) ((Jg r39.tuple x1.term 0).bind fun r68 =>
  (makeI false r39.n).bind fun l75 =>
  some (⟨r39.id, r39.n, 0, r39.binary, r68.1, r39.commit, r39.applied, l75, r39.next, r39.mtch, r39.caps⟩ : Co)) (some r39))
def Vx (x0 : Co) (x1 : Int) (x2 : Int) : Option (Bool) := (Za1 x0).bind fun r6 =>
  cond (!r6) (some false) ((Zcw x0).bind fun r10 =>
  cond (decide (r10.2 ≠ x1)) (some (decide (r10.2 < x1))) (some (decide (r10.1 ≤ x2))))
def J2 (x0 : Co) (x1 : Ms) (x2 : Int) (x3 : Bool) (x4 : Int) : Option (Ms) :=
  some (⟨x2, x0.id, x1.frm, x0.tuple.term, x0.binary, x4, 0, 0, x3, [], (⟨0, 0, 0, 0, false⟩ : St)⟩ : Ms)
def V2 (x0 : Co) (x1 : Ms) : Option (Co × List Ms) := (Zb2 x0 x1).bind fun r10 =>
  cond (!r10) ((Zbb x0).bind fun r13 =>
  some (r13, [])) (cond (decide (x1.kind ≠ 1)) ((Zbb x0).bind fun r36 =>
  some (r36, [])) ((Zb6 x0 x1).bind fun r59 =>
  cond (decide (r59.tuple.vote = 0)) (cond (decide (r59.role = 0)) (cond (decide (x1.term = r59.tuple.term)) ((Vx r59 x1.lastTerm x1.last).bind fun r83 =>
  cond r83 ((Jg r59.tuple x1.term x1.frm).bind fun r87 =>
  (J2 (⟨r59.id, r59.n, r59.role, r59.binary, r87.1, r59.commit, r59.applied, r59.votes, r59.next, r59.mtch, r59.caps⟩ : Co) x1 2 r83 0).bind fun r94 =>
  some ((⟨r59.id, r59.n, r59.role, r59.binary, r87.1, r59.commit, r59.applied, r59.votes, r59.next, r59.mtch, r59.caps⟩ : Co), ([r94] : List Ms))) ((J2 r59 x1 2 r83 0).bind fun r103 =>
  some (r59, ([r103] : List Ms)))) ((J2 r59 x1 2 false 0).bind fun r114 =>
  some (r59, ([r114] : List Ms)))) ((J2 r59 x1 2 false 0).bind fun r125 =>
  some (r59, ([r125] : List Ms)))) (cond (decide (r59.tuple.vote = x1.frm)) (cond (decide (r59.role = 0)) (cond (decide (x1.term = r59.tuple.term)) ((Vx r59 x1.lastTerm x1.last).bind fun r134 =>
  cond r134 ((Jg r59.tuple x1.term x1.frm).bind fun r138 =>
  (J2 (⟨r59.id, r59.n, r59.role, r59.binary, r138.1, r59.commit, r59.applied, r59.votes, r59.next, r59.mtch, r59.caps⟩ : Co) x1 2 r134 0).bind fun r145 =>
  some ((⟨r59.id, r59.n, r59.role, r59.binary, r138.1, r59.commit, r59.applied, r59.votes, r59.next, r59.mtch, r59.caps⟩ : Co), ([r145] : List Ms))) ((J2 r59 x1 2 r134 0).bind fun r154 =>
  some (r59, ([r154] : List Ms)))) ((J2 r59 x1 2 false 0).bind fun r165 =>
  some (r59, ([r165] : List Ms)))) ((J2 r59 x1 2 false 0).bind fun r176 =>
  some (r59, ([r176] : List Ms)))) ((J2 r59 x1 2 false 0).bind fun r187 =>
  some (r59, ([r187] : List Ms))))))
def J8 (x0 : Co) (x1 : Ms) : Option (Co × List Ms) := (Zb2 x0 x1).bind fun r10 =>
  cond (!r10) ((Zbb x0).bind fun r13 =>
  some (r13, [])) (cond (decide (x1.kind ≠ 2)) ((Zbb x0).bind fun r36 =>
  some (r36, [])) ((Zb6 x0 x1).bind fun r59 =>
  cond (!x1.okk) (some (r59, [])) (cond (decide (r59.role ≠ 1)) (some (r59, [])) (cond (decide (x1.term ≠ r59.tuple.term)) (some (r59, [])) ((idx r59.votes (IntKind.wrap .i64 (x1.frm - 1))).bind fun e91 =>
  (Zav (Vw r59.votes (IntKind.wrap .i64 (x1.frm - 1)) true)).bind fun r95 =>
  cond r95 ((Vi (⟨r59.id, r59.n, r59.role, r59.binary, r59.tuple, r59.commit, r59.applied, (Vw r59.votes (IntKind.wrap .i64 (x1.frm - 1)) true), r59.next, r59.mtch, r59.caps⟩ : Co)).bind fun r97 =>
  some (r97, [])) (some ((⟨r59.id, r59.n, r59.role, r59.binary, r59.tuple, r59.commit, r59.applied, (Vw r59.votes (IntKind.wrap .i64 (x1.frm - 1)) true), r59.next, r59.mtch, r59.caps⟩ : Co), [])))))))
def Zac : Option (Bool) := (Zdq).bind fun r3 =>
  (Zfe 1 1 1 r3).bind fun r9 =>
  (Ve r9).bind fun r31 =>
  (Zdq).bind fun r64 =>
  (Zfe 1 3 1 r64).bind fun r70 =>
  (Ve r70).bind fun r92 =>
  cond (decide ((r92.2.length : Int) ≠ 2)) (some false) (cond (decide ((r92.1.votes.length : Int) ≠ 3)) (some false) ((idx r92.2 0).bind fun e129 =>
  (Zdq).bind fun r134 =>
  (Zfe 2 3 2 r134).bind fun r140 =>
  (V2 r140 e129).bind fun r162 =>
  cond (decide ((r162.2.length : Int) ≠ 1)) (some false) ((idx r162.2 0).bind fun e199 =>
  (J8 r92.1 e199).bind fun r204 =>
  (V2 r162.1 (⟨1, 3, 2, 1, 1, 0, 0, 0, false, [], (⟨0, 0, 0, 0, false⟩ : St)⟩ : Ms)).bind fun r238 =>
  cond (decide ((r238.2.length : Int) ≠ 1)) (some false) (cond (decide (r31.1.role = 2)) (cond (decide ((r31.2.length : Int) = 0)) (cond (decide (r31.1.tuple.term = 1)) (cond (decide ((r31.1.tuple.log.length : Int) = 1)) (cond (decide (r92.1.role = 1)) ((idx r162.2 0).bind fun e274 =>
  cond e274.okk (cond (decide (r162.1.tuple.vote = 1)) (cond (decide (r204.1.role = 2)) (cond (decide ((r204.2.length : Int) = 0)) ((idx r204.1.caps 1).bind fun e279 =>
  cond (decide (e279 = 2)) ((idx r238.2 0).bind fun e282 =>
  cond (!e282.okk) (cond (decide (r238.1.tuple.vote = 1)) ((Zav ([true, true, false] : List Bool)).bind fun r289 =>
  cond r289 ((Zav ([true, false] : List Bool)).bind fun r293 =>
  cond (!r293) ((Vx r92.1 0 0).bind fun r295 =>
  cond r295 ((Vx r204.1 0 9).bind fun r297 =>
  some (!r297)) (some false)) (some false)) (some false)) (some false)) (some false)) (some false)) (some false)) (some false)) (some false)) (some false)) (some false)) (some false)) (some false)) (some false)) (some false)))))
def Zax (x0 : Co) : Option (Co) := (X1 x0.tuple).bind fun r7 =>
  (Zfg ([] ++ x0.votes)).bind fun l16 =>
  (Zfg ([] ++ x0.next)).bind fun l24 =>
  (Zfg ([] ++ x0.mtch)).bind fun l32 =>
  (Zfg ([] ++ x0.caps)).bind fun l40 =>
  some (⟨x0.id, x0.n, x0.role, x0.binary, r7, x0.commit, x0.applied, l16, l24, l32, l40⟩ : Co)
def Je (x0 : Int) : Option (Bool) :=
  cond (decide (0 ≤ x0)) (some (decide (x0 ≤ 1073741824))) (some false)
def V0 (x0 : St) : Option (Bool) := (Je x0.index).bind fun r6 =>
  cond (!r6) (some false) ((Je x0.term).bind fun r9 =>
  cond (!r9) (some false) ((Je x0.sum).bind fun r12 =>
  cond (!r12) (some false) (cond (decide ((decide (x0.term = 0)) ≠ (decide (x0.index = 0)))) (some false) (cond (decide (x0.level ≠ 1)) (cond (decide (x0.level ≠ 2)) (some false) (cond x0.final (cond (decide (x0.level ≠ 2)) (some false) (cond (decide (0 < x0.index)) (some true) ((Za2).bind fun r19 =>
  some (decide (x0.index = r19.index) && (decide (x0.term = r19.term) && (decide (x0.sum = r19.sum) && (decide (x0.level = r19.level) && (decide (x0.final = r19.final))))))))) (cond (decide (0 < x0.index)) (some true) ((Za2).bind fun r22 =>
  some (decide (x0.index = r22.index) && (decide (x0.term = r22.term) && (decide (x0.sum = r22.sum) && (decide (x0.level = r22.level) && (decide (x0.final = r22.final)))))))))) (cond x0.final (cond (decide (x0.level ≠ 2)) (some false) (cond (decide (0 < x0.index)) (some true) ((Za2).bind fun r26 =>
  some (decide (x0.index = r26.index) && (decide (x0.term = r26.term) && (decide (x0.sum = r26.sum) && (decide (x0.level = r26.level) && (decide (x0.final = r26.final))))))))) (cond (decide (0 < x0.index)) (some true) ((Za2).bind fun r29 =>
  some (decide (x0.index = r29.index) && (decide (x0.term = r29.term) && (decide (x0.sum = r29.sum) && (decide (x0.level = r29.level) && (decide (x0.final = r29.final)))))))))))))
def Zbi (x0 : En) : Option (Bool) :=
  cond (decide (1 ≤ x0.term)) ((Je x0.term).bind fun r5 =>
  cond r5 (cond (decide (0 ≤ x0.kind)) (cond (decide (x0.kind < 5)) ((Je x0.value).bind fun r7 =>
  cond r7 (cond (decide (x0.kind = 1)) (some true) (some (decide (x0.value = 0)))) (some false)) (some false)) (some false)) (some false)) (some false)
def J4 (x0 : Tu) : Nat → Bool → Int → Int → Option (Bool)
 | 0, _, _, _ => none
 | n + 1, v16, v17, v18 =>
  cond (decide (v18 < (x0.log.length : Int))) ((idx x0.log v18).bind fun e24 =>
  (Zbi e24).bind fun r27 =>
  cond (!r27) (some false) ((idx x0.log v18).bind fun e30 =>
  cond (decide (e30.term < v17)) (some false) ((idx x0.log v18).bind fun e34 =>
  J4 x0 n v16 e34.term (IntKind.wrap .i64 (v18 + 1))))) (cond (decide (v17 ≤ x0.term)) (cond (decide (0 ≤ x0.term)) (some (decide (x0.term ≤ 1073741824))) (some false)) (some false))
def Vg (x0 : Tu) : Option (Bool) := (V0 x0.snap).bind fun r6 =>
  cond (!r6) (some false) (cond (decide (1073740824 < x0.snap.index)) (some false) (cond (decide (200 < (x0.log.length : Int))) (some false) (cond (decide (x0.vote < 0)) (some false) (cond (decide (5 < x0.vote)) (some false) (J4 x0 Xw false x0.snap.term 0)))))
def Zdf (x0 : St) (x1 : En) : Option (St) := (Zbi x1).bind fun r10 =>
  cond (!r10) (some x0) ((V0 x0).bind fun r13 =>
  cond (!r13) (some x0) (cond (decide (1073741824 ≤ x0.index)) (some x0) (cond (decide (x1.kind = 1)) (some (⟨(IntKind.wrap .i64 (x0.index + 1)), x1.term, (Int.tmod (IntKind.wrap .i64 ((IntKind.wrap .i64 ((IntKind.wrap .i64 (31 * x0.sum)) + x1.value)) + 1)) 1073741824), x0.level, x0.final⟩ : St)) (cond (decide (x1.kind = 2)) (some (⟨(IntKind.wrap .i64 (x0.index + 1)), x1.term, x0.sum, 2, x0.final⟩ : St)) (cond (decide (x1.kind = 3)) (cond (!x0.final) (some (⟨(IntKind.wrap .i64 (x0.index + 1)), x1.term, x0.sum, 1, x0.final⟩ : St)) (some (⟨(IntKind.wrap .i64 (x0.index + 1)), x1.term, x0.sum, x0.level, x0.final⟩ : St))) (cond (decide (x1.kind = 4)) (some (⟨(IntKind.wrap .i64 (x0.index + 1)), x1.term, x0.sum, x0.level, (decide (x0.level = 2))⟩ : St)) (some (⟨(IntKind.wrap .i64 (x0.index + 1)), x1.term, x0.sum, x0.level, x0.final⟩ : St))))))))
def Za3 (x1 : List En) : Nat → Int → Int → Int → Int → Int → Bool → Option (St)
 | 0, _, _, _, _, _, _ => none
 | n + 1, v8, v9, v10, v11, v12, v13 =>
  cond (decide (v8 < (x1.length : Int))) ((idx x1 v8).bind fun e17 =>
  (Zdf (⟨v9, v10, v11, v12, v13⟩ : St) e17).bind fun r20 =>
  Za3 x1 n (IntKind.wrap .i64 (v8 + 1)) r20.index r20.term r20.sum r20.level r20.final) (some (⟨v9, v10, v11, v12, v13⟩ : St))
def Zgk (x0 : St) (x1 : List En) : Option (St) :=
  Za3 x1 Xw 0 x0.index x0.term x0.sum x0.level x0.final
def Zck (x0 : Tu) (x1 : Int) : Option (St × Bool) :=
  cond (decide (x1 < x0.snap.index)) (some ((⟨0, 0, 0, 0, false⟩ : St), false)) ((Vq x0).bind fun r9 =>
  cond (decide (r9 < x1)) (some ((⟨0, 0, 0, 0, false⟩ : St), false)) ((takeI x0.log (IntKind.wrap .i64 (x1 - x0.snap.index))).bind fun l13 =>
  (Zgk x0.snap l13).bind fun r15 =>
  some (r15, true)))
def J3 (x0 : Co) (r30 : Int) : Nat → Bool → Int → Option (Bool)
 | 0, _, _ => none
 | n + 1, v34, v35 =>
  cond (decide (v35 < x0.n)) ((idx x0.next v35).bind fun e40 =>
  cond (decide (e40 < 1)) (some false) ((idx x0.next v35).bind fun e44 =>
  cond (decide ((IntKind.wrap .i64 (r30 + 1)) < e44)) (some false) ((idx x0.mtch v35).bind fun e48 =>
  cond (decide (e48 < 0)) (some false) ((idx x0.mtch v35).bind fun e52 =>
  cond (decide (r30 < e52)) (some false) ((idx x0.caps v35).bind fun e56 =>
  cond (decide (e56 < 0)) (some false) ((idx x0.caps v35).bind fun e60 =>
  cond (decide (2 < e60)) (some false) (J3 x0 r30 n v34 (IntKind.wrap .i64 (v35 + 1))))))))) (cond (decide (x0.role ≠ 0)) (cond (decide (x0.tuple.term < 1)) (some false) (cond (decide (x0.tuple.vote ≠ x0.id)) (some false) ((idx x0.caps (IntKind.wrap .i64 (x0.id - 1))).bind fun e69 =>
  some (decide (e69 = x0.binary))))) ((idx x0.caps (IntKind.wrap .i64 (x0.id - 1))).bind fun e73 =>
  some (decide (e73 = x0.binary))))
def J9 (x0 : Co) : Option (Bool) :=
  cond (decide (x0.n < 1)) (some false) (cond (decide (5 < x0.n)) (some false) (cond (decide (x0.id < 1)) (some false) (cond (decide (x0.n < x0.id)) (some false) (cond (decide (2 < x0.role)) (some false) (cond (decide (x0.binary < 1)) (some false) (cond (decide (2 < x0.binary)) (some false) ((Vg x0.tuple).bind fun r13 =>
  cond (!r13) (some false) ((Zck x0.tuple x0.commit).bind fun r17 =>
  cond (!r17.2) (some false) (cond (!(decide (r17.1.index = x0.applied.index) && (decide (r17.1.term = x0.applied.term) && (decide (r17.1.sum = x0.applied.sum) && (decide (r17.1.level = x0.applied.level) && (decide (r17.1.final = x0.applied.final))))))) (some false) (cond (decide ((x0.votes.length : Int) ≠ x0.n)) (some false) (cond (decide ((x0.next.length : Int) ≠ x0.n)) (some false) (cond (decide ((x0.mtch.length : Int) ≠ x0.n)) (some false) (cond (decide ((x0.caps.length : Int) ≠ x0.n)) (some false) ((Vq x0.tuple).bind fun r30 =>
  J3 x0 r30 Xw false 0))))))))))))))
def J6 (x0 : Tu) (x1 : Int) (x2 : Int) : Option (Tu × Int) := (X1 x0).bind fun r7 =>
  cond (decide (x0.term < x1)) ((Vg x0).bind fun r26 =>
  cond (!r26) ((X1 x0).bind fun r29 =>
  some (r29, 2)) ((Vg (⟨r7.snap, r7.log, x1, x2⟩ : Tu)).bind fun r35 =>
  cond (!r35) ((X1 x0).bind fun r38 =>
  some (r38, 2)) (some ((⟨r7.snap, r7.log, x1, x2⟩ : Tu), 0)))) (cond (decide (x1 = x0.term)) (cond (decide (x0.vote = 0)) ((Vg x0).bind fun r54 =>
  cond (!r54) ((X1 x0).bind fun r57 =>
  some (r57, 2)) ((Vg (⟨r7.snap, r7.log, x1, x2⟩ : Tu)).bind fun r63 =>
  cond (!r63) ((X1 x0).bind fun r66 =>
  some (r66, 2)) (some ((⟨r7.snap, r7.log, x1, x2⟩ : Tu), 0)))) (cond (!(decide (x0.vote = x2))) ((X1 x0).bind fun r83 =>
  some (r83, 2)) ((Vg x0).bind fun r89 =>
  cond (!r89) ((X1 x0).bind fun r92 =>
  some (r92, 2)) ((Vg (⟨r7.snap, r7.log, x1, x2⟩ : Tu)).bind fun r98 =>
  cond (!r98) ((X1 x0).bind fun r101 =>
  some (r101, 2)) (some ((⟨r7.snap, r7.log, x1, x2⟩ : Tu), 0)))))) ((X1 x0).bind fun r118 =>
  some (r118, 2)))
def m_ref12_At (x0 : Tu) (x1 : Int) : Option (En × Bool) :=
  cond (decide (x1 ≤ x0.snap.index)) (some ((⟨0, 0, 0⟩ : En), false)) ((Vq x0).bind fun r9 =>
  cond (decide (r9 < x1)) (some ((⟨0, 0, 0⟩ : En), false)) ((idx x0.log (IntKind.wrap .i64 ((IntKind.wrap .i64 (x1 - x0.snap.index)) - 1))).bind fun e13 =>
  some (e13, true)))
def Zem (x0 : Tu) (x1 : Int) : Option (Int × Bool) :=
  cond (decide (x1 = x0.snap.index)) (some (x0.snap.term, true)) ((m_ref12_At x0 x1).bind fun r8 =>
  some (r8.1.term, r8.2))
def V9 (x0 : Co) : Option (Int) := (Vq x0.tuple).bind fun r5 =>
  (Zem x0.tuple r5).bind fun r7 =>
  some r7.1
def Jo (x0 : List Bool) : Nat → Int → Int → Option (Bool)
 | 0, _, _ => none
 | n + 1, v5, v6 =>
  cond (decide (v6 < (x0.length : Int))) ((idx x0 v6).bind fun e11 =>
  cond e11 (Jo x0 n (IntKind.wrap .i64 (v5 + 1)) (IntKind.wrap .i64 (v6 + 1))) (Jo x0 n v5 (IntKind.wrap .i64 (v6 + 1)))) (some (decide ((x0.length : Int) < (IntKind.wrap .i64 (2 * v5)))))
def Zdh (x0 : List Bool) : Option (Bool) :=
  Jo x0 Xw 0 0
def Zcv (x0 : Tu) (x1 : List En) : Option (Tu × Int) := (X1 x0).bind fun r7 =>
  (Zfg (r7.log ++ x1)).bind fun l16 =>
  (Vg x0).bind fun r31 =>
  cond (!r31) ((X1 x0).bind fun r34 =>
  some (r34, 2)) ((Vg (⟨r7.snap, l16, r7.term, r7.vote⟩ : Tu)).bind fun r40 =>
  cond (!r40) ((X1 x0).bind fun r43 =>
  some (r43, 2)) (some ((⟨r7.snap, l16, r7.term, r7.vote⟩ : Tu), 0)))
def Zar (r7 : Co) (r38 : Tu × Int) : Nat → Int → List Int → List Int → Option (Co)
 | 0, _, _, _ => none
 | n + 1, v54, v55, v58 =>
  cond (decide (v54 < r7.n)) ((Vq r38.1).bind fun r65 =>
  (idx v55 v54).bind fun e67 =>
  (idx v58 v54).bind fun e70 =>
  Zar r7 r38 n (IntKind.wrap .i64 (v54 + 1)) (Vw v55 v54 (IntKind.wrap .i64 (r65 + 1))) (Vw v58 v54 0)) ((Vq r38.1).bind fun r74 =>
  (idx v58 (IntKind.wrap .i64 (r7.id - 1))).bind fun e76 =>
  some (⟨r7.id, r7.n, 2, r7.binary, r38.1, r7.commit, r7.applied, r7.votes, v55, (Vw v58 (IntKind.wrap .i64 (r7.id - 1)) r74), r7.caps⟩ : Co))
def Ji (x0 : Co) : Option (Co) := (Zax x0).bind fun r7 =>
  (J9 r7).bind fun r31 =>
  cond (!r31) (some r7) (cond (decide (r7.role ≠ 1)) (some r7) ((Zcv r7.tuple ([(⟨r7.tuple.term, 0, 0⟩ : En)] : List En)).bind fun r38 =>
  cond (decide (r38.2 ≠ 0)) (some (⟨r7.id, r7.n, 0, r7.binary, r7.tuple, r7.commit, r7.applied, r7.votes, r7.next, r7.mtch, r7.caps⟩ : Co)) (Zar r7 r38 Xw 0 r7.next r7.mtch)))
def Vt (x0 : Co) (x1 : Ms) : Nat → List Ms → Int → Option (List Ms)
 | 0, _, _ => none
 | n + 1, v9, v18 =>
  cond (decide (v18 ≤ x0.n)) (cond (decide (v18 ≤ 5)) (cond (decide (v18 = x0.id)) (Vt x0 x1 n v9 (IntKind.wrap .i64 (v18 + 1))) ((Zfg ([] ++ x1.entries)).bind fun l30 =>
  (Zfg (v9 ++ [(⟨x1.kind, x0.id, v18, x0.tuple.term, x0.binary, x1.last, x1.lastTerm, x1.commit, x1.okk, l30, x1.snap⟩ : Ms)])).bind fun l38 =>
  Vt x0 x1 n l38 (IntKind.wrap .i64 (v18 + 1)))) (some v9)) (some v9)
def Zct (x0 : Co) (x1 : Ms) : Option (List Ms) :=
  Vt x0 x1 Xw [] 1
def V1 (x0 : Co) : Option (Co × List Ms) := (Zax x0).bind fun r7 =>
  (J9 r7).bind fun r31 =>
  cond (!r31) (some (r7, [])) (cond (decide (r7.role = 2)) (some (r7, [])) (cond (decide (1073741824 ≤ r7.tuple.term)) (some (r7, [])) ((J6 r7.tuple (IntKind.wrap .i64 (r7.tuple.term + 1)) r7.id).bind fun r37 =>
  (makeI false r7.n).bind fun l45 =>
  (idx l45 (IntKind.wrap .i64 (r7.id - 1))).bind fun e52 =>
  (Vq r37.1).bind fun r56 =>
  (V9 (⟨r7.id, r7.n, 1, r7.binary, r37.1, r7.commit, r7.applied, (Vw l45 (IntKind.wrap .i64 (r7.id - 1)) true), r7.next, r7.mtch, r7.caps⟩ : Co)).bind fun r58 =>
  (Zdh (Vw l45 (IntKind.wrap .i64 (r7.id - 1)) true)).bind fun r65 =>
  cond r65 ((Ji (⟨r7.id, r7.n, 1, r7.binary, r37.1, r7.commit, r7.applied, (Vw l45 (IntKind.wrap .i64 (r7.id - 1)) true), r7.next, r7.mtch, r7.caps⟩ : Co)).bind fun r68 =>
  some (r68, [])) ((Zct (⟨r7.id, r7.n, 1, r7.binary, r37.1, r7.commit, r7.applied, (Vw l45 (IntKind.wrap .i64 (r7.id - 1)) true), r7.next, r7.mtch, r7.caps⟩ : Co) (⟨1, 0, 0, 0, 0, r56, r58, 0, false, [], (⟨0, 0, 0, 0, false⟩ : St)⟩ : Ms)).bind fun r91 =>
  some ((⟨r7.id, r7.n, 1, r7.binary, r37.1, r7.commit, r7.applied, (Vw l45 (IntKind.wrap .i64 (r7.id - 1)) true), r7.next, r7.mtch, r7.caps⟩ : Co), r91)))))
def Zam (x0 : List En) (x1 : List En) : Nat → Bool → Int → Option (Bool)
 | 0, _, _ => none
 | n + 1, v7, v8 =>
  cond (decide (v8 < (x0.length : Int))) ((idx x0 v8).bind fun e13 =>
  (idx x1 v8).bind fun e16 =>
  cond (!(decide (e13.term = e16.term) && (decide (e13.kind = e16.kind) && (decide (e13.value = e16.value))))) (some false) (Zam x0 x1 n v7 (IntKind.wrap .i64 (v8 + 1)))) (some true)
def Zdg (x0 : List En) (x1 : List En) : Option (Bool) :=
  cond (decide ((x0.length : Int) ≠ (x1.length : Int))) (some false) (Zam x0 x1 Xw false 0)
def Zeh (x0 : Tu) (x1 : Tu) : Option (Bool) :=
  cond (decide (x0.snap.index = x1.snap.index) && (decide (x0.snap.term = x1.snap.term) && (decide (x0.snap.sum = x1.snap.sum) && (decide (x0.snap.level = x1.snap.level) && (decide (x0.snap.final = x1.snap.final)))))) (cond (decide (x0.term = x1.term)) (cond (decide (x0.vote = x1.vote)) ((Zdg x0.log x1.log).bind fun r7 =>
  some r7) (some false)) (some false)) (some false)
def Zaq (x0 : List Int) (x1 : List Int) : Nat → Bool → Int → Option (Bool)
 | 0, _, _ => none
 | n + 1, v7, v8 =>
  cond (decide (v8 < (x0.length : Int))) ((idx x0 v8).bind fun e13 =>
  (idx x1 v8).bind fun e16 =>
  cond (decide (e13 ≠ e16)) (some false) (Zaq x0 x1 n v7 (IntKind.wrap .i64 (v8 + 1)))) (some true)
def Zb1 (x0 : List Int) (x1 : List Int) : Option (Bool) :=
  cond (decide ((x0.length : Int) ≠ (x1.length : Int))) (some false) (Zaq x0 x1 Xw false 0)
def Zan (x0 : Co) (x1 : Co) : Nat → Bool → Int → Option (Bool)
 | 0, _, _ => none
 | n + 1, v20, v21 =>
  cond (decide (v21 < (x0.votes.length : Int))) ((idx x0.votes v21).bind fun e26 =>
  (idx x1.votes v21).bind fun e29 =>
  cond (decide (e26 ≠ e29)) (some false) (Zan x0 x1 n v20 (IntKind.wrap .i64 (v21 + 1)))) ((Zb1 x0.next x1.next).bind fun r34 =>
  cond r34 ((Zb1 x0.mtch x1.mtch).bind fun r36 =>
  cond r36 ((Zb1 x0.caps x1.caps).bind fun r38 =>
  some r38) (some false)) (some false))
def Zat (x0 : Co) (x1 : Co) : Option (Bool) :=
  cond (decide (x0.id ≠ x1.id)) (some false) (cond (decide (x0.n ≠ x1.n)) (some false) (cond (decide (x0.role ≠ x1.role)) (some false) (cond (decide (x0.binary ≠ x1.binary)) (some false) ((Zeh x0.tuple x1.tuple).bind fun r12 =>
  cond (!r12) (some false) (cond (decide (x0.commit ≠ x1.commit)) (some false) (cond (!(decide (x0.applied.index = x1.applied.index) && (decide (x0.applied.term = x1.applied.term) && (decide (x0.applied.sum = x1.applied.sum) && (decide (x0.applied.level = x1.applied.level) && (decide (x0.applied.final = x1.applied.final))))))) (some false) (cond (decide ((x0.votes.length : Int) ≠ (x1.votes.length : Int))) (some false) (Zan x0 x1 Xw false 0))))))))
def Zdr (x0 : Ms) (x1 : Ms) : Option (Bool) :=
  cond (decide (x0.kind = x1.kind)) (cond (decide (x0.frm = x1.frm)) (cond (decide (x0.dst = x1.dst)) (cond (decide (x0.term = x1.term)) (cond (decide (x0.cap = x1.cap)) (cond (decide (x0.last = x1.last)) (cond (decide (x0.lastTerm = x1.lastTerm)) (cond (decide (x0.commit = x1.commit)) (cond (decide (x0.okk = x1.okk)) (cond (decide (x0.snap.index = x1.snap.index) && (decide (x0.snap.term = x1.snap.term) && (decide (x0.snap.sum = x1.snap.sum) && (decide (x0.snap.level = x1.snap.level) && (decide (x0.snap.final = x1.snap.final)))))) ((Zdg x0.entries x1.entries).bind fun r7 =>
  some r7) (some false)) (some false)) (some false)) (some false)) (some false)) (some false)) (some false)) (some false)) (some false)) (some false)
def Za5 (x0 : List Ms) (x1 : List Ms) : Nat → Bool → Int → Option (Bool)
 | 0, _, _ => none
 | n + 1, v7, v8 =>
  cond (decide (v8 < (x0.length : Int))) ((idx x0 v8).bind fun e13 =>
  (idx x1 v8).bind fun e18 =>
  (Zdr e13 e18).bind fun r23 =>
  cond (!r23) (some false) (Za5 x0 x1 n v7 (IntKind.wrap .i64 (v8 + 1)))) (some true)
def Zcu (x0 : List Ms) (x1 : List Ms) : Option (Bool) :=
  cond (decide ((x0.length : Int) ≠ (x1.length : Int))) (some false) (Za5 x0 x1 Xw false 0)
def Za4 (x0 : Int) : Option (Bool) :=
  cond (decide (0 ≤ x0)) (some (decide (x0 ≤ 1073741824))) (some false)
def V4 (x0 : Ms) : Nat → Bool → Int → Int → Option (Bool)
 | 0, _, _, _ => none
 | n + 1, v7, v8, v9 =>
  cond (decide (v9 < (x0.entries.length : Int))) ((idx x0.entries v9).bind fun e15 =>
  (Zbi e15).bind fun r18 =>
  cond (!r18) (some false) ((idx x0.entries v9).bind fun e21 =>
  cond (decide (e21.term < v8)) (some false) ((idx x0.entries v9).bind fun e25 =>
  cond (decide (x0.term < e25.term)) (some false) ((idx x0.entries v9).bind fun e29 =>
  V4 x0 n v7 e29.term (IntKind.wrap .i64 (v9 + 1)))))) (some (decide ((x0.entries.length : Int) ≤ 4)))
def Zcf (x0 : Ms) : Option (Bool) :=
  V4 x0 Xw false x0.lastTerm 0
def Zda (x0 : Ms) (x1 : Int) : Option (Bool) :=
  cond (decide (x1 < 1)) (some false) (cond (decide (5 < x1)) (some false) (cond (decide (x0.frm < 1)) (some false) (cond (decide (x1 < x0.frm)) (some false) (cond (decide (x0.dst < 1)) (some false) (cond (decide (x1 < x0.dst)) (some false) (cond (decide (x0.frm = x0.dst)) (some false) (cond (decide (x0.kind < 1)) (some false) (cond (decide (6 ≤ x0.kind)) (some false) (cond (decide (x0.term < 1)) (some false) (cond (decide (1073741824 < x0.term)) (some false) (cond (decide (x0.cap < 1)) (some false) (cond (decide (2 < x0.cap)) (some false) ((Za4 x0.last).bind fun r21 =>
  cond (!r21) (some false) ((Za4 x0.lastTerm).bind fun r24 =>
  cond (!r24) (some false) ((Za4 x0.commit).bind fun r27 =>
  cond (!r27) (some false) ((Zcf x0).bind fun r30 =>
  cond (!r30) (some false) (cond (decide (x0.kind ≠ 3)) (cond (decide (0 < (x0.entries.length : Int))) (some false) (cond (decide (0 < x0.commit)) (some false) (cond x0.okk (cond (decide (x0.kind ≠ 2)) (cond (decide (x0.kind ≠ 4)) (some false) (cond (decide (x0.kind = 5)) ((V0 x0.snap).bind fun r41 =>
  cond r41 (some (decide (0 < x0.snap.index))) (some false)) (some (decide (x0.snap.index = 0) && (decide (x0.snap.term = 0) && (decide (x0.snap.sum = 0) && (decide (x0.snap.level = 0) && (decide (x0.snap.final = false))))))))) (cond (decide (x0.kind = 5)) ((V0 x0.snap).bind fun r47 =>
  cond r47 (some (decide (0 < x0.snap.index))) (some false)) (some (decide (x0.snap.index = 0) && (decide (x0.snap.term = 0) && (decide (x0.snap.sum = 0) && (decide (x0.snap.level = 0) && (decide (x0.snap.final = false))))))))) (cond (decide (x0.kind = 5)) ((V0 x0.snap).bind fun r53 =>
  cond r53 (some (decide (0 < x0.snap.index))) (some false)) (some (decide (x0.snap.index = 0) && (decide (x0.snap.term = 0) && (decide (x0.snap.sum = 0) && (decide (x0.snap.level = 0) && (decide (x0.snap.final = false))))))))))) (cond x0.okk (cond (decide (x0.kind ≠ 2)) (cond (decide (x0.kind ≠ 4)) (some false) (cond (decide (x0.kind = 5)) ((V0 x0.snap).bind fun r60 =>
  cond r60 (some (decide (0 < x0.snap.index))) (some false)) (some (decide (x0.snap.index = 0) && (decide (x0.snap.term = 0) && (decide (x0.snap.sum = 0) && (decide (x0.snap.level = 0) && (decide (x0.snap.final = false))))))))) (cond (decide (x0.kind = 5)) ((V0 x0.snap).bind fun r66 =>
  cond r66 (some (decide (0 < x0.snap.index))) (some false)) (some (decide (x0.snap.index = 0) && (decide (x0.snap.term = 0) && (decide (x0.snap.sum = 0) && (decide (x0.snap.level = 0) && (decide (x0.snap.final = false))))))))) (cond (decide (x0.kind = 5)) ((V0 x0.snap).bind fun r72 =>
  cond r72 (some (decide (0 < x0.snap.index))) (some false)) (some (decide (x0.snap.index = 0) && (decide (x0.snap.term = 0) && (decide (x0.snap.sum = 0) && (decide (x0.snap.level = 0) && (decide (x0.snap.final = false))))))))))))))))))))))))))
def Zb8 (x0 : Co) (x1 : Ms) : Option (Bool) := (J9 x0).bind fun r7 =>
  cond r7 ((Zda x1 x0.n).bind fun r9 =>
  cond r9 (some (decide (x1.dst = x0.id))) (some false)) (some false)
def m_ref21_To (x0 : Co) (x1 : Ms) : Option (Bool) := (J9 x0).bind fun r7 =>
  cond r7 ((Zda x1 x0.n).bind fun r9 =>
  cond r9 (some (decide (x1.dst = x0.id))) (some false)) (some false)
def Zeg (x0 : Co) (x1 : Ms) : Option (Co) := (Zax x0).bind fun r9 =>
  (m_ref21_To r9 x1).bind fun r33 =>
  cond r33 ((idx r9.caps (IntKind.wrap .i64 (x1.frm - 1))).bind fun e35 =>
  some (⟨r9.id, r9.n, r9.role, r9.binary, r9.tuple, r9.commit, r9.applied, r9.votes, r9.next, r9.mtch, (Vw r9.caps (IntKind.wrap .i64 (x1.frm - 1)) x1.cap)⟩ : Co)) (some r9)
def Zb3 (x0 : Co) (x1 : Ms) : Option (Co) := (Zax x0).bind fun r9 =>
  (Zb8 r9 x1).bind fun r33 =>
  cond (!r33) (some r9) ((Zeg r9 x1).bind fun r37 =>
  cond (decide (x1.term ≤ r37.tuple.term)) (some r37) ((J6 r37.tuple x1.term 0).bind fun r63 =>
  (makeI false r37.n).bind fun l71 =>
  some (⟨r37.id, r37.n, 0, r37.binary, r63.1, r37.commit, r37.applied, l71, r37.next, r37.mtch, r37.caps⟩ : Co)))
def J7 (x0 : Co) (x1 : Int) (x2 : Int) : Option (Bool) := (J9 x0).bind fun r6 =>
  cond (!r6) (some false) ((V9 x0).bind fun r10 =>
  cond (decide (r10 < x1)) (some true) (cond (decide (x1 = r10)) ((Vq x0.tuple).bind fun r13 =>
  some (decide (r13 ≤ x2))) (some false)))
def Jj (x0 : Co) (x1 : Ms) (x2 : Int) (x3 : Bool) (x4 : Int) : Option (Ms) :=
  some (⟨x2, x0.id, x1.frm, x0.tuple.term, x0.binary, x4, 0, 0, x3, [], (⟨0, 0, 0, 0, false⟩ : St)⟩ : Ms)
def Zcb (x0 : Co) (x1 : Ms) : Option (Co × List Ms) := (Zax x0).bind fun r9 =>
  (Zb8 r9 x1).bind fun r33 =>
  cond (!r33) (some (r9, [])) (cond (decide (x1.kind ≠ 1)) (some (r9, [])) ((Zb3 r9 x1).bind fun r38 =>
  cond (decide (x1.term = r38.tuple.term)) (cond (decide (r38.role = 0)) (cond (decide (r38.tuple.vote = 0)) ((J7 r38 x1.lastTerm x1.last).bind fun r61 =>
  cond r61 ((J6 r38.tuple x1.term x1.frm).bind fun r65 =>
  (Jj (⟨r38.id, r38.n, r38.role, r38.binary, r65.1, r38.commit, r38.applied, r38.votes, r38.next, r38.mtch, r38.caps⟩ : Co) x1 2 r61 0).bind fun r72 =>
  some ((⟨r38.id, r38.n, r38.role, r38.binary, r65.1, r38.commit, r38.applied, r38.votes, r38.next, r38.mtch, r38.caps⟩ : Co), ([r72] : List Ms))) ((Jj r38 x1 2 r61 0).bind fun r81 =>
  some (r38, ([r81] : List Ms)))) (cond (decide (r38.tuple.vote = x1.frm)) ((J7 r38 x1.lastTerm x1.last).bind fun r89 =>
  cond r89 ((J6 r38.tuple x1.term x1.frm).bind fun r93 =>
  (Jj (⟨r38.id, r38.n, r38.role, r38.binary, r93.1, r38.commit, r38.applied, r38.votes, r38.next, r38.mtch, r38.caps⟩ : Co) x1 2 r89 0).bind fun r100 =>
  some ((⟨r38.id, r38.n, r38.role, r38.binary, r93.1, r38.commit, r38.applied, r38.votes, r38.next, r38.mtch, r38.caps⟩ : Co), ([r100] : List Ms))) ((Jj r38 x1 2 r89 0).bind fun r109 =>
  some (r38, ([r109] : List Ms)))) ((Jj r38 x1 2 false 0).bind fun r120 =>
  some (r38, ([r120] : List Ms))))) ((Jj r38 x1 2 false 0).bind fun r131 =>
  some (r38, ([r131] : List Ms)))) ((Jj r38 x1 2 false 0).bind fun r142 =>
  some (r38, ([r142] : List Ms)))))
def Zaz (x0 : Co) (x1 : Ms) : Option (Co × List Ms) := (Zax x0).bind fun r9 =>
  (Zb8 r9 x1).bind fun r33 =>
  cond (!r33) (some (r9, [])) (cond (decide (x1.kind ≠ 2)) (some (r9, [])) ((Zb3 r9 x1).bind fun r38 =>
  cond (decide (r38.role ≠ 1)) (some (r38, [])) (cond (decide (x1.term ≠ r38.tuple.term)) (some (r38, [])) (cond (!x1.okk) (some (r38, [])) ((idx r38.votes (IntKind.wrap .i64 (x1.frm - 1))).bind fun e66 =>
  (Zdh (Vw r38.votes (IntKind.wrap .i64 (x1.frm - 1)) true)).bind fun r71 =>
  cond r71 ((Ji (⟨r38.id, r38.n, r38.role, r38.binary, r38.tuple, r38.commit, r38.applied, (Vw r38.votes (IntKind.wrap .i64 (x1.frm - 1)) true), r38.next, r38.mtch, r38.caps⟩ : Co)).bind fun r74 =>
  some (r74, [])) (some ((⟨r38.id, r38.n, r38.role, r38.binary, r38.tuple, r38.commit, r38.applied, (Vw r38.votes (IntKind.wrap .i64 (x1.frm - 1)) true), r38.next, r38.mtch, r38.caps⟩ : Co), [])))))))
def Zcc (x0 : Co) (x1 : Ms) (x2 : Int) (x3 : Int) (x4 : List Bool) : Option (Bool) := (Zbk x0).bind fun r8 =>
  cond r8 ((Zac).bind fun r11 =>
  some r11) (cond (decide (20 < (x1.entries.length : Int))) ((Zac).bind fun r14 =>
  some r14) (cond (decide (20 < (x4.length : Int))) ((Zac).bind fun r17 =>
  some r17) (cond (decide (1099511627776 < x0.commit)) ((Zac).bind fun r20 =>
  some r20) (cond (decide (x0.commit < (-1099511627776))) ((Zac).bind fun r23 =>
  some r23) ((Ve x0).bind fun r26 =>
  (V1 x0).bind fun r59 =>
  (Zat r26.1 r59.1).bind fun r93 =>
  cond (!r93) (some false) ((Zcu r26.2 r59.2).bind fun r96 =>
  cond (!r96) (some false) ((V2 x0 x1).bind fun r100 =>
  (Zcb x0 x1).bind fun r131 =>
  (Zat r100.1 r131.1).bind fun r163 =>
  cond (!r163) (some false) ((Zcu r100.2 r131.2).bind fun r166 =>
  cond (!r166) (some false) ((J8 x0 x1).bind fun r170 =>
  (Zaz x0 x1).bind fun r201 =>
  (Zat r170.1 r201.1).bind fun r233 =>
  cond (!r233) (some false) ((Zcu r170.2 r201.2).bind fun r236 =>
  cond (!r236) (some false) ((Zb6 x0 x1).bind fun r240 =>
  (Zb3 x0 x1).bind fun r262 =>
  (Zat r240 r262).bind fun r284 =>
  cond r284 ((Vi x0).bind fun r286 =>
  (Ji x0).bind fun r308 =>
  (Zat r286 r308).bind fun r330 =>
  cond r330 ((Zav x4).bind fun r332 =>
  (Zdh x4).bind fun r334 =>
  cond (decide (r332 = r334)) ((Vx x0 x2 x3).bind fun r336 =>
  (J7 x0 x2 x3).bind fun r338 =>
  cond (decide (r336 = r338)) ((Zac).bind fun r340 =>
  some r340) (some false)) (some false)) (some false)) (some false))))))))))))
end

end Go.Proofs.YtamjlcaoieliaaaGreat
