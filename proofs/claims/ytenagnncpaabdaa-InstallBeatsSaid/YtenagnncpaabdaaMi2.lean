/- Texts of one claim put together. -/
import Derived.Test.YtenagnncpaabdaaMi1
import Derived.Test.YtenagnncpaabdaaMi0
import Derived.Deep.DeepCutAuto
namespace Go.Proofs.Ytenagnncpaabdaa
open Go Go.RowKit
set_option maxRecDepth 100000
set_option maxHeartbeats 1000000
theorem saveR_index (x : Tu) (s : St) (y : Tu) (h : Zay x s = some y) : y.snap = s ∧ Zaf s = true ∧ x.snap.index ≤ s.index ∧ s.index ≤ x.snap.index + x.log.length := by
 unfold Zay at h
 split at h
 ·rename_i h1; have := term_in x _ _ h1.1; injection h with h; subst h; exact ⟨rfl, h1.2, this.1, this.2⟩
 ·cases h
theorem save1_does (bf : Nat) (s : St) (w0 : World) (hbf : w0.heap[bf]? = some (.cells #[.int .i64 s.index, .int .i64 s.term, .int .i64 s.sum, .int .i64 s.level, .bool s.final] 23)) (x : Tu) (hx : Jo x = true) :
  Does 75 #[.pointer (some ⟨bf, 0, none⟩)] w0 x (Zay x s) := by
 intro W bo A' c' hB hbo hT hLI hA'
 have hxb := Zdg x hx
 have hol : bo < W.heap.size := (Array.getElem?_eq_some_iff.1 hT).1
 have hle := hLI.le
 have hcp := hLI.cap
 have hAn := fun a ha => (hA' a ha).1
 have hbfl : bf < w0.heap.size := (Array.getElem?_eq_some_iff.1 hbf).1
 have hbfW : W.heap[bf]? = some (.cells #[.int .i64 s.index, .int .i64 s.term, .int .i64 s.sum, .int .i64 s.level, .bool s.final] 23) := (hB.block bf hbfl).trans hbf
 have hbfn : bf ≠ bo := by omega
 show Calls _ _ #[_, _] _ _
 refine Yw Try.func75 rfl Try.ntmps75 rfl ?_
 have hS := St0.old (w := W) (fun k => k ≠ bo) (e := .box bo [.int .i64 x.snap.index, .int .i64 x.snap.term, .int .i64 x.snap.sum, .int .i64 x.snap.level, .bool x.snap.final, .slice A' x.log.length c', .int .i64 x.term, .int .i64 x.vote] 26) hT (fun k hk => by subst hk; exact ⟨hol, by simp⟩)
 have hsd := save_does s w0 x hx W bo A' c' hB hbo hT hLI hA'
 repeat (first | apply Zf | (apply Yk; refine Za rfl rfl rfl (by first | exact Zn rfl | (apply Zy; first | exact Zaq (by first | exact Yn) rfl (RW.here _) hS (by first | trivial) (by first | trivial) (by assumption) (by repeat (first | exact Seg.here (by repeat (first | exact Pre.zero | apply Pre.succ)))))) ?_))
 cases hr : Zay x s with
 | none =>
  rw [hr] at hsd
  refine Y6 rfl rfl (by kernel_rfl) rfl hsd ?_
  rintro e w2 ⟨hk, (⟨y, A2, c2, h4, _⟩ | ⟨_, rfl, h8⟩)⟩
  ·cases h4
  ·refine ⟨_, rfl, ?_⟩
   exact X8 rfl ⟨hk, .inr ⟨rfl, rfl, h8⟩⟩
 | some y =>
  rw [hr] at hsd
  refine Zr rfl rfl rfl rfl (by kernel_rfl) rfl hsd ?_
  rintro e w2 ⟨hk, (⟨y', A2, c2, h4, rfl, htb, hli, hbk⟩ | ⟨h4, _⟩)⟩
  case inr => cases h4
  injection h4 with h4
  subst h4
  refine ⟨_, rfl, ?_⟩
  replace hS := hS.wrote Pos.head hk htb
  repeat (first | apply Zg)
  refine Zb9 rfl (by first | exact RV.nil) rfl ?_
  exact ⟨hk, .inl ⟨y, A2, c2, rfl, rfl, htb, hli, hbk⟩⟩
theorem save_any (x : Tu) (A : Option Addr) (c : Nat) (s : St) (w0 : World) (hx : LI w0 A x.log.length c x.log) (hA : ∀ a, A = some a → a.block < w0.heap.size) :
  Calls Try.prog 43 #[.agg #[.int .i64 x.snap.index, .int .i64 x.snap.term, .int .i64 x.snap.sum, .int .i64 x.snap.level, .bool x.snap.final, .slice A x.log.length c, .int .i64 x.term, .int .i64 x.vote], .agg #[.int .i64 s.index, .int .i64 s.term, .int .i64 s.sum, .int .i64 s.level, .bool s.final]] w0 (Chg w0 x (Zay x s)) := by
 refine Yw Try.func43 rfl Try.ntmps43 rfl ?_
 have hS := St0.start All w0
 repeat (first | (apply Zd; intro K hK) | apply Zf)
 first | (apply Xe; refine Z9 rfl rfl rfl (by first | exact CellsOf.agg) hS (fun bt w hS hB => ?_))
 first | (apply Xe; refine Z9 rfl rfl rfl (by first | exact CellsOf.agg) hS (fun bf w hS hB => ?_))
 repeat (first | apply Zg | (apply Zc; assumption) | (apply Zd; intro K hK) | apply Zf | (apply Xp; refine Z6 rfl rfl (by first | exact zc_26) hS (fun b w hS hB => ?_)) | (apply Yk; refine Za rfl rfl rfl (by first | exact Z4 rfl | (apply Zy; first | exact Zj (by first | exact Xg) rfl (RW.here _) hS (by repeat (first | exact Has.head | apply Has.tail)) (by first | trivial) (by repeat (first | exact Seg.here (by repeat (first | exact Pre.zero | apply Pre.succ))))) | exact X9 rfl rfl) ?_))
 have hbf := (hS.box_ge (b := bf) (by repeat (first | exact Has.head | apply Has.tail)))
 refine Zr rfl rfl rfl rfl (by kernel_rfl) rfl (changed_any x (Zay x s) A c 75 #[.pointer (some ⟨bf, 0, none⟩)] _ (by kernel_rfl) (hx.below hS.pure) (fun a ha => Nat.lt_of_lt_of_le (hA a ha) hS.size)
  (fun hT => save1_does bf s _ hbf.2.2 x hT)) ?_
 rintro e w1 ⟨A2, c2, ⟨rfl, hs⟩, hB⟩
 refine ⟨_, rfl, ?_⟩
 replace hS := hS.slice hs hB
 repeat (first | apply Zg | (apply Zc; assumption) | (apply Yg; refine Zo rfl rfl rfl (by first | exact CellsOf.agg) hS (by repeat (first | exact Pos.head | apply Pos.tail)) (by repeat (first | exact SetC.here (by repeat (first | exact Ovr.nil | apply Ovr.cons)))) (by kernel_rfl) rfl (fun w hS hB => ?_)) | (apply Yk; refine Za rfl rfl rfl (by first | exact Z4 rfl | exact Ya rfl rfl) ?_) | apply Zk)
 refine Zl rfl (by first | exact RV.cell rfl (Z3 (by first | exact Xg) hS (by repeat (first | exact Has.head | apply Has.tail)) (by repeat (first | exact Seg.here (by repeat (first | exact Pre.zero | apply Pre.succ))))) (RV.tmp rfl RV.nil)) rfl ?_
 exact ⟨A2, c2, ⟨rfl, hS.giveS (by repeat (first | exact Has.head)) hs.len hs.le hs.cap⟩, hS.pure⟩
def Zc7 (x : Tu) (s : St) : Option Tu := if x.snap.index < s.index ∧ s.term ≤ x.term then (if Zaw x s.index = some s.term then Zay x s else some { snap := s, log := [], term := x.term, vote := x.vote }) else none
theorem inst1_does (bf : Nat) (s : St) (w0 : World) (hbf : w0.heap[bf]? = some (.cells #[.int .i64 s.index, .int .i64 s.term, .int .i64 s.sum, .int .i64 s.level, .bool s.final] 23)) (x : Tu) (hx : Jo x = true) :
  Does 58 #[.pointer (some ⟨bf, 0, none⟩)] w0 x (Zc7 x s) := by
 intro W bo A' c' hB hbo hT hLI hA'
 have hxb := Zdg x hx
 have hol : bo < W.heap.size := (Array.getElem?_eq_some_iff.1 hT).1
 have hle := hLI.le
 have hcp := hLI.cap
 have hAn := fun a ha => (hA' a ha).1
 have hbfl : bf < w0.heap.size := (Array.getElem?_eq_some_iff.1 hbf).1
 have hbfW : W.heap[bf]? = some (.cells #[.int .i64 s.index, .int .i64 s.term, .int .i64 s.sum, .int .i64 s.level, .bool s.final] 23) := (hB.block bf hbfl).trans hbf
 have hbfn : bf ≠ bo := by omega
 show Calls _ _ #[_, _] _ _
 refine Yw Try.func58 rfl Try.ntmps58 rfl ?_
 have hS := St0.old (w := W) (fun k => k ≠ bo) (e := .box bo [.int .i64 x.snap.index, .int .i64 x.snap.term, .int .i64 x.snap.sum, .int .i64 x.snap.level, .bool x.snap.final, .slice A' x.log.length c', .int .i64 x.term, .int .i64 x.vote] 26) hT (fun k hk => by subst hk; exact ⟨hol, by simp⟩)
 have htm := fun W' (h : LI W' A' x.log.length c' x.log) => term_any x A' c' s.index W' (by omega) h
 have hB0 := hB
 by_cases h1 : x.snap.index < s.index
 ·by_cases h2 : s.term ≤ x.term
  ·by_cases ht : Zaw x s.index = some s.term
   ·have e1 : Zc7 x s = Zay x s := by unfold Zc7; rw [if_pos ⟨h1, h2⟩, if_pos ht]
    rw [e1]
    have htm' : ∀ W', LI W' A' x.log.length c' x.log → PureC Try.prog 60 #[.agg #[.int .i64 x.snap.index, .int .i64 x.snap.term, .int .i64 x.snap.sum, .int .i64 x.snap.level, .bool x.snap.final, .slice A' x.log.length c', .int .i64 x.term, .int .i64 x.vote], .int .i64 s.index] W' (.tuple #[.int .i64 s.term, .bool true]) := fun W' h => by have := htm W' h; rw [ht] at this; exact this
    repeat (first | (apply Zd; intro K hK))
    refine Yo 18 [] (fun _ _ => True) ⟨by kernel_rfl, by kernel_rfl⟩ hS (fun w hS hB => ?_)
    refine Zm [true, true, true, true, true, true, true, true, true, true, true, true, true, true, true, true, true] (by decide +kernel) (by repeat (first | exact PF.body | apply PF.then)) ?_
    repeat (first | refine LtK.put rfl rfl rfl (by first | exact Zn rfl | exact Ze (by first | exact Z5 | exact V7 | exact Yx | exact Xs) rfl | (apply Zy; first | exact Zh (by first | exact Za2 | exact Zx) rfl (RW.below _) hS (by repeat (first | exact Has.head | apply Has.tail)) (by first | trivial) (by repeat (first | exact Seg.here (Pre.succ Pre.zero) | apply Seg.succ)) | exact Xi (by first | exact Za2 | exact Zx) rfl (RW.below _) hS (by first | trivial) (by first | trivial) (by assumption) (by repeat (first | exact Seg.here (Pre.succ Pre.zero) | apply Seg.succ))) | (apply Yi; first | exact Zda rfl rfl (by omega) | exact Zdd rfl rfl (by omega)) | (apply Ys; first | exact Zw rfl rfl rfl) | exact Y0 rfl) ?_)
    refine LtK.nil ?_
    refine Z7 [false, false, false, false, false, false, false, false, false, false, false, false, false, false, false, false, false, true] 17 ⟨by decide, by kernel_rfl, by kernel_rfl⟩ rfl rfl ?_
    dsimp only [Z2]
    repeat (first | apply Zg | (apply Yh; first | refine Yr rfl rfl rfl (by kernel_rfl) rfl (Zd4 _) hS (fun w hS hB => ?_)))
    refine Yf (by first | assumption) ?_
    refine Z8 (by kernel_rfl) ?_
    repeat (first | (apply Zc; assumption) | (apply Zd; intro K hK))
    refine Yo 11 [] (fun _ _ => True) ⟨by kernel_rfl, by kernel_rfl⟩ hS (fun w hS hB => ?_)
    refine Zm [true, true, true, true, true] (by decide +kernel) (by repeat (first | exact PF.body | apply PF.then)) ?_
    repeat (first | refine LtK.put rfl rfl rfl (by first | exact Zn rfl | exact Ze (by first | exact Z5) rfl | (apply Zy; first | exact Zj (by first | exact Yn | exact Xg) rfl (RW.below _) hS (by repeat (first | exact Has.head)) (by first | trivial) (by repeat (first | exact Seg.here (by repeat (first | exact Pre.zero | apply Pre.succ)))) | exact Xi (by first | exact Za2 | exact Zx) rfl (RW.below _) hS (by first | trivial) (by first | trivial) (by assumption) (by repeat (first | exact Seg.here (Pre.succ Pre.zero)))) | exact Y0 rfl) ?_)
    refine LtK.nil ?_
    refine Z7 [false, false, false, false, false, true] 5 ⟨by decide, by kernel_rfl, by kernel_rfl⟩ rfl rfl ?_
    dsimp only [Z2]
    repeat (first | apply Zg | (apply Yh; first | refine Yr rfl rfl rfl (by kernel_rfl) rfl (htm' _ (hLI.keep hS.base hAn)) hS (fun w hS hB => ?_)))
    refine Yf (by first | assumption) ?_
    refine Zm [false, false, false, false, false, false, true, true, true, true, true] (by decide +kernel) (by repeat (first | exact PF.body | apply PF.then)) ?_
    repeat (first | refine LtK.put rfl rfl rfl (by first | exact Zn rfl | exact Z4 rfl | exact Ya rfl rfl) ?_)
    refine LtK.nil ?_
    refine Z8 (by kernel_rfl) ?_
    repeat (first | apply Zg | (apply Zc; assumption) | (apply Zd; intro K hK) | apply Zf | (apply Yk; refine Za rfl rfl rfl (by first | exact Zn rfl | exact Ze (by first | exact Z5 | exact V7) rfl | (apply Zy; first | exact Xi (by first | exact Zx) rfl (RW.here _) hS (by first | trivial) (by first | trivial) (by assumption) (by repeat (first | exact Seg.here (Pre.succ Pre.zero) | apply Seg.succ)) | exact Zaq (by first | exact Yn) rfl (RW.here _) hS (by first | trivial) (by first | trivial) (by assumption) (by repeat (first | exact Seg.here (by repeat (first | exact Pre.zero | apply Pre.succ))))) | (apply Yi; first | exact Zcg rfl rfl (by omega)) | (apply Ys; first | exact Zw rfl rfl rfl)) ?_) | apply Zs rfl rfl)
    have hBc : Below w0.heap.size w0 w := hB0.trans (hS.base.to_below hB0.size (fun k hk => Nat.ne_of_lt (Nat.lt_of_lt_of_le hk hbo)))
    have hbx := hS.ok (.box bo [.int .i64 x.snap.index, .int .i64 x.snap.term, .int .i64 x.snap.sum, .int .i64 x.snap.level, .bool x.snap.final, .slice A' x.log.length c', .int .i64 x.term, .int .i64 x.vote] 26) (Has.mem (by repeat (first | exact Has.head)))
    have hsd := save_does s w0 x hx w bo A' c' hBc hbo hbx (hLI.keep hS.base hAn) (fun a ha => ⟨(hA' a ha).1, Nat.lt_of_lt_of_le (hA' a ha).2 hS.base.size⟩)
    cases hr : Zay x s with
    | none =>
     rw [hr] at hsd
     refine Y6 rfl rfl (by kernel_rfl) rfl hsd ?_
     rintro e w2 ⟨hk, (⟨y, A2, c2, h4, _⟩ | ⟨_, rfl, h8⟩)⟩
     ·cases h4
     ·refine ⟨_, rfl, ?_⟩
      repeat (first | apply Y4)
      exact X8 rfl ⟨hS.base.trans hk, .inr ⟨by first | rfl, rfl, h8⟩⟩
    | some y =>
     rw [hr] at hsd
     refine Zr rfl rfl rfl rfl (by kernel_rfl) rfl hsd ?_
     rintro e w2 ⟨hk, (⟨y', A2, c2, h4, rfl, htb, hli, hbk⟩ | ⟨h4, _⟩)⟩
     case inr => cases h4
     injection h4 with h4
     subst h4
     refine ⟨_, rfl, ?_⟩
     have hsz := hS.base.size
     replace hS := hS.wrote Pos.head hk htb
     repeat (first | apply Zg | (apply Zc; assumption) | apply Zk | apply Zi)
     refine Zl rfl (by first | exact RV.nil) rfl ?_
     refine ⟨hS.base, .inl ⟨y, A2, c2, by first | exact hr, rfl, htb, hli, fun a ha => ⟨(hbk a ha).1, ?_⟩⟩⟩
     rcases (hbk a ha).2 with h6 | h6
     ·exact .inl h6
     ·exact .inr (Nat.le_trans hsz h6)
   ·have e1 : Zc7 x s = some { snap := s, log := [], term := x.term, vote := x.vote } := by unfold Zc7; rw [if_pos ⟨h1, h2⟩, if_neg ht]
    rw [e1]
    have hfin : ∀ w, KeepB (fun k => k ≠ bo) W w → w.heap[bo]? = some (.cells #[.int .i64 s.index, .int .i64 s.term, .int .i64 s.sum, .int .i64 s.level, .bool s.final, .slice none 0 0, .int .i64 x.term, .int .i64 x.vote] 26) → (KeepB (fun k => k ≠ bo) W w ∧ ((∃ y A2 c2, some ({ snap := s, log := [], term := x.term, vote := x.vote } : Tu) = some y ∧ (Ending.returned (.tuple #[])) = .returned (.tuple #[]) ∧ TB w bo y A2 c2 ∧ LI w A2 y.log.length c2 y.log ∧ (∀ a, A2 = some a → a.block < w.heap.size ∧ ((∃ a', A' = some a' ∧ a.block = a'.block) ∨ W.heap.size ≤ a.block))) ∨ (some ({ snap := s, log := [], term := x.term, vote := x.vote } : Tu) = none ∧ (Ending.returned (.tuple #[])) = .panicked badP ∧ TB8 w bo))) :=
     fun w hk ho => ⟨hk, .inl ⟨_, none, 0, rfl, rfl, ho, ⟨rfl, by simp, by simp, by unfold maxLen; omega, Rd.nil _ _⟩, fun a ha => by cases ha⟩⟩
    cases hto : Zaw x s.index with
    | none =>
     have htm' : ∀ W', LI W' A' x.log.length c' x.log → PureC Try.prog 60 #[.agg #[.int .i64 x.snap.index, .int .i64 x.snap.term, .int .i64 x.snap.sum, .int .i64 x.snap.level, .bool x.snap.final, .slice A' x.log.length c', .int .i64 x.term, .int .i64 x.vote], .int .i64 s.index] W' (.tuple #[.int .i64 0, .bool false]) := fun W' h => by have := htm W' h; rw [hto] at this; exact this
     repeat (first | (apply Zd; intro K hK))
     refine Yo 18 [] (fun _ _ => True) ⟨by kernel_rfl, by kernel_rfl⟩ hS (fun w hS hB => ?_)
     refine Zm [true, true, true, true, true, true, true, true, true, true, true, true, true, true, true, true, true] (by decide +kernel) (by repeat (first | exact PF.body | apply PF.then)) ?_
     repeat (first | refine LtK.put rfl rfl rfl (by first | exact Zn rfl | exact Ze (by first | exact Z5 | exact V7 | exact Yx | exact Xs) rfl | (apply Zy; first | exact Zh (by first | exact Za2 | exact Zx) rfl (RW.below _) hS (by repeat (first | exact Has.head | apply Has.tail)) (by first | trivial) (by repeat (first | exact Seg.here (Pre.succ Pre.zero) | apply Seg.succ)) | exact Xi (by first | exact Za2 | exact Zx) rfl (RW.below _) hS (by first | trivial) (by first | trivial) (by assumption) (by repeat (first | exact Seg.here (Pre.succ Pre.zero) | apply Seg.succ))) | (apply Yi; first | exact Zda rfl rfl (by omega) | exact Zdd rfl rfl (by omega)) | (apply Ys; first | exact Zw rfl rfl rfl) | exact Y0 rfl) ?_)
     refine LtK.nil ?_
     refine Z7 [false, false, false, false, false, false, false, false, false, false, false, false, false, false, false, false, false, true] 17 ⟨by decide, by kernel_rfl, by kernel_rfl⟩ rfl rfl ?_
     dsimp only [Z2]
     repeat (first | apply Zg | (apply Yh; first | refine Yr rfl rfl rfl (by kernel_rfl) rfl (Zd4 _) hS (fun w hS hB => ?_)))
     refine Yf (by first | assumption) ?_
     refine Z8 (by kernel_rfl) ?_
     repeat (first | (apply Zc; assumption) | (apply Zd; intro K hK))
     refine Yo 11 [] (fun _ _ => True) ⟨by kernel_rfl, by kernel_rfl⟩ hS (fun w hS hB => ?_)
     refine Zm [true, true, true, true, true] (by decide +kernel) (by repeat (first | exact PF.body | apply PF.then)) ?_
     repeat (first | refine LtK.put rfl rfl rfl (by first | exact Zn rfl | exact Ze (by first | exact Z5) rfl | (apply Zy; first | exact Zj (by first | exact Yn | exact Xg) rfl (RW.below _) hS (by repeat (first | exact Has.head)) (by first | trivial) (by repeat (first | exact Seg.here (by repeat (first | exact Pre.zero | apply Pre.succ)))) | exact Xi (by first | exact Za2 | exact Zx) rfl (RW.below _) hS (by first | trivial) (by first | trivial) (by assumption) (by repeat (first | exact Seg.here (Pre.succ Pre.zero)))) | exact Y0 rfl) ?_)
     refine LtK.nil ?_
     refine Z7 [false, false, false, false, false, true] 5 ⟨by decide, by kernel_rfl, by kernel_rfl⟩ rfl rfl ?_
     dsimp only [Z2]
     repeat (first | apply Zg | (apply Yh; first | refine Yr rfl rfl rfl (by kernel_rfl) rfl (htm' _ (hLI.keep hS.base hAn)) hS (fun w hS hB => ?_)))
     refine Yf (by first | assumption) ?_
     refine Zm [false, false, false, false, false, false, true, true, true, true, true] (by decide +kernel) (by repeat (first | exact PF.body | apply PF.then)) ?_
     repeat (first | refine LtK.put rfl rfl rfl (by first | exact Zn rfl | exact Z4 rfl | exact Ya rfl rfl) ?_)
     refine LtK.nil ?_
     refine Z8 (by kernel_rfl) ?_
     repeat (first | apply Zg | (apply Zc; assumption) | (apply Zd; intro K hK) | apply Zf | (apply Yk; refine Yz rfl rfl rfl ?_) | (apply Yg; refine Zo rfl rfl rfl (by first | exact CellsOf.slice | exact CellsOf.agg) hS (by repeat (first | exact Pos.head)) (by repeat (first | exact SetC.here (by repeat (first | exact Ovr.nil | apply Ovr.cons)) | apply SetC.succ)) (by kernel_rfl) rfl (fun w hS hB => ?_)) | (apply Yk; refine Za rfl rfl rfl (by first | exact Zn rfl | exact Ze (by first | exact Z5 | exact Yx | exact X5) rfl | (apply Zy; first | exact Zaq (by first | exact Yn) rfl (RW.here _) hS (by first | trivial) (by first | trivial) (by assumption) (by repeat (first | exact Seg.here (by repeat (first | exact Pre.zero | apply Pre.succ))))) | (apply Ys; first | exact Zz rfl rfl rfl) | exact Y0 rfl) ?_) | apply Yq rfl rfl | apply Zu)
     refine Zb9 rfl (by first | exact RV.nil) rfl ?_
     exact hfin _ hS.base (hS.ok (.box bo [.int .i64 s.index, .int .i64 s.term, .int .i64 s.sum, .int .i64 s.level, .bool s.final, .slice none 0 0, .int .i64 x.term, .int .i64 x.vote] 26) (Has.mem (by repeat (first | exact Has.head))))
    | some t =>
     have hts : t ≠ s.term := fun h => ht (by rw [hto, h])
     have htm' : ∀ W', LI W' A' x.log.length c' x.log → PureC Try.prog 60 #[.agg #[.int .i64 x.snap.index, .int .i64 x.snap.term, .int .i64 x.snap.sum, .int .i64 x.snap.level, .bool x.snap.final, .slice A' x.log.length c', .int .i64 x.term, .int .i64 x.vote], .int .i64 s.index] W' (.tuple #[.int .i64 t, .bool true]) := fun W' h => by have := htm W' h; rw [hto] at this; exact this
     repeat (first | (apply Zd; intro K hK))
     refine Yo 18 [] (fun _ _ => True) ⟨by kernel_rfl, by kernel_rfl⟩ hS (fun w hS hB => ?_)
     refine Zm [true, true, true, true, true, true, true, true, true, true, true, true, true, true, true, true, true] (by decide +kernel) (by repeat (first | exact PF.body | apply PF.then)) ?_
     repeat (first | refine LtK.put rfl rfl rfl (by first | exact Zn rfl | exact Ze (by first | exact Z5 | exact V7 | exact Yx | exact Xs) rfl | (apply Zy; first | exact Zh (by first | exact Za2 | exact Zx) rfl (RW.below _) hS (by repeat (first | exact Has.head | apply Has.tail)) (by first | trivial) (by repeat (first | exact Seg.here (Pre.succ Pre.zero) | apply Seg.succ)) | exact Xi (by first | exact Za2 | exact Zx) rfl (RW.below _) hS (by first | trivial) (by first | trivial) (by assumption) (by repeat (first | exact Seg.here (Pre.succ Pre.zero) | apply Seg.succ))) | (apply Yi; first | exact Zda rfl rfl (by omega) | exact Zdd rfl rfl (by omega)) | (apply Ys; first | exact Zw rfl rfl rfl) | exact Y0 rfl) ?_)
     refine LtK.nil ?_
     refine Z7 [false, false, false, false, false, false, false, false, false, false, false, false, false, false, false, false, false, true] 17 ⟨by decide, by kernel_rfl, by kernel_rfl⟩ rfl rfl ?_
     dsimp only [Z2]
     repeat (first | apply Zg | (apply Yh; first | refine Yr rfl rfl rfl (by kernel_rfl) rfl (Zd4 _) hS (fun w hS hB => ?_)))
     refine Yf (by first | assumption) ?_
     refine Z8 (by kernel_rfl) ?_
     repeat (first | (apply Zc; assumption) | (apply Zd; intro K hK))
     refine Yo 11 [] (fun _ _ => True) ⟨by kernel_rfl, by kernel_rfl⟩ hS (fun w hS hB => ?_)
     refine Zm [true, true, true, true, true] (by decide +kernel) (by repeat (first | exact PF.body | apply PF.then)) ?_
     repeat (first | refine LtK.put rfl rfl rfl (by first | exact Zn rfl | exact Ze (by first | exact Z5) rfl | (apply Zy; first | exact Zj (by first | exact Yn | exact Xg) rfl (RW.below _) hS (by repeat (first | exact Has.head)) (by first | trivial) (by repeat (first | exact Seg.here (by repeat (first | exact Pre.zero | apply Pre.succ)))) | exact Xi (by first | exact Za2 | exact Zx) rfl (RW.below _) hS (by first | trivial) (by first | trivial) (by assumption) (by repeat (first | exact Seg.here (Pre.succ Pre.zero)))) | exact Y0 rfl) ?_)
     refine LtK.nil ?_
     refine Z7 [false, false, false, false, false, true] 5 ⟨by decide, by kernel_rfl, by kernel_rfl⟩ rfl rfl ?_
     dsimp only [Z2]
     repeat (first | apply Zg | (apply Yh; first | refine Yr rfl rfl rfl (by kernel_rfl) rfl (htm' _ (hLI.keep hS.base hAn)) hS (fun w hS hB => ?_)))
     refine Yf (by first | assumption) ?_
     refine Zm [false, false, false, false, false, false, true, true, true, true, true] (by decide +kernel) (by repeat (first | exact PF.body | apply PF.then)) ?_
     repeat (first | refine LtK.put rfl rfl rfl (by first | exact Zn rfl | exact Z4 rfl | exact Ya rfl rfl) ?_)
     refine LtK.nil ?_
     refine Z8 (by kernel_rfl) ?_
     repeat (first | apply Zg | (apply Zc; assumption) | (apply Zd; intro K hK) | apply Zf | (apply Yg; refine Zo rfl rfl rfl (by first | exact CellsOf.slice | exact CellsOf.agg) hS (by repeat (first | exact Pos.head)) (by repeat (first | exact SetC.here (by repeat (first | exact Ovr.nil | apply Ovr.cons)) | apply SetC.succ)) (by kernel_rfl) rfl (fun w hS hB => ?_)) | (apply Yk; refine Za rfl rfl rfl (by first | exact Zn rfl | exact Ze (by first | exact Z5 | exact V7 | exact Yx | exact X5) rfl | (apply Zy; first | exact Xi (by first | exact Zx) rfl (RW.here _) hS (by first | trivial) (by first | trivial) (by assumption) (by repeat (first | exact Seg.here (Pre.succ Pre.zero) | apply Seg.succ)) | exact Zaq (by first | exact Yn) rfl (RW.here _) hS (by first | trivial) (by first | trivial) (by assumption) (by repeat (first | exact Seg.here (by repeat (first | exact Pre.zero | apply Pre.succ))))) | (apply Yi; first | exact Zcf rfl rfl (by omega)) | (apply Ys; first | exact Zw rfl rfl rfl) | exact Y0 rfl) ?_) | apply Yq rfl rfl | apply Zu)
     refine Zb9 rfl (by first | exact RV.nil) rfl ?_
     exact hfin _ hS.base (hS.ok (.box bo [.int .i64 s.index, .int .i64 s.term, .int .i64 s.sum, .int .i64 s.level, .bool s.final, .slice none 0 0, .int .i64 x.term, .int .i64 x.vote] 26) (Has.mem (by repeat (first | exact Has.head))))
  ·have e1 : Zc7 x s = none := if_neg (fun h => h2 h.2)
   rw [e1]
   repeat (first | (apply Zd; intro K hK))
   refine Yo 18 [] (fun _ _ => True) ⟨by kernel_rfl, by kernel_rfl⟩ hS (fun w hS hB => ?_)
   refine Zm [true, true, true, true, true, true, true, true, true, true, true, true, true, true, true, true, true] (by decide +kernel) (by repeat (first | exact PF.body | apply PF.then)) ?_
   repeat (first | refine LtK.put rfl rfl rfl (by first | exact Zn rfl | exact Ze (by first | exact Z5 | exact V7 | exact Yx | exact Xs) rfl | (apply Zy; first | exact Zh (by first | exact Za2 | exact Zx) rfl (RW.below _) hS (by repeat (first | exact Has.head | apply Has.tail)) (by first | trivial) (by repeat (first | exact Seg.here (Pre.succ Pre.zero) | apply Seg.succ)) | exact Xi (by first | exact Za2 | exact Zx) rfl (RW.below _) hS (by first | trivial) (by first | trivial) (by assumption) (by repeat (first | exact Seg.here (Pre.succ Pre.zero) | apply Seg.succ))) | (apply Yi; first | exact Zey rfl rfl (by omega) | exact Zdd rfl rfl (by omega)) | (apply Ys; first | exact Zw rfl rfl rfl) | exact Y0 rfl) ?_)
   refine LtK.nil ?_
   refine Z7 [false, false, false, false, false, false, false, false, false, false, false, false, false, false, false, false, false, true] 17 ⟨by decide, by kernel_rfl, by kernel_rfl⟩ rfl rfl ?_
   dsimp only [Z2]
   repeat (first | (apply Yh; first | (refine Y6 rfl rfl (by kernel_rfl) rfl (Zb8 _) ?_; rintro e w2 ⟨rfl, hB2⟩; refine ⟨_, rfl, ?_⟩)) | apply Y4)
   exact X8 rfl ⟨(hS.below hB2).base, .inr ⟨rfl, rfl, TB.eight (x := x) (A := A') (c := c') ((hS.below hB2).ok (.box bo [.int .i64 x.snap.index, .int .i64 x.snap.term, .int .i64 x.snap.sum, .int .i64 x.snap.level, .bool x.snap.final, .slice A' x.log.length c', .int .i64 x.term, .int .i64 x.vote] 26) (Has.mem (by repeat (first | exact Has.head))))⟩⟩
 ·have e1 : Zc7 x s = none := if_neg (fun h => h1 h.1)
  rw [e1]
  repeat (first | (apply Zd; intro K hK))
  refine Yo 18 [] (fun _ _ => True) ⟨by kernel_rfl, by kernel_rfl⟩ hS (fun w hS hB => ?_)
  refine Zm [true, true, true, true, true, true, true, true, true, true, true, true, true, true, true, true, true] (by decide +kernel) (by repeat (first | exact PF.body | apply PF.then)) ?_
  repeat (first | refine LtK.put rfl rfl rfl (by first | exact Zn rfl | exact Ze (by first | exact Z5 | exact V7 | exact Yx | exact Xs) rfl | (apply Zy; first | exact Zh (by first | exact Za2 | exact Zx) rfl (RW.below _) hS (by repeat (first | exact Has.head | apply Has.tail)) (by first | trivial) (by repeat (first | exact Seg.here (Pre.succ Pre.zero))) | exact Xi (by first | exact Za2 | exact Zx) rfl (RW.below _) hS (by first | trivial) (by first | trivial) (by assumption) (by repeat (first | exact Seg.here (Pre.succ Pre.zero)))) | (apply Yi; first | exact Zde rfl rfl (by omega)) | (apply Ys; first | exact Zz rfl rfl rfl) | exact Y0 rfl) ?_ | refine LtK.skip rfl rfl rfl ?_)
  refine LtK.nil ?_
  refine Z7 [false, false, false, false, false, false, false, false, false, false, false, false, false, false, false, false, false, true] 17 ⟨by decide, by kernel_rfl, by kernel_rfl⟩ rfl rfl ?_
  dsimp only [Z2]
  repeat (first | (apply Yh; first | (refine Y6 rfl rfl (by kernel_rfl) rfl (Zb8 _) ?_; rintro e w2 ⟨rfl, hB2⟩; refine ⟨_, rfl, ?_⟩)) | apply Y4)
  exact X8 rfl ⟨(hS.below hB2).base, .inr ⟨rfl, rfl, TB.eight (x := x) (A := A') (c := c') ((hS.below hB2).ok (.box bo [.int .i64 x.snap.index, .int .i64 x.snap.term, .int .i64 x.snap.sum, .int .i64 x.snap.level, .bool x.snap.final, .slice A' x.log.length c', .int .i64 x.term, .int .i64 x.vote] 26) (Has.mem (by repeat (first | exact Has.head))))⟩⟩
theorem install_any (x : Tu) (A : Option Addr) (c : Nat) (s : St) (w0 : World) (hx : LI w0 A x.log.length c x.log) (hA : ∀ a, A = some a → a.block < w0.heap.size) :
  Calls Try.prog 32 #[.agg #[.int .i64 x.snap.index, .int .i64 x.snap.term, .int .i64 x.snap.sum, .int .i64 x.snap.level, .bool x.snap.final, .slice A x.log.length c, .int .i64 x.term, .int .i64 x.vote], .agg #[.int .i64 s.index, .int .i64 s.term, .int .i64 s.sum, .int .i64 s.level, .bool s.final]] w0 (Chg w0 x (Zc7 x s)) := by
 refine Yw Try.func32 rfl Try.ntmps32 rfl ?_
 have hS := St0.start All w0
 repeat (first | (apply Zd; intro K hK) | apply Zf)
 first | (apply Xe; refine Z9 rfl rfl rfl (by first | exact CellsOf.agg) hS (fun bt w hS hB => ?_))
 first | (apply Xe; refine Z9 rfl rfl rfl (by first | exact CellsOf.agg) hS (fun bf w hS hB => ?_))
 repeat (first | apply Zg | (apply Zc; assumption) | (apply Zd; intro K hK) | apply Zf | (apply Xp; refine Z6 rfl rfl (by first | exact zc_26) hS (fun b w hS hB => ?_)) | (apply Yk; refine Za rfl rfl rfl (by first | exact Z4 rfl | (apply Zy; first | exact Zj (by first | exact Xg) rfl (RW.here _) hS (by repeat (first | exact Has.head | apply Has.tail)) (by first | trivial) (by repeat (first | exact Seg.here (by repeat (first | exact Pre.zero | apply Pre.succ))))) | exact X9 rfl rfl) ?_))
 have hbf := (hS.box_ge (b := bf) (by repeat (first | exact Has.head | apply Has.tail)))
 refine Zr rfl rfl rfl rfl (by kernel_rfl) rfl (changed_any x (Zc7 x s) A c 58 #[.pointer (some ⟨bf, 0, none⟩)] _ (by kernel_rfl) (hx.below hS.pure) (fun a ha => Nat.lt_of_lt_of_le (hA a ha) hS.size)
  (fun hT => inst1_does bf s _ hbf.2.2 x hT)) ?_
 rintro e w1 ⟨A2, c2, ⟨rfl, hs⟩, hB⟩
 refine ⟨_, rfl, ?_⟩
 replace hS := hS.slice hs hB
 repeat (first | apply Zg | (apply Zc; assumption) | (apply Yg; refine Zo rfl rfl rfl (by first | exact CellsOf.agg) hS (by repeat (first | exact Pos.head | apply Pos.tail)) (by repeat (first | exact SetC.here (by repeat (first | exact Ovr.nil | apply Ovr.cons)))) (by kernel_rfl) rfl (fun w hS hB => ?_)) | (apply Yk; refine Za rfl rfl rfl (by first | exact Z4 rfl | exact Ya rfl rfl) ?_) | apply Zk)
 refine Zl rfl (by first | exact RV.cell rfl (Z3 (by first | exact Xg) hS (by repeat (first | exact Has.head | apply Has.tail)) (by repeat (first | exact Seg.here (by repeat (first | exact Pre.zero | apply Pre.succ))))) (RV.tmp rfl RV.nil)) rfl ?_
 exact ⟨A2, c2, ⟨rfl, hS.giveS (by repeat (first | exact Has.head)) hs.len hs.le hs.cap⟩, hS.pure⟩
def hardR (x : Tu) (t v : Int) : Option Tu := if x.term < t ∨ t = x.term ∧ (x.vote = 0 ∨ x.vote = v) then some { x with term := t, vote := v } else none
theorem hard1_does (bf bg : Nat) (t v : Int) (w0 : World) (hbf : w0.heap[bf]? = some (.cells #[.int .i64 t] 3)) (hbg : w0.heap[bg]? = some (.cells #[.int .i64 v] 3)) (x : Tu) (hx : Jo x = true) :
  Does 97 #[.pointer (some ⟨bf, 0, none⟩), .pointer (some ⟨bg, 0, none⟩)] w0 x (hardR x t v) := by
 intro W bo A' c' hB hbo hT hLI hA'
 have hxb := Zdg x hx
 have hol : bo < W.heap.size := (Array.getElem?_eq_some_iff.1 hT).1
 have hle := hLI.le
 have hcp := hLI.cap
 have hAn := fun a ha => (hA' a ha).1
 have hbfl : bf < w0.heap.size := (Array.getElem?_eq_some_iff.1 hbf).1
 have hbfW : W.heap[bf]? = some (.cells #[.int .i64 t] 3) := (hB.block bf hbfl).trans hbf
 have hbfn : bf ≠ bo := by omega
 have hbgl : bg < w0.heap.size := (Array.getElem?_eq_some_iff.1 hbg).1
 have hbgW : W.heap[bg]? = some (.cells #[.int .i64 v] 3) := (hB.block bg hbgl).trans hbg
 have hbgn : bg ≠ bo := by omega
 show Calls _ _ #[_, _, _] _ _
 refine Zb1 Try.func97 rfl Try.ntmps97 rfl ?_
 have hS := St0.old (w := W) (fun k => k ≠ bo) (e := .box bo [.int .i64 x.snap.index, .int .i64 x.snap.term, .int .i64 x.snap.sum, .int .i64 x.snap.level, .bool x.snap.final, .slice A' x.log.length c', .int .i64 x.term, .int .i64 x.vote] 26) hT (fun k hk => by subst hk; exact ⟨hol, by simp⟩)
 by_cases h0 : x.term < t ∨ t = x.term ∧ (x.vote = 0 ∨ x.vote = v)
 ·have e1 : hardR x t v = some { x with term := t, vote := v } := if_pos h0
  rw [e1]
  have hfin : ∀ w, KeepB (fun k => k ≠ bo) W w → w.heap[bo]? = some (.cells #[.int .i64 x.snap.index, .int .i64 x.snap.term, .int .i64 x.snap.sum, .int .i64 x.snap.level, .bool x.snap.final, .slice A' x.log.length c', .int .i64 t, .int .i64 v] 26) → (KeepB (fun k => k ≠ bo) W w ∧ ((∃ y A2 c2, some ({ x with term := t, vote := v } : Tu) = some y ∧ (Ending.returned (.tuple #[])) = .returned (.tuple #[]) ∧ TB w bo y A2 c2 ∧ LI w A2 y.log.length c2 y.log ∧ (∀ a, A2 = some a → a.block < w.heap.size ∧ ((∃ a', A' = some a' ∧ a.block = a'.block) ∨ W.heap.size ≤ a.block))) ∨ (some ({ x with term := t, vote := v } : Tu) = none ∧ (Ending.returned (.tuple #[])) = .panicked badP ∧ TB8 w bo))) :=
   fun w hk ho => ⟨hk, .inl ⟨_, A', c', rfl, rfl, ho, hLI.keep hk hAn, fun a ha => ⟨Nat.lt_of_lt_of_le (hA' a ha).2 hk.size, .inl ⟨a, ha, rfl⟩⟩⟩⟩
  by_cases h1 : x.term < t
  ·repeat (first | (apply Zd; intro K hK))
   refine Yo 30 [] (fun _ _ => True) ⟨by kernel_rfl, by kernel_rfl⟩ hS (fun w hS hB => ?_)
   refine Zm [true, true, true, true, true, true, true, true, true, true, true, true, true, true, true, true, true, true, true, true, true, true, true, true, true, true, true, true, true] (by decide +kernel) (by repeat (first | exact PF.body | apply PF.then)) ?_
   repeat (first | refine LtK.put rfl rfl rfl (by first | exact Zn rfl | exact Ze (by first | exact Z5 | exact Xs | exact Jy) rfl | (apply Zy; first | exact Zh (by first | exact Za2 | exact Zx) rfl (RW.below _) hS (by repeat (first | exact Has.head | apply Has.tail)) (by first | trivial) (by repeat (first | exact Seg.here (Pre.succ Pre.zero) | apply Seg.succ)) | exact Xi (by first | exact Za2 | exact Zx) rfl (RW.below _) hS (by first | trivial) (by first | trivial) (by assumption) (by repeat (first | exact Seg.here (Pre.succ Pre.zero)))) | (apply Yi; first | exact Zdd rfl rfl (by omega)) | (apply Ys; first | exact Zw rfl rfl rfl) | exact Y0 rfl) ?_ | refine LtK.skip rfl rfl rfl ?_)
   refine LtK.nil ?_
   refine Z7 [false, false, false, false, false, false, false, false, false, false, false, false, false, false, false, false, false, false, false, false, false, false, false, false, false, false, false, false, false, true] 29 ⟨by decide, by kernel_rfl, by kernel_rfl⟩ rfl rfl ?_
   dsimp only [Z2]
   repeat (first | apply Zg | (apply Yh; first | refine Yr rfl rfl rfl (by kernel_rfl) rfl (Zd4 _) hS (fun w hS hB => ?_)))
   refine Yf (by first | assumption) ?_
   refine Z8 (by kernel_rfl) ?_
   repeat (first | (apply Zc; assumption))
   refine Yo 10 [6, 9] (fun i b => (i = 6 → b ≠ bo) ∧ (i = 9 → b ≠ bo)) ⟨by kernel_rfl, by kernel_rfl⟩ hS (fun w hS hB => ?_)
   refine Zm [true, false, true] (by decide +kernel) (by repeat (first | exact PF.body)) ?_
   repeat (first | refine LtK.put rfl rfl rfl (by first | exact Zn rfl | (apply Zy; first | exact Xi (by first | exact Za2 | exact Zx) rfl (RW.below _) hS (by first | trivial) (by first | trivial) (by assumption) (by repeat (first | exact Seg.here (Pre.succ Pre.zero))))) ?_)
   refine LtK.nil ?_
   refine Xz [false, true, false, true, true] [6] (fun b => b ≠ bo) (by decide +kernel) (by intro j hj b hb; simp only [List.mem_cons, List.not_mem_nil, or_false] at hj; (try rcases hj with rfl | rfl) <;> simp_all) (by repeat (first | exact PF.body)) ?_
   repeat (first | refine LtK.put rfl rfl rfl (by first | exact Zn rfl | (apply Zy; first | exact Xi (by first | exact Za2 | exact Zx) rfl (RW.keepB _ _) hS (by first | trivial) (by first | trivial) (by assumption) (by repeat (first | exact Seg.here (Pre.succ Pre.zero)))) | exact Y0 rfl) ?_)
   refine LtK.nil ?_
   refine Zm [false, false, false, false, false, true] (by decide +kernel) (by repeat (first | exact PF.body)) ?_
   repeat (first | refine LtK.put rfl rfl rfl (by first | exact Ze (by first | exact Z5 | exact Xs) rfl) ?_)
   refine LtK.nil ?_
   refine Xh [false, false, false, false, false, false, true] 6 ⟨by decide, by kernel_rfl, by kernel_rfl⟩ rfl rfl ?_
   dsimp only [Z2]
   repeat (first | apply Zg | (apply Yg; refine Zo rfl rfl rfl (by first | exact CellsOf.int) hS (by repeat (first | exact Pos.head)) (by repeat (first | exact SetC.here (by repeat (first | exact Ovr.nil | apply Ovr.cons)) | apply SetC.succ)) (by kernel_rfl) rfl (fun w hS hB => ?_)))
   refine Xc (by first | exact hB.sub (fun _ _ h => by simpa using h)) ?_
   refine Xz [false, false, false, false, false, false, false, true] [9] (fun b => b ≠ bo) (by decide +kernel) (by intro j hj b hb; simp only [List.mem_cons, List.not_mem_nil, or_false] at hj; (try rcases hj with rfl | rfl) <;> simp_all) (by repeat (first | exact PF.body)) ?_
   repeat (first | refine LtK.put rfl rfl rfl (by first | exact Y0 rfl) ?_)
   refine LtK.nil ?_
   refine Zm [false, false, false, false, false, false, false, false, true] (by decide +kernel) (by repeat (first | exact PF.body)) ?_
   repeat (first | refine LtK.put rfl rfl rfl (by first | exact Ze (by first | exact Z5 | exact Jy) rfl) ?_)
   refine LtK.nil ?_
   refine Xh [false, false, false, false, false, false, false, false, false, true] 9 ⟨by decide, by kernel_rfl, by kernel_rfl⟩ rfl rfl ?_
   dsimp only [Z2]
   repeat (first | apply Zg | (apply Yg; refine Zo rfl rfl rfl (by first | exact CellsOf.int) hS (by repeat (first | exact Pos.head)) (by repeat (first | exact SetC.here (by repeat (first | exact Ovr.nil | apply Ovr.cons)) | apply SetC.succ)) (by kernel_rfl) rfl (fun w hS hB => ?_)))
   refine Xc (by first | exact hB.sub (fun _ _ h => by simpa using h)) ?_
   refine Z8 (by kernel_rfl) ?_
   refine Zb9 rfl (by first | exact RV.nil) rfl ?_
   exact hfin _ hS.base (hS.ok (.box bo [.int .i64 x.snap.index, .int .i64 x.snap.term, .int .i64 x.snap.sum, .int .i64 x.snap.level, .bool x.snap.final, .slice A' x.log.length c', .int .i64 t, .int .i64 v] 26) (Has.mem (by repeat (first | exact Has.head))))
  ·have h2 : t = x.term := by omega
   by_cases h3 : x.vote = 0
   ·repeat (first | (apply Zd; intro K hK))
    refine Yo 30 [] (fun _ _ => True) ⟨by kernel_rfl, by kernel_rfl⟩ hS (fun w hS hB => ?_)
    refine Zm [true, true, true, true, true, true, true, true, true, true, true, true, true, true, true, true, true, true, true, true, true, true, true, true, true, true, true, true, true] (by decide +kernel) (by repeat (first | exact PF.body | apply PF.then)) ?_
    repeat (first | refine LtK.put rfl rfl rfl (by first | exact Zn rfl | exact Ze (by first | exact Z5 | exact Xs | exact Jy) rfl | (apply Zy; first | exact Zh (by first | exact Za2 | exact Zx) rfl (RW.below _) hS (by repeat (first | exact Has.head | apply Has.tail)) (by first | trivial) (by repeat (first | exact Seg.here (Pre.succ Pre.zero) | apply Seg.succ)) | exact Xi (by first | exact Za2 | exact Zx) rfl (RW.below _) hS (by first | trivial) (by first | trivial) (by assumption) (by repeat (first | exact Seg.here (Pre.succ Pre.zero)))) | (apply Yi; first | exact Zde rfl rfl (by omega) | exact Zcg rfl rfl (by omega)) | (apply Ys; first | exact Zw rfl rfl rfl | exact Zz rfl rfl rfl) | exact Y0 rfl) ?_ | refine LtK.skip rfl rfl rfl ?_)
    refine LtK.nil ?_
    refine Z7 [false, false, false, false, false, false, false, false, false, false, false, false, false, false, false, false, false, false, false, false, false, false, false, false, false, false, false, false, false, true] 29 ⟨by decide, by kernel_rfl, by kernel_rfl⟩ rfl rfl ?_
    dsimp only [Z2]
    repeat (first | apply Zg | (apply Yh; first | refine Yr rfl rfl rfl (by kernel_rfl) rfl (Zd4 _) hS (fun w hS hB => ?_)))
    refine Yf (by first | assumption) ?_
    refine Z8 (by kernel_rfl) ?_
    repeat (first | (apply Zc; assumption))
    refine Yo 10 [6, 9] (fun i b => (i = 6 → b ≠ bo) ∧ (i = 9 → b ≠ bo)) ⟨by kernel_rfl, by kernel_rfl⟩ hS (fun w hS hB => ?_)
    refine Zm [true, false, true] (by decide +kernel) (by repeat (first | exact PF.body)) ?_
    repeat (first | refine LtK.put rfl rfl rfl (by first | exact Zn rfl | (apply Zy; first | exact Xi (by first | exact Za2 | exact Zx) rfl (RW.below _) hS (by first | trivial) (by first | trivial) (by assumption) (by repeat (first | exact Seg.here (Pre.succ Pre.zero))))) ?_)
    refine LtK.nil ?_
    refine Xz [false, true, false, true, true] [6] (fun b => b ≠ bo) (by decide +kernel) (by intro j hj b hb; simp only [List.mem_cons, List.not_mem_nil, or_false] at hj; (try rcases hj with rfl | rfl) <;> simp_all) (by repeat (first | exact PF.body)) ?_
    repeat (first | refine LtK.put rfl rfl rfl (by first | exact Zn rfl | (apply Zy; first | exact Xi (by first | exact Za2 | exact Zx) rfl (RW.keepB _ _) hS (by first | trivial) (by first | trivial) (by assumption) (by repeat (first | exact Seg.here (Pre.succ Pre.zero)))) | exact Y0 rfl) ?_)
    refine LtK.nil ?_
    refine Zm [false, false, false, false, false, true] (by decide +kernel) (by repeat (first | exact PF.body)) ?_
    repeat (first | refine LtK.put rfl rfl rfl (by first | exact Ze (by first | exact Z5 | exact Xs) rfl) ?_)
    refine LtK.nil ?_
    refine Xh [false, false, false, false, false, false, true] 6 ⟨by decide, by kernel_rfl, by kernel_rfl⟩ rfl rfl ?_
    dsimp only [Z2]
    repeat (first | apply Zg | (apply Yg; refine Zo rfl rfl rfl (by first | exact CellsOf.int) hS (by repeat (first | exact Pos.head)) (by repeat (first | exact SetC.here (by repeat (first | exact Ovr.nil | apply Ovr.cons)) | apply SetC.succ)) (by kernel_rfl) rfl (fun w hS hB => ?_)))
    refine Xc (by first | exact hB.sub (fun _ _ h => by simpa using h)) ?_
    refine Xz [false, false, false, false, false, false, false, true] [9] (fun b => b ≠ bo) (by decide +kernel) (by intro j hj b hb; simp only [List.mem_cons, List.not_mem_nil, or_false] at hj; (try rcases hj with rfl | rfl) <;> simp_all) (by repeat (first | exact PF.body)) ?_
    repeat (first | refine LtK.put rfl rfl rfl (by first | exact Y0 rfl) ?_)
    refine LtK.nil ?_
    refine Zm [false, false, false, false, false, false, false, false, true] (by decide +kernel) (by repeat (first | exact PF.body)) ?_
    repeat (first | refine LtK.put rfl rfl rfl (by first | exact Ze (by first | exact Z5 | exact Jy) rfl) ?_)
    refine LtK.nil ?_
    refine Xh [false, false, false, false, false, false, false, false, false, true] 9 ⟨by decide, by kernel_rfl, by kernel_rfl⟩ rfl rfl ?_
    dsimp only [Z2]
    repeat (first | apply Zg | (apply Yg; refine Zo rfl rfl rfl (by first | exact CellsOf.int) hS (by repeat (first | exact Pos.head)) (by repeat (first | exact SetC.here (by repeat (first | exact Ovr.nil | apply Ovr.cons)) | apply SetC.succ)) (by kernel_rfl) rfl (fun w hS hB => ?_)))
    refine Xc (by first | exact hB.sub (fun _ _ h => by simpa using h)) ?_
    refine Z8 (by kernel_rfl) ?_
    refine Zb9 rfl (by first | exact RV.nil) rfl ?_
    exact hfin _ hS.base (hS.ok (.box bo [.int .i64 x.snap.index, .int .i64 x.snap.term, .int .i64 x.snap.sum, .int .i64 x.snap.level, .bool x.snap.final, .slice A' x.log.length c', .int .i64 t, .int .i64 v] 26) (Has.mem (by repeat (first | exact Has.head))))
   ·have h4 : x.vote = v := by omega
    repeat (first | (apply Zd; intro K hK))
    refine Yo 30 [] (fun _ _ => True) ⟨by kernel_rfl, by kernel_rfl⟩ hS (fun w hS hB => ?_)
    refine Zm [true, true, true, true, true, true, true, true, true, true, true, true, true, true, true, true, true, true, true, true, true, true, true, true, true, true, true, true, true] (by decide +kernel) (by repeat (first | exact PF.body | apply PF.then)) ?_
    repeat (first | refine LtK.put rfl rfl rfl (by first | exact Zn rfl | exact Ze (by first | exact Z5 | exact Xs | exact Jy) rfl | (apply Zy; first | exact Zh (by first | exact Za2 | exact Zx) rfl (RW.below _) hS (by repeat (first | exact Has.head | apply Has.tail)) (by first | trivial) (by repeat (first | exact Seg.here (Pre.succ Pre.zero) | apply Seg.succ)) | exact Xi (by first | exact Za2 | exact Zx) rfl (RW.below _) hS (by first | trivial) (by first | trivial) (by assumption) (by repeat (first | exact Seg.here (Pre.succ Pre.zero)))) | (apply Yi; first | exact Zde rfl rfl (by omega) | exact Zcg rfl rfl (by omega) | exact Zcf rfl rfl (by omega)) | (apply Ys; first | exact Zw rfl rfl rfl | exact Zz rfl rfl rfl) | exact Y0 rfl) ?_)
    refine LtK.nil ?_
    refine Z7 [false, false, false, false, false, false, false, false, false, false, false, false, false, false, false, false, false, false, false, false, false, false, false, false, false, false, false, false, false, true] 29 ⟨by decide, by kernel_rfl, by kernel_rfl⟩ rfl rfl ?_
    dsimp only [Z2]
    repeat (first | apply Zg | (apply Yh; first | refine Yr rfl rfl rfl (by kernel_rfl) rfl (Zd4 _) hS (fun w hS hB => ?_)))
    refine Yf (by first | assumption) ?_
    refine Z8 (by kernel_rfl) ?_
    repeat (first | (apply Zc; assumption))
    refine Yo 10 [6, 9] (fun i b => (i = 6 → b ≠ bo) ∧ (i = 9 → b ≠ bo)) ⟨by kernel_rfl, by kernel_rfl⟩ hS (fun w hS hB => ?_)
    refine Zm [true, false, true] (by decide +kernel) (by repeat (first | exact PF.body)) ?_
    repeat (first | refine LtK.put rfl rfl rfl (by first | exact Zn rfl | (apply Zy; first | exact Xi (by first | exact Za2 | exact Zx) rfl (RW.below _) hS (by first | trivial) (by first | trivial) (by assumption) (by repeat (first | exact Seg.here (Pre.succ Pre.zero))))) ?_)
    refine LtK.nil ?_
    refine Xz [false, true, false, true, true] [6] (fun b => b ≠ bo) (by decide +kernel) (by intro j hj b hb; simp only [List.mem_cons, List.not_mem_nil, or_false] at hj; (try rcases hj with rfl | rfl) <;> simp_all) (by repeat (first | exact PF.body)) ?_
    repeat (first | refine LtK.put rfl rfl rfl (by first | exact Zn rfl | (apply Zy; first | exact Xi (by first | exact Za2 | exact Zx) rfl (RW.keepB _ _) hS (by first | trivial) (by first | trivial) (by assumption) (by repeat (first | exact Seg.here (Pre.succ Pre.zero)))) | exact Y0 rfl) ?_)
    refine LtK.nil ?_
    refine Zm [false, false, false, false, false, true] (by decide +kernel) (by repeat (first | exact PF.body)) ?_
    repeat (first | refine LtK.put rfl rfl rfl (by first | exact Ze (by first | exact Z5 | exact Xs) rfl) ?_)
    refine LtK.nil ?_
    refine Xh [false, false, false, false, false, false, true] 6 ⟨by decide, by kernel_rfl, by kernel_rfl⟩ rfl rfl ?_
    dsimp only [Z2]
    repeat (first | apply Zg | (apply Yg; refine Zo rfl rfl rfl (by first | exact CellsOf.int) hS (by repeat (first | exact Pos.head)) (by repeat (first | exact SetC.here (by repeat (first | exact Ovr.nil | apply Ovr.cons)) | apply SetC.succ)) (by kernel_rfl) rfl (fun w hS hB => ?_)))
    refine Xc (by first | exact hB.sub (fun _ _ h => by simpa using h)) ?_
    refine Xz [false, false, false, false, false, false, false, true] [9] (fun b => b ≠ bo) (by decide +kernel) (by intro j hj b hb; simp only [List.mem_cons, List.not_mem_nil, or_false] at hj; (try rcases hj with rfl | rfl) <;> simp_all) (by repeat (first | exact PF.body)) ?_
    repeat (first | refine LtK.put rfl rfl rfl (by first | exact Y0 rfl) ?_)
    refine LtK.nil ?_
    refine Zm [false, false, false, false, false, false, false, false, true] (by decide +kernel) (by repeat (first | exact PF.body)) ?_
    repeat (first | refine LtK.put rfl rfl rfl (by first | exact Ze (by first | exact Z5 | exact Jy) rfl) ?_)
    refine LtK.nil ?_
    refine Xh [false, false, false, false, false, false, false, false, false, true] 9 ⟨by decide, by kernel_rfl, by kernel_rfl⟩ rfl rfl ?_
    dsimp only [Z2]
    repeat (first | apply Zg | (apply Yg; refine Zo rfl rfl rfl (by first | exact CellsOf.int) hS (by repeat (first | exact Pos.head)) (by repeat (first | exact SetC.here (by repeat (first | exact Ovr.nil | apply Ovr.cons)) | apply SetC.succ)) (by kernel_rfl) rfl (fun w hS hB => ?_)))
    refine Xc (by first | exact hB.sub (fun _ _ h => by simpa using h)) ?_
    refine Z8 (by kernel_rfl) ?_
    refine Zb9 rfl (by first | exact RV.nil) rfl ?_
    exact hfin _ hS.base (hS.ok (.box bo [.int .i64 x.snap.index, .int .i64 x.snap.term, .int .i64 x.snap.sum, .int .i64 x.snap.level, .bool x.snap.final, .slice A' x.log.length c', .int .i64 t, .int .i64 v] 26) (Has.mem (by repeat (first | exact Has.head))))
 ·have e1 : hardR x t v = none := if_neg h0
  rw [e1]
  have h1 : ¬ x.term < t := fun h => h0 (.inl h)
  by_cases h2 : t = x.term
  ·have h3 : x.vote ≠ 0 := fun h => h0 (.inr ⟨h2, .inl h⟩)
   have h4 : x.vote ≠ v := fun h => h0 (.inr ⟨h2, .inr h⟩)
   repeat (first | (apply Zd; intro K hK))
   refine Yo 30 [] (fun _ _ => True) ⟨by kernel_rfl, by kernel_rfl⟩ hS (fun w hS hB => ?_)
   refine Zm [true, true, true, true, true, true, true, true, true, true, true, true, true, true, true, true, true, true, true, true, true, true, true, true, true, true, true, true, true] (by decide +kernel) (by repeat (first | exact PF.body | apply PF.then)) ?_
   repeat (first | refine LtK.put rfl rfl rfl (by first | exact Zn rfl | exact Ze (by first | exact Z5 | exact Xs | exact Jy) rfl | (apply Zy; first | exact Zh (by first | exact Za2 | exact Zx) rfl (RW.below _) hS (by repeat (first | exact Has.head | apply Has.tail)) (by first | trivial) (by repeat (first | exact Seg.here (Pre.succ Pre.zero) | apply Seg.succ)) | exact Xi (by first | exact Za2 | exact Zx) rfl (RW.below _) hS (by first | trivial) (by first | trivial) (by assumption) (by repeat (first | exact Seg.here (Pre.succ Pre.zero)))) | (apply Yi; first | exact Zde rfl rfl (by omega) | exact Zcg rfl rfl (by omega) | exact Zcf rfl rfl (by omega)) | (apply Ys; first | exact Zw rfl rfl rfl | exact Zz rfl rfl rfl) | exact Y0 rfl) ?_)
   refine LtK.nil ?_
   refine Z7 [false, false, false, false, false, false, false, false, false, false, false, false, false, false, false, false, false, false, false, false, false, false, false, false, false, false, false, false, false, true] 29 ⟨by decide, by kernel_rfl, by kernel_rfl⟩ rfl rfl ?_
   dsimp only [Z2]
   repeat (first | (apply Yh; first | (refine Y6 rfl rfl (by kernel_rfl) rfl (Zb8 _) ?_; rintro e w2 ⟨rfl, hB2⟩; refine ⟨_, rfl, ?_⟩)) | apply Y4)
   exact X8 rfl ⟨(hS.below hB2).base, .inr ⟨rfl, rfl, TB.eight (x := x) (A := A') (c := c') ((hS.below hB2).ok (.box bo [.int .i64 x.snap.index, .int .i64 x.snap.term, .int .i64 x.snap.sum, .int .i64 x.snap.level, .bool x.snap.final, .slice A' x.log.length c', .int .i64 x.term, .int .i64 x.vote] 26) (Has.mem (by repeat (first | exact Has.head))))⟩⟩
  ·repeat (first | (apply Zd; intro K hK))
   refine Yo 30 [] (fun _ _ => True) ⟨by kernel_rfl, by kernel_rfl⟩ hS (fun w hS hB => ?_)
   refine Zm [true, true, true, true, true, true, true, true, true, true, true, true, true, true, true, true, true, true, true, true, true, true, true, true, true, true, true, true, true] (by decide +kernel) (by repeat (first | exact PF.body | apply PF.then)) ?_
   repeat (first | refine LtK.put rfl rfl rfl (by first | exact Zn rfl | exact Ze (by first | exact Z5 | exact Xs | exact Jy) rfl | (apply Zy; first | exact Zh (by first | exact Za2 | exact Zx) rfl (RW.below _) hS (by repeat (first | exact Has.head | apply Has.tail)) (by first | trivial) (by repeat (first | exact Seg.here (Pre.succ Pre.zero) | apply Seg.succ)) | exact Xi (by first | exact Za2 | exact Zx) rfl (RW.below _) hS (by first | trivial) (by first | trivial) (by assumption) (by repeat (first | exact Seg.here (Pre.succ Pre.zero)))) | (apply Yi; first | exact Zde rfl rfl (by omega) | exact Zcf rfl rfl (by omega)) | (apply Ys; first | exact Zz rfl rfl rfl) | exact Y0 rfl) ?_ | refine LtK.skip rfl rfl rfl ?_)
   refine LtK.nil ?_
   refine Z7 [false, false, false, false, false, false, false, false, false, false, false, false, false, false, false, false, false, false, false, false, false, false, false, false, false, false, false, false, false, true] 29 ⟨by decide, by kernel_rfl, by kernel_rfl⟩ rfl rfl ?_
   dsimp only [Z2]
   repeat (first | (apply Yh; first | (refine Y6 rfl rfl (by kernel_rfl) rfl (Zb8 _) ?_; rintro e w2 ⟨rfl, hB2⟩; refine ⟨_, rfl, ?_⟩)) | apply Y4)
   exact X8 rfl ⟨(hS.below hB2).base, .inr ⟨rfl, rfl, TB.eight (x := x) (A := A') (c := c') ((hS.below hB2).ok (.box bo [.int .i64 x.snap.index, .int .i64 x.snap.term, .int .i64 x.snap.sum, .int .i64 x.snap.level, .bool x.snap.final, .slice A' x.log.length c', .int .i64 x.term, .int .i64 x.vote] 26) (Has.mem (by repeat (first | exact Has.head))))⟩⟩
theorem hard_any (x : Tu) (A : Option Addr) (c : Nat) (t v : Int) (w0 : World) (hx : LI w0 A x.log.length c x.log) (hA : ∀ a, A = some a → a.block < w0.heap.size) :
  Calls Try.prog 84 #[.agg #[.int .i64 x.snap.index, .int .i64 x.snap.term, .int .i64 x.snap.sum, .int .i64 x.snap.level, .bool x.snap.final, .slice A x.log.length c, .int .i64 x.term, .int .i64 x.vote], .int .i64 t, .int .i64 v] w0 (Chg w0 x (hardR x t v)) := by
 refine Zb1 Try.func84 rfl Try.ntmps84 rfl ?_
 have hS := St0.start All w0
 repeat (first | (apply Zd; intro K hK) | apply Zf)
 first | (apply Xe; refine Z9 rfl rfl rfl (by first | exact CellsOf.agg) hS (fun bt w hS hB => ?_))
 first | (apply Xe; refine Z9 rfl rfl rfl (by first | exact CellsOf.int) hS (fun bf w hS hB => ?_))
 first | (apply Xe; refine Z9 rfl rfl rfl (by first | exact CellsOf.int) hS (fun bg w hS hB => ?_))
 repeat (first | apply Zg | (apply Zc; assumption) | (apply Zd; intro K hK) | apply Zf | (apply Xp; refine Z6 rfl rfl (by first | exact zc_26) hS (fun b w hS hB => ?_)) | (apply Yk; refine Za rfl rfl rfl (by first | exact Z4 rfl | (apply Zy; first | exact Zj (by first | exact Xg) rfl (RW.here _) hS (by repeat (first | exact Has.head | apply Has.tail)) (by first | trivial) (by repeat (first | exact Seg.here (by repeat (first | exact Pre.zero | apply Pre.succ))))) | exact X9 rfl rfl) ?_))
 have hbf := (hS.box_ge (b := bf) (by repeat (first | exact Has.head | apply Has.tail)))
 have hbg := (hS.box_ge (b := bg) (by repeat (first | exact Has.head | apply Has.tail)))
 refine Zr rfl rfl rfl rfl (by kernel_rfl) rfl (changed_any x (hardR x t v) A c 97 #[.pointer (some ⟨bf, 0, none⟩), .pointer (some ⟨bg, 0, none⟩)] _ (by kernel_rfl) (hx.below hS.pure) (fun a ha => Nat.lt_of_lt_of_le (hA a ha) hS.size)
  (fun hT => hard1_does bf bg t v _ hbf.2.2 hbg.2.2 x hT)) ?_
 rintro e w1 ⟨A2, c2, ⟨rfl, hs⟩, hB⟩
 refine ⟨_, rfl, ?_⟩
 replace hS := hS.slice hs hB
 repeat (first | apply Zg | (apply Zc; assumption) | (apply Yg; refine Zo rfl rfl rfl (by first | exact CellsOf.agg) hS (by repeat (first | exact Pos.head | apply Pos.tail)) (by repeat (first | exact SetC.here (by repeat (first | exact Ovr.nil | apply Ovr.cons)))) (by kernel_rfl) rfl (fun w hS hB => ?_)) | (apply Yk; refine Za rfl rfl rfl (by first | exact Z4 rfl | exact Ya rfl rfl) ?_) | apply Zk)
 refine Zl rfl (by first | exact RV.cell rfl (Z3 (by first | exact Xg) hS (by repeat (first | exact Has.head | apply Has.tail)) (by repeat (first | exact Seg.here (by repeat (first | exact Pre.zero | apply Pre.succ))))) (RV.tmp rfl RV.nil)) rfl ?_
 exact ⟨A2, c2, ⟨rfl, hS.giveS (by repeat (first | exact Has.head)) hs.len hs.le hs.cap⟩, hS.pure⟩
end Go.Proofs.Ytenagnncpaabdaa
namespace Go.Proofs.Ytenagnncpaabdaa
open Go Go.RowKit
set_option maxRecDepth 100000
theorem next_p (s : St) (e : En) (w : World) : PureC Try.prog 90 #[.agg #[.int .i64 s.index, .int .i64 s.term, .int .i64 s.sum, .int .i64 s.level, .bool s.final], .agg #[.int .i64 e.term, .int .i64 e.kind, .int .i64 e.value]] w (.agg #[.int .i64 (Jh s e).index, .int .i64 (Jh s e).term, .int .i64 (Jh s e).sum, .int .i64 (Jh s e).level, .bool (Jh s e).final]) := ⟨next_any s e w⟩
structure SX where
 bt : Nat
 bs : Nat
 A : Option Addr
 c : Nat
 j : Nat
 n : Nat
theorem state_yes (x : Tu) (A : Option Addr) (c : Nat) (k : Nat) (w0 : World) (h : -2000000000000 ≤ x.snap.index ∧ x.snap.index ≤ 2000000000000) (hl : LI w0 A x.log.length c x.log) (i : Int) (hi : i = x.snap.index + k) (hk : k ≤ x.log.length) :
  PureC Try.prog 70 #[.agg #[.int .i64 x.snap.index, .int .i64 x.snap.term, .int .i64 x.snap.sum, .int .i64 x.snap.level, .bool x.snap.final, .slice A x.log.length c, .int .i64 x.term, .int .i64 x.vote], .int .i64 i] w0 (.tuple #[.agg #[.int .i64 (Zca x.snap (x.log.take k)).index, .int .i64 (Zca x.snap (x.log.take k)).term, .int .i64 (Zca x.snap (x.log.take k)).sum, .int .i64 (Zca x.snap (x.log.take k)).level, .bool (Zca x.snap (x.log.take k)).final], .bool true]) := by
 refine PureC.mk ?_
 have hsm := hl.small
 have hle := hl.le
 have hcp := hl.cap
 have hkl : (x.log.take k).length = k := by rw [List.length_take]; omega
 have hrd : Rd w0 A (ens (x.log.take k)) := by
  have := hl.rd.take (3 * k)
  have e2 : (ens x.log).take (3 * k) = ens (x.log.take k) := by
   have := ens_app (x.log.take k) (x.log.drop k)
   rw [List.take_append_drop] at this
   rw [this, List.take_left' (by rw [ens_length, hkl])]
  rwa [e2] at this
 refine Yw Try.func70 rfl Try.ntmps70 rfl ?_
 have hS := St0.start All w0
 repeat (first | (apply Zd; intro K hK) | apply Zf)
 first | (apply Xe; refine Z9 rfl rfl rfl (by first | exact CellsOf.agg) hS (fun bt w hS hB => ?_))
 first | (apply Xp; refine Z6 rfl rfl (by first | exact zc_23) hS (fun bs w hS hB => ?_))
 repeat (first | apply Zg | (apply Zc; assumption) | (apply Yk; refine Za rfl rfl rfl (by first | exact Z4 rfl) ?_))
 refine wpC_scope 0 (fun y : SX => [(6, .slice y.A y.n y.c), (5, .bool false), (4, .pointer (some ⟨y.bs, 0, none⟩)), (2, .pointer (some ⟨y.bt, 0, none⟩)), (1, .int .i64 i)])
  (fun y w => y.j + y.n = k ∧ y.n ≤ y.c ∧ y.c ≤ maxLen ∧ Rd w0 y.A (ens ((x.log.take k).drop y.j)) ∧ St0 All w0 w [.box y.bs [.int .i64 (Zca x.snap (x.log.take y.j)).index, .int .i64 (Zca x.snap (x.log.take y.j)).term, .int .i64 (Zca x.snap (x.log.take y.j)).sum, .int .i64 (Zca x.snap (x.log.take y.j)).level, .bool (Zca x.snap (x.log.take y.j)).final] 23, .box y.bt [.int .i64 x.snap.index, .int .i64 x.snap.term, .int .i64 x.snap.sum, .int .i64 x.snap.level, .bool x.snap.final, .slice A x.log.length c, .int .i64 x.term, .int .i64 x.vote] 26])
  (fun y => y.n) rfl ?_ ?_
 ·rintro ⟨bt, bs, Aj, cj, j, n⟩ w ⟨hj, hcj, hcm, hrj, hS⟩
  dsimp only at hj hcj hcm hrj hS ⊢
  rcases Nat.eq_zero_or_pos n with rfl | hn
  ·obtain rfl : j = k := by omega
   repeat (first | apply Zg | (apply Zc; assumption) | (apply Zd; intro K hK) | apply Zf | (apply Yg; refine Zo rfl rfl rfl (by first | exact CellsOf.agg) hS (by repeat (first | exact Pos.head)) (by repeat (first | exact SetC.here (by repeat (first | exact Ovr.nil | apply Ovr.cons)))) (by kernel_rfl) rfl (fun w hS hB => ?_)) | (apply Yk; refine Za rfl rfl rfl (by first | exact Zn rfl | exact Z4 rfl | (apply Zy; first | exact Zj (by first | exact Yn) rfl (RW.here _) hS (by repeat (first | exact Has.head)) (by first | trivial) (by repeat (first | exact Seg.here (by repeat (first | exact Pre.zero | apply Pre.succ))))) | (apply Yi; first | exact Zde rfl rfl (by omega)) | (apply Zb3; first | exact Y1 (by first | exact Va) rfl)) ?_) | apply Yq rfl rfl | apply Zu | apply Zk | apply Yd)
   refine Zl rfl (by first | exact RV.cell rfl (Z3 (by first | exact Yn) hS (by repeat (first | exact Has.head)) (by repeat (first | exact Seg.here (by repeat (first | exact Pre.zero | apply Pre.succ))))) (RV.tmp rfl RV.nil)) rfl ?_
   exact ⟨rfl, hS.pure⟩
  ·obtain ⟨e, he⟩ : ∃ e, ((x.log.take k).drop j)[0]? = some e := ⟨_, List.getElem?_eq_getElem (by rw [List.length_drop]; omega)⟩
   obtain ⟨b1, o1, hA1, hb1, hr1⟩ := hrj.entR he
   subst hA1
   have htk : x.log.take (j + 1) = x.log.take j ++ [e] := by
    rw [List.getElem?_drop, List.getElem?_take] at he
    split at he
    ·rw [List.take_add_one]; rw [show x.log[j]? = some e from by simpa using he]; rfl
    ·cases he
   repeat (first | (apply Zc; assumption) | (apply Zd; intro K hK) | apply Zu)
   apply Zf
   repeat (first | apply Zg | (apply Zc; assumption) | (apply Zd; intro K hK) | (apply Yk; refine Za rfl rfl rfl (by first | exact Zn rfl | (apply Yi; first | exact Zdd rfl rfl (by omega)) | (apply Zb3; first | exact Y1 (by first | exact Va) rfl)) ?_) | apply Zs rfl rfl)
   refine Yo 9 [7] (fun i b => (i = 7 → b ≠ bs)) ⟨by kernel_rfl, by kernel_rfl⟩ hS (fun w hS hB => ?_)
   refine Zm [true, true, true, true] (by decide +kernel) (by repeat (first | exact PF.body | apply PF.then | apply PF.jump)) ?_
   repeat (first | refine LtK.put rfl rfl rfl (by first | exact Zdr (j := 0) (by first | exact Va) rfl rfl rfl (by omega) | exact Zn rfl | (apply Zy; first | exact Zj (by first | exact Yn | exact V3) rfl (RW.below _) hS (by repeat (first | exact Has.head | apply Has.tail)) (by first | trivial) (by repeat (first | exact Seg.here (by repeat (first | exact Pre.zero | apply Pre.succ)))) | exact Zc8 (by first | exact Yn | exact V3) rfl (RW.below _) hS (by first | trivial) (by first | trivial) (by assumption) (by rfl))) ?_)
   refine LtK.nil ?_
   refine Xz [false, false, false, false, false, true, true] [7] (fun b => b ≠ bs) (by decide +kernel) (by intro j hj b hb; simp only [List.mem_cons, List.not_mem_nil, or_false] at hj; (try rcases hj with rfl | rfl) <;> simp_all) (by repeat (first | exact PF.body | apply PF.then | apply PF.jump)) ?_
   repeat (first | refine LtK.put rfl rfl rfl (by first | exact yv_slice_l (l := 1) (by first | exact Va) rfl rfl rfl (by omega) | exact Zn rfl) ?_)
   refine LtK.nil ?_
   refine Z7 [false, false, false, false, true] 4 ⟨by decide, by kernel_rfl, by kernel_rfl⟩ rfl rfl ?_
   dsimp only [Z2]
   repeat (first | apply Zg | (apply Yh; first | refine Yr rfl rfl rfl (by kernel_rfl) rfl (next_p _ _ _) hS (fun w hS hB => ?_)))
   refine Yf (by first | assumption) ?_
   refine Xh [false, false, false, false, false, false, false, true] 7 ⟨by decide, by kernel_rfl, by kernel_rfl⟩ rfl rfl ?_
   dsimp only [Z2]
   repeat (first | apply Zg | (apply Yg; refine Zo rfl rfl rfl (by first | exact CellsOf.agg) hS (by repeat (first | exact Pos.head)) (by repeat (first | exact SetC.here (by repeat (first | exact Ovr.nil | apply Ovr.cons)))) (by kernel_rfl) rfl (fun w hS hB => ?_)))
   refine Xc (by first | exact hB.sub (fun _ _ h => by simpa using h)) ?_
   refine Zm [false, false, false, false, false, false, false, false, true] (by decide +kernel) (by repeat (first | exact PF.body | apply PF.then | apply PF.jump)) ?_
   repeat (first | refine LtK.put rfl rfl rfl (by first | exact Z4 rfl) ?_)
   refine LtK.nil ?_
   refine Z8 (by kernel_rfl) ?_
   repeat (first | (apply Zc; assumption) | apply Vv | apply Xr)
   refine QH_jump ⟨bt, bs, _, _, j + 1, n - 1⟩ (by repeat (first | exact Sub.nil | refine Sub.cons rfl ?_)) ⟨by dsimp only; omega, by dsimp only; omega, by dsimp only; omega, ?_, ?_⟩ (by dsimp only; omega)
   ·dsimp only
    have h3 := hrj.cutE (k := 1) (c := cj) (by rw [List.length_drop, hkl]; omega)
    rwa [List.drop_drop] at h3
   ·dsimp only
    rw [htk, allS_snoc]
    exact hS
 ·intro hpass
  repeat (first | apply Zg | (apply Zc; assumption) | (apply Zd; intro K hK) | apply Zf | (apply Yg; refine Zo rfl rfl rfl (by first | exact CellsOf.agg) hS (by repeat (first | exact Pos.head)) (by repeat (first | exact SetC.here (by repeat (first | exact Ovr.nil | apply Ovr.cons)))) (by kernel_rfl) rfl (fun w hS hB => ?_)) | (apply Yh; first | refine Yr rfl rfl rfl (by kernel_rfl) rfl (last_any _ _ _ _ _ _ _ (by omega) (by omega)) hS (fun w hS hB => ?_)) | (apply Yk; refine Za rfl rfl rfl (by first | exact yv_slice_h (h := k) (by first | exact Va) rfl rfl (by omega) (by omega) | exact Zn rfl | exact Z4 rfl | exact Ze (by first | exact Z5 | exact Yx | exact X5) rfl | (apply Zy; first | exact Zh (by first | exact Zx | exact V8) rfl (RW.here _) hS (by repeat (first | exact Has.head | apply Has.tail)) (by first | trivial) (by repeat (first | exact Seg.here (Pre.succ Pre.zero) | apply Seg.succ)) | exact Zj (by first | exact Yn | exact Xg) rfl (RW.here _) hS (by repeat (first | exact Has.head | apply Has.tail)) (by first | trivial) (by repeat (first | exact Seg.here (by repeat (first | exact Pre.zero | apply Pre.succ))))) | (apply Yi; first | exact yv_lss_f rfl rfl (by omega) | exact Zde rfl rfl (by omega) | exact yv_sub rfl rfl (by omega)) | (apply Ys; first | exact Zz rfl rfl rfl)) ?_) | apply Yq rfl rfl | apply Zu)
  apply Zc2
  apply Zc
  assumption
  rcases Nat.eq_zero_or_pos k with hk0 | hn
  ·repeat (first | apply Zg | (apply Zc; assumption) | (apply Zd; intro K hK) | apply Zf | (apply Yg; refine Zo rfl rfl rfl (by first | exact CellsOf.agg) hS (by repeat (first | exact Pos.head)) (by repeat (first | exact SetC.here (by repeat (first | exact Ovr.nil | apply Ovr.cons)))) (by kernel_rfl) rfl (fun w hS hB => ?_)) | (apply Yk; refine Za rfl rfl rfl (by first | exact Zn rfl | exact Z4 rfl | (apply Zy; first | exact Zj (by first | exact Yn) rfl (RW.here _) hS (by repeat (first | exact Has.head)) (by first | trivial) (by repeat (first | exact Seg.here (by repeat (first | exact Pre.zero | apply Pre.succ))))) | (apply Yi; first | exact Zde rfl rfl (by omega)) | (apply Zb3; first | exact Y1 (by first | exact Va) rfl)) ?_) | apply Yq rfl rfl | apply Zu | apply Zk | apply Yd)
   refine Zl rfl (by first | exact RV.cell rfl (Z3 (by first | exact Yn) hS (by repeat (first | exact Has.head)) (by repeat (first | exact Seg.here (by repeat (first | exact Pre.zero | apply Pre.succ))))) (RV.tmp rfl RV.nil)) rfl ?_
   subst hk0
   exact ⟨rfl, hS.pure⟩
  ·obtain ⟨e, he⟩ : ∃ e, (x.log.take k)[0]? = some e := ⟨_, List.getElem?_eq_getElem (by omega)⟩
   obtain ⟨b1, o1, hA1, hb1, hr1⟩ := hrd.entR he
   subst hA1
   have htk : x.log.take 1 = [e] := by
    rw [List.getElem?_take, if_pos hn] at he
    rw [List.take_add_one, he]; rfl
   repeat (first | (apply Zd; intro K hK))
   apply Zf
   repeat (first | apply Zg | (apply Zc; assumption) | (apply Zd; intro K hK) | (apply Yk; refine Za rfl rfl rfl (by first | exact Zn rfl | (apply Yi; first | exact Zdd rfl rfl (by omega)) | (apply Zb3; first | exact Y1 (by first | exact Va) rfl)) ?_) | apply Zs rfl rfl)
   refine Yo 9 [7] (fun i b => (i = 7 → b ≠ bs)) ⟨by kernel_rfl, by kernel_rfl⟩ hS (fun w hS hB => ?_)
   refine Zm [true, true, true, true] (by decide +kernel) (by repeat (first | exact PF.body | apply PF.then | apply PF.jump)) ?_
   repeat (first | refine LtK.put rfl rfl rfl (by first | exact Zdr (j := 0) (by first | exact Va) rfl rfl rfl (by omega) | exact Zn rfl | (apply Zy; first | exact Zj (by first | exact Yn | exact V3) rfl (RW.below _) hS (by repeat (first | exact Has.head | apply Has.tail)) (by first | trivial) (by repeat (first | exact Seg.here (by repeat (first | exact Pre.zero | apply Pre.succ)))) | exact Zc8 (by first | exact Yn | exact V3) rfl (RW.below _) hS (by first | trivial) (by first | trivial) (by assumption) (by rfl))) ?_)
   refine LtK.nil ?_
   refine Xz [false, false, false, false, false, true, true] [7] (fun b => b ≠ bs) (by decide +kernel) (by intro j hj b hb; simp only [List.mem_cons, List.not_mem_nil, or_false] at hj; (try rcases hj with rfl | rfl) <;> simp_all) (by repeat (first | exact PF.body | apply PF.then | apply PF.jump)) ?_
   repeat (first | refine LtK.put rfl rfl rfl (by first | exact yv_slice_l (l := 1) (by first | exact Va) rfl rfl rfl (by omega) | exact Zn rfl) ?_)
   refine LtK.nil ?_
   refine Z7 [false, false, false, false, true] 4 ⟨by decide, by kernel_rfl, by kernel_rfl⟩ rfl rfl ?_
   dsimp only [Z2]
   repeat (first | apply Zg | (apply Yh; first | refine Yr rfl rfl rfl (by kernel_rfl) rfl (next_p _ _ _) hS (fun w hS hB => ?_)))
   refine Yf (by first | assumption) ?_
   refine Xh [false, false, false, false, false, false, false, true] 7 ⟨by decide, by kernel_rfl, by kernel_rfl⟩ rfl rfl ?_
   dsimp only [Z2]
   repeat (first | apply Zg | (apply Yg; refine Zo rfl rfl rfl (by first | exact CellsOf.agg) hS (by repeat (first | exact Pos.head)) (by repeat (first | exact SetC.here (by repeat (first | exact Ovr.nil | apply Ovr.cons)))) (by kernel_rfl) rfl (fun w hS hB => ?_)))
   refine Xc (by first | exact hB.sub (fun _ _ h => by simpa using h)) ?_
   refine Zm [false, false, false, false, false, false, false, false, true] (by decide +kernel) (by repeat (first | exact PF.body | apply PF.then | apply PF.jump)) ?_
   repeat (first | refine LtK.put rfl rfl rfl (by first | exact Z4 rfl) ?_)
   refine LtK.nil ?_
   refine Z8 (by kernel_rfl) ?_
   repeat (first | (apply Zc; assumption) | apply Vv | apply Xr)
   refine QH_jump0 ⟨bt, bs, _, _, 1, k - 1⟩ (by repeat (first | exact Sub.nil | refine Sub.cons rfl ?_)) ⟨by dsimp only; omega, by dsimp only; omega, by dsimp only; omega, ?_, ?_⟩
   ·dsimp only
    exact hrd.cutE (k := 1) (c := c) (by omega)
   ·dsimp only
    rw [htk]
    exact hS
theorem state_no (x : Tu) (A : Option Addr) (c : Nat) (w0 : World) (h : -2000000000000 ≤ x.snap.index ∧ x.snap.index ≤ 2000000000000) (hsm : x.log.length ≤ 1000000) (i : Int) (hi : i < x.snap.index ∨ x.snap.index + x.log.length < i) :
  PureC Try.prog 70 #[.agg #[.int .i64 x.snap.index, .int .i64 x.snap.term, .int .i64 x.snap.sum, .int .i64 x.snap.level, .bool x.snap.final, .slice A x.log.length c, .int .i64 x.term, .int .i64 x.vote], .int .i64 i] w0 (.tuple #[.agg #[.int .i64 0, .int .i64 0, .int .i64 0, .int .i64 0, .bool false], .bool false]) := by
 refine PureC.mk ?_
 refine Yw Try.func70 rfl Try.ntmps70 rfl ?_
 have hS := St0.start All w0
 repeat (first | apply Zg | (apply Zc; assumption) | (apply Zd; intro K hK) | apply Zf | (apply Xe; refine Z9 rfl rfl rfl (by first | exact CellsOf.agg) hS (fun b w hS hB => ?_)) | (apply Xp; refine Z6 rfl rfl (by first | exact zc_23) hS (fun b w hS hB => ?_)) | (apply Yk; refine Za rfl rfl rfl (by first | exact Z4 rfl) ?_))
 refine wpC_scope 0 (X := Unit) (fun _ => []) (fun _ _ => False) (fun _ => 0) rfl (fun _ _ h => h.elim) ?_
 intro hpass
 by_cases h1 : i < x.snap.index
 ·repeat (first | apply Zg | (apply Zc; assumption) | (apply Zd; intro K hK) | apply Zf | (apply Yk; refine Yz rfl rfl rfl ?_) | (apply Yg; refine Zo rfl rfl rfl (by first | exact CellsOf.agg) hS (by repeat (first | exact Pos.head)) (by repeat (first | exact SetC.here (by repeat (first | exact Ovr.nil | apply Ovr.cons)))) (by kernel_rfl) rfl (fun w hS hB => ?_)) | (apply Yk; refine Za rfl rfl rfl (by first | exact Zn rfl | exact Z4 rfl | exact Ze (by first | exact Z5 | exact Yx) rfl | (apply Zy; first | exact Zh (by first | exact Zx) rfl (RW.here _) hS (by repeat (first | exact Has.head | apply Has.tail)) (by first | trivial) (by repeat (first | exact Seg.here (Pre.succ Pre.zero))) | exact Zj (by first | exact Yn) rfl (RW.here _) hS (by repeat (first | exact Has.head)) (by first | trivial) (by repeat (first | exact Seg.here (by repeat (first | exact Pre.zero | apply Pre.succ))))) | (apply Yi; first | exact yv_lss_t rfl rfl (by omega)) | (apply Ys; first | exact Zw rfl rfl rfl)) ?_) | apply Zs rfl rfl | apply Zk | apply Zi | apply Yd)
  refine Zl rfl (by first | exact RV.cell rfl (Z3 (by first | exact Yn) hS (by repeat (first | exact Has.head)) (by repeat (first | exact Seg.here (by repeat (first | exact Pre.zero | apply Pre.succ))))) (RV.tmp rfl RV.nil)) rfl ?_
  exact ⟨rfl, hS.pure⟩
 ·have h2 : x.snap.index + x.log.length < i := by omega
  repeat (first | apply Zg | (apply Zc; assumption) | (apply Zd; intro K hK) | apply Zf | (apply Yg; refine Zo rfl rfl rfl (by first | exact CellsOf.agg) hS (by repeat (first | exact Pos.head)) (by repeat (first | exact SetC.here (by repeat (first | exact Ovr.nil | apply Ovr.cons)))) (by kernel_rfl) rfl (fun w hS hB => ?_)) | (apply Yh; first | refine Yr rfl rfl rfl (by kernel_rfl) rfl (last_any _ _ _ _ _ _ _ (by omega) (by omega)) hS (fun w hS hB => ?_)) | (apply Yk; refine Za rfl rfl rfl (by first | exact Zn rfl | exact Z4 rfl | exact Ze (by first | exact Z5 | exact Yx) rfl | (apply Zy; first | exact Zh (by first | exact Zx) rfl (RW.here _) hS (by repeat (first | exact Has.head | apply Has.tail)) (by first | trivial) (by repeat (first | exact Seg.here (Pre.succ Pre.zero))) | exact Zj (by first | exact Yn | exact Xg) rfl (RW.here _) hS (by repeat (first | exact Has.head | apply Has.tail)) (by first | trivial) (by repeat (first | exact Seg.here (by repeat (first | exact Pre.zero | apply Pre.succ))))) | (apply Yi; first | exact yv_lss_f rfl rfl (by omega) | exact Zdd rfl rfl (by omega)) | (apply Ys; first | exact Zz rfl rfl rfl)) ?_) | apply Zs rfl rfl | apply Zk | apply Zi | apply Yd)
  refine Zl rfl (by first | exact RV.cell rfl (Z3 (by first | exact Yn) hS (by repeat (first | exact Has.head)) (by repeat (first | exact Seg.here (by repeat (first | exact Pre.zero | apply Pre.succ))))) (RV.tmp rfl RV.nil)) rfl ?_
  exact ⟨rfl, hS.pure⟩
end Go.Proofs.Ytenagnncpaabdaa
namespace Go.Proofs.Ytenagnncpaabdaa
open Go Go.RowKit
set_option maxRecDepth 100000
theorem SlI.li {w : World} {A : Option Addr} {c : Nat} {l : List En} (h : SlI w Jv A c l) (hn : l.length ≤ 1000000) : LI w A l.length c l := ⟨rfl, hn, h.le, h.cap, h.rd⟩
theorem Sl.st0 {w w' : World} {A : Option Addr} {n c k : Nat} {xs : List Value} (hs : Sl w w' A n c k xs) (hB : Below w.heap.size w w') : St0 All w w' [.rd A xs] := (St0.start All w).slice hs hB
theorem PureC.st0 {P : Program} {f : Nat} {args : Array Value} {w : World} {v : Value} (h : PureC P f args w v) : Calls P f args w fun e w' => e = .returned v ∧ St0 All w w' [] := h.run.mono fun _ _ h => ⟨h.1, (St0.start All w).below h.2⟩
theorem calls_st0 {P : Program} {f : Nat} {args : Array Value} {w : World} {v : Value} (h : Calls P f args w fun e w' => e = .returned v ∧ Below w.heap.size w w') : Calls P f args w fun e w' => e = .returned v ∧ St0 All w w' [] := h.mono fun _ _ h => ⟨h.1, (St0.start All w).below h.2⟩
def okT (x : Tu) : Bool := decide (x.log.length ≤ 1000000 ∧ -2000000000000 ≤ x.snap.index ∧ x.snap.index ≤ 2000000000000)
theorem okT_iff {x : Tu} : okT x = true ↔ x.log.length ≤ 1000000 ∧ -2000000000000 ≤ x.snap.index ∧ x.snap.index ≤ 2000000000000 := decide_eq_true_iff
def Zfi (e : En) : Option Bool := some (V9 e)
theorem c_entry_Right (x0 : En) (w0 : World) {r : Bool} (H : Zfi x0 = some r) : Calls Try.prog 94 #[.agg #[.int .i64 x0.term, .int .i64 x0.kind, .int .i64 x0.value]] w0 fun e w' => e = .returned (.bool r) ∧ St0 All w0 w' [] := by
 obtain rfl := Option.some.inj H
 exact calls_st0 (Zen x0 w0)
def Zcn (x : Tu) : Option Bool := cond (okT x) (some (Jo x)) none
theorem c_tuple_Right (x0 : Tu) (A0 : Option Addr) (c0 : Nat) (w0 : World) (s0 : SlI w0 Jv A0 c0 x0.log) {r : Bool} (H : Zcn x0 = some r) : Calls Try.prog 68 #[.agg #[.int .i64 x0.snap.index, .int .i64 x0.snap.term, .int .i64 x0.snap.sum, .int .i64 x0.snap.level, .bool x0.snap.final, .slice A0 x0.log.length c0, .int .i64 x0.term, .int .i64 x0.vote]] w0 fun e w' => e = .returned (.bool r) ∧ St0 All w0 w' [] := by
 unfold Zcn at H
 cases hb : okT x0 with
 | false => rw [hb] at H; cases H
 | true =>
  rw [hb] at H
  obtain rfl := Option.some.inj H
  have h := okT_iff.1 hb
  exact (right_any2 x0.snap A0 x0.log.length c0 x0.log x0.term x0.vote w0 (s0.li h.1) h.2 s0.blk).st0
def Jm (x : Tu) (i : Int) : Option (St × Bool) := cond (okT x) (cond (decide (x.snap.index ≤ i ∧ i ≤ x.snap.index + x.log.length)) (some (Zca x.snap (x.log.take (i - x.snap.index).toNat), true)) (some (⟨0, 0, 0, 0, false⟩, false))) none
theorem c_tuple_State (x0 : Tu) (x1 : Int) (A0 : Option Addr) (c0 : Nat) (w0 : World) (s0 : SlI w0 Jv A0 c0 x0.log) {r : St × Bool} (H : Jm x0 x1 = some r) : Calls Try.prog 70 #[.agg #[.int .i64 x0.snap.index, .int .i64 x0.snap.term, .int .i64 x0.snap.sum, .int .i64 x0.snap.level, .bool x0.snap.final, .slice A0 x0.log.length c0, .int .i64 x0.term, .int .i64 x0.vote], .int .i64 x1] w0 fun e w' => e = .returned (.tuple #[.agg #[.int .i64 r.1.index, .int .i64 r.1.term, .int .i64 r.1.sum, .int .i64 r.1.level, .bool r.1.final], .bool r.2]) ∧ St0 All w0 w' [] := by
 unfold Jm at H
 cases hb : okT x0 with
 | false => rw [hb] at H; cases H
 | true =>
  rw [hb] at H
  have h := okT_iff.1 hb
  by_cases hi : x0.snap.index ≤ x1 ∧ x1 ≤ x0.snap.index + x0.log.length
  ·rw [decide_eq_true hi] at H
   obtain rfl := Option.some.inj H
   exact (state_yes x0 A0 c0 (x1 - x0.snap.index).toNat w0 h.2 (s0.li h.1) x1 (by omega) (by omega)).st0
  ·rw [decide_eq_false hi] at H
   obtain rfl := Option.some.inj H
   exact (state_no x0 A0 c0 w0 h.2 h.1 x1 (by omega)).st0
def Ze4 (x : Tu) (res : Option Tu) : Tu × Int := (Zbj x res, Ze0 x res)
theorem chg_st0 {w0 : World} {x : Tu} {res : Option Tu} {e : Ending} {w' : World} (h : Chg w0 x res e w') : ∃ (A0 : Option Addr) (c0 : Nat), e = .returned (.tuple #[.agg #[.int .i64 (Ze4 x res).1.snap.index, .int .i64 (Ze4 x res).1.snap.term, .int .i64 (Ze4 x res).1.snap.sum, .int .i64 (Ze4 x res).1.snap.level, .bool (Ze4 x res).1.snap.final, .slice A0 (Ze4 x res).1.log.length c0, .int .i64 (Ze4 x res).1.term, .int .i64 (Ze4 x res).1.vote], .int .i64 (Ze4 x res).2]) ∧ ((Ze4 x res).1.log.length ≤ c0 ∧ c0 ≤ maxLen) ∧ St0 All w0 w' [.rd A0 (Ym Jv (Ze4 x res).1.log)] := by
 obtain ⟨A, c, ⟨rfl, hs⟩, hB⟩ := h
 exact ⟨A, c, rfl, ⟨hs.le, hs.cap⟩, hs.st0 hB⟩
def Zdc (x : Tu) (s : St) : Option (Tu × Int) := cond (decide (x.log.length ≤ 1000000)) (some (Ze4 x (Zay x s))) none
theorem c_tuple_Save (x0 : Tu) (x1 : St) (A0 : Option Addr) (c0 : Nat) (w0 : World) (s0 : SlI w0 Jv A0 c0 x0.log) {r : Tu × Int} (H : Zdc x0 x1 = some r) : Calls Try.prog 43 #[.agg #[.int .i64 x0.snap.index, .int .i64 x0.snap.term, .int .i64 x0.snap.sum, .int .i64 x0.snap.level, .bool x0.snap.final, .slice A0 x0.log.length c0, .int .i64 x0.term, .int .i64 x0.vote], .agg #[.int .i64 x1.index, .int .i64 x1.term, .int .i64 x1.sum, .int .i64 x1.level, .bool x1.final]] w0 fun e w' => ∃ (A0 : Option Addr) (c0 : Nat), e = .returned (.tuple #[.agg #[.int .i64 r.1.snap.index, .int .i64 r.1.snap.term, .int .i64 r.1.snap.sum, .int .i64 r.1.snap.level, .bool r.1.snap.final, .slice A0 r.1.log.length c0, .int .i64 r.1.term, .int .i64 r.1.vote], .int .i64 r.2]) ∧ (r.1.log.length ≤ c0 ∧ c0 ≤ maxLen) ∧ St0 All w0 w' [.rd A0 (Ym Jv r.1.log)] := by
 unfold Zdc at H
 by_cases h : x0.log.length ≤ 1000000
 ·rw [decide_eq_true h] at H
  obtain rfl := Option.some.inj H
  exact (save_any x0 A0 c0 x1 w0 (s0.li h) s0.blk).mono fun _ _ h => chg_st0 h
 ·rw [decide_eq_false h] at H; cases H
def Zbb (x : Tu) (s : St) : Option (Tu × Int) := cond (decide (x.log.length ≤ 1000000)) (some (Ze4 x (Zc7 x s))) none
theorem c_tuple_Install (x0 : Tu) (x1 : St) (A0 : Option Addr) (c0 : Nat) (w0 : World) (s0 : SlI w0 Jv A0 c0 x0.log) {r : Tu × Int} (H : Zbb x0 x1 = some r) : Calls Try.prog 32 #[.agg #[.int .i64 x0.snap.index, .int .i64 x0.snap.term, .int .i64 x0.snap.sum, .int .i64 x0.snap.level, .bool x0.snap.final, .slice A0 x0.log.length c0, .int .i64 x0.term, .int .i64 x0.vote], .agg #[.int .i64 x1.index, .int .i64 x1.term, .int .i64 x1.sum, .int .i64 x1.level, .bool x1.final]] w0 fun e w' => ∃ (A0 : Option Addr) (c0 : Nat), e = .returned (.tuple #[.agg #[.int .i64 r.1.snap.index, .int .i64 r.1.snap.term, .int .i64 r.1.snap.sum, .int .i64 r.1.snap.level, .bool r.1.snap.final, .slice A0 r.1.log.length c0, .int .i64 r.1.term, .int .i64 r.1.vote], .int .i64 r.2]) ∧ (r.1.log.length ≤ c0 ∧ c0 ≤ maxLen) ∧ St0 All w0 w' [.rd A0 (Ym Jv r.1.log)] := by
 unfold Zbb at H
 by_cases h : x0.log.length ≤ 1000000
 ·rw [decide_eq_true h] at H
  obtain rfl := Option.some.inj H
  exact (install_any x0 A0 c0 x1 w0 (s0.li h) s0.blk).mono fun _ _ h => chg_st0 h
 ·rw [decide_eq_false h] at H; cases H
def Zby (x : Tu) (t v : Int) : Option (Tu × Int) := cond (decide (x.log.length ≤ 1000000)) (some (Ze4 x (hardR x t v))) none
theorem c_tuple_Hard (x0 : Tu) (x1 x2 : Int) (A0 : Option Addr) (c0 : Nat) (w0 : World) (s0 : SlI w0 Jv A0 c0 x0.log) {r : Tu × Int} (H : Zby x0 x1 x2 = some r) : Calls Try.prog 84 #[.agg #[.int .i64 x0.snap.index, .int .i64 x0.snap.term, .int .i64 x0.snap.sum, .int .i64 x0.snap.level, .bool x0.snap.final, .slice A0 x0.log.length c0, .int .i64 x0.term, .int .i64 x0.vote], .int .i64 x1, .int .i64 x2] w0 fun e w' => ∃ (A0 : Option Addr) (c0 : Nat), e = .returned (.tuple #[.agg #[.int .i64 r.1.snap.index, .int .i64 r.1.snap.term, .int .i64 r.1.snap.sum, .int .i64 r.1.snap.level, .bool r.1.snap.final, .slice A0 r.1.log.length c0, .int .i64 r.1.term, .int .i64 r.1.vote], .int .i64 r.2]) ∧ (r.1.log.length ≤ c0 ∧ c0 ≤ maxLen) ∧ St0 All w0 w' [.rd A0 (Ym Jv r.1.log)] := by
 unfold Zby at H
 by_cases h : x0.log.length ≤ 1000000
 ·rw [decide_eq_true h] at H
  obtain rfl := Option.some.inj H
  exact (hard_any x0 A0 c0 x1 x2 w0 (s0.li h) s0.blk).mono fun _ _ h => chg_st0 h
 ·rw [decide_eq_false h] at H; cases H
end Go.Proofs.Ytenagnncpaabdaa
namespace Go.Proofs.Ytenagnncpaabdaa
open Go Go.RowKit
set_option maxRecDepth 100000
theorem FineP.bounds {s : St} (h : FineP s) : 0 ≤ s.index ∧ s.index ≤ 1073741824 ∧ 0 ≤ s.sum ∧ s.sum ≤ 1073741824 := by
 rcases h with rfl | h
 ·simp [firstS]
 ·omega
theorem next_data (s : St) (hf : FineP s) (hi : s.index < 1073741824) (v : Int) (h0 : 0 ≤ v) (h1 : v ≤ 1073741824) : Jh s ⟨1, 1, v⟩ = ⟨s.index + 1, 1, (31 * s.sum + v + 1) % 1073741824, s.level, s.final⟩ := by
 unfold Jh
 rw [if_pos ⟨by simp [V9, h0, h1], (Zak s).2 hf, hi⟩]
 rfl
def SumInv (l : List Int) (q : Nat) (value : Int) (s : St) (k : Nat) (a b : St) : Prop :=
 FineP a ∧ FineP b ∧ a.index = s.index + k ∧ b.index = s.index + k ∧ (k ≤ q → a = b) ∧
  (q < k → a.sum < 1073741824 ∧ b.sum < 1073741824 ∧ ∃ x, l[q]? = some x ∧ 0 ≤ x ∧ x ≤ 999 ∧
   ((k = q + 1 ∧ (a.sum - b.sum - (x - value)) % 1073741824 = 0) ∨ (k = q + 2 ∧ (a.sum - b.sum - 31 * (x - value)) % 1073741824 = 0) ∨ (k = q + 3 ∧ (a.sum - b.sum - 961 * (x - value)) % 1073741824 = 0)))
theorem SumInv.start (l : List Int) (q : Nat) (value : Int) (s : St) (h : FineP s) : SumInv l q value s 0 s s := ⟨h, h, by simp, by simp, fun _ => rfl, fun h => by omega⟩
theorem SumInv.step {l : List Int} {q : Nat} {value : Int} {s : St} {k : Nat} {a b : St} (h : SumInv l q value s k a b) (hs : s.index ≤ 1073741624) (hk : k < 3) (v : Int) (hv : l[k]? = some v) (h0 : 0 ≤ v) (h1 : v ≤ 999) (g0 : 0 ≤ value) (g1 : value ≤ 999) :
  SumInv l q value s (k + 1) (Jh a ⟨1, 1, v⟩) (Jh b ⟨1, 1, if k = q then value else v⟩) := by
 obtain ⟨fa, fb, ia, ib, he, hd⟩ := h
 refine ⟨nextS_fine _ _ fa, nextS_fine _ _ fb, ?_⟩
 have va : 0 ≤ (if k = q then value else v) ∧ (if k = q then value else v) ≤ 999 := by split <;> omega
 rw [next_data a fa (by omega) v h0 (by omega), next_data b fb (by omega) _ va.1 (by omega)]
 refine ⟨by show a.index + 1 = _; omega, by show b.index + 1 = _; omega, fun hkq => ?_, fun hkq => ?_⟩
 ·rw [if_neg (by omega), he (by omega)]
 ·refine ⟨by show _ % _ < _; omega, by show _ % _ < _; omega, ?_⟩
  by_cases e : k = q
  ·subst e
   refine ⟨v, hv, h0, h1, .inl ⟨rfl, ?_⟩⟩
   rw [if_pos rfl, he (by omega)]
   show ((31 * b.sum + v + 1) % 1073741824 - (31 * b.sum + value + 1) % 1073741824 - (v - value)) % 1073741824 = 0
   omega
  ·obtain ⟨_, _, x, hx, x0, x1, hh⟩ := hd (by omega)
   refine ⟨x, hx, x0, x1, ?_⟩
   rw [if_neg e]
   have goal : ∀ c : Int, (a.sum - b.sum - c) % 1073741824 = 0 → ((31 * a.sum + v + 1) % 1073741824 - (31 * b.sum + v + 1) % 1073741824 - 31 * c) % 1073741824 = 0 := fun c hc => by omega
   rcases hh with ⟨rfl, hh⟩ | ⟨rfl, hh⟩ | ⟨rfl, hh⟩
   ·exact .inr (.inl ⟨rfl, goal _ hh⟩)
   ·refine .inr (.inr ⟨rfl, ?_⟩)
    have := goal _ hh
    show ((31 * a.sum + v + 1) % 1073741824 - (31 * b.sum + v + 1) % 1073741824 - 961 * (x - value)) % 1073741824 = 0
    omega
   ·omega
theorem SumInv.last {l : List Int} {q : Nat} {value : Int} {s : St} {k : Nat} {a b : St} (h : SumInv l q value s k a b) (hq : q < k) (g0 : 0 ≤ value) (g1 : value ≤ 999) {x : Int} (hx : l[q]? = some x) :
  ((a.sum == b.sum) == (x == value)) = true := by
 obtain ⟨fa, fb, _, _, _, hd⟩ := h
 obtain ⟨la, lb, x', hx', x0, x1, hh⟩ := hd hq
 rw [hx] at hx'
 obtain rfl := Option.some.inj hx'
 have ba := fa.bounds
 have bb := fb.bounds
 rw [beq_iff_eq, Bool.eq_iff_iff, beq_iff_eq, beq_iff_eq]
 omega
end Go.Proofs.Ytenagnncpaabdaa
namespace Go.Proofs.Ytenagnncpaabdaa
open Go Go.RowKit
set_option maxRecDepth 100000
theorem next_right (s : St) (e : En) (hf : FineP s) (hi : s.index < 1073741824) (hr : V9 e = true) : Jh s e = Zb7 e.kind e.value { s with index := s.index + 1, term := e.term } :=
 if_pos ⟨hr, (Zak s).2 hf, hi⟩
theorem next_parts (s : St) (e : En) (hf : FineP s) (hi : s.index < 1073741824) (hr : V9 e = true) :
  (Jh s e).index = s.index + 1 ∧ (Jh s e).term = e.term ∧ (e.kind ≠ 1 → (Jh s e).sum = s.sum) ∧ (e.kind = 0 ∨ e.kind = 1 → (Jh s e).level = s.level ∧ (Jh s e).final = s.final) := by
 rw [next_right s e hf hi hr, deedS_index, deedS_term]
 refine ⟨rfl, rfl, fun h => ?_, fun h => ?_⟩
 ·unfold Zb7
  rw [if_neg h]
  repeat' split
  all_goals rfl
 ·unfold Zb7
  rcases h with h | h <;> rw [h] <;> simp
end Go.Proofs.Ytenagnncpaabdaa
namespace Go.Proofs.Ytenagnncpaabdaa
end Go.Proofs.Ytenagnncpaabdaa
namespace Go.Proofs.Ytenagnncpaabdaa
open Go Go.RowKit
set_option maxRecDepth 100000
end Go.Proofs.Ytenagnncpaabdaa
namespace Go.Proofs.Ytenagnncpaabdaa
open Go Go.RowKit Go.Shelf
set_option maxRecDepth 100000
attribute [local go_sem] Oper.semAt_some
end Go.Proofs.Ytenagnncpaabdaa
namespace Go.Proofs.Ytenagnncpaabdaa
open Go Go.RowKit Go.Shelf
set_option maxRecDepth 100000
theorem run_store_func {P : Program} {w : World} {a : Addr} (f : Fn) (vs bs : Array Value) (m : Mode) : (store a (.func f vs bs) m).run P w = stored P w a (.func f vs bs) m := run_store P w a _ m rfl
attribute [local go_sem] run_store_func
end Go.Proofs.Ytenagnncpaabdaa
namespace Go.Proofs.Ytenagnncpaabdaa
open Go Go.RowKit Go.Shelf
set_option maxRecDepth 100000
end Go.Proofs.Ytenagnncpaabdaa
namespace Go.Proofs.Ytenagnncpaabdaa
open Go Go.RowKit
set_option maxRecDepth 100000
end Go.Proofs.Ytenagnncpaabdaa
namespace Go.Proofs.Ytenagnncpaabdaa
open Go Go.RowKit
set_option maxRecDepth 100000
theorem Zbp {n : Int} (h : -9223372036854775808 ≤ n ∧ n ≤ 9223372036854775807) : IntKind.wrap .i64 n = n := i64_in' h
theorem Zan {α : Type} (l : List α) (k : Nat) : idx l (k : Int) = l[k]? := by unfold idx; simp
theorem takeI_nat {α : Type} (l : List α) (k : Nat) (h : k ≤ l.length) : takeI l (k : Int) = some (l.take k) := by unfold takeI; rw [if_pos (by omega)]; simp
theorem Ze3 {α : Type} (l : List α) (h : l.length ≤ 1000000000) : Zfc l = some l := if_pos h
theorem makeI_nat {α : Type} (z : α) (n : Nat) (h : n ≤ 1000000000) : makeI z (n : Int) = some (List.replicate n z) := by unfold makeI; rw [if_pos (by omega)]; simp
theorem Xw {α : Type} {l : List α} {k : Nat} (h : k < l.length) : ∃ e, l[k]? = some e ∧ l.drop k = e :: l.drop (k + 1) := ⟨l[k], List.getElem?_eq_getElem h, List.drop_eq_getElem_cons h⟩
theorem snap_eq (a b : St) : (decide (a.index = b.index) && (decide (a.term = b.term) && (decide (a.sum = b.sum) && (decide (a.level = b.level) && decide (a.final = b.final))))) = decide (a = b) := by
 obtain ⟨a1, a2, a3, a4, a5⟩ := a; obtain ⟨b1, b2, b3, b4, b5⟩ := b
 rw [Bool.eq_iff_iff]; simp
theorem en_eq (a b : En) : (decide (a.term = b.term) && (decide (a.kind = b.kind) && decide (a.value = b.value))) = decide (a = b) := by
 obtain ⟨a1, a2, a3⟩ := a; obtain ⟨b1, b2, b3⟩ := b
 rw [Bool.eq_iff_iff]; simp
end Go.Proofs.Ytenagnncpaabdaa
namespace Go.Proofs.Ytenagnncpaabdaa
open Go Go.RowKit
set_option maxRecDepth 100000
end Go.Proofs.Ytenagnncpaabdaa
namespace Go.Proofs.Ytenagnncpaabdaa
open Go Go.RowKit
set_option maxRecDepth 100000
theorem St0.three {S : Nat → Prop} {w : World} {b1 b2 b3 T1 T2 T3 : Nat} {c1 c2 c3 : List Value} (h1 : w.heap[b1]? = some (.cells c1.toArray T1)) (h2 : w.heap[b2]? = some (.cells c2.toArray T2)) (h3 : w.heap[b3]? = some (.cells c3.toArray T3)) (n12 : b1 ≠ b2) (n13 : b1 ≠ b3) (n23 : b2 ≠ b3) (s1 : ¬ S b1) (s2 : ¬ S b2) (s3 : ¬ S b3) :
  St0 S w w [.box b1 c1 T1, .box b2 c2 T2, .box b3 c3 T3] := by
 have lt : ∀ {b T : Nat} {c : List Value}, w.heap[b]? = some (.cells c.toArray T) → b < w.heap.size := fun h => (Array.getElem?_eq_some_iff.1 h).1
 refine ⟨KeepB.refl _ _, fun e he => ?_, fun e he k hk => ?_, ?_⟩
 ·simp only [List.mem_cons, List.not_mem_nil, or_false] at he
  rcases he with rfl | rfl | rfl
  ·exact h1
  ·exact h2
  ·exact h3
 ·simp only [List.mem_cons, List.not_mem_nil, or_false] at he
  rcases he with rfl | rfl | rfl
  ·obtain rfl : k = b1 := hk
   exact ⟨lt h1, fun _ => s1⟩
  ·obtain rfl : k = b2 := hk
   exact ⟨lt h2, fun _ => s2⟩
  ·obtain rfl : k = b3 := hk
   exact ⟨lt h3, fun _ => s3⟩
 ·refine List.pairwise_cons.2 ⟨fun e he k hk hk' => ?_, List.pairwise_cons.2 ⟨fun e he k hk hk' => ?_, List.pairwise_cons.2 ⟨fun e he => (by cases he), List.Pairwise.nil⟩⟩⟩
  ·obtain rfl : k = b1 := hk
   simp only [List.mem_cons, List.not_mem_nil, or_false] at he
   rcases he with rfl | rfl
   ·exact n12 hk'
   ·exact n13 hk'
  ·obtain rfl : k = b2 := hk
   simp only [List.mem_cons, List.not_mem_nil, or_false] at he
   subst he
   exact n23 hk'
def Zfr (x0 : Tu) (at_ many : Int) : Option (List En) :=
  if (x0.log.length ≤ 1000000 ∧ -2000000000000 ≤ x0.snap.index ∧ x0.snap.index ≤ 2000000000000) ∧ (-2000000000000 ≤ at_ ∧ at_ ≤ 2000000000000) ∧ 0 ≤ many ∧ many ≤ 1000 then
  some (if x0.snap.index < at_ then (x0.log.drop (at_ - x0.snap.index - 1).toNat).take many.toNat else []) else none
set_option maxHeartbeats 1000000 in
theorem it_from (x0 : Tu) (at_ many : Int) {A0 : Option Addr} {c0 : Nat} (wB wM wI : World) (s0 : SlI wB Jv A0 c0 x0.log) (hB0 : Below wB.heap.size wB wM) (b1 b2 b3 : Nat) (hN : St0 All wM wI [.box b1 [.int .i64 x0.snap.index, .int .i64 x0.snap.term, .int .i64 x0.snap.sum, .int .i64 x0.snap.level, .bool x0.snap.final, .slice A0 x0.log.length c0, .int .i64 x0.term, .int .i64 x0.vote] 26, .box b2 [.int .i64 at_] 3, .box b3 [.int .i64 many] 3]) {xs : List En} (H : Zfr x0 at_ many = some xs) :
  IterP Try.prog 93 #[.pointer (some ⟨b1, 0, none⟩), .pointer (some ⟨b2, 0, none⟩), .pointer (some ⟨b3, 0, none⟩)] (fun e : En => [Value.agg #[.int .i64 e.term, .int .i64 e.kind, .int .i64 e.value]].toArray) xs wB.heap.size wM.heap.size wI := by
 unfold Zfr at H
 split at H
 case isFalse => cases H
 rename_i h9
 obtain ⟨hbt, hba, hm0, hm1⟩ := h9
 obtain hxs := Option.some.inj H
 have n12 := hN.ne 0 1 rfl rfl rfl
 have n13 := hN.ne 0 2 rfl rfl rfl
 have n23 := hN.ne 1 2 rfl rfl rfl
 have n32 : b3 ≠ b2 := fun h => n23 h.symm
 obtain ⟨hb, hbM, hbl⟩ := hN.cap
 obtain ⟨hc, hcM, hcl⟩ := (hN.front 1 rfl).cap
 obtain ⟨hd, hdM, hdl⟩ := (hN.front 2 rfl).cap
 have hA : Rd wI A0 (Ym Jv x0.log) := (s0.rd.below hB0).below hN.pure
 have hAn := s0.blk
 have hBs := hB0.size
 have s1 : ¬ (b1 < wM.heap.size ∨ wI.heap.size ≤ b1) := by omega
 have s2 : ¬ (b2 < wM.heap.size ∨ wI.heap.size ≤ b2) := by omega
 have s3 : ¬ (b3 < wM.heap.size ∨ wI.heap.size ≤ b3) := by omega
 have hmore : ∀ (k : Nat) (e : En), xs[k]? = some e → ∃ k0 : Nat, at_ = x0.snap.index + 1 + k0 ∧ x0.log[k0 + k]? = some e ∧ (k : Int) < many := by
  intro k e he
  rw [← hxs] at he
  split at he
  ·rename_i h1
   rw [List.getElem?_take] at he
   split at he
   ·rename_i h2
    rw [List.getElem?_drop] at he
    exact ⟨(at_ - x0.snap.index - 1).toNat, by omega, he, by omega⟩
   ·cases he
  ·simp at he
 have hdone : ∀ k : Nat, k ≤ xs.length → xs.length ≤ k → (at_ + k ≤ x0.snap.index ∨ x0.snap.index + x0.log.length < at_ + k) ∨ many - k = 0 := by
  intro k h1 h2
  have hl : xs.length = (if x0.snap.index < at_ then min many.toNat (x0.log.length - (at_ - x0.snap.index - 1).toNat) else 0) := by
   rw [← hxs]; split
   ·rw [List.length_take, List.length_drop]
   ·rfl
  split at hl <;> omega
 have hkm : ∀ k : Nat, k ≤ xs.length → (k : Int) ≤ 1000 := by
  intro k h1
  have : xs.length ≤ many.toNat := by
   rw [← hxs]; split
   ·rw [List.length_take]; omega
   ·simp
  omega
 intro lo J Jx Jp W hW hJ hJx hJp hy h0
 have hbW := (hW.block b1 hbl).trans hb
 have hcW := (hW.block b2 hcl).trans hc
 have hdW := (hW.block b3 hdl).trans hd
 have hAW := hA.below hW
 show Calls _ _ #[_, _, _, _] _ _
 refine Zd2 Try.func93 rfl Try.ntmps93 rfl ?_
 refine wpC_scope 0 (X := Nat) (fun _ => [(3, .pointer (some ⟨b3, 0, none⟩)), (2, .pointer (some ⟨b2, 0, none⟩)), (1, .pointer (some ⟨b1, 0, none⟩)), (0, .func (.yield lo) #[] #[])])
  (fun k B => k ≤ xs.length ∧ J k B ∧ Rd B A0 (Ym Jv x0.log) ∧ B.heap[b1]? = some (.cells [.int .i64 x0.snap.index, .int .i64 x0.snap.term, .int .i64 x0.snap.sum, .int .i64 x0.snap.level, .bool x0.snap.final, .slice A0 x0.log.length c0, .int .i64 x0.term, .int .i64 x0.vote].toArray 26) ∧ B.heap[b2]? = some (.cells [.int .i64 (at_ + k)].toArray 3) ∧ B.heap[b3]? = some (.cells [.int .i64 (many - k)].toArray 3) ∧ wI.heap.size ≤ B.heap.size) (fun k => xs.length + 1 - k) rfl ?_ (fun _ => ?_)
 ·rintro k B ⟨hk, hJk, hAB, hb1, hb2, hb3, hz⟩
  have hkk := hkm k hk
  have hS := St0.three (S := fun b => b < wM.heap.size ∨ wI.heap.size ≤ b) hb1 hb2 hb3 n12 n13 n23 s1 s2 s3
  rcases Nat.lt_or_ge k xs.length with hlt | hge
  ·obtain ⟨e, he, _⟩ := Xw hlt
   obtain ⟨k0, hat, hek, hmk⟩ := hmore k e he
   repeat (first | (apply Zc; assumption) | (apply Zd; intro K hK) | apply Zu)
   apply Zf
   repeat (first | (apply Yh; first | refine Yr rfl rfl rfl (by kernel_rfl) rfl (at_yes x0.snap A0 x0.log.length c0 x0.term x0.vote (at_ + k) _ hbt.2 hbt.1 (k0 + k) (by omega) (List.getElem?_eq_some_iff.1 hek).1 x0.log hAB rfl e hek) hS (fun w hS hB => ?_)) | (apply Yk; refine Za rfl rfl rfl (by first | exact Zn rfl | (apply Zy; first | exact Zh (by first | exact Zx) rfl (RW.here _) hS (by repeat (first | exact Has.head | apply Has.tail)) (by first | trivial) (by repeat (first | exact Seg.here (Pre.succ Pre.zero))) | exact Zj (by first | exact Xg) rfl (RW.here _) hS (by repeat (first | exact Has.head)) (by first | trivial) (by repeat (first | exact Seg.here (by repeat (first | exact Pre.zero | apply Pre.succ))))) | exact Ya rfl rfl) ?_))
   first | (apply Xp; refine Z6 rfl rfl (by first | exact Zb6) hS (fun b5 w hS hB => ?_))
   repeat (first | apply Zg | (apply Zc; assumption) | (apply Zd; intro K hK) | (apply Yg; refine Zo rfl rfl rfl (by first | exact CellsOf.agg) hS (by repeat (first | exact Pos.head)) (by repeat (first | exact SetC.here (by repeat (first | exact Ovr.nil | apply Ovr.cons)))) (by kernel_rfl) rfl (fun w hS hB => ?_)) | (apply Yk; refine Za rfl rfl rfl (by first | exact Z4 rfl) ?_))
   refine Zea 9 (by repeat (first | exact NL.body (by intro _ h; simp at h) | apply NL.then | apply NL.jump)) (by kernel_rfl) ?_
   dsimp only [List.take, List.drop]
   repeat (first | apply Zg | (apply Yk; refine Za rfl rfl rfl (by first | exact Zn rfl | (apply Zy; first | exact Zh (by first | exact Zx) rfl (RW.here _) hS (by repeat (first | exact Has.head | apply Has.tail)) (by first | trivial) (by repeat (first | exact Seg.here (Pre.succ Pre.zero))) | exact Zj (by first | exact V3) rfl (RW.here _) hS (by repeat (first | exact Has.head)) (by first | trivial) (by repeat (first | exact Seg.here (by repeat (first | exact Pre.zero | apply Pre.succ))))) | (apply Yi; first | exact Zcf rfl rfl (by omega)) | (apply Ys; first | exact Zz rfl rfl rfl) | exact Yt rfl) ?_))
   refine QH_Y ?_
   have hk1 := hS.base
   have g1 := hS.ok _ (List.mem_cons_of_mem _ (List.mem_cons_self ..))
   have g2 := hS.ok _ (List.mem_cons_of_mem _ (List.mem_cons_of_mem _ (List.mem_cons_self ..)))
   have g3 := hS.ok _ (List.mem_cons_of_mem _ (List.mem_cons_of_mem _ (List.mem_cons_of_mem _ (List.mem_cons_self ..))))
   have hz1 := Nat.le_trans hz hk1.size
   refine wpSI_yield rfl rfl rfl rfl (hy k e _ he (hJ k B _ hJk hk1) hz1) ?_
   rintro ex w2 (⟨rfl, hJ2, hk2⟩ | ⟨rfl, hJ2, hk2⟩ | ⟨ch, rfl, hJ2⟩)
   ·refine .inl ⟨_, rfl, Zb0 (by repeat (first | exact NL.body (by intro _ h; simp at h) | apply NL.then | apply NL.jump)) (by kernel_rfl) ?_⟩
    have q1 := (hk2.block b1 (Nat.lt_of_lt_of_le hbl hz1) (.inr ⟨hbM, hbl⟩)).trans g1
    have q2 := (hk2.block b2 (Nat.lt_of_lt_of_le hcl hz1) (.inr ⟨hcM, hcl⟩)).trans g2
    have q3 := (hk2.block b3 (Nat.lt_of_lt_of_le hdl hz1) (.inr ⟨hdM, hdl⟩)).trans g3
    have hA2 : Rd w2 A0 (Ym Jv x0.log) := hk2.rd (hk1.rd hAB (fun p hp => .inl (Nat.lt_of_lt_of_le (hAn p hp) hBs))) (fun p hp => .inl (hAn p hp))
    have hS := St0.three (S := fun b => b < wM.heap.size ∨ wI.heap.size ≤ b) q1 q2 q3 n12 n13 n23 s1 s2 s3
    repeat (first | apply Zg | (apply Zc; assumption) | (apply Zd; intro K hK) | (apply Yk; refine Za rfl rfl rfl (by first | (apply Ys; first | exact Zz rfl rfl rfl) | exact Yt rfl) ?_) | apply Yq rfl rfl | apply Zu)
    refine Yo 6 [4, 5] (fun i b => (i = 4 → b ≠ b2) ∧ (i = 5 → b ≠ b3)) ⟨by kernel_rfl, by kernel_rfl⟩ hS (fun w hS hB => ?_)
    refine Zm [true, true] (by decide +kernel) (by repeat (first | exact PF.body | apply PF.then | apply PF.jump)) ?_
    repeat (first | refine LtK.put rfl rfl rfl (by first | (apply Zy; first | exact Zh (by first | exact Za2 | exact Zx) rfl (RW.below _) hS (by repeat (first | exact Has.head | apply Has.tail)) (by first | trivial) (by repeat (first | exact Seg.here (Pre.succ Pre.zero)))) | (apply Yi; first | exact Zfd rfl rfl (by omega))) ?_)
    refine LtK.nil ?_
    refine Xz [false, false, true, true] [4] (fun b => b ≠ b2) (by decide +kernel) (by intro j hj b hb; simp only [List.mem_cons, List.not_mem_nil, or_false] at hj; (try rcases hj with rfl | rfl) <;> simp_all) (by repeat (first | exact PF.body | apply PF.then | apply PF.jump)) ?_
    repeat (first | refine LtK.put rfl rfl rfl (by first | (apply Zy; first | exact Zh (by first | exact Za2 | exact Zx) rfl (RW.keepB _ _) hS (by repeat (first | exact Has.head | apply Has.tail)) (by first | trivial) (by repeat (first | exact Seg.here (Pre.succ Pre.zero)))) | (apply Yi; first | exact yv_sub rfl rfl (by omega))) ?_)
    refine LtK.nil ?_
    refine Xh [false, false, false, false, true] 4 ⟨by decide, by kernel_rfl, by kernel_rfl⟩ rfl rfl ?_
    dsimp only [Z2]
    repeat (first | apply Zg | (apply Yg; refine Zo rfl rfl rfl (by first | exact CellsOf.int) hS (by repeat (first | exact Pos.head | apply Pos.tail)) (by repeat (first | exact SetC.here (by repeat (first | exact Ovr.nil | apply Ovr.cons)))) (by kernel_rfl) rfl (fun w hS hB => ?_)))
    refine Xc (by first | exact hB.sub (fun _ _ h => by simpa using h)) ?_
    refine Xh [false, false, false, false, false, true] 5 ⟨by decide, by kernel_rfl, by kernel_rfl⟩ rfl rfl ?_
    dsimp only [Z2]
    repeat (first | apply Zg | (apply Yg; refine Zo rfl rfl rfl (by first | exact CellsOf.int) hS (by repeat (first | exact Pos.head | apply Pos.tail)) (by repeat (first | exact SetC.here (by repeat (first | exact Ovr.nil | apply Ovr.cons)))) (by kernel_rfl) rfl (fun w hS hB => ?_)))
    refine Xc (by first | exact hB.sub (fun _ _ h => by simpa using h)) ?_
    refine Z8 (by kernel_rfl) ?_
    repeat (first | (apply Zc; assumption) | apply Vv)
    have r2 := hS.ok _ (List.mem_cons_of_mem _ (List.mem_cons_self ..))
    have r3 := hS.ok _ (List.mem_cons_of_mem _ (List.mem_cons_of_mem _ (List.mem_cons_self ..)))
    have e2 : at_ + ((k + 1 : Nat) : Int) = at_ + (k : Int) + 1 := by omega
    have e3 : many - ((k + 1 : Nat) : Int) = many - (k : Int) - 1 := by omega
    refine QH_jump (k + 1) (by repeat (first | exact Sub.nil | refine Sub.cons rfl ?_)) ⟨hlt, ?_, ?_, ?_, ?_, ?_, ?_⟩ (by omega)
    ·exact hJ (k + 1) w2 _ hJ2 hS.base
    ·exact hS.base.rd hA2 (fun p hp => .inl (Nat.lt_of_lt_of_le (hAn p hp) hBs))
    ·exact hS.ok _ (List.mem_cons_self ..)
    ·rw [e2]; exact r2
    ·rw [e3]; exact r3
    ·exact Nat.le_trans (Nat.le_trans hz1 hk2.size) hS.base.size
   ·refine .inl ⟨_, rfl, Zb0 (by repeat (first | exact NL.body (by intro _ h; simp at h) | apply NL.then | apply NL.jump)) (by kernel_rfl) ?_⟩
    have hS := St0.start All w2
    repeat (first | apply Zg | (apply Zc; assumption) | (apply Yk; refine Za rfl rfl rfl (by first | (apply Ys; first | exact Zz rfl rfl rfl) | exact Yt rfl) ?_) | apply Zs rfl rfl | apply Zk | apply Zi | apply Yd)
    refine Zl rfl (by first | exact RV.nil) rfl ?_
    exact .inl ⟨⟨_, rfl⟩, .inr hJ2⟩
   ·refine .inr ⟨ch, rfl, ?_⟩
    repeat (first | apply QH_jmp_panic | apply Y4)
    exact X8 rfl (.inr ⟨ch, rfl, hJ2⟩)
  ·have hkl : k = xs.length := by omega
   by_cases hno : at_ + k ≤ x0.snap.index ∨ x0.snap.index + x0.log.length < at_ + k
   ·repeat (first | (apply Zc; assumption) | (apply Zd; intro K hK) | apply Zf | (apply Yh; first | refine Yr rfl rfl rfl (by kernel_rfl) rfl (at_no x0.snap A0 x0.log.length c0 x0.term x0.vote (at_ + k) _ hbt.2 hbt.1 hno) hS (fun w hS hB => ?_)) | (apply Yk; refine Za rfl rfl rfl (by first | exact Zn rfl | (apply Zy; first | exact Zh (by first | exact Zx) rfl (RW.here _) hS (by repeat (first | exact Has.head | apply Has.tail)) (by first | trivial) (by repeat (first | exact Seg.here (Pre.succ Pre.zero))) | exact Zj (by first | exact Xg) rfl (RW.here _) hS (by repeat (first | exact Has.head)) (by first | trivial) (by repeat (first | exact Seg.here (by repeat (first | exact Pre.zero | apply Pre.succ))))) | exact Ya rfl rfl) ?_) | apply Zu)
    first | (apply Xp; refine Z6 rfl rfl (by first | exact Zb6) hS (fun b5 w hS hB => ?_))
    repeat (first | apply Zg | (apply Zc; assumption) | (apply Zd; intro K hK) | apply Zf | (apply Yk; refine Yz rfl rfl rfl ?_) | (apply Yg; refine Zo rfl rfl rfl (by first | exact CellsOf.agg) hS (by repeat (first | exact Pos.head)) (by repeat (first | exact SetC.here (by repeat (first | exact Ovr.nil | apply Ovr.cons)))) (by kernel_rfl) rfl (fun w hS hB => ?_)) | (apply Yk; refine Za rfl rfl rfl (by first | exact Zn rfl | exact Z4 rfl | (apply Ys; first | exact Zw rfl rfl rfl) | exact Yt rfl) ?_) | apply Zs rfl rfl | apply Zk | apply Zi | apply Yd)
    refine Zl rfl (by first | exact RV.nil) rfl ?_
    refine .inl ⟨⟨_, rfl⟩, .inl ?_⟩
    rw [← hkl]
    exact hJ k B _ hJk hS.base
   ·have hm : many - k = 0 := by rcases hdone k hk hge with h | h; exact (hno h).elim; exact h
    obtain ⟨e, he, _⟩ := Xw (show (at_ + k - x0.snap.index - 1).toNat < x0.log.length by omega)
    repeat (first | (apply Zc; assumption) | (apply Zd; intro K hK) | apply Zf | (apply Yh; first | refine Yr rfl rfl rfl (by kernel_rfl) rfl (at_yes x0.snap A0 x0.log.length c0 x0.term x0.vote (at_ + k) _ hbt.2 hbt.1 (at_ + k - x0.snap.index - 1).toNat (by omega) (by omega) x0.log hAB rfl e he) hS (fun w hS hB => ?_)) | (apply Yk; refine Za rfl rfl rfl (by first | exact Zn rfl | (apply Zy; first | exact Zh (by first | exact Zx) rfl (RW.here _) hS (by repeat (first | exact Has.head | apply Has.tail)) (by first | trivial) (by repeat (first | exact Seg.here (Pre.succ Pre.zero))) | exact Zj (by first | exact Xg) rfl (RW.here _) hS (by repeat (first | exact Has.head)) (by first | trivial) (by repeat (first | exact Seg.here (by repeat (first | exact Pre.zero | apply Pre.succ))))) | exact Ya rfl rfl) ?_) | apply Zu)
    first | (apply Xp; refine Z6 rfl rfl (by first | exact Zb6) hS (fun b5 w hS hB => ?_))
    repeat (first | apply Zg | (apply Zc; assumption) | (apply Zd; intro K hK) | apply Zf | (apply Yk; refine Yz rfl rfl rfl ?_) | (apply Yg; refine Zo rfl rfl rfl (by first | exact CellsOf.agg) hS (by repeat (first | exact Pos.head)) (by repeat (first | exact SetC.here (by repeat (first | exact Ovr.nil | apply Ovr.cons)))) (by kernel_rfl) rfl (fun w hS hB => ?_)) | (apply Yk; refine Za rfl rfl rfl (by first | exact Zn rfl | exact Z4 rfl | (apply Zy; first | exact Zh (by first | exact Zx) rfl (RW.here _) hS (by repeat (first | exact Has.head | apply Has.tail)) (by first | trivial) (by repeat (first | exact Seg.here (Pre.succ Pre.zero)))) | (apply Yi; first | exact Zcg rfl rfl (by omega)) | (apply Ys; first | exact Zw rfl rfl rfl | exact Zz rfl rfl rfl) | exact Yt rfl) ?_) | apply Zs rfl rfl | apply Zk | apply Zi | apply Yd)
    refine Zl rfl (by first | exact RV.nil) rfl ?_
    refine .inl ⟨⟨_, rfl⟩, .inl ?_⟩
    rw [← hkl]
    exact hJ k B _ hJk hS.base
 ·obtain ⟨k, hk0⟩ : ∃ k : Nat, k = 0 := ⟨0, rfl⟩
  have hk : k ≤ xs.length := by omega
  have hJk : J k W := by rw [hk0]; exact h0
  have hb1 : W.heap[b1]? = some (.cells [.int .i64 x0.snap.index, .int .i64 x0.snap.term, .int .i64 x0.snap.sum, .int .i64 x0.snap.level, .bool x0.snap.final, .slice A0 x0.log.length c0, .int .i64 x0.term, .int .i64 x0.vote].toArray 26) := hbW
  have hb2 : W.heap[b2]? = some (.cells [.int .i64 (at_ + k)].toArray 3) := by rw [hk0, show at_ + ((0 : Nat) : Int) = at_ by omega]; exact hcW
  have hb3 : W.heap[b3]? = some (.cells [.int .i64 (many - k)].toArray 3) := by rw [hk0, show many - ((0 : Nat) : Int) = many by omega]; exact hdW
  have hz := hW.size
  have hAB := hAW
  clear hk0 hbW hcW hdW hAW h0 hW hxs
  have hkk := hkm k hk
  have hS := St0.three (S := fun b => b < wM.heap.size ∨ wI.heap.size ≤ b) hb1 hb2 hb3 n12 n13 n23 s1 s2 s3
  rcases Nat.lt_or_ge k xs.length with hlt | hge
  ·obtain ⟨e, he, _⟩ := Xw hlt
   obtain ⟨k0, hat, hek, hmk⟩ := hmore k e he
   repeat (first | (apply Zc; assumption) | (apply Zd; intro K hK) | apply Zc2)
   apply Zf
   repeat (first | (apply Yh; first | refine Yr rfl rfl rfl (by kernel_rfl) rfl (at_yes x0.snap A0 x0.log.length c0 x0.term x0.vote (at_ + k) _ hbt.2 hbt.1 (k0 + k) (by omega) (List.getElem?_eq_some_iff.1 hek).1 x0.log hAB rfl e hek) hS (fun w hS hB => ?_)) | (apply Yk; refine Za rfl rfl rfl (by first | exact Zn rfl | (apply Zy; first | exact Zh (by first | exact Zx) rfl (RW.here _) hS (by repeat (first | exact Has.head | apply Has.tail)) (by first | trivial) (by repeat (first | exact Seg.here (Pre.succ Pre.zero))) | exact Zj (by first | exact Xg) rfl (RW.here _) hS (by repeat (first | exact Has.head)) (by first | trivial) (by repeat (first | exact Seg.here (by repeat (first | exact Pre.zero | apply Pre.succ))))) | exact Ya rfl rfl) ?_))
   first | (apply Xp; refine Z6 rfl rfl (by first | exact Zb6) hS (fun b5 w hS hB => ?_))
   repeat (first | apply Zg | (apply Zc; assumption) | (apply Zd; intro K hK) | (apply Yg; refine Zo rfl rfl rfl (by first | exact CellsOf.agg) hS (by repeat (first | exact Pos.head)) (by repeat (first | exact SetC.here (by repeat (first | exact Ovr.nil | apply Ovr.cons)))) (by kernel_rfl) rfl (fun w hS hB => ?_)) | (apply Yk; refine Za rfl rfl rfl (by first | exact Z4 rfl) ?_))
   refine Zea 9 (by repeat (first | exact NL.body (by intro _ h; simp at h) | apply NL.then | apply NL.jump)) (by kernel_rfl) ?_
   dsimp only [List.take, List.drop]
   repeat (first | apply Zg | (apply Yk; refine Za rfl rfl rfl (by first | exact Zn rfl | (apply Zy; first | exact Zh (by first | exact Zx) rfl (RW.here _) hS (by repeat (first | exact Has.head | apply Has.tail)) (by first | trivial) (by repeat (first | exact Seg.here (Pre.succ Pre.zero))) | exact Zj (by first | exact V3) rfl (RW.here _) hS (by repeat (first | exact Has.head)) (by first | trivial) (by repeat (first | exact Seg.here (by repeat (first | exact Pre.zero | apply Pre.succ))))) | (apply Yi; first | exact Zcf rfl rfl (by omega)) | (apply Ys; first | exact Zz rfl rfl rfl) | exact Yt rfl) ?_))
   refine QH_Y ?_
   have hk1 := hS.base
   have g1 := hS.ok _ (List.mem_cons_of_mem _ (List.mem_cons_self ..))
   have g2 := hS.ok _ (List.mem_cons_of_mem _ (List.mem_cons_of_mem _ (List.mem_cons_self ..)))
   have g3 := hS.ok _ (List.mem_cons_of_mem _ (List.mem_cons_of_mem _ (List.mem_cons_of_mem _ (List.mem_cons_self ..))))
   have hz1 := Nat.le_trans hz hk1.size
   refine wpSI_yield rfl rfl rfl rfl (hy k e _ he (hJ k W _ hJk hk1) hz1) ?_
   rintro ex w2 (⟨rfl, hJ2, hk2⟩ | ⟨rfl, hJ2, hk2⟩ | ⟨ch, rfl, hJ2⟩)
   ·refine .inl ⟨_, rfl, Zb0 (by repeat (first | exact NL.body (by intro _ h; simp at h) | apply NL.then | apply NL.jump)) (by kernel_rfl) ?_⟩
    have q1 := (hk2.block b1 (Nat.lt_of_lt_of_le hbl hz1) (.inr ⟨hbM, hbl⟩)).trans g1
    have q2 := (hk2.block b2 (Nat.lt_of_lt_of_le hcl hz1) (.inr ⟨hcM, hcl⟩)).trans g2
    have q3 := (hk2.block b3 (Nat.lt_of_lt_of_le hdl hz1) (.inr ⟨hdM, hdl⟩)).trans g3
    have hA2 : Rd w2 A0 (Ym Jv x0.log) := hk2.rd (hk1.rd hAB (fun p hp => .inl (Nat.lt_of_lt_of_le (hAn p hp) hBs))) (fun p hp => .inl (hAn p hp))
    have hS := St0.three (S := fun b => b < wM.heap.size ∨ wI.heap.size ≤ b) q1 q2 q3 n12 n13 n23 s1 s2 s3
    repeat (first | apply Zg | (apply Zc; assumption) | (apply Zd; intro K hK) | (apply Yk; refine Za rfl rfl rfl (by first | (apply Ys; first | exact Zz rfl rfl rfl) | exact Yt rfl) ?_) | apply Yq rfl rfl | apply Zu)
    refine Yo 6 [4, 5] (fun i b => (i = 4 → b ≠ b2) ∧ (i = 5 → b ≠ b3)) ⟨by kernel_rfl, by kernel_rfl⟩ hS (fun w hS hB => ?_)
    refine Zm [true, true] (by decide +kernel) (by repeat (first | exact PF.body | apply PF.then | apply PF.jump)) ?_
    repeat (first | refine LtK.put rfl rfl rfl (by first | (apply Zy; first | exact Zh (by first | exact Za2 | exact Zx) rfl (RW.below _) hS (by repeat (first | exact Has.head | apply Has.tail)) (by first | trivial) (by repeat (first | exact Seg.here (Pre.succ Pre.zero)))) | (apply Yi; first | exact Zfd rfl rfl (by omega))) ?_)
    refine LtK.nil ?_
    refine Xz [false, false, true, true] [4] (fun b => b ≠ b2) (by decide +kernel) (by intro j hj b hb; simp only [List.mem_cons, List.not_mem_nil, or_false] at hj; (try rcases hj with rfl | rfl) <;> simp_all) (by repeat (first | exact PF.body | apply PF.then | apply PF.jump)) ?_
    repeat (first | refine LtK.put rfl rfl rfl (by first | (apply Zy; first | exact Zh (by first | exact Za2 | exact Zx) rfl (RW.keepB _ _) hS (by repeat (first | exact Has.head | apply Has.tail)) (by first | trivial) (by repeat (first | exact Seg.here (Pre.succ Pre.zero)))) | (apply Yi; first | exact yv_sub rfl rfl (by omega))) ?_)
    refine LtK.nil ?_
    refine Xh [false, false, false, false, true] 4 ⟨by decide, by kernel_rfl, by kernel_rfl⟩ rfl rfl ?_
    dsimp only [Z2]
    repeat (first | apply Zg | (apply Yg; refine Zo rfl rfl rfl (by first | exact CellsOf.int) hS (by repeat (first | exact Pos.head | apply Pos.tail)) (by repeat (first | exact SetC.here (by repeat (first | exact Ovr.nil | apply Ovr.cons)))) (by kernel_rfl) rfl (fun w hS hB => ?_)))
    refine Xc (by first | exact hB.sub (fun _ _ h => by simpa using h)) ?_
    refine Xh [false, false, false, false, false, true] 5 ⟨by decide, by kernel_rfl, by kernel_rfl⟩ rfl rfl ?_
    dsimp only [Z2]
    repeat (first | apply Zg | (apply Yg; refine Zo rfl rfl rfl (by first | exact CellsOf.int) hS (by repeat (first | exact Pos.head | apply Pos.tail)) (by repeat (first | exact SetC.here (by repeat (first | exact Ovr.nil | apply Ovr.cons)))) (by kernel_rfl) rfl (fun w hS hB => ?_)))
    refine Xc (by first | exact hB.sub (fun _ _ h => by simpa using h)) ?_
    refine Z8 (by kernel_rfl) ?_
    repeat (first | (apply Zc; assumption) | apply Vv)
    have r2 := hS.ok _ (List.mem_cons_of_mem _ (List.mem_cons_self ..))
    have r3 := hS.ok _ (List.mem_cons_of_mem _ (List.mem_cons_of_mem _ (List.mem_cons_self ..)))
    have e2 : at_ + ((k + 1 : Nat) : Int) = at_ + (k : Int) + 1 := by omega
    have e3 : many - ((k + 1 : Nat) : Int) = many - (k : Int) - 1 := by omega
    refine QH_jump0 (k + 1) (by repeat (first | exact Sub.nil | refine Sub.cons rfl ?_)) ⟨hlt, ?_, ?_, ?_, ?_, ?_, ?_⟩
    ·exact hJ (k + 1) w2 _ hJ2 hS.base
    ·exact hS.base.rd hA2 (fun p hp => .inl (Nat.lt_of_lt_of_le (hAn p hp) hBs))
    ·exact hS.ok _ (List.mem_cons_self ..)
    ·rw [e2]; exact r2
    ·rw [e3]; exact r3
    ·exact Nat.le_trans (Nat.le_trans hz1 hk2.size) hS.base.size
   ·refine .inl ⟨_, rfl, Zb0 (by repeat (first | exact NL.body (by intro _ h; simp at h) | apply NL.then | apply NL.jump)) (by kernel_rfl) ?_⟩
    have hS := St0.start All w2
    repeat (first | apply Zg | (apply Zc; assumption) | (apply Yk; refine Za rfl rfl rfl (by first | (apply Ys; first | exact Zz rfl rfl rfl) | exact Yt rfl) ?_) | apply Zs rfl rfl | apply Zk | apply Zi | apply Yd)
    refine Zl rfl (by first | exact RV.nil) rfl ?_
    exact .inl ⟨⟨_, rfl⟩, .inr hJ2⟩
   ·refine .inr ⟨ch, rfl, ?_⟩
    repeat (first | apply QH_jmp_panic | apply Y4)
    exact X8 rfl (.inr ⟨ch, rfl, hJ2⟩)
  ·have hkl : k = xs.length := by omega
   by_cases hno : at_ + k ≤ x0.snap.index ∨ x0.snap.index + x0.log.length < at_ + k
   ·repeat (first | (apply Zc; assumption) | (apply Zd; intro K hK) | apply Zf | (apply Yh; first | refine Yr rfl rfl rfl (by kernel_rfl) rfl (at_no x0.snap A0 x0.log.length c0 x0.term x0.vote (at_ + k) _ hbt.2 hbt.1 hno) hS (fun w hS hB => ?_)) | (apply Yk; refine Za rfl rfl rfl (by first | exact Zn rfl | (apply Zy; first | exact Zh (by first | exact Zx) rfl (RW.here _) hS (by repeat (first | exact Has.head | apply Has.tail)) (by first | trivial) (by repeat (first | exact Seg.here (Pre.succ Pre.zero))) | exact Zj (by first | exact Xg) rfl (RW.here _) hS (by repeat (first | exact Has.head)) (by first | trivial) (by repeat (first | exact Seg.here (by repeat (first | exact Pre.zero | apply Pre.succ))))) | exact Ya rfl rfl) ?_) | apply Zc2)
    first | (apply Xp; refine Z6 rfl rfl (by first | exact Zb6) hS (fun b5 w hS hB => ?_))
    repeat (first | apply Zg | (apply Zc; assumption) | (apply Zd; intro K hK) | apply Zf | (apply Yk; refine Yz rfl rfl rfl ?_) | (apply Yg; refine Zo rfl rfl rfl (by first | exact CellsOf.agg) hS (by repeat (first | exact Pos.head)) (by repeat (first | exact SetC.here (by repeat (first | exact Ovr.nil | apply Ovr.cons)))) (by kernel_rfl) rfl (fun w hS hB => ?_)) | (apply Yk; refine Za rfl rfl rfl (by first | exact Zn rfl | exact Z4 rfl | (apply Ys; first | exact Zw rfl rfl rfl) | exact Yt rfl) ?_) | apply Zs rfl rfl | apply Zk | apply Zi | apply Yd)
    refine Zl rfl (by first | exact RV.nil) rfl ?_
    refine .inl ⟨⟨_, rfl⟩, .inl ?_⟩
    rw [← hkl]
    exact hJ k W _ hJk hS.base
   ·have hm : many - k = 0 := by rcases hdone k hk hge with h | h; exact (hno h).elim; exact h
    obtain ⟨e, he, _⟩ := Xw (show (at_ + k - x0.snap.index - 1).toNat < x0.log.length by omega)
    repeat (first | (apply Zc; assumption) | (apply Zd; intro K hK) | apply Zf | (apply Yh; first | refine Yr rfl rfl rfl (by kernel_rfl) rfl (at_yes x0.snap A0 x0.log.length c0 x0.term x0.vote (at_ + k) _ hbt.2 hbt.1 (at_ + k - x0.snap.index - 1).toNat (by omega) (by omega) x0.log hAB rfl e he) hS (fun w hS hB => ?_)) | (apply Yk; refine Za rfl rfl rfl (by first | exact Zn rfl | (apply Zy; first | exact Zh (by first | exact Zx) rfl (RW.here _) hS (by repeat (first | exact Has.head | apply Has.tail)) (by first | trivial) (by repeat (first | exact Seg.here (Pre.succ Pre.zero))) | exact Zj (by first | exact Xg) rfl (RW.here _) hS (by repeat (first | exact Has.head)) (by first | trivial) (by repeat (first | exact Seg.here (by repeat (first | exact Pre.zero | apply Pre.succ))))) | exact Ya rfl rfl) ?_) | apply Zc2)
    first | (apply Xp; refine Z6 rfl rfl (by first | exact Zb6) hS (fun b5 w hS hB => ?_))
    repeat (first | apply Zg | (apply Zc; assumption) | (apply Zd; intro K hK) | apply Zf | (apply Yk; refine Yz rfl rfl rfl ?_) | (apply Yg; refine Zo rfl rfl rfl (by first | exact CellsOf.agg) hS (by repeat (first | exact Pos.head)) (by repeat (first | exact SetC.here (by repeat (first | exact Ovr.nil | apply Ovr.cons)))) (by kernel_rfl) rfl (fun w hS hB => ?_)) | (apply Yk; refine Za rfl rfl rfl (by first | exact Zn rfl | exact Z4 rfl | (apply Zy; first | exact Zh (by first | exact Zx) rfl (RW.here _) hS (by repeat (first | exact Has.head | apply Has.tail)) (by first | trivial) (by repeat (first | exact Seg.here (Pre.succ Pre.zero)))) | (apply Yi; first | exact Zcg rfl rfl (by omega)) | (apply Ys; first | exact Zw rfl rfl rfl | exact Zz rfl rfl rfl) | exact Yt rfl) ?_) | apply Zs rfl rfl | apply Zk | apply Zi | apply Yd)
    refine Zl rfl (by first | exact RV.nil) rfl ?_
    refine .inl ⟨⟨_, rfl⟩, .inl ?_⟩
    rw [← hkl]
    exact hJ k W _ hJk hS.base
end Go.Proofs.Ytenagnncpaabdaa
namespace Go.Proofs.Ytenagnncpaabdaa
open Go Go.RowKit
set_option maxRecDepth 100000
def X0 (x0 : List En) : Option (List En) := Zfc x0
def Ze5 (x0 : Tu) : Option (Tu) := (X0 x0.log).bind fun r7 =>
  some (⟨x0.snap, r7, x0.term, x0.vote⟩ : Tu)
def V2 (x0 : List Bool) : Option (List Bool) := Zfc x0
def Vb (x0 : List Int) : Option (List Int) := Zfc x0
def Zbh (x0 : Co) : Option (Co) := (Ze5 x0.tuple).bind fun r7 =>
  (V2 x0.votes).bind fun r14 =>
  (Vb x0.next).bind fun r20 =>
  (Vb x0.mtch).bind fun r26 =>
  (Vb x0.caps).bind fun r32 =>
  some (⟨x0.id, x0.n, x0.role, x0.binary, r7, x0.commit, x0.applied, r14, r20, r26, r32⟩ : Co)
def J5 (x0 : Tu) : Option (Int) :=
  some (IntKind.wrap .i64 (x0.snap.index + (x0.log.length : Int)))
def Vk (x0 : Int) (x1 : Int) (x2 : Int) : Option (Bool) :=
  cond (decide (x1 ≤ x0)) (some (decide (x0 ≤ x2))) (some false)
def Zd7 : Option (St) :=
  some (⟨0, 0, 0, 1, false⟩ : St)
def X2 (x0 : Int) : Option (Bool) :=
  cond (decide (0 ≤ x0)) (some (decide (x0 ≤ 1073741824))) (some false)
def Jl (x0 : St) : Option (Bool) :=
  cond (decide (x0.index = 0)) ((Zd7).bind fun r7 =>
  some (decide (x0.index = r7.index) && (decide (x0.term = r7.term) && (decide (x0.sum = r7.sum) && (decide (x0.level = r7.level) && (decide (x0.final = r7.final))))))) (cond x0.final (cond (decide (x0.level = 2)) ((X2 x0.index).bind fun r11 =>
  cond r11 (cond (decide (0 < x0.term)) ((X2 x0.term).bind fun r13 =>
  cond r13 ((X2 x0.sum).bind fun r15 =>
  some r15) (some false)) (some false)) (some false)) (some false)) (cond (decide (x0.level = 1)) ((X2 x0.index).bind fun r18 =>
  cond r18 (cond (decide (0 < x0.term)) ((X2 x0.term).bind fun r20 =>
  cond r20 ((X2 x0.sum).bind fun r22 =>
  some r22) (some false)) (some false)) (some false)) (cond (decide (x0.level = 2)) ((X2 x0.index).bind fun r24 =>
  cond r24 (cond (decide (0 < x0.term)) ((X2 x0.term).bind fun r26 =>
  cond r26 ((X2 x0.sum).bind fun r28 =>
  some r28) (some false)) (some false)) (some false)) (some false))))
def Zar (x0 : List Int) (x2 : Int) (x3 : Int) : Nat → Int → Int → Option (Bool)
 | 0, _, _ => none
 | n + 1, v12, v13 =>
  cond (decide (v13 < (x0.length : Int))) ((idx x0 v13).bind fun e19 =>
  (Vk e19 x2 x3).bind fun r24 =>
  cond (!r24) (some (!(decide (0 ≤ v13)))) (Zar x0 x2 x3 n v12 (IntKind.wrap .i64 (v13 + 1)))) (some (!(decide (0 ≤ (-1)))))
def Za5 (x0 : List Int) (x1 : Int) (x2 : Int) (x3 : Int) : Option (Bool) :=
  cond (decide ((x0.length : Int) = x1)) (Zar x0 x2 x3 X6 0 0) (some false)
def Zab (x0 : Co) : Option (Bool) := (J5 x0.tuple).bind fun r5 =>
  (Vk x0.n 1 5).bind fun r18 =>
  cond r18 ((Vk x0.id 1 x0.n).bind fun r20 =>
  cond (!r20) (some false) (cond (decide (x0.role ≤ 2)) ((Vk x0.binary 1 2).bind fun r30 =>
  cond r30 ((Zcn x0.tuple).bind fun r32 =>
  cond (!r32) (some false) ((Jm x0.tuple x0.commit).bind fun r42 =>
  cond r42.2 (cond (!(decide (r42.1.index = x0.applied.index) && (decide (r42.1.term = x0.applied.term) && (decide (r42.1.sum = x0.applied.sum) && (decide (r42.1.level = x0.applied.level) && (decide (r42.1.final = x0.applied.final))))))) (some false) (cond (decide ((x0.votes.length : Int) = x0.n)) ((Za5 x0.next x0.n 1 (IntKind.wrap .i64 (r5 + 1))).bind fun r55 =>
  cond r55 ((Za5 x0.mtch x0.n 0 r5).bind fun r57 =>
  cond (!r57) (some false) ((Za5 x0.caps x0.n 0 2).bind fun r67 =>
  cond r67 ((idx x0.caps (IntKind.wrap .i64 (x0.id - 1))).bind fun e69 =>
  cond (!(decide (e69 = x0.binary))) (some false) (cond (decide (x0.role = 0)) (some true) (cond (decide (0 < x0.tuple.term)) (cond (!(decide (x0.tuple.vote = x0.id))) (some false) (some true)) (some false)))) (some false))) (some false)) (some false))) (some false))) (some false)) (some false))) (some false)
def m_tuple_At (x0 : Tu) (x1 : Int) : Option (En × Bool) :=
  cond (decide (x1 ≤ x0.snap.index)) (some ((⟨0, 0, 0⟩ : En), false)) ((J5 x0).bind fun r9 =>
  cond (decide (r9 < x1)) (some ((⟨0, 0, 0⟩ : En), false)) ((idx x0.log (IntKind.wrap .i64 ((IntKind.wrap .i64 (x1 - x0.snap.index)) - 1))).bind fun e13 =>
  some (e13, true)))
def Zbv (x0 : Tu) (x1 : Int) : Option (Int × Bool) :=
  cond (decide (x1 = x0.snap.index)) (some (x0.snap.term, true)) ((m_tuple_At x0 x1).bind fun r8 =>
  some (r8.1.term, r8.2))
def Vg (x0 : Co) : Option (Co × Bool) := (Zbh x0).bind fun r7 =>
  (Zab x0).bind fun r31 =>
  cond (!r31) (some (r7, false)) (cond (decide (x0.applied.index ≤ x0.tuple.snap.index)) (some (r7, false)) ((Zdc x0.tuple x0.applied).bind fun r36 =>
  cond (decide (r36.2 ≠ 0)) (some (r7, false)) (some ((⟨r7.id, r7.n, r7.role, r7.binary, r36.1, r7.commit, r7.applied, r7.votes, r7.next, r7.mtch, r7.caps⟩ : Co), true))))
def X4 (x0 : Co) (x1 : Int) : Option (Ms × Bool) := (Zab x0).bind fun r8 =>
  cond (!r8) (some ((⟨0, 0, 0, 0, 0, 0, 0, 0, false, [], (⟨0, 0, 0, 0, false⟩ : St)⟩ : Ms), false)) (cond (decide (x0.role ≠ 2)) (some ((⟨0, 0, 0, 0, 0, 0, 0, 0, false, [], (⟨0, 0, 0, 0, false⟩ : St)⟩ : Ms), false)) (cond (decide (x1 < 1)) (some ((⟨0, 0, 0, 0, 0, 0, 0, 0, false, [], (⟨0, 0, 0, 0, false⟩ : St)⟩ : Ms), false)) (cond (decide (x0.n < x1)) (some ((⟨0, 0, 0, 0, 0, 0, 0, 0, false, [], (⟨0, 0, 0, 0, false⟩ : St)⟩ : Ms), false)) (cond (decide (x1 = x0.id)) (some ((⟨0, 0, 0, 0, 0, 0, 0, 0, false, [], (⟨0, 0, 0, 0, false⟩ : St)⟩ : Ms), false)) ((idx x0.next (IntKind.wrap .i64 (x1 - 1))).bind fun e15 =>
  cond (decide (x0.tuple.snap.index < e15)) (some ((⟨0, 0, 0, 0, 0, 0, 0, 0, false, [], (⟨0, 0, 0, 0, false⟩ : St)⟩ : Ms), false)) (some ((⟨5, x0.id, x1, x0.tuple.term, x0.binary, 0, 0, 0, false, [], x0.tuple.snap⟩ : Ms), true)))))))
def Je (x0 : Ms) : Nat → Bool → Int → Int → Option (Bool)
 | 0, _, _, _ => none
 | n + 1, v7, v8, v9 =>
  cond (decide (v9 < (x0.entries.length : Int))) ((idx x0.entries v9).bind fun e14 =>
  (Zfi e14).bind fun r21 =>
  cond (!r21) (some false) ((Vk e14.term v8 x0.term).bind fun r24 =>
  cond (!r24) (some false) (Je x0 n v7 e14.term (IntKind.wrap .i64 (v9 + 1))))) (some (decide ((x0.entries.length : Int) ≤ 4)))
def Zcd (x0 : Ms) : Option (Bool) :=
  Je x0 X6 false x0.lastTerm 0
def Zdx (x0 : Ms) (x1 : Int) : Option (Bool) := (Vk x1 1 5).bind fun r6 =>
  cond (!r6) (some false) ((Za5 ([x0.frm, x0.dst] : List Int) 2 1 x1).bind fun r12 =>
  cond (!r12) (some false) (cond (decide (x0.frm = x0.dst)) (some false) ((Vk (IntKind.wrap .i64 x0.kind) 1 5).bind fun r20 =>
  cond (!r20) (some false) ((Vk x0.term 1 1073741824).bind fun r24 =>
  cond (!r24) (some false) ((Vk x0.cap 1 2).bind fun r28 =>
  cond (!r28) (some false) ((Za5 ([x0.last, x0.lastTerm, x0.commit] : List Int) 3 0 1073741824).bind fun r36 =>
  cond (!r36) (some false) ((Zcd x0).bind fun r40 =>
  cond (!r40) (some false) (cond (decide (x0.kind ≠ 3)) (cond (decide (0 < (x0.entries.length : Int))) (some false) (cond (decide (0 < x0.commit)) (some false) (cond x0.okk (cond (decide (x0.kind ≠ 2)) (cond (decide (x0.kind ≠ 4)) (some false) (cond (decide (x0.kind = 5)) (cond (decide (0 < x0.snap.index)) ((Jl x0.snap).bind fun r57 =>
  some r57) (some false)) (some (decide (x0.snap.index = 0) && (decide (x0.snap.term = 0) && (decide (x0.snap.sum = 0) && (decide (x0.snap.level = 0) && (decide (x0.snap.final = false))))))))) (cond (decide (x0.kind = 5)) (cond (decide (0 < x0.snap.index)) ((Jl x0.snap).bind fun r64 =>
  some r64) (some false)) (some (decide (x0.snap.index = 0) && (decide (x0.snap.term = 0) && (decide (x0.snap.sum = 0) && (decide (x0.snap.level = 0) && (decide (x0.snap.final = false))))))))) (cond (decide (x0.kind = 5)) (cond (decide (0 < x0.snap.index)) ((Jl x0.snap).bind fun r71 =>
  some r71) (some false)) (some (decide (x0.snap.index = 0) && (decide (x0.snap.term = 0) && (decide (x0.snap.sum = 0) && (decide (x0.snap.level = 0) && (decide (x0.snap.final = false))))))))))) (cond x0.okk (cond (decide (x0.kind ≠ 2)) (cond (decide (x0.kind ≠ 4)) (some false) (cond (decide (x0.kind = 5)) (cond (decide (0 < x0.snap.index)) ((Jl x0.snap).bind fun r82 =>
  some r82) (some false)) (some (decide (x0.snap.index = 0) && (decide (x0.snap.term = 0) && (decide (x0.snap.sum = 0) && (decide (x0.snap.level = 0) && (decide (x0.snap.final = false))))))))) (cond (decide (x0.kind = 5)) (cond (decide (0 < x0.snap.index)) ((Jl x0.snap).bind fun r89 =>
  some r89) (some false)) (some (decide (x0.snap.index = 0) && (decide (x0.snap.term = 0) && (decide (x0.snap.sum = 0) && (decide (x0.snap.level = 0) && (decide (x0.snap.final = false))))))))) (cond (decide (x0.kind = 5)) (cond (decide (0 < x0.snap.index)) ((Jl x0.snap).bind fun r96 =>
  some r96) (some false)) (some (decide (x0.snap.index = 0) && (decide (x0.snap.term = 0) && (decide (x0.snap.sum = 0) && (decide (x0.snap.level = 0) && (decide (x0.snap.final = false)))))))))))))))))
def Zc5 (x0 : Co) (x1 : Ms) : Option (Bool) :=
  cond (decide (x1.dst ≠ x0.id)) (some false) ((Zab x0).bind fun r10 =>
  cond (!r10) (some false) ((Zdx x1 x0.n).bind fun r15 =>
  some r15))
def Zdo (x0 : Co) (x1 : Ms) : Option (Bool) :=
  cond (decide (x1.dst = x0.id)) ((Zdx x1 x0.n).bind fun r7 =>
  cond r7 ((Zab x0).bind fun r9 =>
  some r9) (some false)) (some false)
def Zci (x0 : Co) (x1 : Ms) : Option (Co) := (Zc5 x0 x1).bind fun r9 =>
  (Zbh x0).bind fun r19 =>
  cond r9 ((Zab r19).bind fun r43 =>
  cond r43 ((idx r19.caps (IntKind.wrap .i64 (x1.frm - 1))).bind fun e45 =>
  some (⟨r19.id, r19.n, r19.role, r19.binary, r19.tuple, r19.commit, r19.applied, r19.votes, r19.next, r19.mtch, (setI r19.caps (IntKind.wrap .i64 (x1.frm - 1)) x1.cap)⟩ : Co)) (some r19)) (some r19)
def Zdi (x0 : Co) (x1 : Ms) : Option (Co) := (Zbh x0).bind fun r9 =>
  (Zdo r9 x1).bind fun r33 =>
  cond (!r33) (some r9) ((Zci r9 x1).bind fun r39 =>
  cond (decide (r39.tuple.term < x1.term)) ((Zby r39.tuple x1.term 0).bind fun r68 =>
  (makeI false r39.n).bind fun l75 =>
  some (⟨r39.id, r39.n, 0, r39.binary, r68.1, r39.commit, r39.applied, l75, r39.next, r39.mtch, r39.caps⟩ : Co)) (some r39))
def Zcr (x0 : Co) (x1 : Ms) (x2 : Int) (x3 : Bool) (x4 : Int) : Option (Ms) :=
  some (⟨x2, x0.id, x1.frm, x0.tuple.term, x0.binary, x4, 0, 0, x3, [], (⟨0, 0, 0, 0, false⟩ : St)⟩ : Ms)
def Zau (r7 : Co) (r30 : Int) (v36 : List Int) : Nat → Int → List Int → Option (Co)
 | 0, _, _ => none
 | n + 1, v51, v52 =>
  cond (decide (v51 < (r7.mtch.length : Int))) ((idx v52 v51).bind fun e59 =>
  (idx v52 v51).bind fun e62 =>
  Zau r7 r30 v36 n (IntKind.wrap .i64 (v51 + 1)) (setI v52 v51 (min e59 r30))) (some (⟨r7.id, r7.n, r7.role, r7.binary, r7.tuple, r7.commit, r7.applied, r7.votes, v36, v52, r7.caps⟩ : Co))
def Zat (r7 : Co) (r30 : Int) : Nat → Int → List Int → Option (Co)
 | 0, _, _ => none
 | n + 1, v35, v36 =>
  cond (decide (v35 < (r7.next.length : Int))) ((idx v36 v35).bind fun e43 =>
  (idx v36 v35).bind fun e46 =>
  Zat r7 r30 n (IntKind.wrap .i64 (v35 + 1)) (setI v36 v35 (min e43 (IntKind.wrap .i64 (r30 + 1))))) (Zau r7 r30 v36 X6 0 r7.mtch)
def Zew (x0 : Co) : Option (Co) := (Zbh x0).bind fun r7 =>
  (J5 r7.tuple).bind fun r30 =>
  Zat r7 r30 X6 0 r7.next
def X3 (x0 : Co) (x1 : Ms) : Option (Co × List Ms) := (Zc5 x0 x1).bind fun r14 =>
  cond (!r14) ((Zbh x0).bind fun r17 =>
  some (r17, [])) (cond (decide (x1.kind ≠ 5)) ((Zbh x0).bind fun r40 =>
  some (r40, [])) ((Zdi x0 x1).bind fun r63 =>
  cond (decide (x1.term < r63.tuple.term)) ((J5 r63.tuple).bind fun r90 =>
  (Zcr r63 x1 4 false r90).bind fun r96 =>
  some (r63, ([r96] : List Ms))) (cond (decide (r63.role = 2)) (some (r63, [])) (cond (decide (x1.snap.index ≤ r63.commit)) ((Zcr (⟨r63.id, r63.n, 0, r63.binary, r63.tuple, r63.commit, r63.applied, r63.votes, r63.next, r63.mtch, r63.caps⟩ : Co) x1 4 true r63.commit).bind fun r115 =>
  some ((⟨r63.id, r63.n, 0, r63.binary, r63.tuple, r63.commit, r63.applied, r63.votes, r63.next, r63.mtch, r63.caps⟩ : Co), ([r115] : List Ms))) ((Zbb r63.tuple x1.snap).bind fun r125 =>
  cond (decide (r125.2 ≠ 0)) ((J5 r63.tuple).bind fun r134 =>
  (Zcr (⟨r63.id, r63.n, 0, r63.binary, r63.tuple, r63.commit, r63.applied, r63.votes, r63.next, r63.mtch, r63.caps⟩ : Co) x1 4 false r134).bind fun r140 =>
  some ((⟨r63.id, r63.n, 0, r63.binary, r63.tuple, r63.commit, r63.applied, r63.votes, r63.next, r63.mtch, r63.caps⟩ : Co), ([r140] : List Ms))) ((Zew (⟨r63.id, r63.n, 0, r63.binary, r125.1, x1.snap.index, x1.snap, r63.votes, r63.next, r63.mtch, r63.caps⟩ : Co)).bind fun r151 =>
  (Zcr (⟨r63.id, r63.n, 0, r63.binary, r125.1, x1.snap.index, x1.snap, r63.votes, r63.next, r63.mtch, r63.caps⟩ : Co) x1 4 true x1.snap.index).bind fun r177 =>
  some (r151, ([r177] : List Ms))))))))
def Vs (x0 : Co) (x1 : Int) (e20 : Int) (r25 : Int × Bool) : List (En) → List En → Option (Ms × Bool)
 | [], v38 =>
  some ((⟨3, x0.id, x1, x0.tuple.term, x0.binary, (IntKind.wrap .i64 (e20 - 1)), r25.1, x0.commit, false, v38, (⟨0, 0, 0, 0, false⟩ : St)⟩ : Ms), true)
 | e37 :: l0, v38 =>
  (Zfc (v38 ++ ([e37] : List En))).bind fun l49 =>
  Vs x0 x1 e20 r25 l0 l49
def Jt (x0 : Co) (x1 : Int) : Option (Ms × Bool) := (Zab x0).bind fun r8 =>
  cond (!r8) (some ((⟨0, 0, 0, 0, 0, 0, 0, 0, false, [], (⟨0, 0, 0, 0, false⟩ : St)⟩ : Ms), false)) (cond (decide (x0.role ≠ 2)) (some ((⟨0, 0, 0, 0, 0, 0, 0, 0, false, [], (⟨0, 0, 0, 0, false⟩ : St)⟩ : Ms), false)) (cond (decide (x1 < 1)) (some ((⟨0, 0, 0, 0, 0, 0, 0, 0, false, [], (⟨0, 0, 0, 0, false⟩ : St)⟩ : Ms), false)) (cond (decide (x0.n < x1)) (some ((⟨0, 0, 0, 0, 0, 0, 0, 0, false, [], (⟨0, 0, 0, 0, false⟩ : St)⟩ : Ms), false)) (cond (decide (x1 = x0.id)) (some ((⟨0, 0, 0, 0, 0, 0, 0, 0, false, [], (⟨0, 0, 0, 0, false⟩ : St)⟩ : Ms), false)) ((idx x0.next (IntKind.wrap .i64 (x1 - 1))).bind fun e15 =>
  cond (decide (e15 ≤ x0.tuple.snap.index)) (some ((⟨0, 0, 0, 0, 0, 0, 0, 0, false, [], (⟨0, 0, 0, 0, false⟩ : St)⟩ : Ms), false)) ((idx x0.next (IntKind.wrap .i64 (x1 - 1))).bind fun e20 =>
  (Zbv x0.tuple (IntKind.wrap .i64 (e20 - 1))).bind fun r25 =>
  (Zfr x0.tuple e20 4).bind fun xs43 =>
  Vs x0 x1 e20 r25 xs43 []))))))
end Go.Proofs.Ytenagnncpaabdaa
