/- Texts of one claim put together. -/
import Derived.Test.YtamjlcaoieliaaaMs1
import Derived.Test.YtamjlcaoieliaaaMs0
import Derived.Deep.DeepCutAuto
namespace Go.Proofs.Ytamjlcaoieliaaa

section
open Go Go.RowKit
set_option maxRecDepth 100000
theorem Rd.blk {w : World} {A : OA} {xs : List Value} (h : Rd w A xs) (hne : xs ≠ []) : ∀ a, A = some a → a.block < w.heap.size := fun a ha => by
 cases xs with
 | nil => exact (hne rfl).elim
 | cons v xs =>
  obtain ⟨b, o, hA, hb, _⟩ := h 0 v rfl
  rw [ha] at hA
  injection hA with hA
  subst hA
  exact hb
theorem KeepB.rdN {S : Nat → Prop} {w w' : World} {A : OA} {xs : List Value} (hk : KeepB S w w') (h : Rd w A xs) (hs : ∀ a, A = some a → xs ≠ [] → S a.block) : Rd w' A xs := by
 cases xs with
 | nil => exact Rd.nil _ _
 | cons v xs => exact hk.rd h (fun a ha => hs a ha (by simp))
theorem append1_does (bl m d : Nat) (B : OA) (l : List En) (w0 : World) (hbl : w0.heap[bl]? = some (.cells #[.slice B m d] 24)) (hl : LI w0 B m d l) (x : Tu) (hm : m ≤ 300) (hx : Jm x = true) :
  Does 89 #[.pointer (some ⟨bl, 0, none⟩)] w0 x (some { x with log := x.log ++ l }) := by
 intro W bo A' c' hB hbo hT hLI hA'
 have hxb := Zea x hx
 have hol : bo < W.heap.size := (Array.getElem?_eq_some_iff.1 hT).1
 have hbl' : bl < w0.heap.size := (Array.getElem?_eq_some_iff.1 hbl).1
 have hblW : W.heap[bl]? = some (.cells #[.slice B m d] 24) := (hB.block bl hbl').trans hbl
 have hne : bl ≠ bo := by omega
 have hlW := hl.below hB
 show Calls _ _ #[_, _] _ _
 refine Y0 Try.func89 rfl Try.ntmps89 rfl ?_
 have hS := St0.old (w := W) (fun k => k ≠ bo) (e := .box bo [.int .i64 x.snap.index, .int .i64 x.snap.term, .int .i64 x.snap.sum, .int .i64 x.snap.level, .bool x.snap.final, .slice A' x.log.length c', .int .i64 x.term, .int .i64 x.vote] 26) hT (fun k hk => by subst hk; exact ⟨hol, by simp⟩)
 refine Yg 11 [10] (fun i b => (i = 10 → b ≠ bo)) ⟨by kernel_rfl, by kernel_rfl⟩ hS (fun w hS hB => ?_)
 refine Zn [true, true, true, true, true, true] (by decide +kernel) (by repeat (first | exact PF.body)) ?_
 repeat (first | refine LtK.put rfl rfl rfl (by first | exact Zs rfl | exact Ze (by first | exact Yi | exact Xz) rfl | (apply Z9; first | exact Zh (by first | exact Zdh | exact Xp) rfl (Zgz _) hS (by repeat (first | exact Has.head | apply Has.tail)) (by first | trivial) (by repeat (first | exact Seg.here (Pre.succ Pre.zero) | apply Seg.succ)) | exact X7 (by first | exact Zdh | exact Xp) rfl (Zgz _) hS (by first | trivial) (by first | trivial) (by assumption) (by repeat (first | exact Seg.here (Pre.succ Pre.zero)))) | exact Xx rfl) ?_)
 refine LtK.nil ?_
 refine Z4 [false, false, false, false, false, false, true] 6 ⟨by decide, by kernel_rfl, by kernel_rfl⟩ rfl rfl ?_
 dsimp only [Zw]
 repeat (first | apply Zg | (apply Ys; refine Yx (ps := [(0, .tmp 7), (1, .tmp 8)]) [.slice A' x.log.length c', .slice B m d] (by first | exact el_122) (by first | exact zc_24) rfl rfl rfl rfl rfl (by kernel_rfl) hS ?_; rintro bq w hS hB))
 refine Z7 (by first | assumption) ?_
 refine Z4 [false, false, false, false, false, false, false, true] 7 ⟨by decide, by kernel_rfl, by kernel_rfl⟩ rfl rfl ?_
 dsimp only [Zw]
 repeat (first | apply Zg | (apply Y1; refine Zo rfl rfl rfl rfl (by kernel_rfl) rfl (concat_any bq 2 A' B x.log.length m c' d x.log l _ rfl hl.len (by omega) (hS.base.rd hLI.rd (fun a ha => (hA' a ha).1)) (hS.base.rdN hlW.rd (fun a ha hne => by have := hl.rd.blk hne a ha; omega)) (hS.box_cell (b := bq) (by repeat (first | exact Has.head)) (by repeat (first | exact Seg.here (Pre.succ Pre.zero)))) (hS.box_cell (b := bq) (by repeat (first | exact Has.head)) (by repeat (first | exact Seg.here (Pre.succ Pre.zero) | apply Seg.succ))) (by omega)) ?_; rintro e w1 ⟨A2, c2, ⟨rfl, hs⟩, hB⟩; refine ⟨_, rfl, ?_⟩; have hS := hS.slice hs hB))
 refine Z7 (by first | assumption) ?_
 refine Y2 [false, false, false, false, false, false, false, false, true] [10] (fun b => b ≠ bo) (by decide +kernel) (by intro j hj b hb; simp only [List.mem_cons, List.not_mem_nil, or_false] at hj; (try rcases hj with rfl | rfl) <;> simp_all) (by repeat (first | exact PF.body)) ?_
 repeat (first | refine LtK.put rfl rfl rfl (by first | exact Xx rfl) ?_)
 refine LtK.nil ?_
 refine Zn [false, false, false, false, false, false, false, false, false, true] (by decide +kernel) (by repeat (first | exact PF.body)) ?_
 repeat (first | refine LtK.put rfl rfl rfl (by first | exact Ze (by first | exact Yi | exact Xz) rfl) ?_)
 refine LtK.nil ?_
 refine Yp [false, false, false, false, false, false, false, false, false, false, true] 10 ⟨by decide, by kernel_rfl, by kernel_rfl⟩ rfl rfl ?_
 dsimp only [Zw]
 repeat (first | apply Zg | (apply Yq; refine Zm rfl rfl rfl (by first | exact CellsOf.slice) hS (by repeat (first | exact Pos.head | apply Pos.tail)) (by repeat (first | exact SetC.here (by repeat (first | exact Ovr.nil | apply Ovr.cons)) | apply SetC.succ)) (by kernel_rfl) rfl (fun w hS hB => ?_)))
 refine Ye (by first | exact hB.sub (fun _ _ h => by simpa using h)) ?_
 refine Z6 (by kernel_rfl) ?_
 refine Zcs rfl (by first | exact RV.nil) rfl ?_
 have hob := hS.ok (.box bo [.int .i64 x.snap.index, .int .i64 x.snap.term, .int .i64 x.snap.sum, .int .i64 x.snap.level, .bool x.snap.final, .slice A2 (x.log.length + m) c2, .int .i64 x.term, .int .i64 x.vote] 26) (Has.mem (by repeat (first | exact Has.head | apply Has.tail)))
 have hrd : LI w A2 (x.log ++ l).length c2 (x.log ++ l) := ⟨rfl, by rw [List.length_append, hl.len]; omega, by rw [List.length_append, hl.len]; exact hs.le, hs.cap, hS.rd (by repeat (first | exact Has.head))⟩
 have hln : (x.log ++ l).length = x.log.length + m := by rw [List.length_append, hl.len]
 refine ⟨hS.base, .inl ⟨_, A2, c2, rfl, rfl, ?_, hrd, fun a ha => ⟨(hS.rng (.rd A2 (ens (x.log ++ l))) (Has.mem (by repeat (first | exact Has.head))) a.block ⟨a, ha, rfl⟩).1, .inr ?_⟩⟩⟩
 ·unfold TB; rw [hln]; exact hob
 ·exact Nat.le_of_not_lt fun hlt => (hS.rng (.rd A2 (ens (x.log ++ l))) (Has.mem (by repeat (first | exact Has.head))) a.block ⟨a, ha, rfl⟩).2 hlt (hS.rd_ne 0 2 rfl rfl rfl a ha)
def Chg (w0 : World) (x : Tu) (res : Option Tu) (e : Ending) (w' : World) : Prop := ∃ A2 c2, (e = .returned (.tuple #[.agg #[.int .i64 (Zb4 x res).snap.index, .int .i64 (Zb4 x res).snap.term, .int .i64 (Zb4 x res).snap.sum, .int .i64 (Zb4 x res).snap.level, .bool (Zb4 x res).snap.final, .slice A2 (Zb4 x res).log.length c2, .int .i64 (Zb4 x res).term, .int .i64 (Zb4 x res).vote], .int .i64 (chgE x res)]) ∧ Sl w0 w' A2 (Zb4 x res).log.length c2 3 (ens (Zb4 x res).log)) ∧ Below w0.heap.size w0 w'
theorem append_any (x : Tu) (A B : OA) (c m d : Nat) (l : List En) (w0 : World) (hx : LI w0 A x.log.length c x.log) (hA : ∀ a, A = some a → a.block < w0.heap.size) (hl : LI w0 B m d l) (hm : m ≤ 300) :
  Calls Try.prog 53 #[.agg #[.int .i64 x.snap.index, .int .i64 x.snap.term, .int .i64 x.snap.sum, .int .i64 x.snap.level, .bool x.snap.final, .slice A x.log.length c, .int .i64 x.term, .int .i64 x.vote], .slice B m d] w0 (Chg w0 x (some { x with log := x.log ++ l })) := by
 refine Y0 Try.func53 rfl Try.ntmps53 rfl ?_
 have hS := St0.start All w0
 repeat (first | (apply Zd; intro K hK) | apply Zf)
 first | (apply X2; refine Yd rfl rfl rfl (by first | exact CellsOf.agg) hS (fun bt w hS hB => ?_))
 first | (apply X2; refine Yd rfl rfl rfl (by first | exact CellsOf.slice) hS (fun bl w hS hB => ?_))
 repeat (first | apply Zg | (apply Zb; assumption) | (apply Zd; intro K hK) | apply Zf | (apply X3; refine Yb rfl rfl (by first | exact Zey) hS (fun b w hS hB => ?_)) | (apply Ys; refine Za rfl rfl rfl (by first | exact Zy rfl | (apply Z9; first | exact Zi (by first | exact Yr) rfl (Zgy _) hS (by repeat (first | exact Has.head | apply Has.tail)) (by first | trivial) (by repeat (first | exact Seg.here (by repeat (first | exact Pre.zero | apply Pre.succ))))) | exact X4 rfl rfl) ?_))
 have hbl := (hS.box_ge (b := bl) (by repeat (first | exact Has.head | apply Has.tail)))
 refine Zo rfl rfl rfl rfl (by kernel_rfl) rfl (changed_any x (some { x with log := x.log ++ l }) A c 89 #[.pointer (some ⟨bl, 0, none⟩)] _ (by kernel_rfl) (hx.below hS.pure) (fun a ha => Nat.lt_of_lt_of_le (hA a ha) hS.size)
  (fun hT => append1_does bl m d B l _ hbl.2.2 (hl.below hS.pure) x hm hT)) ?_
 rintro e w1 ⟨A2, c2, ⟨rfl, hs⟩, hB⟩
 refine ⟨_, rfl, ?_⟩
 replace hS := hS.slice hs hB
 repeat (first | apply Zg | (apply Zb; assumption) | (apply Yq; refine Zm rfl rfl rfl (by first | exact CellsOf.agg) hS (by repeat (first | exact Pos.head | apply Pos.tail)) (by repeat (first | exact SetC.here (by repeat (first | exact Ovr.nil | apply Ovr.cons)))) (by kernel_rfl) rfl (fun w hS hB => ?_)) | (apply Ys; refine Za rfl rfl rfl (by first | exact Zy rfl | exact Z1 rfl rfl) ?_) | apply Zk)
 refine Zl rfl (by first | exact RV.cell rfl (Zx (by first | exact Yr) hS (by repeat (first | exact Has.head | apply Has.tail)) (by repeat (first | exact Seg.here (by repeat (first | exact Pre.zero | apply Pre.succ))))) (RV.tmp rfl RV.nil)) rfl ?_
 exact ⟨A2, c2, ⟨rfl, hS.giveS (by repeat (first | exact Has.head)) hs.len hs.le hs.cap⟩, hS.pure⟩
def Zgh (x : Tu) (i : Int) : Option Tu := if x.snap.index < i ∧ i ≤ x.last + 1 then some { x with log := x.log.take (i - x.snap.index - 1).toNat } else none
theorem cut1_does (bf : Nat) (i : Int) (w0 : World) (hbf : w0.heap[bf]? = some (.cells #[.int .i64 i] 3)) (x : Tu) (hx : Jm x = true) :
  Does 99 #[.pointer (some ⟨bf, 0, none⟩)] w0 x (Zgh x i) := by
 intro W bo A' c' hB hbo hT hLI hA'
 have hxb := Zea x hx
 have hol : bo < W.heap.size := (Array.getElem?_eq_some_iff.1 hT).1
 have hbf' : bf < w0.heap.size := (Array.getElem?_eq_some_iff.1 hbf).1
 have hbW : W.heap[bf]? = some (.cells #[.int .i64 i] 3) := (hB.block bf hbf').trans hbf
 have hne : bf ≠ bo := by omega
 have hle := hLI.le
 show Calls _ _ #[_, _] _ _
 refine Y0 Try.func99 rfl Try.ntmps99 rfl ?_
 have hS := St0.old (w := W) (fun k => k ≠ bo) (e := .box bo [.int .i64 x.snap.index, .int .i64 x.snap.term, .int .i64 x.snap.sum, .int .i64 x.snap.level, .bool x.snap.final, .slice A' x.log.length c', .int .i64 x.term, .int .i64 x.vote] 26) hT (fun k hk => by subst hk; exact ⟨hol, by simp⟩)
 by_cases h1 : x.snap.index < i
 ·by_cases h2 : i ≤ x.snap.index + x.log.length + 1
  ·have e1 : Zgh x i = some { x with log := x.log.take (i - x.snap.index - 1).toNat } := if_pos ⟨h1, h2⟩
   rw [e1]
   obtain ⟨k, hk⟩ : ∃ k : Nat, i - x.snap.index - 1 = k := ⟨(i - x.snap.index - 1).toNat, by omega⟩
   have hkn : (i - x.snap.index - 1).toNat = k := by omega
   repeat (first | (apply Zd; intro K hK))
   refine Yg 17 [] (fun _ _ => True) ⟨by kernel_rfl, by kernel_rfl⟩ hS (fun w hS hB => ?_)
   refine Zn [true, true, true, true, true, true, true, true, true, true, true, true] (by decide +kernel) (by repeat (first | exact PF.body | apply PF.then)) ?_
   repeat (first | refine LtK.put rfl rfl rfl (by first | exact Zs rfl | exact Ze (by first | exact Yi | exact Xg) rfl | (apply Z9; first | exact Zh (by first | exact Zdh | exact Z0) rfl (Zgz _) hS (by repeat (first | exact Has.head | apply Has.tail)) (by first | trivial) (by repeat (first | exact Seg.here (Pre.succ Pre.zero))) | exact Zi (by first | exact Y4 | exact Yr) rfl (Zgz _) hS (by repeat (first | exact Has.head)) (by first | trivial) (by repeat (first | exact Seg.here (by repeat (first | exact Pre.zero | apply Pre.succ)))) | exact X7 (by first | exact Zdh | exact Z0) rfl (Zgz _) hS (by first | trivial) (by first | trivial) (by assumption) (by repeat (first | exact Seg.here (Pre.succ Pre.zero)))) | (apply Ym; first | exact Zem rfl rfl (by omega)) | exact Xx rfl) ?_)
   refine LtK.nil ?_
   refine Z4 [false, false, false, false, false, false, false, false, false, false, false, false, true] 12 ⟨by decide, by kernel_rfl, by kernel_rfl⟩ rfl rfl ?_
   dsimp only [Zw]
   repeat (first | apply Zg | (apply Y1; first | refine Xe rfl rfl rfl (by kernel_rfl) rfl (Zgn _ _ _ _ _ _ _ (by omega) (by omega)) hS (fun w hS hB => ?_)))
   refine Z7 (by first | assumption) ?_
   refine Zn [false, false, false, false, false, false, false, false, false, false, false, false, false, true, true, true] (by decide +kernel) (by repeat (first | exact PF.body | apply PF.then)) ?_
   repeat (first | refine LtK.put rfl rfl rfl (by first | (apply Ym; first | exact Zff rfl rfl (by omega) | exact Zd1 rfl rfl (by omega)) | (apply Xd; first | exact Z3 rfl rfl rfl)) ?_)
   refine LtK.nil ?_
   refine Z4 [false, false, false, false, false, false, false, false, false, false, false, false, false, false, false, false, true] 16 ⟨by decide, by kernel_rfl, by kernel_rfl⟩ rfl rfl ?_
   dsimp only [Zw]
   repeat (first | apply Zg | (apply Y1; first | refine Xe rfl rfl rfl (by kernel_rfl) rfl (Zgi _) hS (fun w hS hB => ?_)))
   refine Z7 (by first | assumption) ?_
   refine Z6 (by kernel_rfl) ?_
   repeat (first | (apply Zb; assumption))
   refine Yg 17 [16] (fun i b => (i = 16 → b ≠ bo)) ⟨by kernel_rfl, by kernel_rfl⟩ hS (fun w hS hB => ?_)
   refine Zn [true, true, true, true, true, true, true, true, true, true, true, true, true, true] (by decide +kernel) (by repeat (first | exact PF.body)) ?_
   repeat (first | refine LtK.put rfl rfl rfl (by first | exact Zfg (h := k) (by first | exact Y6) rfl rfl (by omega) (by omega) | exact Zs rfl | exact Ze (by first | exact Yi | exact Xg | exact Xz) rfl | (apply Z9; first | exact Zh (by first | exact Zdh | exact Z0 | exact Xp) rfl (Zgz _) hS (by repeat (first | exact Has.head | apply Has.tail)) (by first | trivial) (by repeat (first | exact Seg.here (Pre.succ Pre.zero) | apply Seg.succ)) | exact X7 (by first | exact Zdh | exact Z0) rfl (Zgz _) hS (by first | trivial) (by first | trivial) (by assumption) (by repeat (first | exact Seg.here (Pre.succ Pre.zero)))) | (apply Ym; first | exact yv_sub rfl rfl (by omega)) | exact Xx rfl) ?_)
   refine LtK.nil ?_
   refine Y2 [false, false, false, false, false, false, false, false, false, false, false, false, false, false, true] [16] (fun b => b ≠ bo) (by decide +kernel) (by intro j hj b hb; simp only [List.mem_cons, List.not_mem_nil, or_false] at hj; (try rcases hj with rfl | rfl) <;> simp_all) (by repeat (first | exact PF.body)) ?_
   repeat (first | refine LtK.put rfl rfl rfl (by first | exact Xx rfl) ?_)
   refine LtK.nil ?_
   refine Zn [false, false, false, false, false, false, false, false, false, false, false, false, false, false, false, true] (by decide +kernel) (by repeat (first | exact PF.body)) ?_
   repeat (first | refine LtK.put rfl rfl rfl (by first | exact Ze (by first | exact Yi | exact Xz) rfl) ?_)
   refine LtK.nil ?_
   refine Yp [false, false, false, false, false, false, false, false, false, false, false, false, false, false, false, false, true] 16 ⟨by decide, by kernel_rfl, by kernel_rfl⟩ rfl rfl ?_
   dsimp only [Zw]
   repeat (first | apply Zg | (apply Yq; refine Zm rfl rfl rfl (by first | exact CellsOf.slice) hS (by repeat (first | exact Pos.head)) (by repeat (first | exact SetC.here (by repeat (first | exact Ovr.nil | apply Ovr.cons)) | apply SetC.succ)) (by kernel_rfl) rfl (fun w hS hB => ?_)))
   refine Ye (by first | exact hB.sub (fun _ _ h => by simpa using h)) ?_
   refine Z6 (by kernel_rfl) ?_
   refine Zcs rfl (by first | exact RV.nil) rfl ?_
   have hob := hS.ok (.box bo [.int .i64 x.snap.index, .int .i64 x.snap.term, .int .i64 x.snap.sum, .int .i64 x.snap.level, .bool x.snap.final, .slice A' k c', .int .i64 x.term, .int .i64 x.vote] 26) (Has.mem (by repeat (first | exact Has.head)))
   have hkl : (x.log.take k).length = k := by rw [List.length_take]; omega
   rw [hkn]
   refine ⟨hS.base, .inl ⟨_, A', c', rfl, rfl, ?_, ⟨rfl, by have := hLI.small; dsimp only; rw [hkl]; omega, by dsimp only; rw [hkl]; omega, hLI.cap, ?_⟩, fun a ha => ⟨Nat.lt_of_lt_of_le (hA' a ha).2 hS.base.size, .inl ⟨a, ha, rfl⟩⟩⟩⟩
   ·unfold TB; dsimp only; rw [hkl]; exact hob
   ·have h5 := (hS.base.rd hLI.rd (fun a ha => (hA' a ha).1)).take (3 * k)
    have e2 : (ens x.log).take (3 * k) = ens (x.log.take k) := by
     have := ens_app (x.log.take k) (x.log.drop k)
     rw [List.take_append_drop] at this
     rw [this, List.take_left' (by rw [Zc8, hkl])]
    rwa [e2] at h5
  ·have e1 : Zgh x i = none := if_neg (fun h => h2 (by have := h.2; unfold Tu.last at this; exact this))
   rw [e1]
   repeat (first | (apply Zd; intro K hK))
   refine Yg 17 [] (fun _ _ => True) ⟨by kernel_rfl, by kernel_rfl⟩ hS (fun w hS hB => ?_)
   refine Zn [true, true, true, true, true, true, true, true, true, true, true, true] (by decide +kernel) (by repeat (first | exact PF.body | apply PF.then)) ?_
   repeat (first | refine LtK.put rfl rfl rfl (by first | exact Zs rfl | exact Ze (by first | exact Yi | exact Xg) rfl | (apply Z9; first | exact Zh (by first | exact Zdh | exact Z0) rfl (Zgz _) hS (by repeat (first | exact Has.head | apply Has.tail)) (by first | trivial) (by repeat (first | exact Seg.here (Pre.succ Pre.zero))) | exact Zi (by first | exact Y4 | exact Yr) rfl (Zgz _) hS (by repeat (first | exact Has.head)) (by first | trivial) (by repeat (first | exact Seg.here (by repeat (first | exact Pre.zero | apply Pre.succ)))) | exact X7 (by first | exact Zdh | exact Z0) rfl (Zgz _) hS (by first | trivial) (by first | trivial) (by assumption) (by repeat (first | exact Seg.here (Pre.succ Pre.zero)))) | (apply Ym; first | exact Zem rfl rfl (by omega)) | exact Xx rfl) ?_)
   refine LtK.nil ?_
   refine Z4 [false, false, false, false, false, false, false, false, false, false, false, false, true] 12 ⟨by decide, by kernel_rfl, by kernel_rfl⟩ rfl rfl ?_
   dsimp only [Zw]
   repeat (first | apply Zg | (apply Y1; first | refine Xe rfl rfl rfl (by kernel_rfl) rfl (Zgn _ _ _ _ _ _ _ (by omega) (by omega)) hS (fun w hS hB => ?_)))
   refine Z7 (by first | assumption) ?_
   refine Zn [false, false, false, false, false, false, false, false, false, false, false, false, false, true, true, true] (by decide +kernel) (by repeat (first | exact PF.body | apply PF.then)) ?_
   repeat (first | refine LtK.put rfl rfl rfl (by first | (apply Ym; first | exact Zfe rfl rfl (by omega) | exact Zd1 rfl rfl (by omega)) | (apply Xd; first | exact Z3 rfl rfl rfl)) ?_)
   refine LtK.nil ?_
   refine Z4 [false, false, false, false, false, false, false, false, false, false, false, false, false, false, false, false, true] 16 ⟨by decide, by kernel_rfl, by kernel_rfl⟩ rfl rfl ?_
   dsimp only [Zw]
   repeat (first | (apply Y1; first | (refine Xs rfl rfl (by kernel_rfl) rfl (Zd6 _) ?_; rintro e w2 ⟨rfl, hB2⟩; refine ⟨_, rfl, ?_⟩)) | apply Xj)
   exact V6 rfl ⟨(hS.below hB2).base, .inr ⟨rfl, rfl, TB.eight (x := x) (A := A') (c := c') ((hS.below hB2).ok (.box bo [.int .i64 x.snap.index, .int .i64 x.snap.term, .int .i64 x.snap.sum, .int .i64 x.snap.level, .bool x.snap.final, .slice A' x.log.length c', .int .i64 x.term, .int .i64 x.vote] 26) (Has.mem (by repeat (first | exact Has.head))))⟩⟩
 ·have e1 : Zgh x i = none := if_neg (fun h => h1 h.1)
  rw [e1]
  repeat (first | (apply Zd; intro K hK))
  refine Yg 17 [] (fun _ _ => True) ⟨by kernel_rfl, by kernel_rfl⟩ hS (fun w hS hB => ?_)
  refine Zn [true, true, true, true, true, true, true, true, true, true, true, true] (by decide +kernel) (by repeat (first | exact PF.body | apply PF.then)) ?_
  repeat (first | refine LtK.put rfl rfl rfl (by first | exact Zs rfl | exact Ze (by first | exact Yi | exact Xg) rfl | (apply Z9; first | exact Zh (by first | exact Zdh | exact Z0) rfl (Zgz _) hS (by repeat (first | exact Has.head | apply Has.tail)) (by first | trivial) (by repeat (first | exact Seg.here (Pre.succ Pre.zero))) | exact X7 (by first | exact Zdh | exact Z0) rfl (Zgz _) hS (by first | trivial) (by first | trivial) (by assumption) (by repeat (first | exact Seg.here (Pre.succ Pre.zero)))) | (apply Ym; first | exact Zcz rfl rfl (by omega)) | exact Xx rfl) ?_ | refine LtK.skip rfl rfl rfl ?_)
  refine LtK.nil ?_
  refine Z4 [false, false, false, false, false, false, false, false, false, false, false, false, true] 12 ⟨by decide, by kernel_rfl, by kernel_rfl⟩ rfl rfl ?_
  dsimp only [Zw]
  repeat (first | apply Zg | (apply Ys; refine Xc rfl rfl rfl ?_))
  refine Z7 (by first | exact Below.refl _ _) ?_
  refine Zn [false, false, false, false, false, false, false, false, false, false, false, false, false, true, true, true] (by decide +kernel) (by repeat (first | exact PF.body | apply PF.then)) ?_
  repeat (first | refine LtK.put rfl rfl rfl (by first | (apply Xd; first | exact Yj rfl rfl rfl)) ?_ | refine LtK.skip rfl rfl rfl ?_)
  refine LtK.nil ?_
  refine Z4 [false, false, false, false, false, false, false, false, false, false, false, false, false, false, false, false, true] 16 ⟨by decide, by kernel_rfl, by kernel_rfl⟩ rfl rfl ?_
  dsimp only [Zw]
  repeat (first | (apply Y1; first | (refine Xs rfl rfl (by kernel_rfl) rfl (Zd6 _) ?_; rintro e w2 ⟨rfl, hB2⟩; refine ⟨_, rfl, ?_⟩)) | apply Xj)
  exact V6 rfl ⟨(hS.below hB2).base, .inr ⟨rfl, rfl, TB.eight (x := x) (A := A') (c := c') ((hS.below hB2).ok (.box bo [.int .i64 x.snap.index, .int .i64 x.snap.term, .int .i64 x.snap.sum, .int .i64 x.snap.level, .bool x.snap.final, .slice A' x.log.length c', .int .i64 x.term, .int .i64 x.vote] 26) (Has.mem (by repeat (first | exact Has.head))))⟩⟩
end
section
open Go Go.RowKit
set_option maxRecDepth 100000
theorem Rd.cutE {w : World} {A : OA} {l : List En} (h : Rd w A (ens l)) {k c : Nat} (hc : l.length ≤ c) : Rd w (if c = k then A else A.map (·.add (k * 3))) (ens (l.drop k)) := by
 split
 ·rename_i hck
  have : l.drop k = [] := List.drop_eq_nil_of_le (by omega)
  rw [this]; exact Rd.nil w A
 ·rw [ens_drop, Nat.mul_comm]; exact h.drop (3 * k)
def Zba (x : Tu) (i : Int) : Option Int := if i = x.snap.index then some x.snap.term else if x.snap.index < i ∧ i ≤ x.last then (x.log[(i - x.snap.index - 1).toNat]?).map En.term else none
end
section
open Go Go.RowKit
set_option maxRecDepth 100000
set_option maxHeartbeats 1000000
theorem cut_any (x : Tu) (A : OA) (c : Nat) (i : Int) (w0 : World) (hx : LI w0 A x.log.length c x.log) (hA : ∀ a, A = some a → a.block < w0.heap.size) :
  Calls Try.prog 62 #[.agg #[.int .i64 x.snap.index, .int .i64 x.snap.term, .int .i64 x.snap.sum, .int .i64 x.snap.level, .bool x.snap.final, .slice A x.log.length c, .int .i64 x.term, .int .i64 x.vote], .int .i64 i] w0 (Chg w0 x (Zgh x i)) := by
 refine Y0 Try.func62 rfl Try.ntmps62 rfl ?_
 have hS := St0.start All w0
 repeat (first | (apply Zd; intro K hK) | apply Zf)
 first | (apply X2; refine Yd rfl rfl rfl (by first | exact CellsOf.agg) hS (fun bt w hS hB => ?_))
 first | (apply X2; refine Yd rfl rfl rfl (by first | exact CellsOf.int) hS (fun bf w hS hB => ?_))
 repeat (first | apply Zg | (apply Zb; assumption) | (apply Zd; intro K hK) | apply Zf | (apply X3; refine Yb rfl rfl (by first | exact Zey) hS (fun b w hS hB => ?_)) | (apply Ys; refine Za rfl rfl rfl (by first | exact Zy rfl | (apply Z9; first | exact Zi (by first | exact Yr) rfl (Zgy _) hS (by repeat (first | exact Has.head | apply Has.tail)) (by first | trivial) (by repeat (first | exact Seg.here (by repeat (first | exact Pre.zero | apply Pre.succ))))) | exact X4 rfl rfl) ?_))
 have hbf := (hS.box_ge (b := bf) (by repeat (first | exact Has.head | apply Has.tail)))
 refine Zo rfl rfl rfl rfl (by kernel_rfl) rfl (changed_any x (Zgh x i) A c 99 #[.pointer (some ⟨bf, 0, none⟩)] _ (by kernel_rfl) (hx.below hS.pure) (fun a ha => Nat.lt_of_lt_of_le (hA a ha) hS.size)
  (fun hT => cut1_does bf i _ hbf.2.2 x hT)) ?_
 rintro e w1 ⟨A2, c2, ⟨rfl, hs⟩, hB⟩
 refine ⟨_, rfl, ?_⟩
 replace hS := hS.slice hs hB
 repeat (first | apply Zg | (apply Zb; assumption) | (apply Yq; refine Zm rfl rfl rfl (by first | exact CellsOf.agg) hS (by repeat (first | exact Pos.head | apply Pos.tail)) (by repeat (first | exact SetC.here (by repeat (first | exact Ovr.nil | apply Ovr.cons)))) (by kernel_rfl) rfl (fun w hS hB => ?_)) | (apply Ys; refine Za rfl rfl rfl (by first | exact Zy rfl | exact Z1 rfl rfl) ?_) | apply Zk)
 refine Zl rfl (by first | exact RV.cell rfl (Zx (by first | exact Yr) hS (by repeat (first | exact Has.head | apply Has.tail)) (by repeat (first | exact Seg.here (by repeat (first | exact Pre.zero | apply Pre.succ))))) (RV.tmp rfl RV.nil)) rfl ?_
 exact ⟨A2, c2, ⟨rfl, hS.giveS (by repeat (first | exact Has.head)) hs.len hs.le hs.cap⟩, hS.pure⟩
def hardR (x : Tu) (t v : Int) : Option Tu := if x.term < t ∨ t = x.term ∧ (x.vote = 0 ∨ x.vote = v) then some { x with term := t, vote := v } else none
theorem hard1_does (bf bg : Nat) (t v : Int) (w0 : World) (hbf : w0.heap[bf]? = some (.cells #[.int .i64 t] 3)) (hbg : w0.heap[bg]? = some (.cells #[.int .i64 v] 3)) (x : Tu) (hx : Jm x = true) :
  Does 86 #[.pointer (some ⟨bf, 0, none⟩), .pointer (some ⟨bg, 0, none⟩)] w0 x (hardR x t v) := by
 intro W bo A' c' hB hbo hT hLI hA'
 have hxb := Zea x hx
 have hol : bo < W.heap.size := (Array.getElem?_eq_some_iff.1 hT).1
 have hle := hLI.le
 have hcp := hLI.cap
 have hAn := fun a ha => (hA' a ha).1
 have hbfl : bf < w0.heap.size := (Array.getElem?_eq_some_iff.1 hbf).1
 have hbfW : W.heap[bf]? = some (.cells #[.int .i64 t] 3) := (hB.block bf hbfl).trans hbf
 have hbfn : bf ≠ bo := by omega
 have hbgl : bg < w0.heap.size := (Array.getElem?_eq_some_iff.1 hbg).1
 have hbgW : W.heap[bg]? = some (.cells #[.int .i64 v] 3) := (hB.block bg hbgl).trans hbg
 have hbgn : bg ≠ bo := by omega
 show Calls _ _ #[_, _, _] _ _
 refine Zao Try.func86 rfl Try.ntmps86 rfl ?_
 have hS := St0.old (w := W) (fun k => k ≠ bo) (e := .box bo [.int .i64 x.snap.index, .int .i64 x.snap.term, .int .i64 x.snap.sum, .int .i64 x.snap.level, .bool x.snap.final, .slice A' x.log.length c', .int .i64 x.term, .int .i64 x.vote] 26) hT (fun k hk => by subst hk; exact ⟨hol, by simp⟩)
 by_cases h0 : x.term < t ∨ t = x.term ∧ (x.vote = 0 ∨ x.vote = v)
 ·have e1 : hardR x t v = some { x with term := t, vote := v } := if_pos h0
  rw [e1]
  have hfin : ∀ w, KeepB (fun k => k ≠ bo) W w → w.heap[bo]? = some (.cells #[.int .i64 x.snap.index, .int .i64 x.snap.term, .int .i64 x.snap.sum, .int .i64 x.snap.level, .bool x.snap.final, .slice A' x.log.length c', .int .i64 t, .int .i64 v] 26) → (KeepB (fun k => k ≠ bo) W w ∧ ((∃ y A2 c2, some ({ x with term := t, vote := v } : Tu) = some y ∧ (Ending.returned (.tuple #[])) = .returned (.tuple #[]) ∧ TB w bo y A2 c2 ∧ LI w A2 y.log.length c2 y.log ∧ (∀ a, A2 = some a → a.block < w.heap.size ∧ ((∃ a', A' = some a' ∧ a.block = a'.block) ∨ W.heap.size ≤ a.block))) ∨ (some ({ x with term := t, vote := v } : Tu) = none ∧ (Ending.returned (.tuple #[])) = .panicked badP ∧ TB8 w bo))) :=
   fun w hk ho => ⟨hk, .inl ⟨_, A', c', rfl, rfl, ho, hLI.keep hk hAn, fun a ha => ⟨Nat.lt_of_lt_of_le (hA' a ha).2 hk.size, .inl ⟨a, ha, rfl⟩⟩⟩⟩
  by_cases h1 : x.term < t
  ·repeat (first | (apply Zd; intro K hK))
   refine Yg 30 [] (fun _ _ => True) ⟨by kernel_rfl, by kernel_rfl⟩ hS (fun w hS hB => ?_)
   refine Zn [true, true, true, true, true, true, true, true, true, true, true, true, true, true, true, true, true, true, true, true, true, true, true, true, true, true, true, true, true] (by decide +kernel) (by repeat (first | exact PF.body | apply PF.then)) ?_
   repeat (first | refine LtK.put rfl rfl rfl (by first | exact Zs rfl | exact Ze (by first | exact Yi | exact Jb | exact J4) rfl | (apply Z9; first | exact Zh (by first | exact Zdh | exact Z0) rfl (Zgz _) hS (by repeat (first | exact Has.head | apply Has.tail)) (by first | trivial) (by repeat (first | exact Seg.here (Pre.succ Pre.zero) | apply Seg.succ)) | exact X7 (by first | exact Zdh | exact Z0) rfl (Zgz _) hS (by first | trivial) (by first | trivial) (by assumption) (by repeat (first | exact Seg.here (Pre.succ Pre.zero)))) | (apply Ym; first | exact Zem rfl rfl (by omega)) | (apply Xd; first | exact Z3 rfl rfl rfl) | exact Xx rfl) ?_ | refine LtK.skip rfl rfl rfl ?_)
   refine LtK.nil ?_
   refine Z4 [false, false, false, false, false, false, false, false, false, false, false, false, false, false, false, false, false, false, false, false, false, false, false, false, false, false, false, false, false, true] 29 ⟨by decide, by kernel_rfl, by kernel_rfl⟩ rfl rfl ?_
   dsimp only [Zw]
   repeat (first | apply Zg | (apply Y1; first | refine Xe rfl rfl rfl (by kernel_rfl) rfl (Zgi _) hS (fun w hS hB => ?_)))
   refine Z7 (by first | assumption) ?_
   refine Z6 (by kernel_rfl) ?_
   repeat (first | (apply Zb; assumption))
   refine Yg 10 [6, 9] (fun i b => (i = 6 → b ≠ bo) ∧ (i = 9 → b ≠ bo)) ⟨by kernel_rfl, by kernel_rfl⟩ hS (fun w hS hB => ?_)
   refine Zn [true, false, true] (by decide +kernel) (by repeat (first | exact PF.body)) ?_
   repeat (first | refine LtK.put rfl rfl rfl (by first | exact Zs rfl | (apply Z9; first | exact X7 (by first | exact Zdh | exact Z0) rfl (Zgz _) hS (by first | trivial) (by first | trivial) (by assumption) (by repeat (first | exact Seg.here (Pre.succ Pre.zero))))) ?_)
   refine LtK.nil ?_
   refine Y2 [false, true, false, true, true] [6] (fun b => b ≠ bo) (by decide +kernel) (by intro j hj b hb; simp only [List.mem_cons, List.not_mem_nil, or_false] at hj; (try rcases hj with rfl | rfl) <;> simp_all) (by repeat (first | exact PF.body)) ?_
   repeat (first | refine LtK.put rfl rfl rfl (by first | exact Zs rfl | (apply Z9; first | exact X7 (by first | exact Zdh | exact Z0) rfl (Zg0 _ _) hS (by first | trivial) (by first | trivial) (by assumption) (by repeat (first | exact Seg.here (Pre.succ Pre.zero)))) | exact Xx rfl) ?_)
   refine LtK.nil ?_
   refine Zn [false, false, false, false, false, true] (by decide +kernel) (by repeat (first | exact PF.body)) ?_
   repeat (first | refine LtK.put rfl rfl rfl (by first | exact Ze (by first | exact Yi | exact Jb) rfl) ?_)
   refine LtK.nil ?_
   refine Yp [false, false, false, false, false, false, true] 6 ⟨by decide, by kernel_rfl, by kernel_rfl⟩ rfl rfl ?_
   dsimp only [Zw]
   repeat (first | apply Zg | (apply Yq; refine Zm rfl rfl rfl (by first | exact CellsOf.int) hS (by repeat (first | exact Pos.head)) (by repeat (first | exact SetC.here (by repeat (first | exact Ovr.nil | apply Ovr.cons)) | apply SetC.succ)) (by kernel_rfl) rfl (fun w hS hB => ?_)))
   refine Ye (by first | exact hB.sub (fun _ _ h => by simpa using h)) ?_
   refine Y2 [false, false, false, false, false, false, false, true] [9] (fun b => b ≠ bo) (by decide +kernel) (by intro j hj b hb; simp only [List.mem_cons, List.not_mem_nil, or_false] at hj; (try rcases hj with rfl | rfl) <;> simp_all) (by repeat (first | exact PF.body)) ?_
   repeat (first | refine LtK.put rfl rfl rfl (by first | exact Xx rfl) ?_)
   refine LtK.nil ?_
   refine Zn [false, false, false, false, false, false, false, false, true] (by decide +kernel) (by repeat (first | exact PF.body)) ?_
   repeat (first | refine LtK.put rfl rfl rfl (by first | exact Ze (by first | exact Yi | exact J4) rfl) ?_)
   refine LtK.nil ?_
   refine Yp [false, false, false, false, false, false, false, false, false, true] 9 ⟨by decide, by kernel_rfl, by kernel_rfl⟩ rfl rfl ?_
   dsimp only [Zw]
   repeat (first | apply Zg | (apply Yq; refine Zm rfl rfl rfl (by first | exact CellsOf.int) hS (by repeat (first | exact Pos.head)) (by repeat (first | exact SetC.here (by repeat (first | exact Ovr.nil | apply Ovr.cons)) | apply SetC.succ)) (by kernel_rfl) rfl (fun w hS hB => ?_)))
   refine Ye (by first | exact hB.sub (fun _ _ h => by simpa using h)) ?_
   refine Z6 (by kernel_rfl) ?_
   refine Zcs rfl (by first | exact RV.nil) rfl ?_
   exact hfin _ hS.base (hS.ok (.box bo [.int .i64 x.snap.index, .int .i64 x.snap.term, .int .i64 x.snap.sum, .int .i64 x.snap.level, .bool x.snap.final, .slice A' x.log.length c', .int .i64 t, .int .i64 v] 26) (Has.mem (by repeat (first | exact Has.head))))
  ·have h2 : t = x.term := by omega
   by_cases h3 : x.vote = 0
   ·repeat (first | (apply Zd; intro K hK))
    refine Yg 30 [] (fun _ _ => True) ⟨by kernel_rfl, by kernel_rfl⟩ hS (fun w hS hB => ?_)
    refine Zn [true, true, true, true, true, true, true, true, true, true, true, true, true, true, true, true, true, true, true, true, true, true, true, true, true, true, true, true, true] (by decide +kernel) (by repeat (first | exact PF.body | apply PF.then)) ?_
    repeat (first | refine LtK.put rfl rfl rfl (by first | exact Zs rfl | exact Ze (by first | exact Yi | exact Jb | exact J4) rfl | (apply Z9; first | exact Zh (by first | exact Zdh | exact Z0) rfl (Zgz _) hS (by repeat (first | exact Has.head | apply Has.tail)) (by first | trivial) (by repeat (first | exact Seg.here (Pre.succ Pre.zero) | apply Seg.succ)) | exact X7 (by first | exact Zdh | exact Z0) rfl (Zgz _) hS (by first | trivial) (by first | trivial) (by assumption) (by repeat (first | exact Seg.here (Pre.succ Pre.zero)))) | (apply Ym; first | exact Zcz rfl rfl (by omega) | exact Zgp rfl rfl (by omega)) | (apply Xd; first | exact Z3 rfl rfl rfl | exact Yj rfl rfl rfl) | exact Xx rfl) ?_ | refine LtK.skip rfl rfl rfl ?_)
    refine LtK.nil ?_
    refine Z4 [false, false, false, false, false, false, false, false, false, false, false, false, false, false, false, false, false, false, false, false, false, false, false, false, false, false, false, false, false, true] 29 ⟨by decide, by kernel_rfl, by kernel_rfl⟩ rfl rfl ?_
    dsimp only [Zw]
    repeat (first | apply Zg | (apply Y1; first | refine Xe rfl rfl rfl (by kernel_rfl) rfl (Zgi _) hS (fun w hS hB => ?_)))
    refine Z7 (by first | assumption) ?_
    refine Z6 (by kernel_rfl) ?_
    repeat (first | (apply Zb; assumption))
    refine Yg 10 [6, 9] (fun i b => (i = 6 → b ≠ bo) ∧ (i = 9 → b ≠ bo)) ⟨by kernel_rfl, by kernel_rfl⟩ hS (fun w hS hB => ?_)
    refine Zn [true, false, true] (by decide +kernel) (by repeat (first | exact PF.body)) ?_
    repeat (first | refine LtK.put rfl rfl rfl (by first | exact Zs rfl | (apply Z9; first | exact X7 (by first | exact Zdh | exact Z0) rfl (Zgz _) hS (by first | trivial) (by first | trivial) (by assumption) (by repeat (first | exact Seg.here (Pre.succ Pre.zero))))) ?_)
    refine LtK.nil ?_
    refine Y2 [false, true, false, true, true] [6] (fun b => b ≠ bo) (by decide +kernel) (by intro j hj b hb; simp only [List.mem_cons, List.not_mem_nil, or_false] at hj; (try rcases hj with rfl | rfl) <;> simp_all) (by repeat (first | exact PF.body)) ?_
    repeat (first | refine LtK.put rfl rfl rfl (by first | exact Zs rfl | (apply Z9; first | exact X7 (by first | exact Zdh | exact Z0) rfl (Zg0 _ _) hS (by first | trivial) (by first | trivial) (by assumption) (by repeat (first | exact Seg.here (Pre.succ Pre.zero)))) | exact Xx rfl) ?_)
    refine LtK.nil ?_
    refine Zn [false, false, false, false, false, true] (by decide +kernel) (by repeat (first | exact PF.body)) ?_
    repeat (first | refine LtK.put rfl rfl rfl (by first | exact Ze (by first | exact Yi | exact Jb) rfl) ?_)
    refine LtK.nil ?_
    refine Yp [false, false, false, false, false, false, true] 6 ⟨by decide, by kernel_rfl, by kernel_rfl⟩ rfl rfl ?_
    dsimp only [Zw]
    repeat (first | apply Zg | (apply Yq; refine Zm rfl rfl rfl (by first | exact CellsOf.int) hS (by repeat (first | exact Pos.head)) (by repeat (first | exact SetC.here (by repeat (first | exact Ovr.nil | apply Ovr.cons)) | apply SetC.succ)) (by kernel_rfl) rfl (fun w hS hB => ?_)))
    refine Ye (by first | exact hB.sub (fun _ _ h => by simpa using h)) ?_
    refine Y2 [false, false, false, false, false, false, false, true] [9] (fun b => b ≠ bo) (by decide +kernel) (by intro j hj b hb; simp only [List.mem_cons, List.not_mem_nil, or_false] at hj; (try rcases hj with rfl | rfl) <;> simp_all) (by repeat (first | exact PF.body)) ?_
    repeat (first | refine LtK.put rfl rfl rfl (by first | exact Xx rfl) ?_)
    refine LtK.nil ?_
    refine Zn [false, false, false, false, false, false, false, false, true] (by decide +kernel) (by repeat (first | exact PF.body)) ?_
    repeat (first | refine LtK.put rfl rfl rfl (by first | exact Ze (by first | exact Yi | exact J4) rfl) ?_)
    refine LtK.nil ?_
    refine Yp [false, false, false, false, false, false, false, false, false, true] 9 ⟨by decide, by kernel_rfl, by kernel_rfl⟩ rfl rfl ?_
    dsimp only [Zw]
    repeat (first | apply Zg | (apply Yq; refine Zm rfl rfl rfl (by first | exact CellsOf.int) hS (by repeat (first | exact Pos.head)) (by repeat (first | exact SetC.here (by repeat (first | exact Ovr.nil | apply Ovr.cons)) | apply SetC.succ)) (by kernel_rfl) rfl (fun w hS hB => ?_)))
    refine Ye (by first | exact hB.sub (fun _ _ h => by simpa using h)) ?_
    refine Z6 (by kernel_rfl) ?_
    refine Zcs rfl (by first | exact RV.nil) rfl ?_
    exact hfin _ hS.base (hS.ok (.box bo [.int .i64 x.snap.index, .int .i64 x.snap.term, .int .i64 x.snap.sum, .int .i64 x.snap.level, .bool x.snap.final, .slice A' x.log.length c', .int .i64 t, .int .i64 v] 26) (Has.mem (by repeat (first | exact Has.head))))
   ·have h4 : x.vote = v := by omega
    repeat (first | (apply Zd; intro K hK))
    refine Yg 30 [] (fun _ _ => True) ⟨by kernel_rfl, by kernel_rfl⟩ hS (fun w hS hB => ?_)
    refine Zn [true, true, true, true, true, true, true, true, true, true, true, true, true, true, true, true, true, true, true, true, true, true, true, true, true, true, true, true, true] (by decide +kernel) (by repeat (first | exact PF.body | apply PF.then)) ?_
    repeat (first | refine LtK.put rfl rfl rfl (by first | exact Zs rfl | exact Ze (by first | exact Yi | exact Jb | exact J4) rfl | (apply Z9; first | exact Zh (by first | exact Zdh | exact Z0) rfl (Zgz _) hS (by repeat (first | exact Has.head | apply Has.tail)) (by first | trivial) (by repeat (first | exact Seg.here (Pre.succ Pre.zero) | apply Seg.succ)) | exact X7 (by first | exact Zdh | exact Z0) rfl (Zgz _) hS (by first | trivial) (by first | trivial) (by assumption) (by repeat (first | exact Seg.here (Pre.succ Pre.zero)))) | (apply Ym; first | exact Zcz rfl rfl (by omega) | exact Zgp rfl rfl (by omega) | exact Zgm rfl rfl (by omega)) | (apply Xd; first | exact Z3 rfl rfl rfl | exact Yj rfl rfl rfl) | exact Xx rfl) ?_)
    refine LtK.nil ?_
    refine Z4 [false, false, false, false, false, false, false, false, false, false, false, false, false, false, false, false, false, false, false, false, false, false, false, false, false, false, false, false, false, true] 29 ⟨by decide, by kernel_rfl, by kernel_rfl⟩ rfl rfl ?_
    dsimp only [Zw]
    repeat (first | apply Zg | (apply Y1; first | refine Xe rfl rfl rfl (by kernel_rfl) rfl (Zgi _) hS (fun w hS hB => ?_)))
    refine Z7 (by first | assumption) ?_
    refine Z6 (by kernel_rfl) ?_
    repeat (first | (apply Zb; assumption))
    refine Yg 10 [6, 9] (fun i b => (i = 6 → b ≠ bo) ∧ (i = 9 → b ≠ bo)) ⟨by kernel_rfl, by kernel_rfl⟩ hS (fun w hS hB => ?_)
    refine Zn [true, false, true] (by decide +kernel) (by repeat (first | exact PF.body)) ?_
    repeat (first | refine LtK.put rfl rfl rfl (by first | exact Zs rfl | (apply Z9; first | exact X7 (by first | exact Zdh | exact Z0) rfl (Zgz _) hS (by first | trivial) (by first | trivial) (by assumption) (by repeat (first | exact Seg.here (Pre.succ Pre.zero))))) ?_)
    refine LtK.nil ?_
    refine Y2 [false, true, false, true, true] [6] (fun b => b ≠ bo) (by decide +kernel) (by intro j hj b hb; simp only [List.mem_cons, List.not_mem_nil, or_false] at hj; (try rcases hj with rfl | rfl) <;> simp_all) (by repeat (first | exact PF.body)) ?_
    repeat (first | refine LtK.put rfl rfl rfl (by first | exact Zs rfl | (apply Z9; first | exact X7 (by first | exact Zdh | exact Z0) rfl (Zg0 _ _) hS (by first | trivial) (by first | trivial) (by assumption) (by repeat (first | exact Seg.here (Pre.succ Pre.zero)))) | exact Xx rfl) ?_)
    refine LtK.nil ?_
    refine Zn [false, false, false, false, false, true] (by decide +kernel) (by repeat (first | exact PF.body)) ?_
    repeat (first | refine LtK.put rfl rfl rfl (by first | exact Ze (by first | exact Yi | exact Jb) rfl) ?_)
    refine LtK.nil ?_
    refine Yp [false, false, false, false, false, false, true] 6 ⟨by decide, by kernel_rfl, by kernel_rfl⟩ rfl rfl ?_
    dsimp only [Zw]
    repeat (first | apply Zg | (apply Yq; refine Zm rfl rfl rfl (by first | exact CellsOf.int) hS (by repeat (first | exact Pos.head)) (by repeat (first | exact SetC.here (by repeat (first | exact Ovr.nil | apply Ovr.cons)) | apply SetC.succ)) (by kernel_rfl) rfl (fun w hS hB => ?_)))
    refine Ye (by first | exact hB.sub (fun _ _ h => by simpa using h)) ?_
    refine Y2 [false, false, false, false, false, false, false, true] [9] (fun b => b ≠ bo) (by decide +kernel) (by intro j hj b hb; simp only [List.mem_cons, List.not_mem_nil, or_false] at hj; (try rcases hj with rfl | rfl) <;> simp_all) (by repeat (first | exact PF.body)) ?_
    repeat (first | refine LtK.put rfl rfl rfl (by first | exact Xx rfl) ?_)
    refine LtK.nil ?_
    refine Zn [false, false, false, false, false, false, false, false, true] (by decide +kernel) (by repeat (first | exact PF.body)) ?_
    repeat (first | refine LtK.put rfl rfl rfl (by first | exact Ze (by first | exact Yi | exact J4) rfl) ?_)
    refine LtK.nil ?_
    refine Yp [false, false, false, false, false, false, false, false, false, true] 9 ⟨by decide, by kernel_rfl, by kernel_rfl⟩ rfl rfl ?_
    dsimp only [Zw]
    repeat (first | apply Zg | (apply Yq; refine Zm rfl rfl rfl (by first | exact CellsOf.int) hS (by repeat (first | exact Pos.head)) (by repeat (first | exact SetC.here (by repeat (first | exact Ovr.nil | apply Ovr.cons)) | apply SetC.succ)) (by kernel_rfl) rfl (fun w hS hB => ?_)))
    refine Ye (by first | exact hB.sub (fun _ _ h => by simpa using h)) ?_
    refine Z6 (by kernel_rfl) ?_
    refine Zcs rfl (by first | exact RV.nil) rfl ?_
    exact hfin _ hS.base (hS.ok (.box bo [.int .i64 x.snap.index, .int .i64 x.snap.term, .int .i64 x.snap.sum, .int .i64 x.snap.level, .bool x.snap.final, .slice A' x.log.length c', .int .i64 t, .int .i64 v] 26) (Has.mem (by repeat (first | exact Has.head))))
 ·have e1 : hardR x t v = none := if_neg h0
  rw [e1]
  have h1 : ¬ x.term < t := fun h => h0 (.inl h)
  by_cases h2 : t = x.term
  ·have h3 : x.vote ≠ 0 := fun h => h0 (.inr ⟨h2, .inl h⟩)
   have h4 : x.vote ≠ v := fun h => h0 (.inr ⟨h2, .inr h⟩)
   repeat (first | (apply Zd; intro K hK))
   refine Yg 30 [] (fun _ _ => True) ⟨by kernel_rfl, by kernel_rfl⟩ hS (fun w hS hB => ?_)
   refine Zn [true, true, true, true, true, true, true, true, true, true, true, true, true, true, true, true, true, true, true, true, true, true, true, true, true, true, true, true, true] (by decide +kernel) (by repeat (first | exact PF.body | apply PF.then)) ?_
   repeat (first | refine LtK.put rfl rfl rfl (by first | exact Zs rfl | exact Ze (by first | exact Yi | exact Jb | exact J4) rfl | (apply Z9; first | exact Zh (by first | exact Zdh | exact Z0) rfl (Zgz _) hS (by repeat (first | exact Has.head | apply Has.tail)) (by first | trivial) (by repeat (first | exact Seg.here (Pre.succ Pre.zero) | apply Seg.succ)) | exact X7 (by first | exact Zdh | exact Z0) rfl (Zgz _) hS (by first | trivial) (by first | trivial) (by assumption) (by repeat (first | exact Seg.here (Pre.succ Pre.zero)))) | (apply Ym; first | exact Zcz rfl rfl (by omega) | exact Zgp rfl rfl (by omega) | exact Zgm rfl rfl (by omega)) | (apply Xd; first | exact Z3 rfl rfl rfl | exact Yj rfl rfl rfl) | exact Xx rfl) ?_)
   refine LtK.nil ?_
   refine Z4 [false, false, false, false, false, false, false, false, false, false, false, false, false, false, false, false, false, false, false, false, false, false, false, false, false, false, false, false, false, true] 29 ⟨by decide, by kernel_rfl, by kernel_rfl⟩ rfl rfl ?_
   dsimp only [Zw]
   repeat (first | (apply Y1; first | (refine Xs rfl rfl (by kernel_rfl) rfl (Zd6 _) ?_; rintro e w2 ⟨rfl, hB2⟩; refine ⟨_, rfl, ?_⟩)) | apply Xj)
   exact V6 rfl ⟨(hS.below hB2).base, .inr ⟨rfl, rfl, TB.eight (x := x) (A := A') (c := c') ((hS.below hB2).ok (.box bo [.int .i64 x.snap.index, .int .i64 x.snap.term, .int .i64 x.snap.sum, .int .i64 x.snap.level, .bool x.snap.final, .slice A' x.log.length c', .int .i64 x.term, .int .i64 x.vote] 26) (Has.mem (by repeat (first | exact Has.head))))⟩⟩
  ·repeat (first | (apply Zd; intro K hK))
   refine Yg 30 [] (fun _ _ => True) ⟨by kernel_rfl, by kernel_rfl⟩ hS (fun w hS hB => ?_)
   refine Zn [true, true, true, true, true, true, true, true, true, true, true, true, true, true, true, true, true, true, true, true, true, true, true, true, true, true, true, true, true] (by decide +kernel) (by repeat (first | exact PF.body | apply PF.then)) ?_
   repeat (first | refine LtK.put rfl rfl rfl (by first | exact Zs rfl | exact Ze (by first | exact Yi | exact Jb | exact J4) rfl | (apply Z9; first | exact Zh (by first | exact Zdh | exact Z0) rfl (Zgz _) hS (by repeat (first | exact Has.head | apply Has.tail)) (by first | trivial) (by repeat (first | exact Seg.here (Pre.succ Pre.zero) | apply Seg.succ)) | exact X7 (by first | exact Zdh | exact Z0) rfl (Zgz _) hS (by first | trivial) (by first | trivial) (by assumption) (by repeat (first | exact Seg.here (Pre.succ Pre.zero)))) | (apply Ym; first | exact Zcz rfl rfl (by omega) | exact Zgm rfl rfl (by omega)) | (apply Xd; first | exact Yj rfl rfl rfl) | exact Xx rfl) ?_ | refine LtK.skip rfl rfl rfl ?_)
   refine LtK.nil ?_
   refine Z4 [false, false, false, false, false, false, false, false, false, false, false, false, false, false, false, false, false, false, false, false, false, false, false, false, false, false, false, false, false, true] 29 ⟨by decide, by kernel_rfl, by kernel_rfl⟩ rfl rfl ?_
   dsimp only [Zw]
   repeat (first | (apply Y1; first | (refine Xs rfl rfl (by kernel_rfl) rfl (Zd6 _) ?_; rintro e w2 ⟨rfl, hB2⟩; refine ⟨_, rfl, ?_⟩)) | apply Xj)
   exact V6 rfl ⟨(hS.below hB2).base, .inr ⟨rfl, rfl, TB.eight (x := x) (A := A') (c := c') ((hS.below hB2).ok (.box bo [.int .i64 x.snap.index, .int .i64 x.snap.term, .int .i64 x.snap.sum, .int .i64 x.snap.level, .bool x.snap.final, .slice A' x.log.length c', .int .i64 x.term, .int .i64 x.vote] 26) (Has.mem (by repeat (first | exact Has.head))))⟩⟩
theorem hard_any (x : Tu) (A : OA) (c : Nat) (t v : Int) (w0 : World) (hx : LI w0 A x.log.length c x.log) (hA : ∀ a, A = some a → a.block < w0.heap.size) :
  Calls Try.prog 49 #[.agg #[.int .i64 x.snap.index, .int .i64 x.snap.term, .int .i64 x.snap.sum, .int .i64 x.snap.level, .bool x.snap.final, .slice A x.log.length c, .int .i64 x.term, .int .i64 x.vote], .int .i64 t, .int .i64 v] w0 (Chg w0 x (hardR x t v)) := by
 refine Zao Try.func49 rfl Try.ntmps49 rfl ?_
 have hS := St0.start All w0
 repeat (first | (apply Zd; intro K hK) | apply Zf)
 first | (apply X2; refine Yd rfl rfl rfl (by first | exact CellsOf.agg) hS (fun bt w hS hB => ?_))
 first | (apply X2; refine Yd rfl rfl rfl (by first | exact CellsOf.int) hS (fun bf w hS hB => ?_))
 first | (apply X2; refine Yd rfl rfl rfl (by first | exact CellsOf.int) hS (fun bg w hS hB => ?_))
 repeat (first | apply Zg | (apply Zb; assumption) | (apply Zd; intro K hK) | apply Zf | (apply X3; refine Yb rfl rfl (by first | exact Zey) hS (fun b w hS hB => ?_)) | (apply Ys; refine Za rfl rfl rfl (by first | exact Zy rfl | (apply Z9; first | exact Zi (by first | exact Yr) rfl (Zgy _) hS (by repeat (first | exact Has.head | apply Has.tail)) (by first | trivial) (by repeat (first | exact Seg.here (by repeat (first | exact Pre.zero | apply Pre.succ))))) | exact X4 rfl rfl) ?_))
 have hbf := (hS.box_ge (b := bf) (by repeat (first | exact Has.head | apply Has.tail)))
 have hbg := (hS.box_ge (b := bg) (by repeat (first | exact Has.head | apply Has.tail)))
 refine Zo rfl rfl rfl rfl (by kernel_rfl) rfl (changed_any x (hardR x t v) A c 86 #[.pointer (some ⟨bf, 0, none⟩), .pointer (some ⟨bg, 0, none⟩)] _ (by kernel_rfl) (hx.below hS.pure) (fun a ha => Nat.lt_of_lt_of_le (hA a ha) hS.size)
  (fun hT => hard1_does bf bg t v _ hbf.2.2 hbg.2.2 x hT)) ?_
 rintro e w1 ⟨A2, c2, ⟨rfl, hs⟩, hB⟩
 refine ⟨_, rfl, ?_⟩
 replace hS := hS.slice hs hB
 repeat (first | apply Zg | (apply Zb; assumption) | (apply Yq; refine Zm rfl rfl rfl (by first | exact CellsOf.agg) hS (by repeat (first | exact Pos.head | apply Pos.tail)) (by repeat (first | exact SetC.here (by repeat (first | exact Ovr.nil | apply Ovr.cons)))) (by kernel_rfl) rfl (fun w hS hB => ?_)) | (apply Ys; refine Za rfl rfl rfl (by first | exact Zy rfl | exact Z1 rfl rfl) ?_) | apply Zk)
 refine Zl rfl (by first | exact RV.cell rfl (Zx (by first | exact Yr) hS (by repeat (first | exact Has.head | apply Has.tail)) (by repeat (first | exact Seg.here (by repeat (first | exact Pre.zero | apply Pre.succ))))) (RV.tmp rfl RV.nil)) rfl ?_
 exact ⟨A2, c2, ⟨rfl, hS.giveS (by repeat (first | exact Has.head)) hs.len hs.le hs.cap⟩, hS.pure⟩
end
section
open Go Go.RowKit
set_option maxRecDepth 100000
theorem next_p (s : St) (e : En) (w : World) : PureC Try.prog 100 #[.agg #[.int .i64 s.index, .int .i64 s.term, .int .i64 s.sum, .int .i64 s.level, .bool s.final], .agg #[.int .i64 e.term, .int .i64 e.kind, .int .i64 e.value]] w (.agg #[.int .i64 (Zbf s e).index, .int .i64 (Zbf s e).term, .int .i64 (Zbf s e).sum, .int .i64 (Zbf s e).level, .bool (Zbf s e).final]) := ⟨next_any s e w⟩
structure SX where
 bt : Nat
 bs : Nat
 A : OA
 c : Nat
 j : Nat
 n : Nat
theorem state_yes (x : Tu) (A : OA) (c : Nat) (k : Nat) (w0 : World) (h : -2000000000000 ≤ x.snap.index ∧ x.snap.index ≤ 2000000000000) (hl : LI w0 A x.log.length c x.log) (i : Int) (hi : i = x.snap.index + k) (hk : k ≤ x.log.length) :
  PureC Try.prog 63 #[.agg #[.int .i64 x.snap.index, .int .i64 x.snap.term, .int .i64 x.snap.sum, .int .i64 x.snap.level, .bool x.snap.final, .slice A x.log.length c, .int .i64 x.term, .int .i64 x.vote], .int .i64 i] w0 (.tuple #[.agg #[.int .i64 (allS x.snap (x.log.take k)).index, .int .i64 (allS x.snap (x.log.take k)).term, .int .i64 (allS x.snap (x.log.take k)).sum, .int .i64 (allS x.snap (x.log.take k)).level, .bool (allS x.snap (x.log.take k)).final], .bool true]) := by
 refine PureC.mk ?_
 have hsm := hl.small
 have hle := hl.le
 have hcp := hl.cap
 have hkl : (x.log.take k).length = k := by rw [List.length_take]; omega
 have hrd : Rd w0 A (ens (x.log.take k)) := by
  have := hl.rd.take (3 * k)
  have e2 : (ens x.log).take (3 * k) = ens (x.log.take k) := by
   have := ens_app (x.log.take k) (x.log.drop k)
   rw [List.take_append_drop] at this
   rw [this, List.take_left' (by rw [Zc8, hkl])]
  rwa [e2] at this
 refine Y0 Try.func63 rfl Try.ntmps63 rfl ?_
 have hS := St0.start All w0
 repeat (first | (apply Zd; intro K hK) | apply Zf)
 first | (apply X2; refine Yd rfl rfl rfl (by first | exact CellsOf.agg) hS (fun bt w hS hB => ?_))
 first | (apply X3; refine Yb rfl rfl (by first | exact zc_23) hS (fun bs w hS hB => ?_))
 repeat (first | apply Zg | (apply Zb; assumption) | (apply Ys; refine Za rfl rfl rfl (by first | exact Zy rfl) ?_))
 refine wpC_scope 0 (fun y : SX => [(6, .slice y.A y.n y.c), (5, .bool false), (4, .pointer (some ⟨y.bs, 0, none⟩)), (2, .pointer (some ⟨y.bt, 0, none⟩)), (1, .int .i64 i)])
  (fun y w => y.j + y.n = k ∧ y.n ≤ y.c ∧ y.c ≤ maxLen ∧ Rd w0 y.A (ens ((x.log.take k).drop y.j)) ∧ St0 All w0 w [.box y.bs [.int .i64 (allS x.snap (x.log.take y.j)).index, .int .i64 (allS x.snap (x.log.take y.j)).term, .int .i64 (allS x.snap (x.log.take y.j)).sum, .int .i64 (allS x.snap (x.log.take y.j)).level, .bool (allS x.snap (x.log.take y.j)).final] 23, .box y.bt [.int .i64 x.snap.index, .int .i64 x.snap.term, .int .i64 x.snap.sum, .int .i64 x.snap.level, .bool x.snap.final, .slice A x.log.length c, .int .i64 x.term, .int .i64 x.vote] 26])
  (fun y => y.n) rfl ?_ ?_
 ·rintro ⟨bt, bs, Aj, cj, j, n⟩ w ⟨hj, hcj, hcm, hrj, hS⟩
  dsimp only at hj hcj hcm hrj hS ⊢
  rcases Nat.eq_zero_or_pos n with rfl | hn
  ·obtain rfl : j = k := by omega
   repeat (first | apply Zg | (apply Zb; assumption) | (apply Zd; intro K hK) | apply Zf | (apply Yq; refine Zm rfl rfl rfl (by first | exact CellsOf.agg) hS (by repeat (first | exact Pos.head)) (by repeat (first | exact SetC.here (by repeat (first | exact Ovr.nil | apply Ovr.cons)))) (by kernel_rfl) rfl (fun w hS hB => ?_)) | (apply Ys; refine Za rfl rfl rfl (by first | exact Zs rfl | exact Zy rfl | (apply Z9; first | exact Zi (by first | exact Y4) rfl (Zgy _) hS (by repeat (first | exact Has.head)) (by first | trivial) (by repeat (first | exact Seg.here (by repeat (first | exact Pre.zero | apply Pre.succ))))) | (apply Ym; first | exact Zcz rfl rfl (by omega)) | (apply Zab; first | exact Yu (by first | exact Y6) rfl)) ?_) | apply Yo rfl rfl | apply Zt | apply Zk | apply Z5)
   refine Zl rfl (by first | exact RV.cell rfl (Zx (by first | exact Y4) hS (by repeat (first | exact Has.head)) (by repeat (first | exact Seg.here (by repeat (first | exact Pre.zero | apply Pre.succ))))) (RV.tmp rfl RV.nil)) rfl ?_
   exact ⟨rfl, hS.pure⟩
  ·obtain ⟨e, he⟩ : ∃ e, ((x.log.take k).drop j)[0]? = some e := ⟨_, List.getElem?_eq_getElem (by rw [List.length_drop]; omega)⟩
   obtain ⟨b1, o1, hA1, hb1, hr1⟩ := hrj.entR he
   subst hA1
   have htk : x.log.take (j + 1) = x.log.take j ++ [e] := by
    rw [List.getElem?_drop, List.getElem?_take] at he
    split at he
    ·rw [List.take_add_one]; rw [show x.log[j]? = some e from by simpa using he]; rfl
    ·cases he
   repeat (first | (apply Zb; assumption) | (apply Zd; intro K hK) | apply Zt)
   apply Zf
   repeat (first | apply Zg | (apply Zb; assumption) | (apply Zd; intro K hK) | (apply Ys; refine Za rfl rfl rfl (by first | exact Zs rfl | (apply Ym; first | exact Zem rfl rfl (by omega)) | (apply Zab; first | exact Yu (by first | exact Y6) rfl)) ?_) | apply Zr rfl rfl)
   refine Yg 9 [7] (fun i b => (i = 7 → b ≠ bs)) ⟨by kernel_rfl, by kernel_rfl⟩ hS (fun w hS hB => ?_)
   refine Zn [true, true, true, true] (by decide +kernel) (by repeat (first | exact PF.body | apply PF.then | apply PF.jump)) ?_
   repeat (first | refine LtK.put rfl rfl rfl (by first | exact Zad (j := 0) (by first | exact Y6) rfl rfl rfl (by omega) | exact Zs rfl | (apply Z9; first | exact Zi (by first | exact Y4 | exact V7) rfl (Zgz _) hS (by repeat (first | exact Has.head | apply Has.tail)) (by first | trivial) (by repeat (first | exact Seg.here (by repeat (first | exact Pre.zero | apply Pre.succ)))) | exact Zdt (by first | exact Y4 | exact V7) rfl (Zgz _) hS (by first | trivial) (by first | trivial) (by assumption) (by rfl))) ?_)
   refine LtK.nil ?_
   refine Y2 [false, false, false, false, false, true, true] [7] (fun b => b ≠ bs) (by decide +kernel) (by intro j hj b hb; simp only [List.mem_cons, List.not_mem_nil, or_false] at hj; (try rcases hj with rfl | rfl) <;> simp_all) (by repeat (first | exact PF.body | apply PF.then | apply PF.jump)) ?_
   repeat (first | refine LtK.put rfl rfl rfl (by first | exact yv_slice_l (l := 1) (by first | exact Y6) rfl rfl rfl (by omega) | exact Zs rfl) ?_)
   refine LtK.nil ?_
   refine Z4 [false, false, false, false, true] 4 ⟨by decide, by kernel_rfl, by kernel_rfl⟩ rfl rfl ?_
   dsimp only [Zw]
   repeat (first | apply Zg | (apply Y1; first | refine Xe rfl rfl rfl (by kernel_rfl) rfl (next_p _ _ _) hS (fun w hS hB => ?_)))
   refine Z7 (by first | assumption) ?_
   refine Yp [false, false, false, false, false, false, false, true] 7 ⟨by decide, by kernel_rfl, by kernel_rfl⟩ rfl rfl ?_
   dsimp only [Zw]
   repeat (first | apply Zg | (apply Yq; refine Zm rfl rfl rfl (by first | exact CellsOf.agg) hS (by repeat (first | exact Pos.head)) (by repeat (first | exact SetC.here (by repeat (first | exact Ovr.nil | apply Ovr.cons)))) (by kernel_rfl) rfl (fun w hS hB => ?_)))
   refine Ye (by first | exact hB.sub (fun _ _ h => by simpa using h)) ?_
   refine Zn [false, false, false, false, false, false, false, false, true] (by decide +kernel) (by repeat (first | exact PF.body | apply PF.then | apply PF.jump)) ?_
   repeat (first | refine LtK.put rfl rfl rfl (by first | exact Zy rfl) ?_)
   refine LtK.nil ?_
   refine Z6 (by kernel_rfl) ?_
   repeat (first | (apply Zb; assumption) | apply Vi | apply Xb)
   refine QH_jump ⟨bt, bs, _, _, j + 1, n - 1⟩ (by repeat (first | exact Sub.nil | refine Sub.cons rfl ?_)) ⟨by dsimp only; omega, by dsimp only; omega, by dsimp only; omega, ?_, ?_⟩ (by dsimp only; omega)
   ·dsimp only
    have h3 := hrj.cutE (k := 1) (c := cj) (by rw [List.length_drop, hkl]; omega)
    rwa [List.drop_drop] at h3
   ·dsimp only
    rw [htk, allS_snoc]
    exact hS
 ·intro hpass
  repeat (first | apply Zg | (apply Zb; assumption) | (apply Zd; intro K hK) | apply Zf | (apply Yq; refine Zm rfl rfl rfl (by first | exact CellsOf.agg) hS (by repeat (first | exact Pos.head)) (by repeat (first | exact SetC.here (by repeat (first | exact Ovr.nil | apply Ovr.cons)))) (by kernel_rfl) rfl (fun w hS hB => ?_)) | (apply Y1; first | refine Xe rfl rfl rfl (by kernel_rfl) rfl (Zgn _ _ _ _ _ _ _ (by omega) (by omega)) hS (fun w hS hB => ?_)) | (apply Ys; refine Za rfl rfl rfl (by first | exact Zfg (h := k) (by first | exact Y6) rfl rfl (by omega) (by omega) | exact Zs rfl | exact Zy rfl | exact Ze (by first | exact Yi | exact Xg | exact Xz) rfl | (apply Z9; first | exact Zh (by first | exact Z0 | exact Xp) rfl (Zgy _) hS (by repeat (first | exact Has.head | apply Has.tail)) (by first | trivial) (by repeat (first | exact Seg.here (Pre.succ Pre.zero) | apply Seg.succ)) | exact Zi (by first | exact Y4 | exact Yr) rfl (Zgy _) hS (by repeat (first | exact Has.head | apply Has.tail)) (by first | trivial) (by repeat (first | exact Seg.here (by repeat (first | exact Pre.zero | apply Pre.succ))))) | (apply Ym; first | exact Zcy rfl rfl (by omega) | exact Zcz rfl rfl (by omega) | exact yv_sub rfl rfl (by omega)) | (apply Xd; first | exact Yj rfl rfl rfl)) ?_) | apply Yo rfl rfl | apply Zt)
  apply Zdg
  apply Zb
  assumption
  rcases Nat.eq_zero_or_pos k with hk0 | hn
  ·repeat (first | apply Zg | (apply Zb; assumption) | (apply Zd; intro K hK) | apply Zf | (apply Yq; refine Zm rfl rfl rfl (by first | exact CellsOf.agg) hS (by repeat (first | exact Pos.head)) (by repeat (first | exact SetC.here (by repeat (first | exact Ovr.nil | apply Ovr.cons)))) (by kernel_rfl) rfl (fun w hS hB => ?_)) | (apply Ys; refine Za rfl rfl rfl (by first | exact Zs rfl | exact Zy rfl | (apply Z9; first | exact Zi (by first | exact Y4) rfl (Zgy _) hS (by repeat (first | exact Has.head)) (by first | trivial) (by repeat (first | exact Seg.here (by repeat (first | exact Pre.zero | apply Pre.succ))))) | (apply Ym; first | exact Zcz rfl rfl (by omega)) | (apply Zab; first | exact Yu (by first | exact Y6) rfl)) ?_) | apply Yo rfl rfl | apply Zt | apply Zk | apply Z5)
   refine Zl rfl (by first | exact RV.cell rfl (Zx (by first | exact Y4) hS (by repeat (first | exact Has.head)) (by repeat (first | exact Seg.here (by repeat (first | exact Pre.zero | apply Pre.succ))))) (RV.tmp rfl RV.nil)) rfl ?_
   subst hk0
   exact ⟨rfl, hS.pure⟩
  ·obtain ⟨e, he⟩ : ∃ e, (x.log.take k)[0]? = some e := ⟨_, List.getElem?_eq_getElem (by omega)⟩
   obtain ⟨b1, o1, hA1, hb1, hr1⟩ := hrd.entR he
   subst hA1
   have htk : x.log.take 1 = [e] := by
    rw [List.getElem?_take, if_pos hn] at he
    rw [List.take_add_one, he]; rfl
   repeat (first | (apply Zd; intro K hK))
   apply Zf
   repeat (first | apply Zg | (apply Zb; assumption) | (apply Zd; intro K hK) | (apply Ys; refine Za rfl rfl rfl (by first | exact Zs rfl | (apply Ym; first | exact Zem rfl rfl (by omega)) | (apply Zab; first | exact Yu (by first | exact Y6) rfl)) ?_) | apply Zr rfl rfl)
   refine Yg 9 [7] (fun i b => (i = 7 → b ≠ bs)) ⟨by kernel_rfl, by kernel_rfl⟩ hS (fun w hS hB => ?_)
   refine Zn [true, true, true, true] (by decide +kernel) (by repeat (first | exact PF.body | apply PF.then | apply PF.jump)) ?_
   repeat (first | refine LtK.put rfl rfl rfl (by first | exact Zad (j := 0) (by first | exact Y6) rfl rfl rfl (by omega) | exact Zs rfl | (apply Z9; first | exact Zi (by first | exact Y4 | exact V7) rfl (Zgz _) hS (by repeat (first | exact Has.head | apply Has.tail)) (by first | trivial) (by repeat (first | exact Seg.here (by repeat (first | exact Pre.zero | apply Pre.succ)))) | exact Zdt (by first | exact Y4 | exact V7) rfl (Zgz _) hS (by first | trivial) (by first | trivial) (by assumption) (by rfl))) ?_)
   refine LtK.nil ?_
   refine Y2 [false, false, false, false, false, true, true] [7] (fun b => b ≠ bs) (by decide +kernel) (by intro j hj b hb; simp only [List.mem_cons, List.not_mem_nil, or_false] at hj; (try rcases hj with rfl | rfl) <;> simp_all) (by repeat (first | exact PF.body | apply PF.then | apply PF.jump)) ?_
   repeat (first | refine LtK.put rfl rfl rfl (by first | exact yv_slice_l (l := 1) (by first | exact Y6) rfl rfl rfl (by omega) | exact Zs rfl) ?_)
   refine LtK.nil ?_
   refine Z4 [false, false, false, false, true] 4 ⟨by decide, by kernel_rfl, by kernel_rfl⟩ rfl rfl ?_
   dsimp only [Zw]
   repeat (first | apply Zg | (apply Y1; first | refine Xe rfl rfl rfl (by kernel_rfl) rfl (next_p _ _ _) hS (fun w hS hB => ?_)))
   refine Z7 (by first | assumption) ?_
   refine Yp [false, false, false, false, false, false, false, true] 7 ⟨by decide, by kernel_rfl, by kernel_rfl⟩ rfl rfl ?_
   dsimp only [Zw]
   repeat (first | apply Zg | (apply Yq; refine Zm rfl rfl rfl (by first | exact CellsOf.agg) hS (by repeat (first | exact Pos.head)) (by repeat (first | exact SetC.here (by repeat (first | exact Ovr.nil | apply Ovr.cons)))) (by kernel_rfl) rfl (fun w hS hB => ?_)))
   refine Ye (by first | exact hB.sub (fun _ _ h => by simpa using h)) ?_
   refine Zn [false, false, false, false, false, false, false, false, true] (by decide +kernel) (by repeat (first | exact PF.body | apply PF.then | apply PF.jump)) ?_
   repeat (first | refine LtK.put rfl rfl rfl (by first | exact Zy rfl) ?_)
   refine LtK.nil ?_
   refine Z6 (by kernel_rfl) ?_
   repeat (first | (apply Zb; assumption) | apply Vi | apply Xb)
   refine QH_jump0 ⟨bt, bs, _, _, 1, k - 1⟩ (by repeat (first | exact Sub.nil | refine Sub.cons rfl ?_)) ⟨by dsimp only; omega, by dsimp only; omega, by dsimp only; omega, ?_, ?_⟩
   ·dsimp only
    exact hrd.cutE (k := 1) (c := c) (by omega)
   ·dsimp only
    rw [htk]
    exact hS
theorem state_no (x : Tu) (A : OA) (c : Nat) (w0 : World) (h : -2000000000000 ≤ x.snap.index ∧ x.snap.index ≤ 2000000000000) (hsm : x.log.length ≤ 1000000) (i : Int) (hi : i < x.snap.index ∨ x.snap.index + x.log.length < i) :
  PureC Try.prog 63 #[.agg #[.int .i64 x.snap.index, .int .i64 x.snap.term, .int .i64 x.snap.sum, .int .i64 x.snap.level, .bool x.snap.final, .slice A x.log.length c, .int .i64 x.term, .int .i64 x.vote], .int .i64 i] w0 (.tuple #[.agg #[.int .i64 0, .int .i64 0, .int .i64 0, .int .i64 0, .bool false], .bool false]) := by
 refine PureC.mk ?_
 refine Y0 Try.func63 rfl Try.ntmps63 rfl ?_
 have hS := St0.start All w0
 repeat (first | apply Zg | (apply Zb; assumption) | (apply Zd; intro K hK) | apply Zf | (apply X2; refine Yd rfl rfl rfl (by first | exact CellsOf.agg) hS (fun b w hS hB => ?_)) | (apply X3; refine Yb rfl rfl (by first | exact zc_23) hS (fun b w hS hB => ?_)) | (apply Ys; refine Za rfl rfl rfl (by first | exact Zy rfl) ?_))
 refine wpC_scope 0 (X := Unit) (fun _ => []) (fun _ _ => False) (fun _ => 0) rfl (fun _ _ h => h.elim) ?_
 intro hpass
 by_cases h1 : i < x.snap.index
 ·repeat (first | apply Zg | (apply Zb; assumption) | (apply Zd; intro K hK) | apply Zf | (apply Ys; refine Xc rfl rfl rfl ?_) | (apply Yq; refine Zm rfl rfl rfl (by first | exact CellsOf.agg) hS (by repeat (first | exact Pos.head)) (by repeat (first | exact SetC.here (by repeat (first | exact Ovr.nil | apply Ovr.cons)))) (by kernel_rfl) rfl (fun w hS hB => ?_)) | (apply Ys; refine Za rfl rfl rfl (by first | exact Zs rfl | exact Zy rfl | exact Ze (by first | exact Yi | exact Xg) rfl | (apply Z9; first | exact Zh (by first | exact Z0) rfl (Zgy _) hS (by repeat (first | exact Has.head | apply Has.tail)) (by first | trivial) (by repeat (first | exact Seg.here (Pre.succ Pre.zero))) | exact Zi (by first | exact Y4) rfl (Zgy _) hS (by repeat (first | exact Has.head)) (by first | trivial) (by repeat (first | exact Seg.here (by repeat (first | exact Pre.zero | apply Pre.succ))))) | (apply Ym; first | exact Zfr rfl rfl (by omega)) | (apply Xd; first | exact Z3 rfl rfl rfl)) ?_) | apply Zr rfl rfl | apply Zk | apply Zj | apply Z5)
  refine Zl rfl (by first | exact RV.cell rfl (Zx (by first | exact Y4) hS (by repeat (first | exact Has.head)) (by repeat (first | exact Seg.here (by repeat (first | exact Pre.zero | apply Pre.succ))))) (RV.tmp rfl RV.nil)) rfl ?_
  exact ⟨rfl, hS.pure⟩
 ·have h2 : x.snap.index + x.log.length < i := by omega
  repeat (first | apply Zg | (apply Zb; assumption) | (apply Zd; intro K hK) | apply Zf | (apply Yq; refine Zm rfl rfl rfl (by first | exact CellsOf.agg) hS (by repeat (first | exact Pos.head)) (by repeat (first | exact SetC.here (by repeat (first | exact Ovr.nil | apply Ovr.cons)))) (by kernel_rfl) rfl (fun w hS hB => ?_)) | (apply Y1; first | refine Xe rfl rfl rfl (by kernel_rfl) rfl (Zgn _ _ _ _ _ _ _ (by omega) (by omega)) hS (fun w hS hB => ?_)) | (apply Ys; refine Za rfl rfl rfl (by first | exact Zs rfl | exact Zy rfl | exact Ze (by first | exact Yi | exact Xg) rfl | (apply Z9; first | exact Zh (by first | exact Z0) rfl (Zgy _) hS (by repeat (first | exact Has.head | apply Has.tail)) (by first | trivial) (by repeat (first | exact Seg.here (Pre.succ Pre.zero))) | exact Zi (by first | exact Y4 | exact Yr) rfl (Zgy _) hS (by repeat (first | exact Has.head | apply Has.tail)) (by first | trivial) (by repeat (first | exact Seg.here (by repeat (first | exact Pre.zero | apply Pre.succ))))) | (apply Ym; first | exact Zcy rfl rfl (by omega) | exact Zem rfl rfl (by omega)) | (apply Xd; first | exact Yj rfl rfl rfl)) ?_) | apply Zr rfl rfl | apply Zk | apply Zj | apply Z5)
  refine Zl rfl (by first | exact RV.cell rfl (Zx (by first | exact Y4) hS (by repeat (first | exact Has.head)) (by repeat (first | exact Seg.here (by repeat (first | exact Pre.zero | apply Pre.succ))))) (RV.tmp rfl RV.nil)) rfl ?_
  exact ⟨rfl, hS.pure⟩
end
section
open Go Go.RowKit
set_option maxRecDepth 100000
theorem SlI.li {w : World} {A : OA} {c : Nat} {l : List En} (h : SlI w Jv A c l) (hn : l.length ≤ 1000000) : LI w A l.length c l := ⟨rfl, hn, h.le, h.cap, h.rd⟩
theorem Sl.st0 {w w' : World} {A : OA} {n c k : Nat} {xs : List Value} (hs : Sl w w' A n c k xs) (hB : Below w.heap.size w w') : St0 All w w' [.rd A xs] := (St0.start All w).slice hs hB
theorem PureC.st0 {P : Program} {f : Nat} {args : Array Value} {w : World} {v : Value} (h : PureC P f args w v) : Calls P f args w fun e w' => e = .returned v ∧ St0 All w w' [] := h.run.mono fun _ _ h => ⟨h.1, (St0.start All w).below h.2⟩
theorem calls_st0 {P : Program} {f : Nat} {args : Array Value} {w : World} {v : Value} (h : Calls P f args w fun e w' => e = .returned v ∧ Below w.heap.size w w') : Calls P f args w fun e w' => e = .returned v ∧ St0 All w w' [] := h.mono fun _ _ h => ⟨h.1, (St0.start All w).below h.2⟩
def okT (x : Tu) : Bool := decide (x.log.length ≤ 1000000 ∧ -2000000000000 ≤ x.snap.index ∧ x.snap.index ≤ 2000000000000)
theorem okT_iff {x : Tu} : okT x = true ↔ x.log.length ≤ 1000000 ∧ -2000000000000 ≤ x.snap.index ∧ x.snap.index ≤ 2000000000000 := decide_eq_true_iff
def Zgk (e : En) : Option Bool := some (J1 e)
theorem c_entry_Right (x0 : En) (w0 : World) {r : Bool} (H : Zgk x0 = some r) : Calls Try.prog 117 #[.agg #[.int .i64 x0.term, .int .i64 x0.kind, .int .i64 x0.value]] w0 fun e w' => e = .returned (.bool r) ∧ St0 All w0 w' [] := by
 obtain rfl := QJ H
 exact calls_st0 (Zfb x0 w0)
def Zc0 (x : Tu) : Option Bool := cond (okT x) (some (Jm x)) none
theorem c_tuple_Right (x0 : Tu) (A0 : OA) (c0 : Nat) (w0 : World) (s0 : SlI w0 Jv A0 c0 x0.log) {r : Bool} (H : Zc0 x0 = some r) : Calls Try.prog 76 #[.agg #[.int .i64 x0.snap.index, .int .i64 x0.snap.term, .int .i64 x0.snap.sum, .int .i64 x0.snap.level, .bool x0.snap.final, .slice A0 x0.log.length c0, .int .i64 x0.term, .int .i64 x0.vote]] w0 fun e w' => e = .returned (.bool r) ∧ St0 All w0 w' [] := by
 unfold Zc0 at H
 cases hb : okT x0 with
 | false => rw [hb] at H; cases H
 | true =>
  rw [hb] at H
  obtain rfl := QJ H
  have h := okT_iff.1 hb
  exact (right_any2 x0.snap A0 x0.log.length c0 x0.log x0.term x0.vote w0 (s0.li h.1) h.2 s0.blk).st0
def Xk (x : Tu) (i : Int) : Option (St × Bool) := cond (okT x) (cond (decide (x.snap.index ≤ i ∧ i ≤ x.snap.index + x.log.length)) (some (allS x.snap (x.log.take (i - x.snap.index).toNat), true)) (some (⟨0, 0, 0, 0, false⟩, false))) none
theorem Za5 (x0 : Tu) (x1 : Int) (A0 : OA) (c0 : Nat) (w0 : World) (s0 : SlI w0 Jv A0 c0 x0.log) {r : St × Bool} (H : Xk x0 x1 = some r) : Calls Try.prog 63 #[.agg #[.int .i64 x0.snap.index, .int .i64 x0.snap.term, .int .i64 x0.snap.sum, .int .i64 x0.snap.level, .bool x0.snap.final, .slice A0 x0.log.length c0, .int .i64 x0.term, .int .i64 x0.vote], .int .i64 x1] w0 fun e w' => e = .returned (.tuple #[.agg #[.int .i64 r.1.index, .int .i64 r.1.term, .int .i64 r.1.sum, .int .i64 r.1.level, .bool r.1.final], .bool r.2]) ∧ St0 All w0 w' [] := by
 unfold Xk at H
 cases hb : okT x0 with
 | false => rw [hb] at H; cases H
 | true =>
  rw [hb] at H
  have h := okT_iff.1 hb
  by_cases hi : x0.snap.index ≤ x1 ∧ x1 ≤ x0.snap.index + x0.log.length
  ·rw [decide_eq_true hi] at H
   obtain rfl := QJ H
   exact (state_yes x0 A0 c0 (x1 - x0.snap.index).toNat w0 h.2 (s0.li h.1) x1 (by omega) (by omega)).st0
  ·rw [decide_eq_false hi] at H
   obtain rfl := QJ H
   exact (state_no x0 A0 c0 w0 h.2 h.1 x1 (by omega)).st0
def Zf2 (x : Tu) (res : Option Tu) : Tu × Int := (Zb4 x res, chgE x res)
theorem chg_st0 {w0 : World} {x : Tu} {res : Option Tu} {e : Ending} {w' : World} (h : Chg w0 x res e w') : ∃ (A0 : OA) (c0 : Nat), e = .returned (.tuple #[.agg #[.int .i64 (Zf2 x res).1.snap.index, .int .i64 (Zf2 x res).1.snap.term, .int .i64 (Zf2 x res).1.snap.sum, .int .i64 (Zf2 x res).1.snap.level, .bool (Zf2 x res).1.snap.final, .slice A0 (Zf2 x res).1.log.length c0, .int .i64 (Zf2 x res).1.term, .int .i64 (Zf2 x res).1.vote], .int .i64 (Zf2 x res).2]) ∧ ((Zf2 x res).1.log.length ≤ c0 ∧ c0 ≤ maxLen) ∧ St0 All w0 w' [.rd A0 (Yf Jv (Zf2 x res).1.log)] := by
 obtain ⟨A, c, ⟨rfl, hs⟩, hB⟩ := h
 exact ⟨A, c, rfl, ⟨hs.le, hs.cap⟩, hs.st0 hB⟩
def V8 (x : Tu) (l : List En) : Option (Tu × Int) := cond (decide (x.log.length ≤ 1000000 ∧ l.length ≤ 300)) (some (Zf2 x (some { x with log := x.log ++ l }))) none
theorem Zdo (x0 : Tu) (x1 : List En) (A0 : OA) (c0 : Nat) (A1 : OA) (c1 : Nat) (w0 : World) (s0 : SlI w0 Jv A0 c0 x0.log) (s1 : SlI w0 Jv A1 c1 x1) {r : Tu × Int} (H : V8 x0 x1 = some r) : Calls Try.prog 53 #[.agg #[.int .i64 x0.snap.index, .int .i64 x0.snap.term, .int .i64 x0.snap.sum, .int .i64 x0.snap.level, .bool x0.snap.final, .slice A0 x0.log.length c0, .int .i64 x0.term, .int .i64 x0.vote], .slice A1 x1.length c1] w0 fun e w' => ∃ (A0 : OA) (c0 : Nat), e = .returned (.tuple #[.agg #[.int .i64 r.1.snap.index, .int .i64 r.1.snap.term, .int .i64 r.1.snap.sum, .int .i64 r.1.snap.level, .bool r.1.snap.final, .slice A0 r.1.log.length c0, .int .i64 r.1.term, .int .i64 r.1.vote], .int .i64 r.2]) ∧ (r.1.log.length ≤ c0 ∧ c0 ≤ maxLen) ∧ St0 All w0 w' [.rd A0 (Yf Jv r.1.log)] := by
 unfold V8 at H
 by_cases h : x0.log.length ≤ 1000000 ∧ x1.length ≤ 300
 ·rw [decide_eq_true h] at H
  obtain rfl := QJ H
  exact (append_any x0 A0 A1 c0 x1.length c1 x1 w0 (s0.li h.1) s0.blk (s1.li (by omega)) h.2).mono fun _ _ h => chg_st0 h
 ·rw [decide_eq_false h] at H; cases H
def Zcd (x : Tu) (i : Int) : Option (Tu × Int) := cond (decide (x.log.length ≤ 1000000)) (some (Zf2 x (Zgh x i))) none
theorem c_tuple_Cut (x0 : Tu) (x1 : Int) (A0 : OA) (c0 : Nat) (w0 : World) (s0 : SlI w0 Jv A0 c0 x0.log) {r : Tu × Int} (H : Zcd x0 x1 = some r) : Calls Try.prog 62 #[.agg #[.int .i64 x0.snap.index, .int .i64 x0.snap.term, .int .i64 x0.snap.sum, .int .i64 x0.snap.level, .bool x0.snap.final, .slice A0 x0.log.length c0, .int .i64 x0.term, .int .i64 x0.vote], .int .i64 x1] w0 fun e w' => ∃ (A0 : OA) (c0 : Nat), e = .returned (.tuple #[.agg #[.int .i64 r.1.snap.index, .int .i64 r.1.snap.term, .int .i64 r.1.snap.sum, .int .i64 r.1.snap.level, .bool r.1.snap.final, .slice A0 r.1.log.length c0, .int .i64 r.1.term, .int .i64 r.1.vote], .int .i64 r.2]) ∧ (r.1.log.length ≤ c0 ∧ c0 ≤ maxLen) ∧ St0 All w0 w' [.rd A0 (Yf Jv r.1.log)] := by
 unfold Zcd at H
 by_cases h : x0.log.length ≤ 1000000
 ·rw [decide_eq_true h] at H
  obtain rfl := QJ H
  exact (cut_any x0 A0 c0 x1 w0 (s0.li h) s0.blk).mono fun _ _ h => chg_st0 h
 ·rw [decide_eq_false h] at H; cases H
def Zcl (x : Tu) (t v : Int) : Option (Tu × Int) := cond (decide (x.log.length ≤ 1000000)) (some (Zf2 x (hardR x t v))) none
theorem c_tuple_Hard (x0 : Tu) (x1 x2 : Int) (A0 : OA) (c0 : Nat) (w0 : World) (s0 : SlI w0 Jv A0 c0 x0.log) {r : Tu × Int} (H : Zcl x0 x1 x2 = some r) : Calls Try.prog 49 #[.agg #[.int .i64 x0.snap.index, .int .i64 x0.snap.term, .int .i64 x0.snap.sum, .int .i64 x0.snap.level, .bool x0.snap.final, .slice A0 x0.log.length c0, .int .i64 x0.term, .int .i64 x0.vote], .int .i64 x1, .int .i64 x2] w0 fun e w' => ∃ (A0 : OA) (c0 : Nat), e = .returned (.tuple #[.agg #[.int .i64 r.1.snap.index, .int .i64 r.1.snap.term, .int .i64 r.1.snap.sum, .int .i64 r.1.snap.level, .bool r.1.snap.final, .slice A0 r.1.log.length c0, .int .i64 r.1.term, .int .i64 r.1.vote], .int .i64 r.2]) ∧ (r.1.log.length ≤ c0 ∧ c0 ≤ maxLen) ∧ St0 All w0 w' [.rd A0 (Yf Jv r.1.log)] := by
 unfold Zcl at H
 by_cases h : x0.log.length ≤ 1000000
 ·rw [decide_eq_true h] at H
  obtain rfl := QJ H
  exact (hard_any x0 A0 c0 x1 x2 w0 (s0.li h) s0.blk).mono fun _ _ h => chg_st0 h
 ·rw [decide_eq_false h] at H; cases H
end
section
open Go Go.RowKit
set_option maxRecDepth 100000
theorem FineP.bounds {s : St} (h : FineP s) : 0 ≤ s.index ∧ s.index ≤ 1073741824 ∧ 0 ≤ s.sum ∧ s.sum ≤ 1073741824 := by
 rcases h with rfl | h
 ·simp [firstS]
 ·omega
theorem next_data (s : St) (hf : FineP s) (hi : s.index < 1073741824) (v : Int) (h0 : 0 ≤ v) (h1 : v ≤ 1073741824) : Zbf s ⟨1, 1, v⟩ = ⟨s.index + 1, 1, (31 * s.sum + v + 1) % 1073741824, s.level, s.final⟩ := by
 unfold Zbf
 rw [if_pos ⟨by simp [J1, h0, h1], (Zcq s).2 hf, hi⟩]
 rfl
def SumInv (l : List Int) (q : Nat) (value : Int) (s : St) (k : Nat) (a b : St) : Prop :=
 FineP a ∧ FineP b ∧ a.index = s.index + k ∧ b.index = s.index + k ∧ (k ≤ q → a = b) ∧
  (q < k → a.sum < 1073741824 ∧ b.sum < 1073741824 ∧ ∃ x, l[q]? = some x ∧ 0 ≤ x ∧ x ≤ 999 ∧
   ((k = q + 1 ∧ (a.sum - b.sum - (x - value)) % 1073741824 = 0) ∨ (k = q + 2 ∧ (a.sum - b.sum - 31 * (x - value)) % 1073741824 = 0) ∨ (k = q + 3 ∧ (a.sum - b.sum - 961 * (x - value)) % 1073741824 = 0)))
theorem SumInv.start (l : List Int) (q : Nat) (value : Int) (s : St) (h : FineP s) : SumInv l q value s 0 s s := ⟨h, h, by simp, by simp, fun _ => rfl, fun h => by omega⟩
theorem SumInv.step {l : List Int} {q : Nat} {value : Int} {s : St} {k : Nat} {a b : St} (h : SumInv l q value s k a b) (hs : s.index ≤ 1073741624) (hk : k < 3) (v : Int) (hv : l[k]? = some v) (h0 : 0 ≤ v) (h1 : v ≤ 999) (g0 : 0 ≤ value) (g1 : value ≤ 999) :
  SumInv l q value s (k + 1) (Zbf a ⟨1, 1, v⟩) (Zbf b ⟨1, 1, if k = q then value else v⟩) := by
 obtain ⟨fa, fb, ia, ib, he, hd⟩ := h
 refine ⟨nextS_fine _ _ fa, nextS_fine _ _ fb, ?_⟩
 have va : 0 ≤ (if k = q then value else v) ∧ (if k = q then value else v) ≤ 999 := by split <;> omega
 rw [next_data a fa (by omega) v h0 (by omega), next_data b fb (by omega) _ va.1 (by omega)]
 refine ⟨by show a.index + 1 = _; omega, by show b.index + 1 = _; omega, fun hkq => ?_, fun hkq => ?_⟩
 ·rw [if_neg (by omega), he (by omega)]
 ·refine ⟨by show _ % _ < _; omega, by show _ % _ < _; omega, ?_⟩
  by_cases e : k = q
  ·subst e
   refine ⟨v, hv, h0, h1, .inl ⟨rfl, ?_⟩⟩
   rw [if_pos rfl, he (by omega)]
   show ((31 * b.sum + v + 1) % 1073741824 - (31 * b.sum + value + 1) % 1073741824 - (v - value)) % 1073741824 = 0
   omega
  ·obtain ⟨_, _, x, hx, x0, x1, hh⟩ := hd (by omega)
   refine ⟨x, hx, x0, x1, ?_⟩
   rw [if_neg e]
   have goal : ∀ c : Int, (a.sum - b.sum - c) % 1073741824 = 0 → ((31 * a.sum + v + 1) % 1073741824 - (31 * b.sum + v + 1) % 1073741824 - 31 * c) % 1073741824 = 0 := fun c hc => by omega
   rcases hh with ⟨rfl, hh⟩ | ⟨rfl, hh⟩ | ⟨rfl, hh⟩
   ·exact .inr (.inl ⟨rfl, goal _ hh⟩)
   ·refine .inr (.inr ⟨rfl, ?_⟩)
    have := goal _ hh
    show ((31 * a.sum + v + 1) % 1073741824 - (31 * b.sum + v + 1) % 1073741824 - 961 * (x - value)) % 1073741824 = 0
    omega
   ·omega
theorem SumInv.last {l : List Int} {q : Nat} {value : Int} {s : St} {k : Nat} {a b : St} (h : SumInv l q value s k a b) (hq : q < k) (g0 : 0 ≤ value) (g1 : value ≤ 999) {x : Int} (hx : l[q]? = some x) :
  ((a.sum == b.sum) == (x == value)) = true := by
 obtain ⟨fa, fb, _, _, _, hd⟩ := h
 obtain ⟨la, lb, x', hx', x0, x1, hh⟩ := hd hq
 rw [hx] at hx'
 obtain rfl := QJ hx'
 have ba := fa.bounds
 have bb := fb.bounds
 rw [beq_iff_eq, Bool.eq_iff_iff, beq_iff_eq, beq_iff_eq]
 omega
end
section
open Go Go.RowKit
set_option maxRecDepth 100000
end
section
end
section
open Go Go.RowKit
set_option maxRecDepth 100000
end
section
open Go Go.RowKit Go.Shelf
set_option maxRecDepth 100000
attribute [local go_sem] Oper.semAt_some
end
section
open Go Go.RowKit Go.Shelf
set_option maxRecDepth 100000
theorem run_store_func {P : Program} {w : World} {a : Addr} (f : Fn) (vs bs : Array Value) (m : Mode) : (store a (.func f vs bs) m).run P w = stored P w a (.func f vs bs) m := run_store P w a _ m rfl
attribute [local go_sem] run_store_func
end
section
open Go Go.RowKit Go.Shelf
set_option maxRecDepth 100000
end
section
open Go Go.RowKit
set_option maxRecDepth 100000
end
section
open Go Go.RowKit
set_option maxRecDepth 100000
theorem J2 {n : Int} (h : -9223372036854775808 ≤ n ∧ n ≤ 9223372036854775807) : IntKind.wrap .i64 n = n := i64_in' h
theorem Zau {α : Type} (l : List α) (k : Nat) : idx l (k : Int) = l[k]? := by unfold idx; simp
theorem takeI_nat {α : Type} (l : List α) (k : Nat) (h : k ≤ l.length) : takeI l (k : Int) = some (l.take k) := by unfold takeI; rw [if_pos (by omega)]; simp
theorem dropI_nat {α : Type} (l : List α) (k : Nat) (h : k ≤ l.length) : dropI l (k : Int) = some (l.drop k) := by unfold dropI; rw [if_pos (by omega)]; simp
theorem Zez {α : Type} (l : List α) (h : l.length ≤ 1000000000) : Zfm l = some l := if_pos h
theorem makeI_nat {α : Type} (z : α) (n : Nat) (h : n ≤ 1000000000) : makeI z (n : Int) = some (List.replicate n z) := by unfold makeI; rw [if_pos (by omega)]; simp
theorem Xq {α : Type} {l : List α} {k : Nat} (h : k < l.length) : ∃ e, l[k]? = some e ∧ l.drop k = e :: l.drop (k + 1) := ⟨l[k], List.getElem?_eq_getElem h, List.drop_eq_getElem_cons h⟩
theorem snap_eq (a b : St) : (decide (a.index = b.index) && (decide (a.term = b.term) && (decide (a.sum = b.sum) && (decide (a.level = b.level) && decide (a.final = b.final))))) = decide (a = b) := by
 obtain ⟨a1, a2, a3, a4, a5⟩ := a; obtain ⟨b1, b2, b3, b4, b5⟩ := b
 rw [Bool.eq_iff_iff]; simp
theorem en_eq (a b : En) : (decide (a.term = b.term) && (decide (a.kind = b.kind) && decide (a.value = b.value))) = decide (a = b) := by
 obtain ⟨a1, a2, a3⟩ := a; obtain ⟨b1, b2, b3⟩ := b
 rw [Bool.eq_iff_iff]; simp
end
section
open Go Go.RowKit
set_option maxRecDepth 100000
end
section
open Go Go.RowKit
set_option maxRecDepth 100000
end
section
open Go Go.RowKit
set_option maxRecDepth 100000
theorem St0.three {S : Nat → Prop} {w : World} {b1 b2 b3 T1 T2 T3 : Nat} {c1 c2 c3 : List Value} (h1 : w.heap[b1]? = some (.cells c1.toArray T1)) (h2 : w.heap[b2]? = some (.cells c2.toArray T2)) (h3 : w.heap[b3]? = some (.cells c3.toArray T3)) (n12 : b1 ≠ b2) (n13 : b1 ≠ b3) (n23 : b2 ≠ b3) (s1 : ¬ S b1) (s2 : ¬ S b2) (s3 : ¬ S b3) :
  St0 S w w [.box b1 c1 T1, .box b2 c2 T2, .box b3 c3 T3] := by
 have lt : ∀ {b T : Nat} {c : List Value}, w.heap[b]? = some (.cells c.toArray T) → b < w.heap.size := fun h => (Array.getElem?_eq_some_iff.1 h).1
 refine ⟨KeepB.refl _ _, fun e he => ?_, fun e he k hk => ?_, ?_⟩
 ·simp only [List.mem_cons, List.not_mem_nil, or_false] at he
  rcases he with rfl | rfl | rfl
  ·exact h1
  ·exact h2
  ·exact h3
 ·simp only [List.mem_cons, List.not_mem_nil, or_false] at he
  rcases he with rfl | rfl | rfl
  ·obtain rfl : k = b1 := hk
   exact ⟨lt h1, fun _ => s1⟩
  ·obtain rfl : k = b2 := hk
   exact ⟨lt h2, fun _ => s2⟩
  ·obtain rfl : k = b3 := hk
   exact ⟨lt h3, fun _ => s3⟩
 ·refine List.pairwise_cons.2 ⟨fun e he k hk hk' => ?_, List.pairwise_cons.2 ⟨fun e he k hk hk' => ?_, List.pairwise_cons.2 ⟨fun e he => (by cases he), List.Pairwise.nil⟩⟩⟩
  ·obtain rfl : k = b1 := hk
   simp only [List.mem_cons, List.not_mem_nil, or_false] at he
   rcases he with rfl | rfl
   ·exact n12 hk'
   ·exact n13 hk'
  ·obtain rfl : k = b2 := hk
   simp only [List.mem_cons, List.not_mem_nil, or_false] at he
   subst he
   exact n23 hk'
def Zgw (x0 : Tu) (at_ many : Int) : Option (List En) :=
  if (x0.log.length ≤ 1000000 ∧ -2000000000000 ≤ x0.snap.index ∧ x0.snap.index ≤ 2000000000000) ∧ (-2000000000000 ≤ at_ ∧ at_ ≤ 2000000000000) ∧ 0 ≤ many ∧ many ≤ 1000 then
  some (if x0.snap.index < at_ then (x0.log.drop (at_ - x0.snap.index - 1).toNat).take many.toNat else []) else none
set_option maxHeartbeats 1000000 in
theorem it_from (x0 : Tu) (at_ many : Int) {A0 : OA} {c0 : Nat} (wB wM wI : World) (s0 : SlI wB Jv A0 c0 x0.log) (hB0 : Below wB.heap.size wB wM) (b1 b2 b3 : Nat) (hN : St0 All wM wI [.box b1 [.int .i64 x0.snap.index, .int .i64 x0.snap.term, .int .i64 x0.snap.sum, .int .i64 x0.snap.level, .bool x0.snap.final, .slice A0 x0.log.length c0, .int .i64 x0.term, .int .i64 x0.vote] 26, .box b2 [.int .i64 at_] 3, .box b3 [.int .i64 many] 3]) {xs : List En} (H : Zgw x0 at_ many = some xs) :
  IterP Try.prog 94 #[.pointer (some ⟨b1, 0, none⟩), .pointer (some ⟨b2, 0, none⟩), .pointer (some ⟨b3, 0, none⟩)] (fun e : En => [Value.agg #[.int .i64 e.term, .int .i64 e.kind, .int .i64 e.value]].toArray) xs wB.heap.size wM.heap.size wI := by
 unfold Zgw at H
 split at H
 case isFalse => cases H
 rename_i h9
 obtain ⟨hbt, hba, hm0, hm1⟩ := h9
 obtain hxs := QJ H
 have n12 := hN.ne 0 1 rfl rfl rfl
 have n13 := hN.ne 0 2 rfl rfl rfl
 have n23 := hN.ne 1 2 rfl rfl rfl
 have n32 : b3 ≠ b2 := fun h => n23 h.symm
 obtain ⟨hb, hbM, hbl⟩ := hN.cap
 obtain ⟨hc, hcM, hcl⟩ := (hN.front 1 rfl).cap
 obtain ⟨hd, hdM, hdl⟩ := (hN.front 2 rfl).cap
 have hA : Rd wI A0 (Yf Jv x0.log) := (s0.rd.below hB0).below hN.pure
 have hAn := s0.blk
 have hBs := hB0.size
 have s1 : ¬ (b1 < wM.heap.size ∨ wI.heap.size ≤ b1) := by omega
 have s2 : ¬ (b2 < wM.heap.size ∨ wI.heap.size ≤ b2) := by omega
 have s3 : ¬ (b3 < wM.heap.size ∨ wI.heap.size ≤ b3) := by omega
 have hmore : ∀ (k : Nat) (e : En), xs[k]? = some e → ∃ k0 : Nat, at_ = x0.snap.index + 1 + k0 ∧ x0.log[k0 + k]? = some e ∧ (k : Int) < many := by
  intro k e he
  rw [← hxs] at he
  split at he
  ·rename_i h1
   rw [List.getElem?_take] at he
   split at he
   ·rename_i h2
    rw [List.getElem?_drop] at he
    exact ⟨(at_ - x0.snap.index - 1).toNat, by omega, he, by omega⟩
   ·cases he
  ·simp at he
 have hdone : ∀ k : Nat, k ≤ xs.length → xs.length ≤ k → (at_ + k ≤ x0.snap.index ∨ x0.snap.index + x0.log.length < at_ + k) ∨ many - k = 0 := by
  intro k h1 h2
  have hl : xs.length = (if x0.snap.index < at_ then min many.toNat (x0.log.length - (at_ - x0.snap.index - 1).toNat) else 0) := by
   rw [← hxs]; split
   ·rw [List.length_take, List.length_drop]
   ·rfl
  split at hl <;> omega
 have hkm : ∀ k : Nat, k ≤ xs.length → (k : Int) ≤ 1000 := by
  intro k h1
  have : xs.length ≤ many.toNat := by
   rw [← hxs]; split
   ·rw [List.length_take]; omega
   ·simp
  omega
 intro lo J Jx Jp W hW hJ hJx hJp hy h0
 have hbW := (hW.block b1 hbl).trans hb
 have hcW := (hW.block b2 hcl).trans hc
 have hdW := (hW.block b3 hdl).trans hd
 have hAW := hA.below hW
 show Calls _ _ #[_, _, _, _] _ _
 refine gw_enter4 Try.func94 rfl Try.ntmps94 rfl ?_
 refine wpC_scope 0 (X := Nat) (fun _ => [(3, .pointer (some ⟨b3, 0, none⟩)), (2, .pointer (some ⟨b2, 0, none⟩)), (1, .pointer (some ⟨b1, 0, none⟩)), (0, .func (.yield lo) #[] #[])])
  (fun k B => k ≤ xs.length ∧ J k B ∧ Rd B A0 (Yf Jv x0.log) ∧ B.heap[b1]? = some (.cells [.int .i64 x0.snap.index, .int .i64 x0.snap.term, .int .i64 x0.snap.sum, .int .i64 x0.snap.level, .bool x0.snap.final, .slice A0 x0.log.length c0, .int .i64 x0.term, .int .i64 x0.vote].toArray 26) ∧ B.heap[b2]? = some (.cells [.int .i64 (at_ + k)].toArray 3) ∧ B.heap[b3]? = some (.cells [.int .i64 (many - k)].toArray 3) ∧ wI.heap.size ≤ B.heap.size) (fun k => xs.length + 1 - k) rfl ?_ (fun _ => ?_)
 ·rintro k B ⟨hk, hJk, hAB, hb1, hb2, hb3, hz⟩
  have hkk := hkm k hk
  have hS := St0.three (S := fun b => b < wM.heap.size ∨ wI.heap.size ≤ b) hb1 hb2 hb3 n12 n13 n23 s1 s2 s3
  rcases Nat.lt_or_ge k xs.length with hlt | hge
  ·obtain ⟨e, he, _⟩ := Xq hlt
   obtain ⟨k0, hat, hek, hmk⟩ := hmore k e he
   repeat (first | (apply Zb; assumption) | (apply Zd; intro K hK) | apply Zt)
   apply Zf
   repeat (first | (apply Y1; first | refine Xe rfl rfl rfl (by kernel_rfl) rfl (at_yes x0.snap A0 x0.log.length c0 x0.term x0.vote (at_ + k) _ hbt.2 hbt.1 (k0 + k) (by omega) (List.getElem?_eq_some_iff.1 hek).1 x0.log hAB rfl e hek) hS (fun w hS hB => ?_)) | (apply Ys; refine Za rfl rfl rfl (by first | exact Zs rfl | (apply Z9; first | exact Zh (by first | exact Z0) rfl (Zgy _) hS (by repeat (first | exact Has.head | apply Has.tail)) (by first | trivial) (by repeat (first | exact Seg.here (Pre.succ Pre.zero))) | exact Zi (by first | exact Yr) rfl (Zgy _) hS (by repeat (first | exact Has.head)) (by first | trivial) (by repeat (first | exact Seg.here (by repeat (first | exact Pre.zero | apply Pre.succ))))) | exact Z1 rfl rfl) ?_))
   first | (apply X3; refine Yb rfl rfl (by first | exact Zb6) hS (fun b5 w hS hB => ?_))
   repeat (first | apply Zg | (apply Zb; assumption) | (apply Zd; intro K hK) | (apply Yq; refine Zm rfl rfl rfl (by first | exact CellsOf.agg) hS (by repeat (first | exact Pos.head)) (by repeat (first | exact SetC.here (by repeat (first | exact Ovr.nil | apply Ovr.cons)))) (by kernel_rfl) rfl (fun w hS hB => ?_)) | (apply Ys; refine Za rfl rfl rfl (by first | exact Zy rfl) ?_))
   refine Zf5 9 (by repeat (first | exact NL.body (by intro _ h; simp at h) | apply NL.then | apply NL.jump)) (by kernel_rfl) ?_
   dsimp only [List.take, List.drop]
   repeat (first | apply Zg | (apply Ys; refine Za rfl rfl rfl (by first | exact Zs rfl | (apply Z9; first | exact Zh (by first | exact Z0) rfl (Zgy _) hS (by repeat (first | exact Has.head | apply Has.tail)) (by first | trivial) (by repeat (first | exact Seg.here (Pre.succ Pre.zero))) | exact Zi (by first | exact V7) rfl (Zgy _) hS (by repeat (first | exact Has.head)) (by first | trivial) (by repeat (first | exact Seg.here (by repeat (first | exact Pre.zero | apply Pre.succ))))) | (apply Ym; first | exact Zgm rfl rfl (by omega)) | (apply Xd; first | exact Yj rfl rfl rfl) | exact Yt rfl) ?_))
   refine QH_Y ?_
   have hk1 := hS.base
   have g1 := hS.ok _ (List.mem_cons_of_mem _ (List.mem_cons_self ..))
   have g2 := hS.ok _ (List.mem_cons_of_mem _ (List.mem_cons_of_mem _ (List.mem_cons_self ..)))
   have g3 := hS.ok _ (List.mem_cons_of_mem _ (List.mem_cons_of_mem _ (List.mem_cons_of_mem _ (List.mem_cons_self ..))))
   have hz1 := Nat.le_trans hz hk1.size
   refine wpSI_yield rfl rfl rfl rfl (hy k e _ he (hJ k B _ hJk hk1) hz1) ?_
   rintro ex w2 (⟨rfl, hJ2, hk2⟩ | ⟨rfl, hJ2, hk2⟩ | ⟨ch, rfl, hJ2⟩)
   ·refine .inl ⟨_, rfl, Zdc (by repeat (first | exact NL.body (by intro _ h; simp at h) | apply NL.then | apply NL.jump)) (by kernel_rfl) ?_⟩
    have q1 := (hk2.block b1 (Nat.lt_of_lt_of_le hbl hz1) (.inr ⟨hbM, hbl⟩)).trans g1
    have q2 := (hk2.block b2 (Nat.lt_of_lt_of_le hcl hz1) (.inr ⟨hcM, hcl⟩)).trans g2
    have q3 := (hk2.block b3 (Nat.lt_of_lt_of_le hdl hz1) (.inr ⟨hdM, hdl⟩)).trans g3
    have hA2 : Rd w2 A0 (Yf Jv x0.log) := hk2.rd (hk1.rd hAB (fun p hp => .inl (Nat.lt_of_lt_of_le (hAn p hp) hBs))) (fun p hp => .inl (hAn p hp))
    have hS := St0.three (S := fun b => b < wM.heap.size ∨ wI.heap.size ≤ b) q1 q2 q3 n12 n13 n23 s1 s2 s3
    repeat (first | apply Zg | (apply Zb; assumption) | (apply Zd; intro K hK) | (apply Ys; refine Za rfl rfl rfl (by first | (apply Xd; first | exact Yj rfl rfl rfl) | exact Yt rfl) ?_) | apply Yo rfl rfl | apply Zt)
    refine Yg 6 [4, 5] (fun i b => (i = 4 → b ≠ b2) ∧ (i = 5 → b ≠ b3)) ⟨by kernel_rfl, by kernel_rfl⟩ hS (fun w hS hB => ?_)
    refine Zn [true, true] (by decide +kernel) (by repeat (first | exact PF.body | apply PF.then | apply PF.jump)) ?_
    repeat (first | refine LtK.put rfl rfl rfl (by first | (apply Z9; first | exact Zh (by first | exact Zdh | exact Z0) rfl (Zgz _) hS (by repeat (first | exact Has.head | apply Has.tail)) (by first | trivial) (by repeat (first | exact Seg.here (Pre.succ Pre.zero)))) | (apply Ym; first | exact Zd1 rfl rfl (by omega))) ?_)
    refine LtK.nil ?_
    refine Y2 [false, false, true, true] [4] (fun b => b ≠ b2) (by decide +kernel) (by intro j hj b hb; simp only [List.mem_cons, List.not_mem_nil, or_false] at hj; (try rcases hj with rfl | rfl) <;> simp_all) (by repeat (first | exact PF.body | apply PF.then | apply PF.jump)) ?_
    repeat (first | refine LtK.put rfl rfl rfl (by first | (apply Z9; first | exact Zh (by first | exact Zdh | exact Z0) rfl (Zg0 _ _) hS (by repeat (first | exact Has.head | apply Has.tail)) (by first | trivial) (by repeat (first | exact Seg.here (Pre.succ Pre.zero)))) | (apply Ym; first | exact yv_sub rfl rfl (by omega))) ?_)
    refine LtK.nil ?_
    refine Yp [false, false, false, false, true] 4 ⟨by decide, by kernel_rfl, by kernel_rfl⟩ rfl rfl ?_
    dsimp only [Zw]
    repeat (first | apply Zg | (apply Yq; refine Zm rfl rfl rfl (by first | exact CellsOf.int) hS (by repeat (first | exact Pos.head | apply Pos.tail)) (by repeat (first | exact SetC.here (by repeat (first | exact Ovr.nil | apply Ovr.cons)))) (by kernel_rfl) rfl (fun w hS hB => ?_)))
    refine Ye (by first | exact hB.sub (fun _ _ h => by simpa using h)) ?_
    refine Yp [false, false, false, false, false, true] 5 ⟨by decide, by kernel_rfl, by kernel_rfl⟩ rfl rfl ?_
    dsimp only [Zw]
    repeat (first | apply Zg | (apply Yq; refine Zm rfl rfl rfl (by first | exact CellsOf.int) hS (by repeat (first | exact Pos.head | apply Pos.tail)) (by repeat (first | exact SetC.here (by repeat (first | exact Ovr.nil | apply Ovr.cons)))) (by kernel_rfl) rfl (fun w hS hB => ?_)))
    refine Ye (by first | exact hB.sub (fun _ _ h => by simpa using h)) ?_
    refine Z6 (by kernel_rfl) ?_
    repeat (first | (apply Zb; assumption) | apply Vi)
    have r2 := hS.ok _ (List.mem_cons_of_mem _ (List.mem_cons_self ..))
    have r3 := hS.ok _ (List.mem_cons_of_mem _ (List.mem_cons_of_mem _ (List.mem_cons_self ..)))
    have e2 : at_ + ((k + 1 : Nat) : Int) = at_ + (k : Int) + 1 := by omega
    have e3 : many - ((k + 1 : Nat) : Int) = many - (k : Int) - 1 := by omega
    refine QH_jump (k + 1) (by repeat (first | exact Sub.nil | refine Sub.cons rfl ?_)) ⟨hlt, ?_, ?_, ?_, ?_, ?_, ?_⟩ (by omega)
    ·exact hJ (k + 1) w2 _ hJ2 hS.base
    ·exact hS.base.rd hA2 (fun p hp => .inl (Nat.lt_of_lt_of_le (hAn p hp) hBs))
    ·exact hS.ok _ (List.mem_cons_self ..)
    ·rw [e2]; exact r2
    ·rw [e3]; exact r3
    ·exact Nat.le_trans (Nat.le_trans hz1 hk2.size) hS.base.size
   ·refine .inl ⟨_, rfl, Zdc (by repeat (first | exact NL.body (by intro _ h; simp at h) | apply NL.then | apply NL.jump)) (by kernel_rfl) ?_⟩
    have hS := St0.start All w2
    repeat (first | apply Zg | (apply Zb; assumption) | (apply Ys; refine Za rfl rfl rfl (by first | (apply Xd; first | exact Yj rfl rfl rfl) | exact Yt rfl) ?_) | apply Zr rfl rfl | apply Zk | apply Zj | apply Z5)
    refine Zl rfl (by first | exact RV.nil) rfl ?_
    exact .inl ⟨⟨_, rfl⟩, .inr hJ2⟩
   ·refine .inr ⟨ch, rfl, ?_⟩
    repeat (first | apply QH_jmp_panic | apply Xj)
    exact V6 rfl (.inr ⟨ch, rfl, hJ2⟩)
  ·have hkl : k = xs.length := by omega
   by_cases hno : at_ + k ≤ x0.snap.index ∨ x0.snap.index + x0.log.length < at_ + k
   ·repeat (first | (apply Zb; assumption) | (apply Zd; intro K hK) | apply Zf | (apply Y1; first | refine Xe rfl rfl rfl (by kernel_rfl) rfl (at_no x0.snap A0 x0.log.length c0 x0.term x0.vote (at_ + k) _ hbt.2 hbt.1 hno) hS (fun w hS hB => ?_)) | (apply Ys; refine Za rfl rfl rfl (by first | exact Zs rfl | (apply Z9; first | exact Zh (by first | exact Z0) rfl (Zgy _) hS (by repeat (first | exact Has.head | apply Has.tail)) (by first | trivial) (by repeat (first | exact Seg.here (Pre.succ Pre.zero))) | exact Zi (by first | exact Yr) rfl (Zgy _) hS (by repeat (first | exact Has.head)) (by first | trivial) (by repeat (first | exact Seg.here (by repeat (first | exact Pre.zero | apply Pre.succ))))) | exact Z1 rfl rfl) ?_) | apply Zt)
    first | (apply X3; refine Yb rfl rfl (by first | exact Zb6) hS (fun b5 w hS hB => ?_))
    repeat (first | apply Zg | (apply Zb; assumption) | (apply Zd; intro K hK) | apply Zf | (apply Ys; refine Xc rfl rfl rfl ?_) | (apply Yq; refine Zm rfl rfl rfl (by first | exact CellsOf.agg) hS (by repeat (first | exact Pos.head)) (by repeat (first | exact SetC.here (by repeat (first | exact Ovr.nil | apply Ovr.cons)))) (by kernel_rfl) rfl (fun w hS hB => ?_)) | (apply Ys; refine Za rfl rfl rfl (by first | exact Zs rfl | exact Zy rfl | (apply Xd; first | exact Z3 rfl rfl rfl) | exact Yt rfl) ?_) | apply Zr rfl rfl | apply Zk | apply Zj | apply Z5)
    refine Zl rfl (by first | exact RV.nil) rfl ?_
    refine .inl ⟨⟨_, rfl⟩, .inl ?_⟩
    rw [← hkl]
    exact hJ k B _ hJk hS.base
   ·have hm : many - k = 0 := by rcases hdone k hk hge with h | h; exact (hno h).elim; exact h
    obtain ⟨e, he, _⟩ := Xq (show (at_ + k - x0.snap.index - 1).toNat < x0.log.length by omega)
    repeat (first | (apply Zb; assumption) | (apply Zd; intro K hK) | apply Zf | (apply Y1; first | refine Xe rfl rfl rfl (by kernel_rfl) rfl (at_yes x0.snap A0 x0.log.length c0 x0.term x0.vote (at_ + k) _ hbt.2 hbt.1 (at_ + k - x0.snap.index - 1).toNat (by omega) (by omega) x0.log hAB rfl e he) hS (fun w hS hB => ?_)) | (apply Ys; refine Za rfl rfl rfl (by first | exact Zs rfl | (apply Z9; first | exact Zh (by first | exact Z0) rfl (Zgy _) hS (by repeat (first | exact Has.head | apply Has.tail)) (by first | trivial) (by repeat (first | exact Seg.here (Pre.succ Pre.zero))) | exact Zi (by first | exact Yr) rfl (Zgy _) hS (by repeat (first | exact Has.head)) (by first | trivial) (by repeat (first | exact Seg.here (by repeat (first | exact Pre.zero | apply Pre.succ))))) | exact Z1 rfl rfl) ?_) | apply Zt)
    first | (apply X3; refine Yb rfl rfl (by first | exact Zb6) hS (fun b5 w hS hB => ?_))
    repeat (first | apply Zg | (apply Zb; assumption) | (apply Zd; intro K hK) | apply Zf | (apply Ys; refine Xc rfl rfl rfl ?_) | (apply Yq; refine Zm rfl rfl rfl (by first | exact CellsOf.agg) hS (by repeat (first | exact Pos.head)) (by repeat (first | exact SetC.here (by repeat (first | exact Ovr.nil | apply Ovr.cons)))) (by kernel_rfl) rfl (fun w hS hB => ?_)) | (apply Ys; refine Za rfl rfl rfl (by first | exact Zs rfl | exact Zy rfl | (apply Z9; first | exact Zh (by first | exact Z0) rfl (Zgy _) hS (by repeat (first | exact Has.head | apply Has.tail)) (by first | trivial) (by repeat (first | exact Seg.here (Pre.succ Pre.zero)))) | (apply Ym; first | exact Zgp rfl rfl (by omega)) | (apply Xd; first | exact Z3 rfl rfl rfl | exact Yj rfl rfl rfl) | exact Yt rfl) ?_) | apply Zr rfl rfl | apply Zk | apply Zj | apply Z5)
    refine Zl rfl (by first | exact RV.nil) rfl ?_
    refine .inl ⟨⟨_, rfl⟩, .inl ?_⟩
    rw [← hkl]
    exact hJ k B _ hJk hS.base
 ·obtain ⟨k, hk0⟩ : ∃ k : Nat, k = 0 := ⟨0, rfl⟩
  have hk : k ≤ xs.length := by omega
  have hJk : J k W := by rw [hk0]; exact h0
  have hb1 : W.heap[b1]? = some (.cells [.int .i64 x0.snap.index, .int .i64 x0.snap.term, .int .i64 x0.snap.sum, .int .i64 x0.snap.level, .bool x0.snap.final, .slice A0 x0.log.length c0, .int .i64 x0.term, .int .i64 x0.vote].toArray 26) := hbW
  have hb2 : W.heap[b2]? = some (.cells [.int .i64 (at_ + k)].toArray 3) := by rw [hk0, show at_ + ((0 : Nat) : Int) = at_ by omega]; exact hcW
  have hb3 : W.heap[b3]? = some (.cells [.int .i64 (many - k)].toArray 3) := by rw [hk0, show many - ((0 : Nat) : Int) = many by omega]; exact hdW
  have hz := hW.size
  have hAB := hAW
  clear hk0 hbW hcW hdW hAW h0 hW hxs
  have hkk := hkm k hk
  have hS := St0.three (S := fun b => b < wM.heap.size ∨ wI.heap.size ≤ b) hb1 hb2 hb3 n12 n13 n23 s1 s2 s3
  rcases Nat.lt_or_ge k xs.length with hlt | hge
  ·obtain ⟨e, he, _⟩ := Xq hlt
   obtain ⟨k0, hat, hek, hmk⟩ := hmore k e he
   repeat (first | (apply Zb; assumption) | (apply Zd; intro K hK) | apply Zdg)
   apply Zf
   repeat (first | (apply Y1; first | refine Xe rfl rfl rfl (by kernel_rfl) rfl (at_yes x0.snap A0 x0.log.length c0 x0.term x0.vote (at_ + k) _ hbt.2 hbt.1 (k0 + k) (by omega) (List.getElem?_eq_some_iff.1 hek).1 x0.log hAB rfl e hek) hS (fun w hS hB => ?_)) | (apply Ys; refine Za rfl rfl rfl (by first | exact Zs rfl | (apply Z9; first | exact Zh (by first | exact Z0) rfl (Zgy _) hS (by repeat (first | exact Has.head | apply Has.tail)) (by first | trivial) (by repeat (first | exact Seg.here (Pre.succ Pre.zero))) | exact Zi (by first | exact Yr) rfl (Zgy _) hS (by repeat (first | exact Has.head)) (by first | trivial) (by repeat (first | exact Seg.here (by repeat (first | exact Pre.zero | apply Pre.succ))))) | exact Z1 rfl rfl) ?_))
   first | (apply X3; refine Yb rfl rfl (by first | exact Zb6) hS (fun b5 w hS hB => ?_))
   repeat (first | apply Zg | (apply Zb; assumption) | (apply Zd; intro K hK) | (apply Yq; refine Zm rfl rfl rfl (by first | exact CellsOf.agg) hS (by repeat (first | exact Pos.head)) (by repeat (first | exact SetC.here (by repeat (first | exact Ovr.nil | apply Ovr.cons)))) (by kernel_rfl) rfl (fun w hS hB => ?_)) | (apply Ys; refine Za rfl rfl rfl (by first | exact Zy rfl) ?_))
   refine Zf5 9 (by repeat (first | exact NL.body (by intro _ h; simp at h) | apply NL.then | apply NL.jump)) (by kernel_rfl) ?_
   dsimp only [List.take, List.drop]
   repeat (first | apply Zg | (apply Ys; refine Za rfl rfl rfl (by first | exact Zs rfl | (apply Z9; first | exact Zh (by first | exact Z0) rfl (Zgy _) hS (by repeat (first | exact Has.head | apply Has.tail)) (by first | trivial) (by repeat (first | exact Seg.here (Pre.succ Pre.zero))) | exact Zi (by first | exact V7) rfl (Zgy _) hS (by repeat (first | exact Has.head)) (by first | trivial) (by repeat (first | exact Seg.here (by repeat (first | exact Pre.zero | apply Pre.succ))))) | (apply Ym; first | exact Zgm rfl rfl (by omega)) | (apply Xd; first | exact Yj rfl rfl rfl) | exact Yt rfl) ?_))
   refine QH_Y ?_
   have hk1 := hS.base
   have g1 := hS.ok _ (List.mem_cons_of_mem _ (List.mem_cons_self ..))
   have g2 := hS.ok _ (List.mem_cons_of_mem _ (List.mem_cons_of_mem _ (List.mem_cons_self ..)))
   have g3 := hS.ok _ (List.mem_cons_of_mem _ (List.mem_cons_of_mem _ (List.mem_cons_of_mem _ (List.mem_cons_self ..))))
   have hz1 := Nat.le_trans hz hk1.size
   refine wpSI_yield rfl rfl rfl rfl (hy k e _ he (hJ k W _ hJk hk1) hz1) ?_
   rintro ex w2 (⟨rfl, hJ2, hk2⟩ | ⟨rfl, hJ2, hk2⟩ | ⟨ch, rfl, hJ2⟩)
   ·refine .inl ⟨_, rfl, Zdc (by repeat (first | exact NL.body (by intro _ h; simp at h) | apply NL.then | apply NL.jump)) (by kernel_rfl) ?_⟩
    have q1 := (hk2.block b1 (Nat.lt_of_lt_of_le hbl hz1) (.inr ⟨hbM, hbl⟩)).trans g1
    have q2 := (hk2.block b2 (Nat.lt_of_lt_of_le hcl hz1) (.inr ⟨hcM, hcl⟩)).trans g2
    have q3 := (hk2.block b3 (Nat.lt_of_lt_of_le hdl hz1) (.inr ⟨hdM, hdl⟩)).trans g3
    have hA2 : Rd w2 A0 (Yf Jv x0.log) := hk2.rd (hk1.rd hAB (fun p hp => .inl (Nat.lt_of_lt_of_le (hAn p hp) hBs))) (fun p hp => .inl (hAn p hp))
    have hS := St0.three (S := fun b => b < wM.heap.size ∨ wI.heap.size ≤ b) q1 q2 q3 n12 n13 n23 s1 s2 s3
    repeat (first | apply Zg | (apply Zb; assumption) | (apply Zd; intro K hK) | (apply Ys; refine Za rfl rfl rfl (by first | (apply Xd; first | exact Yj rfl rfl rfl) | exact Yt rfl) ?_) | apply Yo rfl rfl | apply Zt)
    refine Yg 6 [4, 5] (fun i b => (i = 4 → b ≠ b2) ∧ (i = 5 → b ≠ b3)) ⟨by kernel_rfl, by kernel_rfl⟩ hS (fun w hS hB => ?_)
    refine Zn [true, true] (by decide +kernel) (by repeat (first | exact PF.body | apply PF.then | apply PF.jump)) ?_
    repeat (first | refine LtK.put rfl rfl rfl (by first | (apply Z9; first | exact Zh (by first | exact Zdh | exact Z0) rfl (Zgz _) hS (by repeat (first | exact Has.head | apply Has.tail)) (by first | trivial) (by repeat (first | exact Seg.here (Pre.succ Pre.zero)))) | (apply Ym; first | exact Zd1 rfl rfl (by omega))) ?_)
    refine LtK.nil ?_
    refine Y2 [false, false, true, true] [4] (fun b => b ≠ b2) (by decide +kernel) (by intro j hj b hb; simp only [List.mem_cons, List.not_mem_nil, or_false] at hj; (try rcases hj with rfl | rfl) <;> simp_all) (by repeat (first | exact PF.body | apply PF.then | apply PF.jump)) ?_
    repeat (first | refine LtK.put rfl rfl rfl (by first | (apply Z9; first | exact Zh (by first | exact Zdh | exact Z0) rfl (Zg0 _ _) hS (by repeat (first | exact Has.head | apply Has.tail)) (by first | trivial) (by repeat (first | exact Seg.here (Pre.succ Pre.zero)))) | (apply Ym; first | exact yv_sub rfl rfl (by omega))) ?_)
    refine LtK.nil ?_
    refine Yp [false, false, false, false, true] 4 ⟨by decide, by kernel_rfl, by kernel_rfl⟩ rfl rfl ?_
    dsimp only [Zw]
    repeat (first | apply Zg | (apply Yq; refine Zm rfl rfl rfl (by first | exact CellsOf.int) hS (by repeat (first | exact Pos.head | apply Pos.tail)) (by repeat (first | exact SetC.here (by repeat (first | exact Ovr.nil | apply Ovr.cons)))) (by kernel_rfl) rfl (fun w hS hB => ?_)))
    refine Ye (by first | exact hB.sub (fun _ _ h => by simpa using h)) ?_
    refine Yp [false, false, false, false, false, true] 5 ⟨by decide, by kernel_rfl, by kernel_rfl⟩ rfl rfl ?_
    dsimp only [Zw]
    repeat (first | apply Zg | (apply Yq; refine Zm rfl rfl rfl (by first | exact CellsOf.int) hS (by repeat (first | exact Pos.head | apply Pos.tail)) (by repeat (first | exact SetC.here (by repeat (first | exact Ovr.nil | apply Ovr.cons)))) (by kernel_rfl) rfl (fun w hS hB => ?_)))
    refine Ye (by first | exact hB.sub (fun _ _ h => by simpa using h)) ?_
    refine Z6 (by kernel_rfl) ?_
    repeat (first | (apply Zb; assumption) | apply Vi)
    have r2 := hS.ok _ (List.mem_cons_of_mem _ (List.mem_cons_self ..))
    have r3 := hS.ok _ (List.mem_cons_of_mem _ (List.mem_cons_of_mem _ (List.mem_cons_self ..)))
    have e2 : at_ + ((k + 1 : Nat) : Int) = at_ + (k : Int) + 1 := by omega
    have e3 : many - ((k + 1 : Nat) : Int) = many - (k : Int) - 1 := by omega
    refine QH_jump0 (k + 1) (by repeat (first | exact Sub.nil | refine Sub.cons rfl ?_)) ⟨hlt, ?_, ?_, ?_, ?_, ?_, ?_⟩
    ·exact hJ (k + 1) w2 _ hJ2 hS.base
    ·exact hS.base.rd hA2 (fun p hp => .inl (Nat.lt_of_lt_of_le (hAn p hp) hBs))
    ·exact hS.ok _ (List.mem_cons_self ..)
    ·rw [e2]; exact r2
    ·rw [e3]; exact r3
    ·exact Nat.le_trans (Nat.le_trans hz1 hk2.size) hS.base.size
   ·refine .inl ⟨_, rfl, Zdc (by repeat (first | exact NL.body (by intro _ h; simp at h) | apply NL.then | apply NL.jump)) (by kernel_rfl) ?_⟩
    have hS := St0.start All w2
    repeat (first | apply Zg | (apply Zb; assumption) | (apply Ys; refine Za rfl rfl rfl (by first | (apply Xd; first | exact Yj rfl rfl rfl) | exact Yt rfl) ?_) | apply Zr rfl rfl | apply Zk | apply Zj | apply Z5)
    refine Zl rfl (by first | exact RV.nil) rfl ?_
    exact .inl ⟨⟨_, rfl⟩, .inr hJ2⟩
   ·refine .inr ⟨ch, rfl, ?_⟩
    repeat (first | apply QH_jmp_panic | apply Xj)
    exact V6 rfl (.inr ⟨ch, rfl, hJ2⟩)
  ·have hkl : k = xs.length := by omega
   by_cases hno : at_ + k ≤ x0.snap.index ∨ x0.snap.index + x0.log.length < at_ + k
   ·repeat (first | (apply Zb; assumption) | (apply Zd; intro K hK) | apply Zf | (apply Y1; first | refine Xe rfl rfl rfl (by kernel_rfl) rfl (at_no x0.snap A0 x0.log.length c0 x0.term x0.vote (at_ + k) _ hbt.2 hbt.1 hno) hS (fun w hS hB => ?_)) | (apply Ys; refine Za rfl rfl rfl (by first | exact Zs rfl | (apply Z9; first | exact Zh (by first | exact Z0) rfl (Zgy _) hS (by repeat (first | exact Has.head | apply Has.tail)) (by first | trivial) (by repeat (first | exact Seg.here (Pre.succ Pre.zero))) | exact Zi (by first | exact Yr) rfl (Zgy _) hS (by repeat (first | exact Has.head)) (by first | trivial) (by repeat (first | exact Seg.here (by repeat (first | exact Pre.zero | apply Pre.succ))))) | exact Z1 rfl rfl) ?_) | apply Zdg)
    first | (apply X3; refine Yb rfl rfl (by first | exact Zb6) hS (fun b5 w hS hB => ?_))
    repeat (first | apply Zg | (apply Zb; assumption) | (apply Zd; intro K hK) | apply Zf | (apply Ys; refine Xc rfl rfl rfl ?_) | (apply Yq; refine Zm rfl rfl rfl (by first | exact CellsOf.agg) hS (by repeat (first | exact Pos.head)) (by repeat (first | exact SetC.here (by repeat (first | exact Ovr.nil | apply Ovr.cons)))) (by kernel_rfl) rfl (fun w hS hB => ?_)) | (apply Ys; refine Za rfl rfl rfl (by first | exact Zs rfl | exact Zy rfl | (apply Xd; first | exact Z3 rfl rfl rfl) | exact Yt rfl) ?_) | apply Zr rfl rfl | apply Zk | apply Zj | apply Z5)
    refine Zl rfl (by first | exact RV.nil) rfl ?_
    refine .inl ⟨⟨_, rfl⟩, .inl ?_⟩
    rw [← hkl]
    exact hJ k W _ hJk hS.base
   ·have hm : many - k = 0 := by rcases hdone k hk hge with h | h; exact (hno h).elim; exact h
    obtain ⟨e, he, _⟩ := Xq (show (at_ + k - x0.snap.index - 1).toNat < x0.log.length by omega)
    repeat (first | (apply Zb; assumption) | (apply Zd; intro K hK) | apply Zf | (apply Y1; first | refine Xe rfl rfl rfl (by kernel_rfl) rfl (at_yes x0.snap A0 x0.log.length c0 x0.term x0.vote (at_ + k) _ hbt.2 hbt.1 (at_ + k - x0.snap.index - 1).toNat (by omega) (by omega) x0.log hAB rfl e he) hS (fun w hS hB => ?_)) | (apply Ys; refine Za rfl rfl rfl (by first | exact Zs rfl | (apply Z9; first | exact Zh (by first | exact Z0) rfl (Zgy _) hS (by repeat (first | exact Has.head | apply Has.tail)) (by first | trivial) (by repeat (first | exact Seg.here (Pre.succ Pre.zero))) | exact Zi (by first | exact Yr) rfl (Zgy _) hS (by repeat (first | exact Has.head)) (by first | trivial) (by repeat (first | exact Seg.here (by repeat (first | exact Pre.zero | apply Pre.succ))))) | exact Z1 rfl rfl) ?_) | apply Zdg)
    first | (apply X3; refine Yb rfl rfl (by first | exact Zb6) hS (fun b5 w hS hB => ?_))
    repeat (first | apply Zg | (apply Zb; assumption) | (apply Zd; intro K hK) | apply Zf | (apply Ys; refine Xc rfl rfl rfl ?_) | (apply Yq; refine Zm rfl rfl rfl (by first | exact CellsOf.agg) hS (by repeat (first | exact Pos.head)) (by repeat (first | exact SetC.here (by repeat (first | exact Ovr.nil | apply Ovr.cons)))) (by kernel_rfl) rfl (fun w hS hB => ?_)) | (apply Ys; refine Za rfl rfl rfl (by first | exact Zs rfl | exact Zy rfl | (apply Z9; first | exact Zh (by first | exact Z0) rfl (Zgy _) hS (by repeat (first | exact Has.head | apply Has.tail)) (by first | trivial) (by repeat (first | exact Seg.here (Pre.succ Pre.zero)))) | (apply Ym; first | exact Zgp rfl rfl (by omega)) | (apply Xd; first | exact Z3 rfl rfl rfl | exact Yj rfl rfl rfl) | exact Yt rfl) ?_) | apply Zr rfl rfl | apply Zk | apply Zj | apply Z5)
    refine Zl rfl (by first | exact RV.nil) rfl ?_
    refine .inl ⟨⟨_, rfl⟩, .inl ?_⟩
    rw [← hkl]
    exact hJ k W _ hJk hS.base
end
section
open Go Go.RowKit
set_option maxRecDepth 100000
end
section
open Go Go.RowKit
set_option maxRecDepth 100000
def Ze2 (x0 : Ms) : Option (List Int) := if x0.entries.length ≤ 1000000 ∧ -2000000000000 ≤ x0.last ∧ x0.last ≤ 2000000000000 then some ((List.range x0.entries.length).map fun i : Nat => x0.last + 1 + (i : Int)) else none
theorem it_indexes (x0 : Ms) {A0 : OA} {c0 : Nat} (n0 M : Nat) (w : World) (b : Nat) (hb : w.heap[b]? = some (.cells #[.int .u8 x0.kind, .int .i64 x0.frm, .int .i64 x0.dst, .int .i64 x0.term, .int .i64 x0.cap, .int .i64 x0.last, .int .i64 x0.lastTerm, .int .i64 x0.commit, .bool x0.okk, .slice A0 x0.entries.length c0, .int .i64 x0.snap.index, .int .i64 x0.snap.term, .int .i64 x0.snap.sum, .int .i64 x0.snap.level, .bool x0.snap.final] 36)) (hbn : b < n0) {xs : List Int} (H : Ze2 x0 = some xs) :
  IterP Try.prog 116 #[.pointer (some ⟨b, 0, none⟩)] (fun p : Int => [Value.int .i64 p].toArray) xs n0 M w := by
 unfold Ze2 at H
 split at H
 case isFalse => cases H
 rename_i h9
 obtain ⟨hl9, hl1, hl2⟩ := h9
 obtain hxs := QJ H
 have hget : ∀ k : Nat, k < x0.entries.length → xs[k]? = some (x0.last + 1 + (k : Int)) := fun k hk => by rw [← hxs]; simp [hk]
 have hlen : xs.length = x0.entries.length := by rw [← hxs]; simp
 have hbl : b < w.heap.size := (Array.getElem?_eq_some_iff.1 hb).1
 intro lo J Jx Jp W hW hJ hJx hJp hy h0
 have hbW : W.heap[b]? = some (.cells #[.int .u8 x0.kind, .int .i64 x0.frm, .int .i64 x0.dst, .int .i64 x0.term, .int .i64 x0.cap, .int .i64 x0.last, .int .i64 x0.lastTerm, .int .i64 x0.commit, .bool x0.okk, .slice A0 x0.entries.length c0, .int .i64 x0.snap.index, .int .i64 x0.snap.term, .int .i64 x0.snap.sum, .int .i64 x0.snap.level, .bool x0.snap.final] 36) := (hW.block b hbl).trans hb
 show Calls _ _ #[_, _] _ _
 refine Y0 Try.func116 rfl Try.ntmps116 rfl ?_
 have hS := St0.start All W
 repeat (first | apply Zg | (apply Zb; assumption) | (apply Zd; intro K hK) | apply Zf | (apply Ys; refine Za rfl rfl rfl (by first | exact Zs rfl | exact Ze (by first | exact Yi | exact Vc) rfl | (apply Z9; first | exact X7 (by first | exact Xp) rfl (Zgy _) hS (by first | trivial) (by first | trivial) (by assumption) (by repeat (first | exact Seg.here (Pre.succ Pre.zero) | apply Seg.succ))) | (apply Zab; first | exact Yu (by first | exact Y6) rfl)) ?_) | apply Yc)
 refine V0 (X := Nat) (fun k => [(7, .int .i64 k), (6, .int .i64 x0.entries.length), (1, .pointer (some ⟨b, 0, none⟩)), (0, .func (.yield lo) #[] #[])])
  (fun k B => k ≤ x0.entries.length ∧ J k B ∧ B.heap[b]? = some (.cells #[.int .u8 x0.kind, .int .i64 x0.frm, .int .i64 x0.dst, .int .i64 x0.term, .int .i64 x0.cap, .int .i64 x0.last, .int .i64 x0.lastTerm, .int .i64 x0.commit, .bool x0.okk, .slice A0 x0.entries.length c0, .int .i64 x0.snap.index, .int .i64 x0.snap.term, .int .i64 x0.snap.sum, .int .i64 x0.snap.level, .bool x0.snap.final] 36) ∧ w.heap.size ≤ B.heap.size) (fun k => x0.entries.length - k) 0 (by repeat (first | exact Sub.nil | refine Sub.cons rfl ?_)) ⟨Nat.zero_le _, h0, hbW, hW.size⟩ ?_
 rintro k B ⟨hk, hJk, hbB, hz⟩
 clear hbW hS h0
 have hS := St0.start All B
 rcases Nat.lt_or_ge k x0.entries.length with hlt | hge
 ·repeat (first | (apply Zd; intro K hK))
  apply Zf
  repeat (first | apply Zg | (apply Zb; assumption) | (apply Zd; intro K hK) | (apply Ys; refine Za rfl rfl rfl (by first | (apply Ym; first | exact Zfr rfl rfl (by omega))) ?_) | apply Zr rfl rfl | apply Zt | apply Yc)
  apply Zf
  repeat (first | apply Zg | (apply Zb; assumption) | (apply Zd; intro K hK) | (apply Ys; refine Za rfl rfl rfl (by first | exact Zs rfl | exact Zy rfl) ?_))
  refine Zf5 6 (by repeat (first | exact NL.body (by intro _ h; simp at h) | apply NL.then | apply NL.inBlock)) (by kernel_rfl) ?_
  dsimp only [List.take, List.drop]
  repeat (first | apply Zg | (apply Ys; refine Za rfl rfl rfl (by first | exact Zs rfl | exact Ze (by first | exact Yi | exact Vx) rfl | (apply Z9; first | exact X7 (by first | exact Z0) rfl (Zgy _) hS (by first | trivial) (by first | trivial) (by assumption) (by repeat (first | exact Seg.here (Pre.succ Pre.zero) | apply Seg.succ))) | (apply Ym; first | exact Zd1 rfl rfl (by omega))) ?_))
  refine QH_Y ?_
  have hk1 : KeepB All B B := hS.base
  refine wpSI_yield rfl rfl rfl rfl (hy k _ B (hget k hlt) (hJ k B B hJk (hk1.sub fun _ _ _ => trivial)) hz) ?_
  rintro ex w2 (⟨rfl, hJ2, hk2⟩ | ⟨rfl, hJ2, hk2⟩ | ⟨ch, rfl, hJ2⟩)
  ·refine .inl ⟨_, rfl, Zdc (by repeat (first | exact NL.body (by intro _ h; simp at h) | apply NL.then | apply NL.inBlock)) (by kernel_rfl) ?_⟩
   have hS := St0.start All w2
   repeat (first | apply Zg | (apply Zb; assumption) | apply Zf | (apply Ys; refine Za rfl rfl rfl (by first | exact Zs rfl | (apply Ym; first | exact Zd1 rfl rfl (by omega)) | exact Yt rfl) ?_) | apply Yo rfl rfl | apply Zt | apply Z2)
   refine Va (k + 1) (by repeat (first | exact Sub.nil | refine Sub.cons rfl ?_)) ⟨hlt, hJ2, ?_, ?_⟩ (by show x0.entries.length - (k + 1) < x0.entries.length - k; omega)
   ·exact (hk2.block b (Nat.lt_of_lt_of_le hbl hz) (.inl hbn)).trans hbB
   ·exact Nat.le_trans hz hk2.size
  ·refine .inl ⟨_, rfl, Zdc (by repeat (first | exact NL.body (by intro _ h; simp at h) | apply NL.then | apply NL.inBlock)) (by kernel_rfl) ?_⟩
   have hS := St0.start All w2
   repeat (first | apply Zg | (apply Zb; assumption) | (apply Ys; refine Za rfl rfl rfl (by first | exact Yt rfl) ?_) | apply Zr rfl rfl | apply Zk | apply Zj | apply Zv)
   refine Zl rfl (by first | exact RV.nil) rfl ?_
   exact .inl ⟨⟨_, rfl⟩, .inr hJ2⟩
  ·refine .inr ⟨ch, rfl, ?_⟩
   repeat (first | apply Xj | apply Zcf)
   exact V6 rfl (.inr ⟨ch, rfl, hJ2⟩)
 ·have hkl : k = xs.length := by omega
  repeat (first | apply Zg | (apply Zb; assumption) | (apply Zd; intro K hK) | apply Zf | (apply Ys; refine Za rfl rfl rfl (by first | (apply Ym; first | exact Zcy rfl rfl (by omega))) ?_) | apply Yo rfl rfl | apply Vj | apply Ya | apply Y3)
  refine Zcs rfl (by first | exact RV.nil) rfl ?_
  refine .inl ⟨⟨_, rfl⟩, .inl ?_⟩
  rw [← hkl]
  exact hJ _ _ _ hJk (hS.base.sub fun _ _ _ => trivial)
theorem c_appendSeq (gf : Nat) (lb : Array Value) (xs : List Int) (w0 : World) (eg : Zeu Try.prog gf = true) (hit : ∀ w, Below w0.heap.size w0 w → IterP Try.prog gf lb (fun p : Int => [Value.int .i64 p].toArray) xs w0.heap.size w.heap.size w) (hf : xs.length ≤ 1000000000) :
  Calls Try.prog 115 #[.slice none 0 0, .func (.func gf) #[] lb] w0 fun e w' => ∃ (A : OA) (c : Nat), e = .returned (.slice A xs.length c) ∧ (xs.length ≤ c ∧ c ≤ maxLen) ∧ St0 All w0 w' [.row (.slice A xs.length c) 3 1 xs.length (Yf V9 xs)] := by
 have em : Elem Try.prog 28 3 (.int .i64 0) 1 8 := ⟨by kernel_rfl, by kernel_rfl, rfl, by omega⟩
 refine Y0 Try.func115 rfl Try.ntmps115 rfl ?_
 have hS := St0.start All w0
 refine Zd (fun K hK1 => ?_)
 refine Zf ?_
 refine Yd rfl rfl rfl CellsOf.slice hS (fun b2 w hS hB => ?_)
 refine Zc 1 rfl ?_
 refine Zg ?_
 refine Zb hK1 ?_
 refine Zd (fun K hK2 => ?_)
 refine Zd (fun K hK3 => ?_)
 refine Zf ?_
 refine Zc 1 rfl ?_
 refine Zg ?_
 refine Zb hK3 ?_
 refine Yc ?_
 have hM := hS
 replace hS := hS.nilRow 3 1
 have hBw := hM.pure
 refine wpC_range (w0 := w0) (M := w.heap.size) (X := List Int × OA × Nat) rfl eg (hit w hBw) ⟨hM.size, Nat.le_refl _⟩ (fun _ => rfl) (by kernel_rfl) (fun k x => .row (.slice x.2.1 x.1.length x.2.2) 3 1 x.1.length (Yf V9 x.1) :: .box b2 [.slice x.2.1 x.1.length x.2.2] 28 :: []) (fun k x => (x.1.length ≤ x.2.2 ∧ x.2.2 ≤ maxLen) ∧ x.1 = xs.take k) (fun _ _ => []) (fun _ _ => False) (fun _ => False) ([], none, 0) ⟨hS, fun e he k hk => .inl ?_⟩ ⟨⟨Nat.le_refl _, Nat.zero_le _⟩, by simp⟩ ?_ ?_ (fun _ _ _ h _ => h.elim) (fun _ _ h _ => h.elim)
 ·rcases List.mem_cons.1 he with rfl | he
  ·cases hk
  ·exact (hM.rng e he k hk).1
 ·rintro lo k e16 ⟨v17, A18, c19⟩ A hke ⟨k20, hv⟩ hzB hRB hS
  dsimp only at hRB k20 hv ⊢
  dsimp only [List.zip, List.zipWith, List.foldl]
  have hkl := (List.getElem?_eq_some_iff.1 hke).1
  have hvl : v17.length = k := by rw [hv, List.length_take]; omega
  have hf31 : Zfm (v17 ++ ([e16] : List Int)) = some (v17 ++ [e16]) := if_pos (by rw [List.length_append]; simp only [List.length_cons, List.length_nil]; omega)
  have hnx : v17 ++ [e16] = xs.take (k + 1) := by rw [hv, List.take_add_one, hke]; rfl
  refine Zbj (by repeat (first | exact NL.false | apply NL.then)) (by kernel_rfl) ?_
  refine Zc 1 rfl ?_
  refine Zg ?_
  refine QH_asg hS ?_
  rintro A2 hS hBase hE
  dsimp only [List.cons_append, List.nil_append] at hS
  refine Yc ?_
  refine Zbj (by repeat (first | exact NL.round | apply NL.inBlock)) (by kernel_rfl) ?_
  refine Za rfl rfl rfl (Zh Xt rfl (Zgy _) hS (Has.tail Has.head) trivial (.here (.succ .zero))) ?_
  refine Zc 1 rfl ?_
  refine Yx (ps := [(0, .tmp 9)]) [.int .i64 e16] Xm zc_3 rfl rfl rfl rfl rfl (by kernel_rfl) hS (fun b28 w hS hB => ?_)
  refine Zbq (ys := ([e16] : List Int)) Yl oc_enI em (by decide) rfl rfl rfl rfl hS (fun _ => .tail .head) (hS.box_rd Has.head) hf31 (fun A32 c33 w k34 hS => ?_)
  refine Zm rfl rfl rfl CellsOf.slice hS (.tail (.tail .head)) (.here (.cons .nil)) (by kernel_rfl) rfl (fun w hS hB => ?_)
  refine Zg ?_
  refine Z2 ?_
  exact QH_round hBase hE hS (v17 ++ [e16], A32, c33) (List.Sublist.cons _ (List.Sublist.cons_cons _ (List.Sublist.cons_cons _ List.Sublist.slnil))) ⟨k34, hnx⟩
 ·rintro ⟨v17, A18, c19⟩ A ⟨k20, hv⟩ hS
  dsimp only at hS k20 hv ⊢
  rw [List.take_length] at hv
  subst hv
  refine Z2 ?_
  refine Zb hK2 ?_
  refine Zd (fun K hK36 => ?_)
  refine Zf ?_
  refine Za rfl rfl rfl (Zh Xt rfl (Zgy _) hS (Has.tail (Has.tail Has.head)) trivial (.here (.succ .zero))) ?_
  refine Zc 1 rfl ?_
  refine Zg ?_
  refine Zb hK36 ?_
  refine Zk ?_
  refine QH_shut (.inl rfl) hS .head (fun w hS => ?_)
  refine Zl rfl (RV.tmp rfl RV.nil) rfl ?_
  exact ⟨A18, c19, rfl, k20, hS.sub (List.Sublist.cons _ (List.Sublist.cons_cons _ (List.Sublist.cons _ List.Sublist.slnil)))⟩
theorem c_slices_Collect (gf : Nat) (lb : Array Value) (xs : List Int) (w0 : World) (eg : Zeu Try.prog gf = true) (hit : ∀ w, Below w0.heap.size w0 w → IterP Try.prog gf lb (fun p : Int => [Value.int .i64 p].toArray) xs w0.heap.size w.heap.size w) (hf : xs.length ≤ 1000000000) :
  Calls Try.prog 96 #[.func (.func gf) #[] lb] w0 fun e w' => ∃ (A : OA) (c : Nat), e = .returned (.slice A xs.length c) ∧ (xs.length ≤ c ∧ c ≤ maxLen) ∧ St0 All w0 w' [.row (.slice A xs.length c) 3 1 xs.length (Yf V9 xs)] := by
 refine Yn Try.func96 rfl Try.ntmps96 rfl ?_
 have hS := St0.start All w0
 refine Zd (fun K hK1 => ?_)
 refine Zf ?_
 refine Zc 1 rfl ?_
 refine Zg ?_
 refine Zb hK1 ?_
 refine Zd (fun K hK2 => ?_)
 refine Zf ?_
 refine Zc 1 rfl ?_
 refine Zo rfl rfl rfl rfl (by kernel_rfl) rfl (c_appendSeq gf lb xs w0 eg hit hf) ?_
 rintro e w ⟨A, c, rfl, k, hN⟩; refine ⟨_, rfl, ?_⟩; have hB := hN.pure; have hS := hN
 refine Zc 1 rfl ?_
 refine Zg ?_
 refine Zb hK2 ?_
 refine Zk ?_
 refine Zl rfl (RV.tmp rfl RV.nil) rfl ?_
 exact ⟨A, c, rfl, k, hS⟩
end
section
open Go Go.RowKit
set_option maxRecDepth 100000
def Zct (x0 : Tu) : Option (Bool) :=
  some (decide (250 < (x0.log.length : Int)))
def Zal (x0 : Co) : Option (Bool) := (Zct x0.tuple).bind fun r5 =>
  cond r5 (some true) (cond (decide (9 < (x0.votes.length : Int))) (some true) (cond (decide (9 < (x0.next.length : Int))) (some true) (cond (decide (9 < (x0.mtch.length : Int))) (some true) (cond (decide (9 < (x0.caps.length : Int))) (some true) (cond (decide (1099511627776 < x0.tuple.snap.index)) (some true) (some (decide (x0.tuple.snap.index < (-1099511627776)))))))))
def Jh (x0 : Int) : Option (Bool) :=
  cond (decide (0 ≤ x0)) (some (decide (x0 ≤ 1073741824))) (some false)
def Zan : Option (St) :=
  some (⟨0, 0, 0, 1, false⟩ : St)
def Ja (x0 : St) : Option (Bool) := (Jh x0.index).bind fun r6 =>
  cond (!r6) (some false) ((Jh x0.term).bind fun r9 =>
  cond (!r9) (some false) ((Jh x0.sum).bind fun r12 =>
  cond (!r12) (some false) (cond (decide ((decide (x0.term = 0)) ≠ (decide (x0.index = 0)))) (some false) (cond (decide (x0.level ≠ 1)) (cond (decide (x0.level ≠ 2)) (some false) (cond x0.final (cond (decide (x0.level ≠ 2)) (some false) (cond (decide (0 < x0.index)) (some true) ((Zan).bind fun r19 =>
  some (decide (x0.index = r19.index) && (decide (x0.term = r19.term) && (decide (x0.sum = r19.sum) && (decide (x0.level = r19.level) && (decide (x0.final = r19.final))))))))) (cond (decide (0 < x0.index)) (some true) ((Zan).bind fun r22 =>
  some (decide (x0.index = r22.index) && (decide (x0.term = r22.term) && (decide (x0.sum = r22.sum) && (decide (x0.level = r22.level) && (decide (x0.final = r22.final)))))))))) (cond x0.final (cond (decide (x0.level ≠ 2)) (some false) (cond (decide (0 < x0.index)) (some true) ((Zan).bind fun r26 =>
  some (decide (x0.index = r26.index) && (decide (x0.term = r26.term) && (decide (x0.sum = r26.sum) && (decide (x0.level = r26.level) && (decide (x0.final = r26.final))))))))) (cond (decide (0 < x0.index)) (some true) ((Zan).bind fun r29 =>
  some (decide (x0.index = r29.index) && (decide (x0.term = r29.term) && (decide (x0.sum = r29.sum) && (decide (x0.level = r29.level) && (decide (x0.final = r29.final)))))))))))))
def Za1 (x0 : En) : Option (Bool) :=
  cond (decide (1 ≤ x0.term)) ((Jh x0.term).bind fun r5 =>
  cond r5 (cond (decide (0 ≤ x0.kind)) (cond (decide (x0.kind < 5)) ((Jh x0.value).bind fun r7 =>
  cond r7 (cond (decide (x0.kind = 1)) (some true) (some (decide (x0.value = 0)))) (some false)) (some false)) (some false)) (some false)) (some false)
def Jr (x0 : Tu) : Nat → Bool → Int → Int → Option (Bool)
 | 0, _, _, _ => none
 | n + 1, v16, v17, v18 =>
  cond (decide (v18 < (x0.log.length : Int))) ((idx x0.log v18).bind fun e24 =>
  (Za1 e24).bind fun r27 =>
  cond (!r27) (some false) ((idx x0.log v18).bind fun e30 =>
  cond (decide (e30.term < v17)) (some false) ((idx x0.log v18).bind fun e34 =>
  Jr x0 n v16 e34.term (IntKind.wrap .i64 (v18 + 1))))) (cond (decide (v17 ≤ x0.term)) (cond (decide (0 ≤ x0.term)) (some (decide (x0.term ≤ 1073741824))) (some false)) (some false))
def Za3 (x0 : Tu) : Option (Bool) := (Ja x0.snap).bind fun r6 =>
  cond (!r6) (some false) (cond (decide (1073740824 < x0.snap.index)) (some false) (cond (decide (200 < (x0.log.length : Int))) (some false) (cond (decide (x0.vote < 0)) (some false) (cond (decide (5 < x0.vote)) (some false) (Jr x0 Xn false x0.snap.term 0)))))
def Vw (x0 : Tu) : Option (Int) :=
  some (IntKind.wrap .i64 (x0.snap.index + (x0.log.length : Int)))
def Zcm (x0 : St) (x1 : En) : Option (St) := (Za1 x1).bind fun r10 =>
  cond (!r10) (some x0) ((Ja x0).bind fun r13 =>
  cond (!r13) (some x0) (cond (decide (1073741824 ≤ x0.index)) (some x0) (cond (decide (x1.kind = 1)) (some (⟨(IntKind.wrap .i64 (x0.index + 1)), x1.term, (Int.tmod (IntKind.wrap .i64 ((IntKind.wrap .i64 ((IntKind.wrap .i64 (31 * x0.sum)) + x1.value)) + 1)) 1073741824), x0.level, x0.final⟩ : St)) (cond (decide (x1.kind = 2)) (some (⟨(IntKind.wrap .i64 (x0.index + 1)), x1.term, x0.sum, 2, x0.final⟩ : St)) (cond (decide (x1.kind = 3)) (cond (!x0.final) (some (⟨(IntKind.wrap .i64 (x0.index + 1)), x1.term, x0.sum, 1, x0.final⟩ : St)) (some (⟨(IntKind.wrap .i64 (x0.index + 1)), x1.term, x0.sum, x0.level, x0.final⟩ : St))) (cond (decide (x1.kind = 4)) (some (⟨(IntKind.wrap .i64 (x0.index + 1)), x1.term, x0.sum, x0.level, (decide (x0.level = 2))⟩ : St)) (some (⟨(IntKind.wrap .i64 (x0.index + 1)), x1.term, x0.sum, x0.level, x0.final⟩ : St))))))))
def Zap (x1 : List En) : Nat → Int → Int → Int → Int → Int → Bool → Option (St)
 | 0, _, _, _, _, _, _ => none
 | n + 1, v8, v9, v10, v11, v12, v13 =>
  cond (decide (v8 < (x1.length : Int))) ((idx x1 v8).bind fun e17 =>
  (Zcm (⟨v9, v10, v11, v12, v13⟩ : St) e17).bind fun r20 =>
  Zap x1 n (IntKind.wrap .i64 (v8 + 1)) r20.index r20.term r20.sum r20.level r20.final) (some (⟨v9, v10, v11, v12, v13⟩ : St))
def Zf8 (x0 : St) (x1 : List En) : Option (St) :=
  Zap x1 Xn 0 x0.index x0.term x0.sum x0.level x0.final
def Zby (x0 : Tu) (x1 : Int) : Option (St × Bool) :=
  cond (decide (x1 < x0.snap.index)) (some ((⟨0, 0, 0, 0, false⟩ : St), false)) ((Vw x0).bind fun r9 =>
  cond (decide (r9 < x1)) (some ((⟨0, 0, 0, 0, false⟩ : St), false)) ((takeI x0.log (IntKind.wrap .i64 (x1 - x0.snap.index))).bind fun l13 =>
  (Zf8 x0.snap l13).bind fun r15 =>
  some (r15, true)))
def Jo (x0 : Co) (r30 : Int) : Nat → Bool → Int → Option (Bool)
 | 0, _, _ => none
 | n + 1, v34, v35 =>
  cond (decide (v35 < x0.n)) ((idx x0.next v35).bind fun e40 =>
  cond (decide (e40 < 1)) (some false) ((idx x0.next v35).bind fun e44 =>
  cond (decide ((IntKind.wrap .i64 (r30 + 1)) < e44)) (some false) ((idx x0.mtch v35).bind fun e48 =>
  cond (decide (e48 < 0)) (some false) ((idx x0.mtch v35).bind fun e52 =>
  cond (decide (r30 < e52)) (some false) ((idx x0.caps v35).bind fun e56 =>
  cond (decide (e56 < 0)) (some false) ((idx x0.caps v35).bind fun e60 =>
  cond (decide (2 < e60)) (some false) (Jo x0 r30 n v34 (IntKind.wrap .i64 (v35 + 1))))))))) (cond (decide (x0.role ≠ 0)) (cond (decide (x0.tuple.term < 1)) (some false) (cond (decide (x0.tuple.vote ≠ x0.id)) (some false) ((idx x0.caps (IntKind.wrap .i64 (x0.id - 1))).bind fun e69 =>
  some (decide (e69 = x0.binary))))) ((idx x0.caps (IntKind.wrap .i64 (x0.id - 1))).bind fun e73 =>
  some (decide (e73 = x0.binary))))
def Zbw (x0 : Co) : Option (Bool) :=
  cond (decide (x0.n < 1)) (some false) (cond (decide (5 < x0.n)) (some false) (cond (decide (x0.id < 1)) (some false) (cond (decide (x0.n < x0.id)) (some false) (cond (decide (2 < x0.role)) (some false) (cond (decide (x0.binary < 1)) (some false) (cond (decide (2 < x0.binary)) (some false) ((Za3 x0.tuple).bind fun r13 =>
  cond (!r13) (some false) ((Zby x0.tuple x0.commit).bind fun r17 =>
  cond (!r17.2) (some false) (cond (!(decide (r17.1.index = x0.applied.index) && (decide (r17.1.term = x0.applied.term) && (decide (r17.1.sum = x0.applied.sum) && (decide (r17.1.level = x0.applied.level) && (decide (r17.1.final = x0.applied.final))))))) (some false) (cond (decide ((x0.votes.length : Int) ≠ x0.n)) (some false) (cond (decide ((x0.next.length : Int) ≠ x0.n)) (some false) (cond (decide ((x0.mtch.length : Int) ≠ x0.n)) (some false) (cond (decide ((x0.caps.length : Int) ≠ x0.n)) (some false) ((Vw x0.tuple).bind fun r30 =>
  Jo x0 r30 Xn false 0))))))))))))))
def Zgg : Option (Tu) := (Zan).bind fun r5 =>
  some (⟨r5, [], 0, 0⟩ : Tu)
def Zaj (x0 : Tu) : Option (Tu) := (Zfm ([] ++ x0.log)).bind fun l9 =>
  some (⟨x0.snap, l9, x0.term, x0.vote⟩ : Tu)
def Zas (x0 : Int) (x1 : Int) (x2 : Int) (x3 : Tu) (r13 : Tu) : Nat → Int → List Bool → List Int → List Int → List Int → Option (Co)
 | 0, _, _, _, _, _ => none
 | n + 1, v24, v25, v30, v35, v40 =>
  cond (decide (v24 ≤ x1)) ((Zfm (v25 ++ ([false] : List Bool))).bind fun l51 =>
  (Vw x3).bind fun r57 =>
  (Zfm (v30 ++ ([(IntKind.wrap .i64 (r57 + 1))] : List Int))).bind fun l61 =>
  (Zfm (v35 ++ ([0] : List Int))).bind fun l69 =>
  (Zfm (v40 ++ ([0] : List Int))).bind fun l76 =>
  Zas x0 x1 x2 x3 r13 n (IntKind.wrap .i64 (v24 + 1)) l51 l61 l69 l76) ((idx v40 (IntKind.wrap .i64 (x0 - 1))).bind fun e82 =>
  some (⟨x0, x1, 0, x2, r13, x3.snap.index, x3.snap, v25, v30, v35, (Zen v40 (IntKind.wrap .i64 (x0 - 1)) x2)⟩ : Co))
def Zbl (x0 : Int) (x1 : Int) (x2 : Int) (x3 : Tu) : Option (Co) :=
  cond (decide (x1 < 0)) (some (⟨0, 0, 0, 0, (⟨(⟨0, 0, 0, 0, false⟩ : St), [], 0, 0⟩ : Tu), 0, (⟨0, 0, 0, 0, false⟩ : St), [], [], [], []⟩ : Co)) (cond (decide (5 < x1)) (some (⟨0, 0, 0, 0, (⟨(⟨0, 0, 0, 0, false⟩ : St), [], 0, 0⟩ : Tu), 0, (⟨0, 0, 0, 0, false⟩ : St), [], [], [], []⟩ : Co)) (cond (decide (x0 < 1)) (some (⟨0, 0, 0, 0, (⟨(⟨0, 0, 0, 0, false⟩ : St), [], 0, 0⟩ : Tu), 0, (⟨0, 0, 0, 0, false⟩ : St), [], [], [], []⟩ : Co)) (cond (decide (x1 < x0)) (some (⟨0, 0, 0, 0, (⟨(⟨0, 0, 0, 0, false⟩ : St), [], 0, 0⟩ : Tu), 0, (⟨0, 0, 0, 0, false⟩ : St), [], [], [], []⟩ : Co)) ((Zaj x3).bind fun r13 =>
  Zas x0 x1 x2 x3 r13 Xn 1 [] [] [] []))))
def X9 (x0 : List En) : Option (List En) := Zfm x0
def Zf4 (x0 : Tu) : Option (Tu) := (X9 x0.log).bind fun r7 =>
  some (⟨x0.snap, r7, x0.term, x0.vote⟩ : Tu)
def Jg (x0 : List Bool) : Option (List Bool) := Zfm x0
def Vk (x0 : List Int) : Option (List Int) := Zfm x0
def Zbb (x0 : Co) : Option (Co) := (Zf4 x0.tuple).bind fun r7 =>
  (Jg x0.votes).bind fun r14 =>
  (Vk x0.next).bind fun r20 =>
  (Vk x0.mtch).bind fun r26 =>
  (Vk x0.caps).bind fun r32 =>
  some (⟨x0.id, x0.n, x0.role, x0.binary, r7, x0.commit, x0.applied, r14, r20, r26, r32⟩ : Co)
def Zae (x0 : Tu) : Option (Int) :=
  some (IntKind.wrap .i64 (x0.snap.index + (x0.log.length : Int)))
def Vy (x0 : Int) (x1 : Int) (x2 : Int) : Option (Bool) :=
  cond (decide (x1 ≤ x0)) (some (decide (x0 ≤ x2))) (some false)
def Zd9 : Option (St) :=
  some (⟨0, 0, 0, 1, false⟩ : St)
def Ve (x0 : Int) : Option (Bool) :=
  cond (decide (0 ≤ x0)) (some (decide (x0 ≤ 1073741824))) (some false)
def Ju (x0 : St) : Option (Bool) :=
  cond (decide (x0.index = 0)) ((Zd9).bind fun r7 =>
  some (decide (x0.index = r7.index) && (decide (x0.term = r7.term) && (decide (x0.sum = r7.sum) && (decide (x0.level = r7.level) && (decide (x0.final = r7.final))))))) (cond x0.final (cond (decide (x0.level = 2)) ((Ve x0.index).bind fun r11 =>
  cond r11 (cond (decide (0 < x0.term)) ((Ve x0.term).bind fun r13 =>
  cond r13 ((Ve x0.sum).bind fun r15 =>
  some r15) (some false)) (some false)) (some false)) (some false)) (cond (decide (x0.level = 1)) ((Ve x0.index).bind fun r18 =>
  cond r18 (cond (decide (0 < x0.term)) ((Ve x0.term).bind fun r20 =>
  cond r20 ((Ve x0.sum).bind fun r22 =>
  some r22) (some false)) (some false)) (some false)) (cond (decide (x0.level = 2)) ((Ve x0.index).bind fun r24 =>
  cond r24 (cond (decide (0 < x0.term)) ((Ve x0.term).bind fun r26 =>
  cond r26 ((Ve x0.sum).bind fun r28 =>
  some r28) (some false)) (some false)) (some false)) (some false))))
def Za0 (x0 : List Int) (x2 : Int) (x3 : Int) : Nat → Int → Int → Option (Bool)
 | 0, _, _ => none
 | n + 1, v12, v13 =>
  cond (decide (v13 < (x0.length : Int))) ((idx x0 v13).bind fun e19 =>
  (Vy e19 x2 x3).bind fun r24 =>
  cond (!r24) (some (!(decide (0 ≤ v13)))) (Za0 x0 x2 x3 n v12 (IntKind.wrap .i64 (v13 + 1)))) (some (!(decide (0 ≤ (-1)))))
def Zbo (x0 : List Int) (x1 : Int) (x2 : Int) (x3 : Int) : Option (Bool) :=
  cond (decide ((x0.length : Int) = x1)) (Za0 x0 x2 x3 Xn 0 0) (some false)
def Zbi (x0 : Co) : Option (Bool) := (Zae x0.tuple).bind fun r5 =>
  (Vy x0.n 1 5).bind fun r18 =>
  cond r18 ((Vy x0.id 1 x0.n).bind fun r20 =>
  cond (!r20) (some false) (cond (decide (x0.role ≤ 2)) ((Vy x0.binary 1 2).bind fun r30 =>
  cond r30 ((Zc0 x0.tuple).bind fun r32 =>
  cond (!r32) (some false) ((Xk x0.tuple x0.commit).bind fun r42 =>
  cond r42.2 (cond (!(decide (r42.1.index = x0.applied.index) && (decide (r42.1.term = x0.applied.term) && (decide (r42.1.sum = x0.applied.sum) && (decide (r42.1.level = x0.applied.level) && (decide (r42.1.final = x0.applied.final))))))) (some false) (cond (decide ((x0.votes.length : Int) = x0.n)) ((Zbo x0.next x0.n 1 (IntKind.wrap .i64 (r5 + 1))).bind fun r55 =>
  cond r55 ((Zbo x0.mtch x0.n 0 r5).bind fun r57 =>
  cond (!r57) (some false) ((Zbo x0.caps x0.n 0 2).bind fun r67 =>
  cond r67 ((idx x0.caps (IntKind.wrap .i64 (x0.id - 1))).bind fun e69 =>
  cond (!(decide (e69 = x0.binary))) (some false) (cond (decide (x0.role = 0)) (some true) (cond (decide (0 < x0.tuple.term)) (cond (!(decide (x0.tuple.vote = x0.id))) (some false) (some true)) (some false)))) (some false))) (some false)) (some false))) (some false))) (some false)) (some false))) (some false)
def m_tuple_At (x0 : Tu) (x1 : Int) : Option (En × Bool) :=
  cond (decide (x1 ≤ x0.snap.index)) (some ((⟨0, 0, 0⟩ : En), false)) ((Zae x0).bind fun r9 =>
  cond (decide (r9 < x1)) (some ((⟨0, 0, 0⟩ : En), false)) ((idx x0.log (IntKind.wrap .i64 ((IntKind.wrap .i64 (x1 - x0.snap.index)) - 1))).bind fun e13 =>
  some (e13, true)))
def Zar (x0 : Tu) (x1 : Int) : Option (Int × Bool) :=
  cond (decide (x1 = x0.snap.index)) (some (x0.snap.term, true)) ((m_tuple_At x0 x1).bind fun r8 =>
  some (r8.1.term, r8.2))
def Jn (x0 : Ms) : Nat → Bool → Int → Int → Option (Bool)
 | 0, _, _, _ => none
 | n + 1, v7, v8, v9 =>
  cond (decide (v9 < (x0.entries.length : Int))) ((idx x0.entries v9).bind fun e14 =>
  (Zgk e14).bind fun r21 =>
  cond (!r21) (some false) ((Vy e14.term v8 x0.term).bind fun r24 =>
  cond (!r24) (some false) (Jn x0 n v7 e14.term (IntKind.wrap .i64 (v9 + 1))))) (some (decide ((x0.entries.length : Int) ≤ 4)))
def Zc1 (x0 : Ms) : Option (Bool) :=
  Jn x0 Xn false x0.lastTerm 0
def Zd3 (x0 : Ms) (x1 : Int) : Option (Bool) := (Vy x1 1 5).bind fun r6 =>
  cond (!r6) (some false) ((Zbo ([x0.frm, x0.dst] : List Int) 2 1 x1).bind fun r12 =>
  cond (!r12) (some false) (cond (decide (x0.frm = x0.dst)) (some false) ((Vy (IntKind.wrap .i64 x0.kind) 1 5).bind fun r20 =>
  cond (!r20) (some false) ((Vy x0.term 1 1073741824).bind fun r24 =>
  cond (!r24) (some false) ((Vy x0.cap 1 2).bind fun r28 =>
  cond (!r28) (some false) ((Zbo ([x0.last, x0.lastTerm, x0.commit] : List Int) 3 0 1073741824).bind fun r36 =>
  cond (!r36) (some false) ((Zc1 x0).bind fun r40 =>
  cond (!r40) (some false) (cond (decide (x0.kind ≠ 3)) (cond (decide (0 < (x0.entries.length : Int))) (some false) (cond (decide (0 < x0.commit)) (some false) (cond x0.okk (cond (decide (x0.kind ≠ 2)) (cond (decide (x0.kind ≠ 4)) (some false) (cond (decide (x0.kind = 5)) (cond (decide (0 < x0.snap.index)) ((Ju x0.snap).bind fun r57 =>
  some r57) (some false)) (some (decide (x0.snap.index = 0) && (decide (x0.snap.term = 0) && (decide (x0.snap.sum = 0) && (decide (x0.snap.level = 0) && (decide (x0.snap.final = false))))))))) (cond (decide (x0.kind = 5)) (cond (decide (0 < x0.snap.index)) ((Ju x0.snap).bind fun r64 =>
  some r64) (some false)) (some (decide (x0.snap.index = 0) && (decide (x0.snap.term = 0) && (decide (x0.snap.sum = 0) && (decide (x0.snap.level = 0) && (decide (x0.snap.final = false))))))))) (cond (decide (x0.kind = 5)) (cond (decide (0 < x0.snap.index)) ((Ju x0.snap).bind fun r71 =>
  some r71) (some false)) (some (decide (x0.snap.index = 0) && (decide (x0.snap.term = 0) && (decide (x0.snap.sum = 0) && (decide (x0.snap.level = 0) && (decide (x0.snap.final = false))))))))))) (cond x0.okk (cond (decide (x0.kind ≠ 2)) (cond (decide (x0.kind ≠ 4)) (some false) (cond (decide (x0.kind = 5)) (cond (decide (0 < x0.snap.index)) ((Ju x0.snap).bind fun r82 =>
  some r82) (some false)) (some (decide (x0.snap.index = 0) && (decide (x0.snap.term = 0) && (decide (x0.snap.sum = 0) && (decide (x0.snap.level = 0) && (decide (x0.snap.final = false))))))))) (cond (decide (x0.kind = 5)) (cond (decide (0 < x0.snap.index)) ((Ju x0.snap).bind fun r89 =>
  some r89) (some false)) (some (decide (x0.snap.index = 0) && (decide (x0.snap.term = 0) && (decide (x0.snap.sum = 0) && (decide (x0.snap.level = 0) && (decide (x0.snap.final = false))))))))) (cond (decide (x0.kind = 5)) (cond (decide (0 < x0.snap.index)) ((Ju x0.snap).bind fun r96 =>
  some r96) (some false)) (some (decide (x0.snap.index = 0) && (decide (x0.snap.term = 0) && (decide (x0.snap.sum = 0) && (decide (x0.snap.level = 0) && (decide (x0.snap.final = false)))))))))))))))))
def Zdv (x0 : Co) (x1 : Ms) : Option (Bool) :=
  cond (decide (x1.dst = x0.id)) ((Zd3 x1 x0.n).bind fun r7 =>
  cond r7 ((Zbi x0).bind fun r9 =>
  some r9) (some false)) (some false)
def Zca (x0 : Co) (x1 : Ms) : Option (Bool) :=
  cond (decide (x1.dst ≠ x0.id)) (some false) ((Zbi x0).bind fun r10 =>
  cond (!r10) (some false) ((Zd3 x1 x0.n).bind fun r15 =>
  some r15))
def Zcx (x0 : Co) (x1 : Ms) : Option (Co) := (Zca x0 x1).bind fun r9 =>
  (Zbb x0).bind fun r19 =>
  cond r9 ((Zbi r19).bind fun r43 =>
  cond r43 ((idx r19.caps (IntKind.wrap .i64 (x1.frm - 1))).bind fun e45 =>
  some (⟨r19.id, r19.n, r19.role, r19.binary, r19.tuple, r19.commit, r19.applied, r19.votes, r19.next, r19.mtch, (Zen r19.caps (IntKind.wrap .i64 (x1.frm - 1)) x1.cap)⟩ : Co)) (some r19)) (some r19)
def Zcn (x0 : Co) (x1 : Ms) : Option (Co) := (Zbb x0).bind fun r9 =>
  (Zdv r9 x1).bind fun r33 =>
  cond (!r33) (some r9) ((Zcx r9 x1).bind fun r39 =>
  cond (decide (r39.tuple.term < x1.term)) ((Zcl r39.tuple x1.term 0).bind fun r68 =>
  (makeI false r39.n).bind fun l75 =>
  some (⟨r39.id, r39.n, 0, r39.binary, r68.1, r39.commit, r39.applied, l75, r39.next, r39.mtch, r39.caps⟩ : Co)) (some r39))
def X8 (x0 : Co) (x1 : Ms) (x2 : Int) (x3 : Bool) (x4 : Int) : Option (Ms) :=
  some (⟨x2, x0.id, x1.frm, x0.tuple.term, x0.binary, x4, 0, 0, x3, [], (⟨0, 0, 0, 0, false⟩ : St)⟩ : Ms)
def J6 (x0 : List En) (x1 : List En) : Nat → Bool → Int → Option (Bool)
 | 0, _, _ => none
 | n + 1, v7, v8 =>
  cond (decide (v8 < (x0.length : Int))) ((idx x0 v8).bind fun e13 =>
  (idx x1 v8).bind fun e16 =>
  cond (!(decide (e13.term = e16.term) && (decide (e13.kind = e16.kind) && (decide (e13.value = e16.value))))) (some false) (J6 x0 x1 n v7 (IntKind.wrap .i64 (v8 + 1)))) (some true)
def Zdj (x0 : List En) (x1 : List En) : Option (Bool) :=
  cond (decide ((x0.length : Int) ≠ (x1.length : Int))) (some false) (J6 x0 x1 Xn false 0)
def Zaq (x0 : Int) : Option (Bool) :=
  cond (decide (0 ≤ x0)) (some (decide (x0 ≤ 1073741824))) (some false)
def Jf (x0 : Ms) : Nat → Bool → Int → Int → Option (Bool)
 | 0, _, _, _ => none
 | n + 1, v7, v8, v9 =>
  cond (decide (v9 < (x0.entries.length : Int))) ((idx x0.entries v9).bind fun e15 =>
  (Za1 e15).bind fun r18 =>
  cond (!r18) (some false) ((idx x0.entries v9).bind fun e21 =>
  cond (decide (e21.term < v8)) (some false) ((idx x0.entries v9).bind fun e25 =>
  cond (decide (x0.term < e25.term)) (some false) ((idx x0.entries v9).bind fun e29 =>
  Jf x0 n v7 e29.term (IntKind.wrap .i64 (v9 + 1)))))) (some (decide ((x0.entries.length : Int) ≤ 4)))
def Zbt (x0 : Ms) : Option (Bool) :=
  Jf x0 Xn false x0.lastTerm 0
def Zdk (x0 : Ms) (x1 : Int) : Option (Bool) :=
  cond (decide (x1 < 1)) (some false) (cond (decide (5 < x1)) (some false) (cond (decide (x0.frm < 1)) (some false) (cond (decide (x1 < x0.frm)) (some false) (cond (decide (x0.dst < 1)) (some false) (cond (decide (x1 < x0.dst)) (some false) (cond (decide (x0.frm = x0.dst)) (some false) (cond (decide (x0.kind < 1)) (some false) (cond (decide (6 ≤ x0.kind)) (some false) (cond (decide (x0.term < 1)) (some false) (cond (decide (1073741824 < x0.term)) (some false) (cond (decide (x0.cap < 1)) (some false) (cond (decide (2 < x0.cap)) (some false) ((Zaq x0.last).bind fun r21 =>
  cond (!r21) (some false) ((Zaq x0.lastTerm).bind fun r24 =>
  cond (!r24) (some false) ((Zaq x0.commit).bind fun r27 =>
  cond (!r27) (some false) ((Zbt x0).bind fun r30 =>
  cond (!r30) (some false) (cond (decide (x0.kind ≠ 3)) (cond (decide (0 < (x0.entries.length : Int))) (some false) (cond (decide (0 < x0.commit)) (some false) (cond x0.okk (cond (decide (x0.kind ≠ 2)) (cond (decide (x0.kind ≠ 4)) (some false) (cond (decide (x0.kind = 5)) ((Ja x0.snap).bind fun r41 =>
  cond r41 (some (decide (0 < x0.snap.index))) (some false)) (some (decide (x0.snap.index = 0) && (decide (x0.snap.term = 0) && (decide (x0.snap.sum = 0) && (decide (x0.snap.level = 0) && (decide (x0.snap.final = false))))))))) (cond (decide (x0.kind = 5)) ((Ja x0.snap).bind fun r47 =>
  cond r47 (some (decide (0 < x0.snap.index))) (some false)) (some (decide (x0.snap.index = 0) && (decide (x0.snap.term = 0) && (decide (x0.snap.sum = 0) && (decide (x0.snap.level = 0) && (decide (x0.snap.final = false))))))))) (cond (decide (x0.kind = 5)) ((Ja x0.snap).bind fun r53 =>
  cond r53 (some (decide (0 < x0.snap.index))) (some false)) (some (decide (x0.snap.index = 0) && (decide (x0.snap.term = 0) && (decide (x0.snap.sum = 0) && (decide (x0.snap.level = 0) && (decide (x0.snap.final = false))))))))))) (cond x0.okk (cond (decide (x0.kind ≠ 2)) (cond (decide (x0.kind ≠ 4)) (some false) (cond (decide (x0.kind = 5)) ((Ja x0.snap).bind fun r60 =>
  cond r60 (some (decide (0 < x0.snap.index))) (some false)) (some (decide (x0.snap.index = 0) && (decide (x0.snap.term = 0) && (decide (x0.snap.sum = 0) && (decide (x0.snap.level = 0) && (decide (x0.snap.final = false))))))))) (cond (decide (x0.kind = 5)) ((Ja x0.snap).bind fun r66 =>
  cond r66 (some (decide (0 < x0.snap.index))) (some false)) (some (decide (x0.snap.index = 0) && (decide (x0.snap.term = 0) && (decide (x0.snap.sum = 0) && (decide (x0.snap.level = 0) && (decide (x0.snap.final = false))))))))) (cond (decide (x0.kind = 5)) ((Ja x0.snap).bind fun r72 =>
  cond r72 (some (decide (0 < x0.snap.index))) (some false)) (some (decide (x0.snap.index = 0) && (decide (x0.snap.term = 0) && (decide (x0.snap.sum = 0) && (decide (x0.snap.level = 0) && (decide (x0.snap.final = false))))))))))))))))))))))))))
def Zdl (x0 : Tu) (x1 : Tu) : Option (Bool) :=
  cond (decide (x0.snap.index = x1.snap.index) && (decide (x0.snap.term = x1.snap.term) && (decide (x0.snap.sum = x1.snap.sum) && (decide (x0.snap.level = x1.snap.level) && (decide (x0.snap.final = x1.snap.final)))))) (cond (decide (x0.term = x1.term)) (cond (decide (x0.vote = x1.vote)) ((Zdj x0.log x1.log).bind fun r7 =>
  some r7) (some false)) (some false)) (some false)
def J7 (x0 : List Int) (x1 : List Int) : Nat → Bool → Int → Option (Bool)
 | 0, _, _ => none
 | n + 1, v7, v8 =>
  cond (decide (v8 < (x0.length : Int))) ((idx x0 v8).bind fun e13 =>
  (idx x1 v8).bind fun e16 =>
  cond (decide (e13 ≠ e16)) (some false) (J7 x0 x1 n v7 (IntKind.wrap .i64 (v8 + 1)))) (some true)
def Zbm (x0 : List Int) (x1 : List Int) : Option (Bool) :=
  cond (decide ((x0.length : Int) ≠ (x1.length : Int))) (some false) (J7 x0 x1 Xn false 0)
def J5 (x0 : Co) (x1 : Co) : Nat → Bool → Int → Option (Bool)
 | 0, _, _ => none
 | n + 1, v20, v21 =>
  cond (decide (v21 < (x0.votes.length : Int))) ((idx x0.votes v21).bind fun e26 =>
  (idx x1.votes v21).bind fun e29 =>
  cond (decide (e26 ≠ e29)) (some false) (J5 x0 x1 n v20 (IntKind.wrap .i64 (v21 + 1)))) ((Zbm x0.next x1.next).bind fun r34 =>
  cond r34 ((Zbm x0.mtch x1.mtch).bind fun r36 =>
  cond r36 ((Zbm x0.caps x1.caps).bind fun r38 =>
  some r38) (some false)) (some false))
def Zbn (x0 : Co) (x1 : Co) : Option (Bool) :=
  cond (decide (x0.id ≠ x1.id)) (some false) (cond (decide (x0.n ≠ x1.n)) (some false) (cond (decide (x0.role ≠ x1.role)) (some false) (cond (decide (x0.binary ≠ x1.binary)) (some false) ((Zdl x0.tuple x1.tuple).bind fun r12 =>
  cond (!r12) (some false) (cond (decide (x0.commit ≠ x1.commit)) (some false) (cond (!(decide (x0.applied.index = x1.applied.index) && (decide (x0.applied.term = x1.applied.term) && (decide (x0.applied.sum = x1.applied.sum) && (decide (x0.applied.level = x1.applied.level) && (decide (x0.applied.final = x1.applied.final))))))) (some false) (cond (decide ((x0.votes.length : Int) ≠ (x1.votes.length : Int))) (some false) (J5 x0 x1 Xn false 0))))))))
def Zb9 (x0 : Tu) (x1 : Int) : Option (En × Bool) :=
  cond (decide (x1 ≤ x0.snap.index)) (some ((⟨0, 0, 0⟩ : En), false)) ((Vw x0).bind fun r9 =>
  cond (decide (r9 < x1)) (some ((⟨0, 0, 0⟩ : En), false)) ((idx x0.log (IntKind.wrap .i64 ((IntKind.wrap .i64 (x1 - x0.snap.index)) - 1))).bind fun e13 =>
  some (e13, true)))
def V4 (x0 : Co) (x1 : Int) (e20 : Int) (r25 : Int × Bool) : List (En) → List En → Option (Ms × Bool)
 | [], v38 =>
  some ((⟨3, x0.id, x1, x0.tuple.term, x0.binary, (IntKind.wrap .i64 (e20 - 1)), r25.1, x0.commit, false, v38, (⟨0, 0, 0, 0, false⟩ : St)⟩ : Ms), true)
 | e37 :: l0, v38 =>
  (Zfm (v38 ++ ([e37] : List En))).bind fun l49 =>
  V4 x0 x1 e20 r25 l0 l49
def X6 (x0 : Co) (x1 : Int) : Option (Ms × Bool) := (Zbi x0).bind fun r8 =>
  cond (!r8) (some ((⟨0, 0, 0, 0, 0, 0, 0, 0, false, [], (⟨0, 0, 0, 0, false⟩ : St)⟩ : Ms), false)) (cond (decide (x0.role ≠ 2)) (some ((⟨0, 0, 0, 0, 0, 0, 0, 0, false, [], (⟨0, 0, 0, 0, false⟩ : St)⟩ : Ms), false)) (cond (decide (x1 < 1)) (some ((⟨0, 0, 0, 0, 0, 0, 0, 0, false, [], (⟨0, 0, 0, 0, false⟩ : St)⟩ : Ms), false)) (cond (decide (x0.n < x1)) (some ((⟨0, 0, 0, 0, 0, 0, 0, 0, false, [], (⟨0, 0, 0, 0, false⟩ : St)⟩ : Ms), false)) (cond (decide (x1 = x0.id)) (some ((⟨0, 0, 0, 0, 0, 0, 0, 0, false, [], (⟨0, 0, 0, 0, false⟩ : St)⟩ : Ms), false)) ((idx x0.next (IntKind.wrap .i64 (x1 - 1))).bind fun e15 =>
  cond (decide (e15 ≤ x0.tuple.snap.index)) (some ((⟨0, 0, 0, 0, 0, 0, 0, 0, false, [], (⟨0, 0, 0, 0, false⟩ : St)⟩ : Ms), false)) ((idx x0.next (IntKind.wrap .i64 (x1 - 1))).bind fun e20 =>
  (Zar x0.tuple (IntKind.wrap .i64 (e20 - 1))).bind fun r25 =>
  (Zgw x0.tuple e20 4).bind fun xs43 =>
  V4 x0 x1 e20 r25 xs43 []))))))
def Jd (x0 : Co) (x1 : Ms) (xs11 : List Int) : Nat → Int → Int → Option (Int)
 | 0, _, _ => none
 | n + 1, v22, v23 =>
  cond (decide (v23 < (xs11.length : Int))) ((idx xs11 v23).bind fun e29 =>
  (Zar x0.tuple e29).bind fun r34 =>
  cond (decide (x0.tuple.snap.index < e29)) (cond (!r34.2) (cond (decide (v23 < 0)) (some (x1.entries.length : Int)) (some v23)) ((idx x1.entries (IntKind.wrap .i64 ((IntKind.wrap .i64 (e29 - x1.last)) - 1))).bind fun e42 =>
  cond (decide (r34.1 ≠ e42.term)) (cond (decide (v23 < 0)) (some (x1.entries.length : Int)) (some v23)) (Jd x0 x1 xs11 n v22 (IntKind.wrap .i64 (v23 + 1))))) (Jd x0 x1 xs11 n v22 (IntKind.wrap .i64 (v23 + 1)))) (some (x1.entries.length : Int))
def Zbp (x0 : Co) (x1 : Ms) : Option (Int) := (Ze2 x1).bind fun xs11 =>
  (Zfm xs11).bind fun l13 =>
  Jd x0 x1 xs11 Xn 0 0
def Za7 (r7 : Co) (r30 : Int) (v36 : List Int) : Nat → Int → List Int → Option (Co)
 | 0, _, _ => none
 | n + 1, v52, v53 =>
  cond (decide (v52 < (r7.mtch.length : Int))) ((idx v53 v52).bind fun e60 =>
  (idx v53 v52).bind fun e63 =>
  Za7 r7 r30 v36 n (IntKind.wrap .i64 (v52 + 1)) (Zen v53 v52 (min e60 r30))) (some (⟨r7.id, r7.n, r7.role, r7.binary, r7.tuple, r7.commit, r7.applied, r7.votes, v36, v53, r7.caps⟩ : Co))
def Za4 (r7 : Co) (r30 : Int) : Nat → Int → List Int → Option (Co)
 | 0, _, _ => none
 | n + 1, v35, v36 =>
  cond (decide (v35 < (r7.next.length : Int))) ((idx v36 v35).bind fun e43 =>
  (idx v36 v35).bind fun e46 =>
  Za4 r7 r30 n (IntKind.wrap .i64 (v35 + 1)) (Zen v36 v35 (min e43 (IntKind.wrap .i64 (r30 + 1))))) (Za7 r7 r30 v36 Xn 0 r7.mtch)
def Vv (x0 : Co) : Option (Co) := (Zbb x0).bind fun r7 =>
  (Zae r7.tuple).bind fun r30 =>
  Za4 r7 r30 Xn 0 r7.next
def Jt (x0 : Co) (x1 : Ms) : Option (Co × List Ms) := (Zca x0 x1).bind fun r15 =>
  cond (!r15) ((Zbb x0).bind fun r18 =>
  some (r18, [])) (cond (decide (x1.kind ≠ 3)) ((Zbb x0).bind fun r41 =>
  some (r41, [])) ((Zcn x0 x1).bind fun r64 =>
  (Zae r64.tuple).bind fun r87 =>
  (Zar r64.tuple x1.last).bind fun r91 =>
  cond (decide (x1.term < r64.tuple.term)) ((X8 r64 x1 4 false r87).bind fun r97 =>
  some (r64, ([r97] : List Ms))) (cond (decide (r64.role = 2)) (some (r64, [])) (cond (decide (r87 < x1.last)) ((X8 (⟨r64.id, r64.n, 0, r64.binary, r64.tuple, r64.commit, r64.applied, r64.votes, r64.next, r64.mtch, r64.caps⟩ : Co) x1 4 false r87).bind fun r112 =>
  some ((⟨r64.id, r64.n, 0, r64.binary, r64.tuple, r64.commit, r64.applied, r64.votes, r64.next, r64.mtch, r64.caps⟩ : Co), ([r112] : List Ms))) (cond r91.2 (cond (decide (r91.1 ≠ x1.lastTerm)) ((X8 (⟨r64.id, r64.n, 0, r64.binary, r64.tuple, r64.commit, r64.applied, r64.votes, r64.next, r64.mtch, r64.caps⟩ : Co) x1 4 false (max (IntKind.wrap .i64 (x1.last - 1)) 0)).bind fun r125 =>
  some ((⟨r64.id, r64.n, 0, r64.binary, r64.tuple, r64.commit, r64.applied, r64.votes, r64.next, r64.mtch, r64.caps⟩ : Co), ([r125] : List Ms))) ((Zbp (⟨r64.id, r64.n, 0, r64.binary, r64.tuple, r64.commit, r64.applied, r64.votes, r64.next, r64.mtch, r64.caps⟩ : Co) x1).bind fun r134 =>
  cond (decide (r134 < (x1.entries.length : Int))) (cond (decide ((IntKind.wrap .i64 ((IntKind.wrap .i64 (x1.last + 1)) + r134)) ≤ r64.commit)) (some ((⟨r64.id, r64.n, 0, r64.binary, r64.tuple, r64.commit, r64.applied, r64.votes, r64.next, r64.mtch, r64.caps⟩ : Co), [])) (cond (decide ((IntKind.wrap .i64 ((IntKind.wrap .i64 (x1.last + 1)) + r134)) ≤ r87)) ((Zcd r64.tuple (IntKind.wrap .i64 ((IntKind.wrap .i64 (x1.last + 1)) + r134))).bind fun r144 =>
  (dropI x1.entries r134).bind fun l151 =>
  (V8 r144.1 l151).bind fun r153 =>
  cond (decide (r153.2 ≠ 0)) ((X8 (⟨r64.id, r64.n, 0, r64.binary, r64.tuple, r64.commit, r64.applied, r64.votes, r64.next, r64.mtch, r64.caps⟩ : Co) x1 4 false r87).bind fun r162 =>
  some ((⟨r64.id, r64.n, 0, r64.binary, r64.tuple, r64.commit, r64.applied, r64.votes, r64.next, r64.mtch, r64.caps⟩ : Co), ([r162] : List Ms))) ((Vv (⟨r64.id, r64.n, 0, r64.binary, r153.1, r64.commit, r64.applied, r64.votes, r64.next, r64.mtch, r64.caps⟩ : Co)).bind fun r172 =>
  (Xk r172.tuple (max r172.commit (min x1.commit (IntKind.wrap .i64 (x1.last + (x1.entries.length : Int)))))).bind fun r197 =>
  (X8 (⟨r172.id, r172.n, r172.role, r172.binary, r172.tuple, (max r172.commit (min x1.commit (IntKind.wrap .i64 (x1.last + (x1.entries.length : Int))))), r197.1, r172.votes, r172.next, r172.mtch, r172.caps⟩ : Co) x1 4 true (IntKind.wrap .i64 (x1.last + (x1.entries.length : Int)))).bind fun r201 =>
  some ((⟨r172.id, r172.n, r172.role, r172.binary, r172.tuple, (max r172.commit (min x1.commit (IntKind.wrap .i64 (x1.last + (x1.entries.length : Int))))), r197.1, r172.votes, r172.next, r172.mtch, r172.caps⟩ : Co), ([r201] : List Ms)))) ((dropI x1.entries r134).bind fun l210 =>
  (V8 r64.tuple l210).bind fun r212 =>
  cond (decide (r212.2 ≠ 0)) ((X8 (⟨r64.id, r64.n, 0, r64.binary, r64.tuple, r64.commit, r64.applied, r64.votes, r64.next, r64.mtch, r64.caps⟩ : Co) x1 4 false r87).bind fun r221 =>
  some ((⟨r64.id, r64.n, 0, r64.binary, r64.tuple, r64.commit, r64.applied, r64.votes, r64.next, r64.mtch, r64.caps⟩ : Co), ([r221] : List Ms))) ((Vv (⟨r64.id, r64.n, 0, r64.binary, r212.1, r64.commit, r64.applied, r64.votes, r64.next, r64.mtch, r64.caps⟩ : Co)).bind fun r231 =>
  (Xk r231.tuple (max r231.commit (min x1.commit (IntKind.wrap .i64 (x1.last + (x1.entries.length : Int)))))).bind fun r256 =>
  (X8 (⟨r231.id, r231.n, r231.role, r231.binary, r231.tuple, (max r231.commit (min x1.commit (IntKind.wrap .i64 (x1.last + (x1.entries.length : Int))))), r256.1, r231.votes, r231.next, r231.mtch, r231.caps⟩ : Co) x1 4 true (IntKind.wrap .i64 (x1.last + (x1.entries.length : Int)))).bind fun r260 =>
  some ((⟨r231.id, r231.n, r231.role, r231.binary, r231.tuple, (max r231.commit (min x1.commit (IntKind.wrap .i64 (x1.last + (x1.entries.length : Int))))), r256.1, r231.votes, r231.next, r231.mtch, r231.caps⟩ : Co), ([r260] : List Ms)))))) ((Vv (⟨r64.id, r64.n, 0, r64.binary, r64.tuple, r64.commit, r64.applied, r64.votes, r64.next, r64.mtch, r64.caps⟩ : Co)).bind fun r270 =>
  (Xk r270.tuple (max r270.commit (min x1.commit (IntKind.wrap .i64 (x1.last + (x1.entries.length : Int)))))).bind fun r295 =>
  (X8 (⟨r270.id, r270.n, r270.role, r270.binary, r270.tuple, (max r270.commit (min x1.commit (IntKind.wrap .i64 (x1.last + (x1.entries.length : Int))))), r295.1, r270.votes, r270.next, r270.mtch, r270.caps⟩ : Co) x1 4 true (IntKind.wrap .i64 (x1.last + (x1.entries.length : Int)))).bind fun r299 =>
  some ((⟨r270.id, r270.n, r270.role, r270.binary, r270.tuple, (max r270.commit (min x1.commit (IntKind.wrap .i64 (x1.last + (x1.entries.length : Int))))), r295.1, r270.votes, r270.next, r270.mtch, r270.caps⟩ : Co), ([r299] : List Ms))))) ((Zbp (⟨r64.id, r64.n, 0, r64.binary, r64.tuple, r64.commit, r64.applied, r64.votes, r64.next, r64.mtch, r64.caps⟩ : Co) x1).bind fun r308 =>
  cond (decide (r308 < (x1.entries.length : Int))) (cond (decide ((IntKind.wrap .i64 ((IntKind.wrap .i64 (x1.last + 1)) + r308)) ≤ r64.commit)) (some ((⟨r64.id, r64.n, 0, r64.binary, r64.tuple, r64.commit, r64.applied, r64.votes, r64.next, r64.mtch, r64.caps⟩ : Co), [])) (cond (decide ((IntKind.wrap .i64 ((IntKind.wrap .i64 (x1.last + 1)) + r308)) ≤ r87)) ((Zcd r64.tuple (IntKind.wrap .i64 ((IntKind.wrap .i64 (x1.last + 1)) + r308))).bind fun r318 =>
  (dropI x1.entries r308).bind fun l325 =>
  (V8 r318.1 l325).bind fun r327 =>
  cond (decide (r327.2 ≠ 0)) ((X8 (⟨r64.id, r64.n, 0, r64.binary, r64.tuple, r64.commit, r64.applied, r64.votes, r64.next, r64.mtch, r64.caps⟩ : Co) x1 4 false r87).bind fun r336 =>
  some ((⟨r64.id, r64.n, 0, r64.binary, r64.tuple, r64.commit, r64.applied, r64.votes, r64.next, r64.mtch, r64.caps⟩ : Co), ([r336] : List Ms))) ((Vv (⟨r64.id, r64.n, 0, r64.binary, r327.1, r64.commit, r64.applied, r64.votes, r64.next, r64.mtch, r64.caps⟩ : Co)).bind fun r346 =>
  (Xk r346.tuple (max r346.commit (min x1.commit (IntKind.wrap .i64 (x1.last + (x1.entries.length : Int)))))).bind fun r371 =>
  (X8 (⟨r346.id, r346.n, r346.role, r346.binary, r346.tuple, (max r346.commit (min x1.commit (IntKind.wrap .i64 (x1.last + (x1.entries.length : Int))))), r371.1, r346.votes, r346.next, r346.mtch, r346.caps⟩ : Co) x1 4 true (IntKind.wrap .i64 (x1.last + (x1.entries.length : Int)))).bind fun r375 =>
  some ((⟨r346.id, r346.n, r346.role, r346.binary, r346.tuple, (max r346.commit (min x1.commit (IntKind.wrap .i64 (x1.last + (x1.entries.length : Int))))), r371.1, r346.votes, r346.next, r346.mtch, r346.caps⟩ : Co), ([r375] : List Ms)))) ((dropI x1.entries r308).bind fun l384 =>
  (V8 r64.tuple l384).bind fun r386 =>
  cond (decide (r386.2 ≠ 0)) ((X8 (⟨r64.id, r64.n, 0, r64.binary, r64.tuple, r64.commit, r64.applied, r64.votes, r64.next, r64.mtch, r64.caps⟩ : Co) x1 4 false r87).bind fun r395 =>
  some ((⟨r64.id, r64.n, 0, r64.binary, r64.tuple, r64.commit, r64.applied, r64.votes, r64.next, r64.mtch, r64.caps⟩ : Co), ([r395] : List Ms))) ((Vv (⟨r64.id, r64.n, 0, r64.binary, r386.1, r64.commit, r64.applied, r64.votes, r64.next, r64.mtch, r64.caps⟩ : Co)).bind fun r405 =>
  (Xk r405.tuple (max r405.commit (min x1.commit (IntKind.wrap .i64 (x1.last + (x1.entries.length : Int)))))).bind fun r430 =>
  (X8 (⟨r405.id, r405.n, r405.role, r405.binary, r405.tuple, (max r405.commit (min x1.commit (IntKind.wrap .i64 (x1.last + (x1.entries.length : Int))))), r430.1, r405.votes, r405.next, r405.mtch, r405.caps⟩ : Co) x1 4 true (IntKind.wrap .i64 (x1.last + (x1.entries.length : Int)))).bind fun r434 =>
  some ((⟨r405.id, r405.n, r405.role, r405.binary, r405.tuple, (max r405.commit (min x1.commit (IntKind.wrap .i64 (x1.last + (x1.entries.length : Int))))), r430.1, r405.votes, r405.next, r405.mtch, r405.caps⟩ : Co), ([r434] : List Ms)))))) ((Vv (⟨r64.id, r64.n, 0, r64.binary, r64.tuple, r64.commit, r64.applied, r64.votes, r64.next, r64.mtch, r64.caps⟩ : Co)).bind fun r444 =>
  (Xk r444.tuple (max r444.commit (min x1.commit (IntKind.wrap .i64 (x1.last + (x1.entries.length : Int)))))).bind fun r469 =>
  (X8 (⟨r444.id, r444.n, r444.role, r444.binary, r444.tuple, (max r444.commit (min x1.commit (IntKind.wrap .i64 (x1.last + (x1.entries.length : Int))))), r469.1, r444.votes, r444.next, r444.mtch, r444.caps⟩ : Co) x1 4 true (IntKind.wrap .i64 (x1.last + (x1.entries.length : Int)))).bind fun r473 =>
  some ((⟨r444.id, r444.n, r444.role, r444.binary, r444.tuple, (max r444.commit (min x1.commit (IntKind.wrap .i64 (x1.last + (x1.entries.length : Int))))), r469.1, r444.votes, r444.next, r444.mtch, r444.caps⟩ : Co), ([r473] : List Ms)))))))))
def m_repl_Told (x0 : Co) (x1 : Ms) : Option (Co) := (Zca x0 x1).bind fun r10 =>
  cond (!r10) ((Zbb x0).bind fun r13 =>
  some r13) (cond (decide (x1.kind ≠ 4)) ((Zbb x0).bind fun r36 =>
  some r36) ((Zcn x0 x1).bind fun r59 =>
  cond (decide (r59.role ≠ 2)) (some r59) (cond (decide (x1.term ≠ r59.tuple.term)) (some r59) ((idx r59.next (IntKind.wrap .i64 (x1.frm - 1))).bind fun e86 =>
  (idx r59.mtch (IntKind.wrap .i64 (x1.frm - 1))).bind fun e89 =>
  cond x1.okk ((Zae r59.tuple).bind fun r103 =>
  some (⟨r59.id, r59.n, r59.role, r59.binary, r59.tuple, r59.commit, r59.applied, r59.votes, (Zen r59.next (IntKind.wrap .i64 (x1.frm - 1)) (max e86 (IntKind.wrap .i64 ((max e89 (min x1.last r103)) + 1)))), (Zen r59.mtch (IntKind.wrap .i64 (x1.frm - 1)) (max e89 (min x1.last r103))), r59.caps⟩ : Co)) (some (⟨r59.id, r59.n, r59.role, r59.binary, r59.tuple, r59.commit, r59.applied, r59.votes, (Zen r59.next (IntKind.wrap .i64 (x1.frm - 1)) (max (IntKind.wrap .i64 (e89 + 1)) (min (IntKind.wrap .i64 (e86 - 1)) (IntKind.wrap .i64 (x1.last + 1))))), r59.mtch, r59.caps⟩ : Co))))))
def Zce (x0 : Co) : Nat → List Ms → Int → Option (List Ms)
 | 0, _, _ => none
 | n + 1, v6, v15 =>
  cond (decide (v15 < (min (max x0.n 0) 5))) ((X6 x0 (IntKind.wrap .i64 (v15 + 1))).bind fun r21 =>
  cond r21.2 ((Zfm (v6 ++ [r21.1])).bind fun l32 =>
  Zce x0 n l32 (IntKind.wrap .i64 (v15 + 1))) (Zce x0 n v6 (IntKind.wrap .i64 (v15 + 1)))) (some v6)
def m_repl_Beat (x0 : Co) : Option (List Ms) :=
  Zce x0 Xn [] 0
def Xu : Option (Bool) := (Zbl 1 3 2 (⟨(⟨0, 0, 0, 1, false⟩ : St), ([(⟨1, 0, 0⟩ : En)] : List En), 1, 1⟩ : Tu)).bind fun r8 =>
  (X6 r8 2).bind fun r33 =>
  (X6 (⟨r8.id, r8.n, 2, r8.binary, r8.tuple, r8.commit, r8.applied, r8.votes, ([1, 1, 1] : List Int), r8.mtch, r8.caps⟩ : Co) 2).bind fun r46 =>
  (Zgg).bind fun r55 =>
  (Zbl 2 3 1 r55).bind fun r61 =>
  (Jt r61 r46.1).bind fun r83 =>
  cond (decide ((r83.2.length : Int) ≠ 1)) (some false) ((idx r83.2 0).bind fun e120 =>
  (m_repl_Told (⟨r8.id, r8.n, 2, r8.binary, r8.tuple, r8.commit, r8.applied, r8.votes, ([1, 1, 1] : List Int), r8.mtch, r8.caps⟩ : Co) e120).bind fun r125 =>
  cond (decide ((r125.mtch.length : Int) ≠ 3)) (some false) (cond (decide ((r125.next.length : Int) ≠ 3)) (some false) (cond (!r33.2) (cond r46.2 (cond (decide ((r46.1.entries.length : Int) = 1)) (cond (decide (r46.1.last = 0)) (cond (decide ((r83.1.tuple.log.length : Int) = 1)) (cond (decide (r83.1.tuple.term = 1)) ((idx r83.2 0).bind fun e155 =>
  cond e155.okk ((idx r83.2 0).bind fun e160 =>
  cond (decide (e160.last = 1)) ((idx r125.mtch 1).bind fun e165 =>
  cond (decide (e165 = 1)) ((idx r125.next 1).bind fun e168 =>
  cond (decide (e168 = 2)) ((m_repl_Beat (⟨r8.id, r8.n, 2, r8.binary, r8.tuple, r8.commit, r8.applied, r8.votes, ([1, 1, 1] : List Int), r8.mtch, r8.caps⟩ : Co)).bind fun r171 =>
  some (decide ((r171.length : Int) = 2))) (some false)) (some false)) (some false)) (some false)) (some false)) (some false)) (some false)) (some false)) (some false)) (some false))))
def Zel (x0 : Tu) (x1 : Int) : Option (Tu × Int) :=
  cond (decide (x1 ≤ x0.snap.index)) ((Zaj x0).bind fun r19 =>
  some (r19, 2)) ((Vw x0).bind fun r25 =>
  cond (decide ((IntKind.wrap .i64 (r25 + 1)) < x1)) ((Zaj x0).bind fun r38 =>
  some (r38, 2)) ((Zaj x0).bind fun r45 =>
  (takeI r45.log (IntKind.wrap .i64 ((IntKind.wrap .i64 (x1 - x0.snap.index)) - 1))).bind fun l54 =>
  (Za3 x0).bind fun r66 =>
  cond (!r66) ((Zaj x0).bind fun r69 =>
  some (r69, 2)) ((Za3 (⟨r45.snap, l54, r45.term, r45.vote⟩ : Tu)).bind fun r75 =>
  cond (!r75) ((Zaj x0).bind fun r78 =>
  some (r78, 2)) (some ((⟨r45.snap, l54, r45.term, r45.vote⟩ : Tu), 0)))))
def J8 (x0 : Tu) (x1 : Int) : Option (En × Bool) :=
  cond (decide ((x0.log.length : Int) = 0)) (some ((⟨0, 0, 0⟩ : En), false)) ((Zb9 x0 x1).bind fun r10 =>
  some (r10.1, r10.2))
def Vs (x0 : Co) (r97 : Co × List Ms) : Nat → Bool → Int → Option (Bool)
 | 0, _, _ => none
 | n + 1, v155, v156 =>
  (idx r97.2 0).bind fun e159 =>
  cond (decide (v156 ≤ e159.last)) ((Zb9 x0.tuple v156).bind fun r166 =>
  (J8 r97.1.tuple v156).bind fun r171 =>
  cond (!(decide (r166.1.term = r171.1.term) && (decide (r166.1.kind = r171.1.kind) && (decide (r166.1.value = r171.1.value))))) (some false) (Vs x0 r97 n v155 (IntKind.wrap .i64 (v156 + 1)))) ((Xu).bind fun r178 =>
  some r178)
def Vr (x0 : Co) (r204 : Co × List Ms) : Nat → Bool → Int → Option (Bool)
 | 0, _, _ => none
 | n + 1, v262, v263 =>
  (idx r204.2 0).bind fun e266 =>
  cond (decide (v263 ≤ e266.last)) ((Zb9 x0.tuple v263).bind fun r273 =>
  (J8 r204.1.tuple v263).bind fun r278 =>
  cond (!(decide (r273.1.term = r278.1.term) && (decide (r273.1.kind = r278.1.kind) && (decide (r273.1.value = r278.1.value))))) (some false) (Vr x0 r204 n v262 (IntKind.wrap .i64 (v263 + 1)))) ((Xu).bind fun r285 =>
  some r285)
def Zb1 (x0 : Co) (x1 : Int) (x2 : Int) : Option (Bool) := (Zal x0).bind fun r6 =>
  cond r6 ((Xu).bind fun r9 =>
  some r9) ((Zbw x0).bind fun r11 =>
  cond (!r11) ((Xu).bind fun r14 =>
  some r14) ((X6 x0 x1).bind fun r17 =>
  cond (decide (x0.role = 2)) (cond (decide (1 ≤ x1)) (cond (decide (x1 ≤ x0.n)) (cond (!(decide (x1 ≠ x0.id))) (cond (!r17.2) ((Xu).bind fun r29 =>
  some r29) (some false)) ((idx x0.next (IntKind.wrap .i64 (x1 - 1))).bind fun e32 =>
  cond (decide (r17.2 ≠ (decide (x0.tuple.snap.index < e32)))) (some false) (cond (!r17.2) ((Xu).bind fun r41 =>
  some r41) ((Zdk r17.1 x0.n).bind fun r45 =>
  cond (!r45) (some false) (cond (decide (r17.1.dst ≠ x1)) (some false) (cond (decide (r17.1.frm ≠ x0.id)) (some false) (cond (decide (r17.1.kind ≠ 3)) (some false) (cond (decide (r17.1.last ≠ (IntKind.wrap .i64 (e32 - 1)))) (some false) (cond (decide (r17.1.commit ≠ x0.commit)) (some false) ((Vw x0.tuple).bind fun r53 =>
  cond (decide ((r17.1.entries.length : Int) ≠ (min 4 (IntKind.wrap .i64 ((IntKind.wrap .i64 (r53 - e32)) + 1))))) (some false) ((Zel x0.tuple e32).bind fun r57 =>
  cond (decide (r57.2 ≠ 0)) ((Xu).bind fun r68 =>
  some r68) (cond (decide (x2 ≠ 1)) (cond (decide (x2 ≠ 2)) ((Xu).bind fun r71 =>
  some r71) ((Zbl x1 x0.n x2 (⟨r57.1.snap, r57.1.log, r57.1.term, 0⟩ : Tu)).bind fun r75 =>
  (Jt r75 r17.1).bind fun r97 =>
  cond (decide ((r97.2.length : Int) ≠ 1)) (some false) ((idx r97.2 0).bind fun e133 =>
  cond (!e133.okk) (some false) ((idx r97.2 0).bind fun e139 =>
  cond (decide (e139.last ≠ (IntKind.wrap .i64 ((IntKind.wrap .i64 (e32 - 1)) + (r17.1.entries.length : Int))))) (some false) ((idx r97.2 0).bind fun e145 =>
  (Vw r97.1.tuple).bind fun r150 =>
  cond (decide (r150 ≠ e145.last)) (some false) (Vs x0 r97 Xn false (IntKind.wrap .i64 (x0.tuple.snap.index + 1)))))))) ((Zbl x1 x0.n x2 (⟨r57.1.snap, r57.1.log, r57.1.term, 0⟩ : Tu)).bind fun r182 =>
  (Jt r182 r17.1).bind fun r204 =>
  cond (decide ((r204.2.length : Int) ≠ 1)) (some false) ((idx r204.2 0).bind fun e240 =>
  cond (!e240.okk) (some false) ((idx r204.2 0).bind fun e246 =>
  cond (decide (e246.last ≠ (IntKind.wrap .i64 ((IntKind.wrap .i64 (e32 - 1)) + (r17.1.entries.length : Int))))) (some false) ((idx r204.2 0).bind fun e252 =>
  (Vw r204.1.tuple).bind fun r257 =>
  cond (decide (r257 ≠ e252.last)) (some false) (Vr x0 r204 Xn false (IntKind.wrap .i64 (x0.tuple.snap.index + 1))))))))))))))))))) (cond (!r17.2) ((Xu).bind fun r290 =>
  some r290) (some false))) (cond (!r17.2) ((Xu).bind fun r295 =>
  some r295) (some false))) (cond (!r17.2) ((Xu).bind fun r300 =>
  some r300) (some false))))
def Vt (x0 : Co) (r12 : Co) (r37 : Int) : Nat → Bool → Int → Option (Bool)
 | 0, _, _ => none
 | n + 1, v99, v100 =>
  cond (decide (v100 < (x0.mtch.length : Int))) ((idx r12.mtch v100).bind fun e105 =>
  cond (decide (r37 < e105)) (some false) ((idx r12.mtch v100).bind fun e109 =>
  (idx x0.mtch v100).bind fun e112 =>
  cond (decide (e112 < e109)) (some false) ((idx x0.mtch v100).bind fun e116 =>
  cond (decide (e116 ≤ r37)) ((idx r12.mtch v100).bind fun e119 =>
  (idx x0.mtch v100).bind fun e122 =>
  cond (decide (e119 ≠ e122)) (some false) (Vt x0 r12 r37 n v99 (IntKind.wrap .i64 (v100 + 1)))) (Vt x0 r12 r37 n v99 (IntKind.wrap .i64 (v100 + 1)))))) ((Zbn (⟨r12.id, r12.n, r12.role, r12.binary, r12.tuple, r12.commit, r12.applied, r12.votes, x0.next, x0.mtch, r12.caps⟩ : Co) x0).bind fun r128 =>
  cond r128 ((Zbw x0).bind fun r130 =>
  cond (!r130) ((Xu).bind fun r132 =>
  some r132) ((Vv x0).bind fun r134 =>
  (Zbn r134 x0).bind fun r156 =>
  cond r156 ((Xu).bind fun r158 =>
  some r158) (some false))) (some false))
def Vu (x0 : Co) (r12 : Co) (r37 : Int) : Nat → Bool → Int → Option (Bool)
 | 0, _, _ => none
 | n + 1, v70, v71 =>
  cond (decide (v71 < (x0.next.length : Int))) ((idx r12.next v71).bind fun e76 =>
  cond (decide ((IntKind.wrap .i64 (r37 + 1)) < e76)) (some false) ((idx r12.next v71).bind fun e80 =>
  (idx x0.next v71).bind fun e83 =>
  cond (decide (e83 < e80)) (some false) ((idx x0.next v71).bind fun e87 =>
  cond (decide (e87 ≤ (IntKind.wrap .i64 (r37 + 1)))) ((idx r12.next v71).bind fun e90 =>
  (idx x0.next v71).bind fun e93 =>
  cond (decide (e90 ≠ e93)) (some false) (Vu x0 r12 r37 n v70 (IntKind.wrap .i64 (v71 + 1)))) (Vu x0 r12 r37 n v70 (IntKind.wrap .i64 (v71 + 1)))))) (Vt x0 r12 r37 Xn v70 0)
def Zc2 (x0 : Co) : Option (Bool) := (Zal x0).bind fun r6 =>
  cond r6 ((Xu).bind fun r9 =>
  some r9) ((Vv x0).bind fun r12 =>
  (Vw x0.tuple).bind fun r37 =>
  cond (decide ((r12.next.length : Int) ≠ (x0.next.length : Int))) (some false) (cond (decide ((r12.mtch.length : Int) ≠ (x0.mtch.length : Int))) (some false) ((Vv r12).bind fun r43 =>
  (Zbn r43 r12).bind fun r65 =>
  cond (!r65) (some false) (Vu x0 r12 r37 Xn false 0))))
end

end Go.Proofs.Ytamjlcaoieliaaa
