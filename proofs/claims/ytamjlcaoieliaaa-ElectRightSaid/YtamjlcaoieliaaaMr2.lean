/- Texts of one claim put together. -/
import Derived.Test.YtamjlcaoieliaaaMr1
import Derived.Test.YtamjlcaoieliaaaMr0
import Derived.Deep.DeepCutAuto
namespace Go.Proofs.Ytamjlcaoieliaaa

section
open Go Go.RowKit
set_option maxRecDepth 100000
theorem Rd.blk {w : World} {A : OA} {xs : List Value} (h : Rd w A xs) (hne : xs ≠ []) : ∀ a, A = some a → a.block < w.heap.size := fun a ha => by
 cases xs with
 | nil => exact (hne rfl).elim
 | cons v xs =>
  obtain ⟨b, o, hA, hb, _⟩ := h 0 v rfl
  rw [ha] at hA
  injection hA with hA
  subst hA
  exact hb
theorem KeepB.rdN {S : Nat → Prop} {w w' : World} {A : OA} {xs : List Value} (hk : KeepB S w w') (h : Rd w A xs) (hs : ∀ a, A = some a → xs ≠ [] → S a.block) : Rd w' A xs := by
 cases xs with
 | nil => exact Rd.nil _ _
 | cons v xs => exact hk.rd h (fun a ha => hs a ha (by simp))
theorem append1_does (bl m d : Nat) (B : OA) (l : List En) (w0 : World) (hbl : w0.heap[bl]? = some (.cells #[.slice B m d] 24)) (hl : LI w0 B m d l) (x : Tu) (hm : m ≤ 300) (hx : Zas x = true) :
  Does 89 #[.pointer (some ⟨bl, 0, none⟩)] w0 x (some { x with log := x.log ++ l }) := by
 intro W bo A' c' hB hbo hT hLI hA'
 have hxb := tupB_bd x hx
 have hol : bo < W.heap.size := (Array.getElem?_eq_some_iff.1 hT).1
 have hbl' : bl < w0.heap.size := (Array.getElem?_eq_some_iff.1 hbl).1
 have hblW : W.heap[bl]? = some (.cells #[.slice B m d] 24) := (hB.block bl hbl').trans hbl
 have hne : bl ≠ bo := by omega
 have hlW := hl.below hB
 show Calls _ _ #[_, _] _ _
 refine Xw Try.func89 rfl Try.ntmps89 rfl ?_
 have hS := St0.old (w := W) (fun k => k ≠ bo) (e := .box bo [.int .i64 x.snap.index, .int .i64 x.snap.term, .int .i64 x.snap.sum, .int .i64 x.snap.level, .bool x.snap.final, .slice A' x.log.length c', .int .i64 x.term, .int .i64 x.vote] 26) hT (fun k hk => by subst hk; exact ⟨hol, by simp⟩)
 refine Yh 11 [10] (fun i b => (i = 10 → b ≠ bo)) ⟨by kernel_rfl, by kernel_rfl⟩ hS (fun w hS hB => Zo [Tt,Tt,Tt,Tt,Tt,Tt] (by decide +kernel) (by repeat (first | exact PF.body)) ?_)
 repeat (first | refine LtK.put rfl rfl rfl (by first | exact Zu rfl | exact Zc (by first | exact Ys | exact Yg) rfl | (apply Yi; first | exact Zi (by first | exact Zgb | exact Y6) rfl (Zgg _) hS (by repeat (first | exact Has.head | apply Has.tail)) (by first | trivial) (by repeat (first | exact Seg.here (Pre.succ Pre.zero) | apply Seg.succ)) | exact Vn (by first | exact Zgb | exact Y6) rfl (Zgg _) hS (by first | trivial) (by first | trivial) (by assumption) (by repeat (first | exact Seg.here (Pre.succ Pre.zero)))) | exact V5 rfl) ?_)
 refine LtK.nil (Yd [Ff,Ff,Ff,Ff,Ff,Ff,Tt] 6 ⟨by decide, by kernel_rfl, by kernel_rfl⟩ rfl rfl ?_)
 dsimp only [Z2]
 repeat (first | apply Zh | (apply Y7; refine Xi (ps := [(0, .tmp 7), (1, .tmp 8)]) [.slice A' x.log.length c', .slice B m d] (by first | exact el_122) (by first | exact zc_24) rfl rfl rfl rfl rfl (by kernel_rfl) hS ?_; rintro bq w hS hB))
 refine Ye (by first | assumption) ?_
 refine Yd [Ff,Ff,Ff,Ff,Ff,Ff,Ff,Tt] 7 ⟨by decide, by kernel_rfl, by kernel_rfl⟩ rfl rfl ?_
 dsimp only [Z2]
 repeat (first | apply Zh | (apply Vd; refine Zt rfl rfl rfl rfl (by kernel_rfl) rfl (concat_any bq 2 A' B x.log.length m c' d x.log l _ rfl hl.len (by omega) (hS.base.rd hLI.rd (fun a ha => (hA' a ha).1)) (hS.base.rdN hlW.rd (fun a ha hne => by have := hl.rd.blk hne a ha; omega)) (hS.box_cell (b := bq) (by repeat (first | exact Has.head)) (by repeat (first | exact Seg.here (Pre.succ Pre.zero)))) (hS.box_cell (b := bq) (by repeat (first | exact Has.head)) (by repeat (first | exact Seg.here (Pre.succ Pre.zero) | apply Seg.succ))) (by omega)) ?_; rintro e w1 ⟨A2, c2, ⟨rfl, hs⟩, hB⟩; refine ⟨_, rfl, ?_⟩; have hS := hS.slice hs hB))
 refine Ye (by first | assumption) ?_
 refine Zae [Ff,Ff,Ff,Ff,Ff,Ff,Ff,Ff,Tt] [10] (fun b => b ≠ bo) (by decide +kernel) (by intro j hj b hb; simp only [List.mem_cons, List.not_mem_nil, or_false] at hj; (try rcases hj with rfl | rfl) <;> simp_all) (by repeat (first | exact PF.body)) ?_
 repeat (first | refine LtK.put rfl rfl rfl (by first | exact V5 rfl) ?_)
 refine LtK.nil (Zo [Ff,Ff,Ff,Ff,Ff,Ff,Ff,Ff,Ff,Tt] (by decide +kernel) (by repeat (first | exact PF.body)) ?_)
 repeat (first | refine LtK.put rfl rfl rfl (by first | exact Zc (by first | exact Ys | exact Yg) rfl) ?_)
 refine LtK.nil (Xa [Ff,Ff,Ff,Ff,Ff,Ff,Ff,Ff,Ff,Ff,Tt] 10 ⟨by decide, by kernel_rfl, by kernel_rfl⟩ rfl rfl ?_)
 dsimp only [Z2]
 repeat (first | apply Zh | (apply Xl; refine Zr rfl rfl rfl (by first | exact CellsOf.slice) hS (by repeat (first | exact Pos.head | apply Pos.tail)) (by repeat (first | exact SetC.here (by repeat (first | exact Ovr.nil | apply Ovr.cons)) | apply SetC.succ)) (by kernel_rfl) rfl (fun w hS hB => ?_)))
 refine Yu (by first | exact hB.sub (fun _ _ h => by simpa using h)) ?_
 refine Z5 (by kernel_rfl) (Zel rfl (by first | exact RV.nil) rfl ?_)
 have hob := hS.ok (.box bo [.int .i64 x.snap.index, .int .i64 x.snap.term, .int .i64 x.snap.sum, .int .i64 x.snap.level, .bool x.snap.final, .slice A2 (x.log.length + m) c2, .int .i64 x.term, .int .i64 x.vote] 26) (Has.mem (by repeat (first | exact Has.head | apply Has.tail)))
 have hrd : LI w A2 (x.log ++ l).length c2 (x.log ++ l) := ⟨rfl, by rw [List.length_append, hl.len]; omega, by rw [List.length_append, hl.len]; exact hs.le, hs.cap, hS.rd (by repeat (first | exact Has.head))⟩
 have hln : (x.log ++ l).length = x.log.length + m := by rw [List.length_append, hl.len]
 refine ⟨hS.base, .inl ⟨_, A2, c2, rfl, rfl, ?_, hrd, fun a ha => ⟨(hS.rng (.rd A2 (ens (x.log ++ l))) (Has.mem (by repeat (first | exact Has.head))) a.block ⟨a, ha, rfl⟩).1, .inr ?_⟩⟩⟩
 ·unfold TB; rw [hln]; exact hob
 ·exact Nat.le_of_not_lt fun hlt => (hS.rng (.rd A2 (ens (x.log ++ l))) (Has.mem (by repeat (first | exact Has.head))) a.block ⟨a, ha, rfl⟩).2 hlt (hS.rd_ne 0 2 rfl rfl rfl a ha)
def Chg (w0 : World) (x : Tu) (res : Option Tu) (e : Ending) (w' : World) : Prop := ∃ A2 c2, (e = .returned (.tuple #[.agg #[.int .i64 (Zct x res).snap.index, .int .i64 (Zct x res).snap.term, .int .i64 (Zct x res).snap.sum, .int .i64 (Zct x res).snap.level, .bool (Zct x res).snap.final, .slice A2 (Zct x res).log.length c2, .int .i64 (Zct x res).term, .int .i64 (Zct x res).vote], .int .i64 (chgE x res)]) ∧ Sl w0 w' A2 (Zct x res).log.length c2 3 (ens (Zct x res).log)) ∧ Below w0.heap.size w0 w'
theorem append_any (x : Tu) (A B : OA) (c m d : Nat) (l : List En) (w0 : World) (hx : LI w0 A x.log.length c x.log) (hA : ∀ a, A = some a → a.block < w0.heap.size) (hl : LI w0 B m d l) (hm : m ≤ 300) :
  Calls Try.prog 53 #[.agg #[.int .i64 x.snap.index, .int .i64 x.snap.term, .int .i64 x.snap.sum, .int .i64 x.snap.level, .bool x.snap.final, .slice A x.log.length c, .int .i64 x.term, .int .i64 x.vote], .slice B m d] w0 (Chg w0 x (some { x with log := x.log ++ l })) := by
 refine Xw Try.func53 rfl Try.ntmps53 rfl ?_
 have hS := St0.start All w0
 repeat (first | (apply Zf; intro K hK) | apply Zg)
 first | (apply Vy; refine Yq rfl rfl rfl (by first | exact CellsOf.agg) hS (fun bt w hS hB => ?_))
 first | (apply Vy; refine Yq rfl rfl rfl (by first | exact CellsOf.slice) hS (fun bl w hS hB => ?_))
 repeat (first | apply Zh | (apply Zd; assumption) | (apply Zf; intro K hK) | apply Zg | (apply Za3; refine Yr rfl rfl (by first | exact zc_26) hS (fun b w hS hB => ?_)) | (apply Y7; refine Za rfl rfl rfl (by first | exact Z7 rfl | (apply Yi; first | exact Zk (by first | exact V2) rfl (Zgf _) hS (by repeat (first | exact Has.head | apply Has.tail)) (by first | trivial) (by repeat (first | exact Seg.here (by repeat (first | exact Pre.zero | apply Pre.succ))))) | exact V0 rfl rfl) ?_))
 have hbl := (hS.box_ge (b := bl) (by repeat (first | exact Has.head | apply Has.tail)))
 refine Zt rfl rfl rfl rfl (by kernel_rfl) rfl (changed_any x (some { x with log := x.log ++ l }) A c 89 #[.pointer (some ⟨bl, 0, none⟩)] _ (by kernel_rfl) (hx.below hS.pure) (fun a ha => Nat.lt_of_lt_of_le (hA a ha) hS.size)
  (fun hT => append1_does bl m d B l _ hbl.2.2 (hl.below hS.pure) x hm hT)) ?_
 rintro e w1 ⟨A2, c2, ⟨rfl, hs⟩, hB⟩
 refine ⟨_, rfl, ?_⟩
 replace hS := hS.slice hs hB
 repeat (first | apply Zh | (apply Zd; assumption) | (apply Xl; refine Zr rfl rfl rfl (by first | exact CellsOf.agg) hS (by repeat (first | exact Pos.head | apply Pos.tail)) (by repeat (first | exact SetC.here (by repeat (first | exact Ovr.nil | apply Ovr.cons)))) (by kernel_rfl) rfl (fun w hS hB => ?_)) | (apply Y7; refine Za rfl rfl rfl (by first | exact Z7 rfl | exact Yj rfl rfl) ?_) | apply Zl)
 refine Zm rfl (by first | exact RV.cell rfl (Z3 (by first | exact V2) hS (by repeat (first | exact Has.head | apply Has.tail)) (by repeat (first | exact Seg.here (by repeat (first | exact Pre.zero | apply Pre.succ))))) (RV.tmp rfl RV.nil)) rfl ?_
 exact ⟨A2, c2, ⟨rfl, hS.giveS (by repeat (first | exact Has.head)) hs.len hs.le hs.cap⟩, hS.pure⟩
end
section
open Go Go.RowKit
set_option maxRecDepth 100000
theorem Rd.cutE {w : World} {A : OA} {l : List En} (h : Rd w A (ens l)) {k c : Nat} (hc : l.length ≤ c) : Rd w (if c = k then A else A.map (·.add (k * 3))) (ens (l.drop k)) := by
 split
 ·rename_i hck
  have : l.drop k = [] := List.drop_eq_nil_of_le (by omega)
  rw [this]; exact Rd.nil w A
 ·rw [ens_drop, Nat.mul_comm]; exact h.drop (3 * k)
def termAt (x : Tu) (i : Int) : Option Int := if i = x.snap.index then some x.snap.term else if x.snap.index < i ∧ i ≤ x.last then (x.log[(i - x.snap.index - 1).toNat]?).map En.term else none
end
section
open Go Go.RowKit
set_option maxRecDepth 100000
set_option maxHeartbeats 1000000
def hardR (x : Tu) (t v : Int) : Option Tu := if x.term < t ∨ t = x.term ∧ (x.vote = 0 ∨ x.vote = v) then some { x with term := t, vote := v } else none
theorem hard1_does (bf bg : Nat) (t v : Int) (w0 : World) (hbf : w0.heap[bf]? = some (.cells #[.int .i64 t] 3)) (hbg : w0.heap[bg]? = some (.cells #[.int .i64 v] 3)) (x : Tu) (hx : Zas x = true) :
  Does 86 #[.pointer (some ⟨bf, 0, none⟩), .pointer (some ⟨bg, 0, none⟩)] w0 x (hardR x t v) := by
 intro W bo A' c' hB hbo hT hLI hA'
 have hxb := tupB_bd x hx
 have hol : bo < W.heap.size := (Array.getElem?_eq_some_iff.1 hT).1
 have hle := hLI.le
 have hcp := hLI.cap
 have hAn := fun a ha => (hA' a ha).1
 have hbfl : bf < w0.heap.size := (Array.getElem?_eq_some_iff.1 hbf).1
 have hbfW : W.heap[bf]? = some (.cells #[.int .i64 t] 3) := (hB.block bf hbfl).trans hbf
 have hbfn : bf ≠ bo := by omega
 have hbgl : bg < w0.heap.size := (Array.getElem?_eq_some_iff.1 hbg).1
 have hbgW : W.heap[bg]? = some (.cells #[.int .i64 v] 3) := (hB.block bg hbgl).trans hbg
 have hbgn : bg ≠ bo := by omega
 show Calls _ _ #[_, _, _] _ _
 refine Zcg Try.func86 rfl Try.ntmps86 rfl ?_
 have hS := St0.old (w := W) (fun k => k ≠ bo) (e := .box bo [.int .i64 x.snap.index, .int .i64 x.snap.term, .int .i64 x.snap.sum, .int .i64 x.snap.level, .bool x.snap.final, .slice A' x.log.length c', .int .i64 x.term, .int .i64 x.vote] 26) hT (fun k hk => by subst hk; exact ⟨hol, by simp⟩)
 by_cases h0 : x.term < t ∨ t = x.term ∧ (x.vote = 0 ∨ x.vote = v)
 ·have e1 : hardR x t v = some { x with term := t, vote := v } := if_pos h0
  rw [e1]
  have hfin : ∀ w, KeepB (fun k => k ≠ bo) W w → w.heap[bo]? = some (.cells #[.int .i64 x.snap.index, .int .i64 x.snap.term, .int .i64 x.snap.sum, .int .i64 x.snap.level, .bool x.snap.final, .slice A' x.log.length c', .int .i64 t, .int .i64 v] 26) → (KeepB (fun k => k ≠ bo) W w ∧ ((∃ y A2 c2, some ({ x with term := t, vote := v } : Tu) = some y ∧ (Ending.returned (.tuple #[])) = .returned (.tuple #[]) ∧ TB w bo y A2 c2 ∧ LI w A2 y.log.length c2 y.log ∧ (∀ a, A2 = some a → a.block < w.heap.size ∧ ((∃ a', A' = some a' ∧ a.block = a'.block) ∨ W.heap.size ≤ a.block))) ∨ (some ({ x with term := t, vote := v } : Tu) = none ∧ (Ending.returned (.tuple #[])) = .panicked badP ∧ TB8 w bo))) :=
   fun w hk ho => ⟨hk, .inl ⟨_, A', c', rfl, rfl, ho, hLI.keep hk hAn, fun a ha => ⟨Nat.lt_of_lt_of_le (hA' a ha).2 hk.size, .inl ⟨a, ha, rfl⟩⟩⟩⟩
  by_cases h1 : x.term < t
  ·repeat (first | (apply Zf; intro K hK))
   refine Yh 30 [] (fun _ _ => True) ⟨by kernel_rfl, by kernel_rfl⟩ hS (fun w hS hB => Zo [Tt,Tt,Tt,Tt,Tt,Tt,Tt,Tt,Tt,Tt,Tt,Tt,Tt,Tt,Tt,Tt,Tt,Tt,Tt,Tt,Tt,Tt,Tt,Tt,Tt,Tt,Tt,Tt,Tt] (by decide +kernel) (by repeat (first | exact PF.body | apply PF.then)) ?_)
   repeat (first | refine LtK.put rfl rfl rfl (by first | exact Zu rfl | exact Zc (by first | exact Ys | exact Xc | exact Vq) rfl | (apply Yi; first | exact Zi (by first | exact Zgb | exact Zy) rfl (Zgg _) hS (by repeat (first | exact Has.head | apply Has.tail)) (by first | trivial) (by repeat (first | exact Seg.here (Pre.succ Pre.zero) | apply Seg.succ)) | exact Vn (by first | exact Zgb | exact Zy) rfl (Zgg _) hS (by first | trivial) (by first | trivial) (by assumption) (by repeat (first | exact Seg.here (Pre.succ Pre.zero)))) | (apply Y5; first | exact yv_gtr_t rfl rfl (by omega)) | (apply Vi; first | exact Z9 rfl rfl rfl) | exact V5 rfl) ?_ | refine LtK.skip rfl rfl rfl ?_)
   refine LtK.nil (Yd [Ff,Ff,Ff,Ff,Ff,Ff,Ff,Ff,Ff,Ff,Ff,Ff,Ff,Ff,Ff,Ff,Ff,Ff,Ff,Ff,Ff,Ff,Ff,Ff,Ff,Ff,Ff,Ff,Ff,Tt] 29 ⟨by decide, by kernel_rfl, by kernel_rfl⟩ rfl rfl ?_)
   dsimp only [Z2]
   repeat (first | apply Zh | (apply Vd; first | refine Vo rfl rfl rfl (by kernel_rfl) rfl (must_t _) hS (fun w hS hB => ?_)))
   refine Ye (by first | assumption) ?_
   refine Z5 (by kernel_rfl) ?_
   repeat (first | (apply Zd; assumption))
   refine Yh 10 [6, 9] (fun i b => (i = 6 → b ≠ bo) ∧ (i = 9 → b ≠ bo)) ⟨by kernel_rfl, by kernel_rfl⟩ hS (fun w hS hB => Zo [Tt,Ff,Tt] (by decide +kernel) (by repeat (first | exact PF.body)) ?_)
   repeat (first | refine LtK.put rfl rfl rfl (by first | exact Zu rfl | (apply Yi; first | exact Vn (by first | exact Zgb | exact Zy) rfl (Zgg _) hS (by first | trivial) (by first | trivial) (by assumption) (by repeat (first | exact Seg.here (Pre.succ Pre.zero))))) ?_)
   refine LtK.nil (Zae [Ff,Tt,Ff,Tt,Tt] [6] (fun b => b ≠ bo) (by decide +kernel) (by intro j hj b hb; simp only [List.mem_cons, List.not_mem_nil, or_false] at hj; (try rcases hj with rfl | rfl) <;> simp_all) (by repeat (first | exact PF.body)) ?_)
   repeat (first | refine LtK.put rfl rfl rfl (by first | exact Zu rfl | (apply Yi; first | exact Vn (by first | exact Zgb | exact Zy) rfl (Zgh _ _) hS (by first | trivial) (by first | trivial) (by assumption) (by repeat (first | exact Seg.here (Pre.succ Pre.zero)))) | exact V5 rfl) ?_)
   refine LtK.nil (Zo [Ff,Ff,Ff,Ff,Ff,Tt] (by decide +kernel) (by repeat (first | exact PF.body)) ?_)
   repeat (first | refine LtK.put rfl rfl rfl (by first | exact Zc (by first | exact Ys | exact Xc) rfl) ?_)
   refine LtK.nil (Xa [Ff,Ff,Ff,Ff,Ff,Ff,Tt] 6 ⟨by decide, by kernel_rfl, by kernel_rfl⟩ rfl rfl ?_)
   dsimp only [Z2]
   repeat (first | apply Zh | (apply Xl; refine Zr rfl rfl rfl (by first | exact CellsOf.int) hS (by repeat (first | exact Pos.head)) (by repeat (first | exact SetC.here (by repeat (first | exact Ovr.nil | apply Ovr.cons)) | apply SetC.succ)) (by kernel_rfl) rfl (fun w hS hB => ?_)))
   refine Yu (by first | exact hB.sub (fun _ _ h => by simpa using h)) ?_
   refine Zae [Ff,Ff,Ff,Ff,Ff,Ff,Ff,Tt] [9] (fun b => b ≠ bo) (by decide +kernel) (by intro j hj b hb; simp only [List.mem_cons, List.not_mem_nil, or_false] at hj; (try rcases hj with rfl | rfl) <;> simp_all) (by repeat (first | exact PF.body)) ?_
   repeat (first | refine LtK.put rfl rfl rfl (by first | exact V5 rfl) ?_)
   refine LtK.nil (Zo [Ff,Ff,Ff,Ff,Ff,Ff,Ff,Ff,Tt] (by decide +kernel) (by repeat (first | exact PF.body)) ?_)
   repeat (first | refine LtK.put rfl rfl rfl (by first | exact Zc (by first | exact Ys | exact Vq) rfl) ?_)
   refine LtK.nil (Xa [Ff,Ff,Ff,Ff,Ff,Ff,Ff,Ff,Ff,Tt] 9 ⟨by decide, by kernel_rfl, by kernel_rfl⟩ rfl rfl ?_)
   dsimp only [Z2]
   repeat (first | apply Zh | (apply Xl; refine Zr rfl rfl rfl (by first | exact CellsOf.int) hS (by repeat (first | exact Pos.head)) (by repeat (first | exact SetC.here (by repeat (first | exact Ovr.nil | apply Ovr.cons)) | apply SetC.succ)) (by kernel_rfl) rfl (fun w hS hB => ?_)))
   refine Yu (by first | exact hB.sub (fun _ _ h => by simpa using h)) ?_
   refine Z5 (by kernel_rfl) (Zel rfl (by first | exact RV.nil) rfl ?_)
   exact hfin _ hS.base (hS.ok (.box bo [.int .i64 x.snap.index, .int .i64 x.snap.term, .int .i64 x.snap.sum, .int .i64 x.snap.level, .bool x.snap.final, .slice A' x.log.length c', .int .i64 t, .int .i64 v] 26) (Has.mem (by repeat (first | exact Has.head))))
  ·have h2 : t = x.term := by omega
   by_cases h3 : x.vote = 0
   ·repeat (first | (apply Zf; intro K hK))
    refine Yh 30 [] (fun _ _ => True) ⟨by kernel_rfl, by kernel_rfl⟩ hS (fun w hS hB => Zo [Tt,Tt,Tt,Tt,Tt,Tt,Tt,Tt,Tt,Tt,Tt,Tt,Tt,Tt,Tt,Tt,Tt,Tt,Tt,Tt,Tt,Tt,Tt,Tt,Tt,Tt,Tt,Tt,Tt] (by decide +kernel) (by repeat (first | exact PF.body | apply PF.then)) ?_)
    repeat (first | refine LtK.put rfl rfl rfl (by first | exact Zu rfl | exact Zc (by first | exact Ys | exact Xc | exact Vq) rfl | (apply Yi; first | exact Zi (by first | exact Zgb | exact Zy) rfl (Zgg _) hS (by repeat (first | exact Has.head | apply Has.tail)) (by first | trivial) (by repeat (first | exact Seg.here (Pre.succ Pre.zero) | apply Seg.succ)) | exact Vn (by first | exact Zgb | exact Zy) rfl (Zgg _) hS (by first | trivial) (by first | trivial) (by assumption) (by repeat (first | exact Seg.here (Pre.succ Pre.zero)))) | (apply Y5; first | exact Zej rfl rfl (by omega) | exact yv_eql_t rfl rfl (by omega)) | (apply Vi; first | exact Z9 rfl rfl rfl | exact Yk rfl rfl rfl) | exact V5 rfl) ?_ | refine LtK.skip rfl rfl rfl ?_)
    refine LtK.nil (Yd [Ff,Ff,Ff,Ff,Ff,Ff,Ff,Ff,Ff,Ff,Ff,Ff,Ff,Ff,Ff,Ff,Ff,Ff,Ff,Ff,Ff,Ff,Ff,Ff,Ff,Ff,Ff,Ff,Ff,Tt] 29 ⟨by decide, by kernel_rfl, by kernel_rfl⟩ rfl rfl ?_)
    dsimp only [Z2]
    repeat (first | apply Zh | (apply Vd; first | refine Vo rfl rfl rfl (by kernel_rfl) rfl (must_t _) hS (fun w hS hB => ?_)))
    refine Ye (by first | assumption) ?_
    refine Z5 (by kernel_rfl) ?_
    repeat (first | (apply Zd; assumption))
    refine Yh 10 [6, 9] (fun i b => (i = 6 → b ≠ bo) ∧ (i = 9 → b ≠ bo)) ⟨by kernel_rfl, by kernel_rfl⟩ hS (fun w hS hB => Zo [Tt,Ff,Tt] (by decide +kernel) (by repeat (first | exact PF.body)) ?_)
    repeat (first | refine LtK.put rfl rfl rfl (by first | exact Zu rfl | (apply Yi; first | exact Vn (by first | exact Zgb | exact Zy) rfl (Zgg _) hS (by first | trivial) (by first | trivial) (by assumption) (by repeat (first | exact Seg.here (Pre.succ Pre.zero))))) ?_)
    refine LtK.nil (Zae [Ff,Tt,Ff,Tt,Tt] [6] (fun b => b ≠ bo) (by decide +kernel) (by intro j hj b hb; simp only [List.mem_cons, List.not_mem_nil, or_false] at hj; (try rcases hj with rfl | rfl) <;> simp_all) (by repeat (first | exact PF.body)) ?_)
    repeat (first | refine LtK.put rfl rfl rfl (by first | exact Zu rfl | (apply Yi; first | exact Vn (by first | exact Zgb | exact Zy) rfl (Zgh _ _) hS (by first | trivial) (by first | trivial) (by assumption) (by repeat (first | exact Seg.here (Pre.succ Pre.zero)))) | exact V5 rfl) ?_)
    refine LtK.nil (Zo [Ff,Ff,Ff,Ff,Ff,Tt] (by decide +kernel) (by repeat (first | exact PF.body)) ?_)
    repeat (first | refine LtK.put rfl rfl rfl (by first | exact Zc (by first | exact Ys | exact Xc) rfl) ?_)
    refine LtK.nil (Xa [Ff,Ff,Ff,Ff,Ff,Ff,Tt] 6 ⟨by decide, by kernel_rfl, by kernel_rfl⟩ rfl rfl ?_)
    dsimp only [Z2]
    repeat (first | apply Zh | (apply Xl; refine Zr rfl rfl rfl (by first | exact CellsOf.int) hS (by repeat (first | exact Pos.head)) (by repeat (first | exact SetC.here (by repeat (first | exact Ovr.nil | apply Ovr.cons)) | apply SetC.succ)) (by kernel_rfl) rfl (fun w hS hB => ?_)))
    refine Yu (by first | exact hB.sub (fun _ _ h => by simpa using h)) ?_
    refine Zae [Ff,Ff,Ff,Ff,Ff,Ff,Ff,Tt] [9] (fun b => b ≠ bo) (by decide +kernel) (by intro j hj b hb; simp only [List.mem_cons, List.not_mem_nil, or_false] at hj; (try rcases hj with rfl | rfl) <;> simp_all) (by repeat (first | exact PF.body)) ?_
    repeat (first | refine LtK.put rfl rfl rfl (by first | exact V5 rfl) ?_)
    refine LtK.nil (Zo [Ff,Ff,Ff,Ff,Ff,Ff,Ff,Ff,Tt] (by decide +kernel) (by repeat (first | exact PF.body)) ?_)
    repeat (first | refine LtK.put rfl rfl rfl (by first | exact Zc (by first | exact Ys | exact Vq) rfl) ?_)
    refine LtK.nil (Xa [Ff,Ff,Ff,Ff,Ff,Ff,Ff,Ff,Ff,Tt] 9 ⟨by decide, by kernel_rfl, by kernel_rfl⟩ rfl rfl ?_)
    dsimp only [Z2]
    repeat (first | apply Zh | (apply Xl; refine Zr rfl rfl rfl (by first | exact CellsOf.int) hS (by repeat (first | exact Pos.head)) (by repeat (first | exact SetC.here (by repeat (first | exact Ovr.nil | apply Ovr.cons)) | apply SetC.succ)) (by kernel_rfl) rfl (fun w hS hB => ?_)))
    refine Yu (by first | exact hB.sub (fun _ _ h => by simpa using h)) ?_
    refine Z5 (by kernel_rfl) (Zel rfl (by first | exact RV.nil) rfl ?_)
    exact hfin _ hS.base (hS.ok (.box bo [.int .i64 x.snap.index, .int .i64 x.snap.term, .int .i64 x.snap.sum, .int .i64 x.snap.level, .bool x.snap.final, .slice A' x.log.length c', .int .i64 t, .int .i64 v] 26) (Has.mem (by repeat (first | exact Has.head))))
   ·have h4 : x.vote = v := by omega
    repeat (first | (apply Zf; intro K hK))
    refine Yh 30 [] (fun _ _ => True) ⟨by kernel_rfl, by kernel_rfl⟩ hS (fun w hS hB => Zo [Tt,Tt,Tt,Tt,Tt,Tt,Tt,Tt,Tt,Tt,Tt,Tt,Tt,Tt,Tt,Tt,Tt,Tt,Tt,Tt,Tt,Tt,Tt,Tt,Tt,Tt,Tt,Tt,Tt] (by decide +kernel) (by repeat (first | exact PF.body | apply PF.then)) ?_)
    repeat (first | refine LtK.put rfl rfl rfl (by first | exact Zu rfl | exact Zc (by first | exact Ys | exact Xc | exact Vq) rfl | (apply Yi; first | exact Zi (by first | exact Zgb | exact Zy) rfl (Zgg _) hS (by repeat (first | exact Has.head | apply Has.tail)) (by first | trivial) (by repeat (first | exact Seg.here (Pre.succ Pre.zero) | apply Seg.succ)) | exact Vn (by first | exact Zgb | exact Zy) rfl (Zgg _) hS (by first | trivial) (by first | trivial) (by assumption) (by repeat (first | exact Seg.here (Pre.succ Pre.zero)))) | (apply Y5; first | exact Zej rfl rfl (by omega) | exact yv_eql_t rfl rfl (by omega) | exact yv_eql_f rfl rfl (by omega)) | (apply Vi; first | exact Z9 rfl rfl rfl | exact Yk rfl rfl rfl) | exact V5 rfl) ?_)
    refine LtK.nil (Yd [Ff,Ff,Ff,Ff,Ff,Ff,Ff,Ff,Ff,Ff,Ff,Ff,Ff,Ff,Ff,Ff,Ff,Ff,Ff,Ff,Ff,Ff,Ff,Ff,Ff,Ff,Ff,Ff,Ff,Tt] 29 ⟨by decide, by kernel_rfl, by kernel_rfl⟩ rfl rfl ?_)
    dsimp only [Z2]
    repeat (first | apply Zh | (apply Vd; first | refine Vo rfl rfl rfl (by kernel_rfl) rfl (must_t _) hS (fun w hS hB => ?_)))
    refine Ye (by first | assumption) ?_
    refine Z5 (by kernel_rfl) ?_
    repeat (first | (apply Zd; assumption))
    refine Yh 10 [6, 9] (fun i b => (i = 6 → b ≠ bo) ∧ (i = 9 → b ≠ bo)) ⟨by kernel_rfl, by kernel_rfl⟩ hS (fun w hS hB => Zo [Tt,Ff,Tt] (by decide +kernel) (by repeat (first | exact PF.body)) ?_)
    repeat (first | refine LtK.put rfl rfl rfl (by first | exact Zu rfl | (apply Yi; first | exact Vn (by first | exact Zgb | exact Zy) rfl (Zgg _) hS (by first | trivial) (by first | trivial) (by assumption) (by repeat (first | exact Seg.here (Pre.succ Pre.zero))))) ?_)
    refine LtK.nil (Zae [Ff,Tt,Ff,Tt,Tt] [6] (fun b => b ≠ bo) (by decide +kernel) (by intro j hj b hb; simp only [List.mem_cons, List.not_mem_nil, or_false] at hj; (try rcases hj with rfl | rfl) <;> simp_all) (by repeat (first | exact PF.body)) ?_)
    repeat (first | refine LtK.put rfl rfl rfl (by first | exact Zu rfl | (apply Yi; first | exact Vn (by first | exact Zgb | exact Zy) rfl (Zgh _ _) hS (by first | trivial) (by first | trivial) (by assumption) (by repeat (first | exact Seg.here (Pre.succ Pre.zero)))) | exact V5 rfl) ?_)
    refine LtK.nil (Zo [Ff,Ff,Ff,Ff,Ff,Tt] (by decide +kernel) (by repeat (first | exact PF.body)) ?_)
    repeat (first | refine LtK.put rfl rfl rfl (by first | exact Zc (by first | exact Ys | exact Xc) rfl) ?_)
    refine LtK.nil (Xa [Ff,Ff,Ff,Ff,Ff,Ff,Tt] 6 ⟨by decide, by kernel_rfl, by kernel_rfl⟩ rfl rfl ?_)
    dsimp only [Z2]
    repeat (first | apply Zh | (apply Xl; refine Zr rfl rfl rfl (by first | exact CellsOf.int) hS (by repeat (first | exact Pos.head)) (by repeat (first | exact SetC.here (by repeat (first | exact Ovr.nil | apply Ovr.cons)) | apply SetC.succ)) (by kernel_rfl) rfl (fun w hS hB => ?_)))
    refine Yu (by first | exact hB.sub (fun _ _ h => by simpa using h)) ?_
    refine Zae [Ff,Ff,Ff,Ff,Ff,Ff,Ff,Tt] [9] (fun b => b ≠ bo) (by decide +kernel) (by intro j hj b hb; simp only [List.mem_cons, List.not_mem_nil, or_false] at hj; (try rcases hj with rfl | rfl) <;> simp_all) (by repeat (first | exact PF.body)) ?_
    repeat (first | refine LtK.put rfl rfl rfl (by first | exact V5 rfl) ?_)
    refine LtK.nil (Zo [Ff,Ff,Ff,Ff,Ff,Ff,Ff,Ff,Tt] (by decide +kernel) (by repeat (first | exact PF.body)) ?_)
    repeat (first | refine LtK.put rfl rfl rfl (by first | exact Zc (by first | exact Ys | exact Vq) rfl) ?_)
    refine LtK.nil (Xa [Ff,Ff,Ff,Ff,Ff,Ff,Ff,Ff,Ff,Tt] 9 ⟨by decide, by kernel_rfl, by kernel_rfl⟩ rfl rfl ?_)
    dsimp only [Z2]
    repeat (first | apply Zh | (apply Xl; refine Zr rfl rfl rfl (by first | exact CellsOf.int) hS (by repeat (first | exact Pos.head)) (by repeat (first | exact SetC.here (by repeat (first | exact Ovr.nil | apply Ovr.cons)) | apply SetC.succ)) (by kernel_rfl) rfl (fun w hS hB => ?_)))
    refine Yu (by first | exact hB.sub (fun _ _ h => by simpa using h)) ?_
    refine Z5 (by kernel_rfl) (Zel rfl (by first | exact RV.nil) rfl ?_)
    exact hfin _ hS.base (hS.ok (.box bo [.int .i64 x.snap.index, .int .i64 x.snap.term, .int .i64 x.snap.sum, .int .i64 x.snap.level, .bool x.snap.final, .slice A' x.log.length c', .int .i64 t, .int .i64 v] 26) (Has.mem (by repeat (first | exact Has.head))))
 ·have e1 : hardR x t v = none := if_neg h0
  rw [e1]
  have h1 : ¬ x.term < t := fun h => h0 (.inl h)
  by_cases h2 : t = x.term
  ·have h3 : x.vote ≠ 0 := fun h => h0 (.inr ⟨h2, .inl h⟩)
   have h4 : x.vote ≠ v := fun h => h0 (.inr ⟨h2, .inr h⟩)
   repeat (first | (apply Zf; intro K hK))
   refine Yh 30 [] (fun _ _ => True) ⟨by kernel_rfl, by kernel_rfl⟩ hS (fun w hS hB => Zo [Tt,Tt,Tt,Tt,Tt,Tt,Tt,Tt,Tt,Tt,Tt,Tt,Tt,Tt,Tt,Tt,Tt,Tt,Tt,Tt,Tt,Tt,Tt,Tt,Tt,Tt,Tt,Tt,Tt] (by decide +kernel) (by repeat (first | exact PF.body | apply PF.then)) ?_)
   repeat (first | refine LtK.put rfl rfl rfl (by first | exact Zu rfl | exact Zc (by first | exact Ys | exact Xc | exact Vq) rfl | (apply Yi; first | exact Zi (by first | exact Zgb | exact Zy) rfl (Zgg _) hS (by repeat (first | exact Has.head | apply Has.tail)) (by first | trivial) (by repeat (first | exact Seg.here (Pre.succ Pre.zero) | apply Seg.succ)) | exact Vn (by first | exact Zgb | exact Zy) rfl (Zgg _) hS (by first | trivial) (by first | trivial) (by assumption) (by repeat (first | exact Seg.here (Pre.succ Pre.zero)))) | (apply Y5; first | exact Zej rfl rfl (by omega) | exact yv_eql_t rfl rfl (by omega) | exact yv_eql_f rfl rfl (by omega)) | (apply Vi; first | exact Z9 rfl rfl rfl | exact Yk rfl rfl rfl) | exact V5 rfl) ?_)
   refine LtK.nil (Yd [Ff,Ff,Ff,Ff,Ff,Ff,Ff,Ff,Ff,Ff,Ff,Ff,Ff,Ff,Ff,Ff,Ff,Ff,Ff,Ff,Ff,Ff,Ff,Ff,Ff,Ff,Ff,Ff,Ff,Tt] 29 ⟨by decide, by kernel_rfl, by kernel_rfl⟩ rfl rfl ?_)
   dsimp only [Z2]
   repeat (first | (apply Vd; first | (refine Vg rfl rfl (by kernel_rfl) rfl (Zfb _) ?_; rintro e w2 ⟨rfl, hB2⟩; refine ⟨_, rfl, ?_⟩)) | apply Vb)
   exact Ju rfl ⟨(hS.below hB2).base, .inr ⟨rfl, rfl, TB.eight (x := x) (A := A') (c := c') ((hS.below hB2).ok (.box bo [.int .i64 x.snap.index, .int .i64 x.snap.term, .int .i64 x.snap.sum, .int .i64 x.snap.level, .bool x.snap.final, .slice A' x.log.length c', .int .i64 x.term, .int .i64 x.vote] 26) (Has.mem (by repeat (first | exact Has.head))))⟩⟩
  ·repeat (first | (apply Zf; intro K hK))
   refine Yh 30 [] (fun _ _ => True) ⟨by kernel_rfl, by kernel_rfl⟩ hS (fun w hS hB => Zo [Tt,Tt,Tt,Tt,Tt,Tt,Tt,Tt,Tt,Tt,Tt,Tt,Tt,Tt,Tt,Tt,Tt,Tt,Tt,Tt,Tt,Tt,Tt,Tt,Tt,Tt,Tt,Tt,Tt] (by decide +kernel) (by repeat (first | exact PF.body | apply PF.then)) ?_)
   repeat (first | refine LtK.put rfl rfl rfl (by first | exact Zu rfl | exact Zc (by first | exact Ys | exact Xc | exact Vq) rfl | (apply Yi; first | exact Zi (by first | exact Zgb | exact Zy) rfl (Zgg _) hS (by repeat (first | exact Has.head | apply Has.tail)) (by first | trivial) (by repeat (first | exact Seg.here (Pre.succ Pre.zero) | apply Seg.succ)) | exact Vn (by first | exact Zgb | exact Zy) rfl (Zgg _) hS (by first | trivial) (by first | trivial) (by assumption) (by repeat (first | exact Seg.here (Pre.succ Pre.zero)))) | (apply Y5; first | exact Zej rfl rfl (by omega) | exact yv_eql_f rfl rfl (by omega)) | (apply Vi; first | exact Yk rfl rfl rfl) | exact V5 rfl) ?_ | refine LtK.skip rfl rfl rfl ?_)
   refine LtK.nil (Yd [Ff,Ff,Ff,Ff,Ff,Ff,Ff,Ff,Ff,Ff,Ff,Ff,Ff,Ff,Ff,Ff,Ff,Ff,Ff,Ff,Ff,Ff,Ff,Ff,Ff,Ff,Ff,Ff,Ff,Tt] 29 ⟨by decide, by kernel_rfl, by kernel_rfl⟩ rfl rfl ?_)
   dsimp only [Z2]
   repeat (first | (apply Vd; first | (refine Vg rfl rfl (by kernel_rfl) rfl (Zfb _) ?_; rintro e w2 ⟨rfl, hB2⟩; refine ⟨_, rfl, ?_⟩)) | apply Vb)
   exact Ju rfl ⟨(hS.below hB2).base, .inr ⟨rfl, rfl, TB.eight (x := x) (A := A') (c := c') ((hS.below hB2).ok (.box bo [.int .i64 x.snap.index, .int .i64 x.snap.term, .int .i64 x.snap.sum, .int .i64 x.snap.level, .bool x.snap.final, .slice A' x.log.length c', .int .i64 x.term, .int .i64 x.vote] 26) (Has.mem (by repeat (first | exact Has.head))))⟩⟩
theorem hard_any (x : Tu) (A : OA) (c : Nat) (t v : Int) (w0 : World) (hx : LI w0 A x.log.length c x.log) (hA : ∀ a, A = some a → a.block < w0.heap.size) :
  Calls Try.prog 49 #[.agg #[.int .i64 x.snap.index, .int .i64 x.snap.term, .int .i64 x.snap.sum, .int .i64 x.snap.level, .bool x.snap.final, .slice A x.log.length c, .int .i64 x.term, .int .i64 x.vote], .int .i64 t, .int .i64 v] w0 (Chg w0 x (hardR x t v)) := by
 refine Zcg Try.func49 rfl Try.ntmps49 rfl ?_
 have hS := St0.start All w0
 repeat (first | (apply Zf; intro K hK) | apply Zg)
 first | (apply Vy; refine Yq rfl rfl rfl (by first | exact CellsOf.agg) hS (fun bt w hS hB => ?_))
 first | (apply Vy; refine Yq rfl rfl rfl (by first | exact CellsOf.int) hS (fun bf w hS hB => ?_))
 first | (apply Vy; refine Yq rfl rfl rfl (by first | exact CellsOf.int) hS (fun bg w hS hB => ?_))
 repeat (first | apply Zh | (apply Zd; assumption) | (apply Zf; intro K hK) | apply Zg | (apply Za3; refine Yr rfl rfl (by first | exact zc_26) hS (fun b w hS hB => ?_)) | (apply Y7; refine Za rfl rfl rfl (by first | exact Z7 rfl | (apply Yi; first | exact Zk (by first | exact V2) rfl (Zgf _) hS (by repeat (first | exact Has.head | apply Has.tail)) (by first | trivial) (by repeat (first | exact Seg.here (by repeat (first | exact Pre.zero | apply Pre.succ))))) | exact V0 rfl rfl) ?_))
 have hbf := (hS.box_ge (b := bf) (by repeat (first | exact Has.head | apply Has.tail)))
 have hbg := (hS.box_ge (b := bg) (by repeat (first | exact Has.head | apply Has.tail)))
 refine Zt rfl rfl rfl rfl (by kernel_rfl) rfl (changed_any x (hardR x t v) A c 86 #[.pointer (some ⟨bf, 0, none⟩), .pointer (some ⟨bg, 0, none⟩)] _ (by kernel_rfl) (hx.below hS.pure) (fun a ha => Nat.lt_of_lt_of_le (hA a ha) hS.size)
  (fun hT => hard1_does bf bg t v _ hbf.2.2 hbg.2.2 x hT)) ?_
 rintro e w1 ⟨A2, c2, ⟨rfl, hs⟩, hB⟩
 refine ⟨_, rfl, ?_⟩
 replace hS := hS.slice hs hB
 repeat (first | apply Zh | (apply Zd; assumption) | (apply Xl; refine Zr rfl rfl rfl (by first | exact CellsOf.agg) hS (by repeat (first | exact Pos.head | apply Pos.tail)) (by repeat (first | exact SetC.here (by repeat (first | exact Ovr.nil | apply Ovr.cons)))) (by kernel_rfl) rfl (fun w hS hB => ?_)) | (apply Y7; refine Za rfl rfl rfl (by first | exact Z7 rfl | exact Yj rfl rfl) ?_) | apply Zl)
 refine Zm rfl (by first | exact RV.cell rfl (Z3 (by first | exact V2) hS (by repeat (first | exact Has.head | apply Has.tail)) (by repeat (first | exact Seg.here (by repeat (first | exact Pre.zero | apply Pre.succ))))) (RV.tmp rfl RV.nil)) rfl ?_
 exact ⟨A2, c2, ⟨rfl, hS.giveS (by repeat (first | exact Has.head)) hs.len hs.le hs.cap⟩, hS.pure⟩
end
section
open Go Go.RowKit
set_option maxRecDepth 100000
theorem next_p (s : St) (e : En) (w : World) : PureC Try.prog 100 #[.agg #[.int .i64 s.index, .int .i64 s.term, .int .i64 s.sum, .int .i64 s.level, .bool s.final], .agg #[.int .i64 e.term, .int .i64 e.kind, .int .i64 e.value]] w (.agg #[.int .i64 (Zbk s e).index, .int .i64 (Zbk s e).term, .int .i64 (Zbk s e).sum, .int .i64 (Zbk s e).level, .bool (Zbk s e).final]) := ⟨next_any s e w⟩
structure SX where
 bt : Nat
 bs : Nat
 A : OA
 c : Nat
 j : Nat
 n : Nat
theorem state_yes (x : Tu) (A : OA) (c : Nat) (k : Nat) (w0 : World) (h : -2000000000000 ≤ x.snap.index ∧ x.snap.index ≤ 2000000000000) (hl : LI w0 A x.log.length c x.log) (i : Int) (hi : i = x.snap.index + k) (hk : k ≤ x.log.length) :
  PureC Try.prog 63 #[.agg #[.int .i64 x.snap.index, .int .i64 x.snap.term, .int .i64 x.snap.sum, .int .i64 x.snap.level, .bool x.snap.final, .slice A x.log.length c, .int .i64 x.term, .int .i64 x.vote], .int .i64 i] w0 (.tuple #[.agg #[.int .i64 (allS x.snap (x.log.take k)).index, .int .i64 (allS x.snap (x.log.take k)).term, .int .i64 (allS x.snap (x.log.take k)).sum, .int .i64 (allS x.snap (x.log.take k)).level, .bool (allS x.snap (x.log.take k)).final], .bool true]) := by
 refine PureC.mk ?_
 have hsm := hl.small
 have hle := hl.le
 have hcp := hl.cap
 have hkl : (x.log.take k).length = k := by rw [List.length_take]; omega
 have hrd : Rd w0 A (ens (x.log.take k)) := by
  have := hl.rd.take (3 * k)
  have e2 : (ens x.log).take (3 * k) = ens (x.log.take k) := by
   have := ens_app (x.log.take k) (x.log.drop k)
   rw [List.take_append_drop] at this
   rw [this, List.take_left' (by rw [Zd2, hkl])]
  rwa [e2] at this
 refine Xw Try.func63 rfl Try.ntmps63 rfl ?_
 have hS := St0.start All w0
 repeat (first | (apply Zf; intro K hK) | apply Zg)
 first | (apply Vy; refine Yq rfl rfl rfl (by first | exact CellsOf.agg) hS (fun bt w hS hB => ?_))
 first | (apply Za3; refine Yr rfl rfl (by first | exact zc_23) hS (fun bs w hS hB => ?_))
 repeat (first | apply Zh | (apply Zd; assumption) | (apply Y7; refine Za rfl rfl rfl (by first | exact Z7 rfl) ?_))
 refine wpC_scope 0 (fun y : SX => [(6, .slice y.A y.n y.c), (5, .bool false), (4, .pointer (some ⟨y.bs, 0, none⟩)), (2, .pointer (some ⟨y.bt, 0, none⟩)), (1, .int .i64 i)])
  (fun y w => y.j + y.n = k ∧ y.n ≤ y.c ∧ y.c ≤ maxLen ∧ Rd w0 y.A (ens ((x.log.take k).drop y.j)) ∧ St0 All w0 w [.box y.bs [.int .i64 (allS x.snap (x.log.take y.j)).index, .int .i64 (allS x.snap (x.log.take y.j)).term, .int .i64 (allS x.snap (x.log.take y.j)).sum, .int .i64 (allS x.snap (x.log.take y.j)).level, .bool (allS x.snap (x.log.take y.j)).final] 23, .box y.bt [.int .i64 x.snap.index, .int .i64 x.snap.term, .int .i64 x.snap.sum, .int .i64 x.snap.level, .bool x.snap.final, .slice A x.log.length c, .int .i64 x.term, .int .i64 x.vote] 26])
  (fun y => y.n) rfl ?_ ?_
 ·rintro ⟨bt, bs, Aj, cj, j, n⟩ w ⟨hj, hcj, hcm, hrj, hS⟩
  dsimp only at hj hcj hcm hrj hS ⊢
  rcases Nat.eq_zero_or_pos n with rfl | hn
  ·obtain rfl : j = k := by omega
   repeat (first | apply Zh | (apply Zd; assumption) | (apply Zf; intro K hK) | apply Zg | (apply Xl; refine Zr rfl rfl rfl (by first | exact CellsOf.agg) hS (by repeat (first | exact Pos.head)) (by repeat (first | exact SetC.here (by repeat (first | exact Ovr.nil | apply Ovr.cons)))) (by kernel_rfl) rfl (fun w hS hB => ?_)) | (apply Y7; refine Za rfl rfl rfl (by first | exact Zu rfl | exact Z7 rfl | (apply Yi; first | exact Zk (by first | exact Y3) rfl (Zgf _) hS (by repeat (first | exact Has.head)) (by first | trivial) (by repeat (first | exact Seg.here (by repeat (first | exact Pre.zero | apply Pre.succ))))) | (apply Y5; first | exact Zej rfl rfl (by omega)) | (apply Js; first | exact Yb (by first | exact Y1) rfl)) ?_) | apply Ym rfl rfl | apply Zv | apply Zl | apply Yn)
   refine Zm rfl (by first | exact RV.cell rfl (Z3 (by first | exact Y3) hS (by repeat (first | exact Has.head)) (by repeat (first | exact Seg.here (by repeat (first | exact Pre.zero | apply Pre.succ))))) (RV.tmp rfl RV.nil)) rfl ?_
   exact ⟨rfl, hS.pure⟩
  ·obtain ⟨e, he⟩ : ∃ e, ((x.log.take k).drop j)[0]? = some e := ⟨_, List.getElem?_eq_getElem (by rw [List.length_drop]; omega)⟩
   obtain ⟨b1, o1, hA1, hb1, hr1⟩ := hrj.entR he
   subst hA1
   have htk : x.log.take (j + 1) = x.log.take j ++ [e] := by
    rw [List.getElem?_drop, List.getElem?_take] at he
    split at he
    ·rw [List.take_add_one]; rw [show x.log[j]? = some e from by simpa using he]; rfl
    ·cases he
   repeat (first | (apply Zd; assumption) | (apply Zf; intro K hK) | apply Zv)
   apply Zg
   repeat (first | apply Zh | (apply Zd; assumption) | (apply Zf; intro K hK) | (apply Y7; refine Za rfl rfl rfl (by first | exact Zu rfl | (apply Y5; first | exact yv_gtr_t rfl rfl (by omega)) | (apply Js; first | exact Yb (by first | exact Y1) rfl)) ?_) | apply Zn rfl rfl)
   refine Yh 9 [7] (fun i b => (i = 7 → b ≠ bs)) ⟨by kernel_rfl, by kernel_rfl⟩ hS (fun w hS hB => Zo [Tt,Tt,Tt,Tt] (by decide +kernel) (by repeat (first | exact PF.body | apply PF.then | apply PF.jump)) ?_)
   repeat (first | refine LtK.put rfl rfl rfl (by first | exact Za1 (j := 0) (by first | exact Y1) rfl rfl rfl (by omega) | exact Zu rfl | (apply Yi; first | exact Zk (by first | exact Y3 | exact Zb5) rfl (Zgg _) hS (by repeat (first | exact Has.head | apply Has.tail)) (by first | trivial) (by repeat (first | exact Seg.here (by repeat (first | exact Pre.zero | apply Pre.succ)))) | exact Zet (by first | exact Y3 | exact Zb5) rfl (Zgg _) hS (by first | trivial) (by first | trivial) (by assumption) (by rfl))) ?_)
   refine LtK.nil (Zae [Ff,Ff,Ff,Ff,Ff,Tt,Tt] [7] (fun b => b ≠ bs) (by decide +kernel) (by intro j hj b hb; simp only [List.mem_cons, List.not_mem_nil, or_false] at hj; (try rcases hj with rfl | rfl) <;> simp_all) (by repeat (first | exact PF.body | apply PF.then | apply PF.jump)) ?_)
   repeat (first | refine LtK.put rfl rfl rfl (by first | exact yv_slice_l (l := 1) (by first | exact Y1) rfl rfl rfl (by omega) | exact Zu rfl) ?_)
   refine LtK.nil (Yd [Ff,Ff,Ff,Ff,Tt] 4 ⟨by decide, by kernel_rfl, by kernel_rfl⟩ rfl rfl ?_)
   dsimp only [Z2]
   repeat (first | apply Zh | (apply Vd; first | refine Vo rfl rfl rfl (by kernel_rfl) rfl (next_p _ _ _) hS (fun w hS hB => ?_)))
   refine Ye (by first | assumption) ?_
   refine Xa [Ff,Ff,Ff,Ff,Ff,Ff,Ff,Tt] 7 ⟨by decide, by kernel_rfl, by kernel_rfl⟩ rfl rfl ?_
   dsimp only [Z2]
   repeat (first | apply Zh | (apply Xl; refine Zr rfl rfl rfl (by first | exact CellsOf.agg) hS (by repeat (first | exact Pos.head)) (by repeat (first | exact SetC.here (by repeat (first | exact Ovr.nil | apply Ovr.cons)))) (by kernel_rfl) rfl (fun w hS hB => ?_)))
   refine Yu (by first | exact hB.sub (fun _ _ h => by simpa using h)) ?_
   refine Zo [Ff,Ff,Ff,Ff,Ff,Ff,Ff,Ff,Tt] (by decide +kernel) (by repeat (first | exact PF.body | apply PF.then | apply PF.jump)) ?_
   repeat (first | refine LtK.put rfl rfl rfl (by first | exact Z7 rfl) ?_)
   refine LtK.nil (Z5 (by kernel_rfl) ?_)
   repeat (first | (apply Zd; assumption) | apply Jh | apply Xx)
   refine QH_jump ⟨bt, bs, _, _, j + 1, n - 1⟩ (by repeat (first | exact Sub.nil | refine Sub.cons rfl ?_)) ⟨by dsimp only; omega, by dsimp only; omega, by dsimp only; omega, ?_, ?_⟩ (by dsimp only; omega)
   ·dsimp only
    have h3 := hrj.cutE (k := 1) (c := cj) (by rw [List.length_drop, hkl]; omega)
    rwa [List.drop_drop] at h3
   ·dsimp only
    rw [htk, allS_snoc]
    exact hS
 ·intro hpass
  repeat (first | apply Zh | (apply Zd; assumption) | (apply Zf; intro K hK) | apply Zg | (apply Xl; refine Zr rfl rfl rfl (by first | exact CellsOf.agg) hS (by repeat (first | exact Pos.head)) (by repeat (first | exact SetC.here (by repeat (first | exact Ovr.nil | apply Ovr.cons)))) (by kernel_rfl) rfl (fun w hS hB => ?_)) | (apply Vd; first | refine Vo rfl rfl rfl (by kernel_rfl) rfl (last_any _ _ _ _ _ _ _ (by omega) (by omega)) hS (fun w hS hB => ?_)) | (apply Y7; refine Za rfl rfl rfl (by first | exact yv_slice_h (h := k) (by first | exact Y1) rfl rfl (by omega) (by omega) | exact Zu rfl | exact Z7 rfl | exact Zc (by first | exact Ys | exact Xe | exact Yg) rfl | (apply Yi; first | exact Zi (by first | exact Zy | exact Y6) rfl (Zgf _) hS (by repeat (first | exact Has.head | apply Has.tail)) (by first | trivial) (by repeat (first | exact Seg.here (Pre.succ Pre.zero) | apply Seg.succ)) | exact Zk (by first | exact Y3 | exact V2) rfl (Zgf _) hS (by repeat (first | exact Has.head | apply Has.tail)) (by first | trivial) (by repeat (first | exact Seg.here (by repeat (first | exact Pre.zero | apply Pre.succ))))) | (apply Y5; first | exact Zcq rfl rfl (by omega) | exact Zej rfl rfl (by omega) | exact yv_sub rfl rfl (by omega)) | (apply Vi; first | exact Yk rfl rfl rfl)) ?_) | apply Ym rfl rfl | apply Zv)
  apply Zd0
  apply Zd
  assumption
  rcases Nat.eq_zero_or_pos k with hk0 | hn
  ·repeat (first | apply Zh | (apply Zd; assumption) | (apply Zf; intro K hK) | apply Zg | (apply Xl; refine Zr rfl rfl rfl (by first | exact CellsOf.agg) hS (by repeat (first | exact Pos.head)) (by repeat (first | exact SetC.here (by repeat (first | exact Ovr.nil | apply Ovr.cons)))) (by kernel_rfl) rfl (fun w hS hB => ?_)) | (apply Y7; refine Za rfl rfl rfl (by first | exact Zu rfl | exact Z7 rfl | (apply Yi; first | exact Zk (by first | exact Y3) rfl (Zgf _) hS (by repeat (first | exact Has.head)) (by first | trivial) (by repeat (first | exact Seg.here (by repeat (first | exact Pre.zero | apply Pre.succ))))) | (apply Y5; first | exact Zej rfl rfl (by omega)) | (apply Js; first | exact Yb (by first | exact Y1) rfl)) ?_) | apply Ym rfl rfl | apply Zv | apply Zl | apply Yn)
   refine Zm rfl (by first | exact RV.cell rfl (Z3 (by first | exact Y3) hS (by repeat (first | exact Has.head)) (by repeat (first | exact Seg.here (by repeat (first | exact Pre.zero | apply Pre.succ))))) (RV.tmp rfl RV.nil)) rfl ?_
   subst hk0
   exact ⟨rfl, hS.pure⟩
  ·obtain ⟨e, he⟩ : ∃ e, (x.log.take k)[0]? = some e := ⟨_, List.getElem?_eq_getElem (by omega)⟩
   obtain ⟨b1, o1, hA1, hb1, hr1⟩ := hrd.entR he
   subst hA1
   have htk : x.log.take 1 = [e] := by
    rw [List.getElem?_take, if_pos hn] at he
    rw [List.take_add_one, he]; rfl
   repeat (first | (apply Zf; intro K hK))
   apply Zg
   repeat (first | apply Zh | (apply Zd; assumption) | (apply Zf; intro K hK) | (apply Y7; refine Za rfl rfl rfl (by first | exact Zu rfl | (apply Y5; first | exact yv_gtr_t rfl rfl (by omega)) | (apply Js; first | exact Yb (by first | exact Y1) rfl)) ?_) | apply Zn rfl rfl)
   refine Yh 9 [7] (fun i b => (i = 7 → b ≠ bs)) ⟨by kernel_rfl, by kernel_rfl⟩ hS (fun w hS hB => Zo [Tt,Tt,Tt,Tt] (by decide +kernel) (by repeat (first | exact PF.body | apply PF.then | apply PF.jump)) ?_)
   repeat (first | refine LtK.put rfl rfl rfl (by first | exact Za1 (j := 0) (by first | exact Y1) rfl rfl rfl (by omega) | exact Zu rfl | (apply Yi; first | exact Zk (by first | exact Y3 | exact Zb5) rfl (Zgg _) hS (by repeat (first | exact Has.head | apply Has.tail)) (by first | trivial) (by repeat (first | exact Seg.here (by repeat (first | exact Pre.zero | apply Pre.succ)))) | exact Zet (by first | exact Y3 | exact Zb5) rfl (Zgg _) hS (by first | trivial) (by first | trivial) (by assumption) (by rfl))) ?_)
   refine LtK.nil (Zae [Ff,Ff,Ff,Ff,Ff,Tt,Tt] [7] (fun b => b ≠ bs) (by decide +kernel) (by intro j hj b hb; simp only [List.mem_cons, List.not_mem_nil, or_false] at hj; (try rcases hj with rfl | rfl) <;> simp_all) (by repeat (first | exact PF.body | apply PF.then | apply PF.jump)) ?_)
   repeat (first | refine LtK.put rfl rfl rfl (by first | exact yv_slice_l (l := 1) (by first | exact Y1) rfl rfl rfl (by omega) | exact Zu rfl) ?_)
   refine LtK.nil (Yd [Ff,Ff,Ff,Ff,Tt] 4 ⟨by decide, by kernel_rfl, by kernel_rfl⟩ rfl rfl ?_)
   dsimp only [Z2]
   repeat (first | apply Zh | (apply Vd; first | refine Vo rfl rfl rfl (by kernel_rfl) rfl (next_p _ _ _) hS (fun w hS hB => ?_)))
   refine Ye (by first | assumption) ?_
   refine Xa [Ff,Ff,Ff,Ff,Ff,Ff,Ff,Tt] 7 ⟨by decide, by kernel_rfl, by kernel_rfl⟩ rfl rfl ?_
   dsimp only [Z2]
   repeat (first | apply Zh | (apply Xl; refine Zr rfl rfl rfl (by first | exact CellsOf.agg) hS (by repeat (first | exact Pos.head)) (by repeat (first | exact SetC.here (by repeat (first | exact Ovr.nil | apply Ovr.cons)))) (by kernel_rfl) rfl (fun w hS hB => ?_)))
   refine Yu (by first | exact hB.sub (fun _ _ h => by simpa using h)) ?_
   refine Zo [Ff,Ff,Ff,Ff,Ff,Ff,Ff,Ff,Tt] (by decide +kernel) (by repeat (first | exact PF.body | apply PF.then | apply PF.jump)) ?_
   repeat (first | refine LtK.put rfl rfl rfl (by first | exact Z7 rfl) ?_)
   refine LtK.nil (Z5 (by kernel_rfl) ?_)
   repeat (first | (apply Zd; assumption) | apply Jh | apply Xx)
   refine QH_jump0 ⟨bt, bs, _, _, 1, k - 1⟩ (by repeat (first | exact Sub.nil | refine Sub.cons rfl ?_)) ⟨by dsimp only; omega, by dsimp only; omega, by dsimp only; omega, ?_, ?_⟩
   ·dsimp only
    exact hrd.cutE (k := 1) (c := c) (by omega)
   ·dsimp only
    rw [htk]
    exact hS
theorem state_no (x : Tu) (A : OA) (c : Nat) (w0 : World) (h : -2000000000000 ≤ x.snap.index ∧ x.snap.index ≤ 2000000000000) (hsm : x.log.length ≤ 1000000) (i : Int) (hi : i < x.snap.index ∨ x.snap.index + x.log.length < i) :
  PureC Try.prog 63 #[.agg #[.int .i64 x.snap.index, .int .i64 x.snap.term, .int .i64 x.snap.sum, .int .i64 x.snap.level, .bool x.snap.final, .slice A x.log.length c, .int .i64 x.term, .int .i64 x.vote], .int .i64 i] w0 (.tuple #[.agg #[.int .i64 0, .int .i64 0, .int .i64 0, .int .i64 0, .bool false], .bool false]) := by
 refine PureC.mk (Xw Try.func63 rfl Try.ntmps63 rfl ?_)
 have hS := St0.start All w0
 repeat (first | apply Zh | (apply Zd; assumption) | (apply Zf; intro K hK) | apply Zg | (apply Vy; refine Yq rfl rfl rfl (by first | exact CellsOf.agg) hS (fun b w hS hB => ?_)) | (apply Za3; refine Yr rfl rfl (by first | exact zc_23) hS (fun b w hS hB => ?_)) | (apply Y7; refine Za rfl rfl rfl (by first | exact Z7 rfl) ?_))
 refine wpC_scope 0 (X := Unit) (fun _ => []) (fun _ _ => False) (fun _ => 0) rfl (fun _ _ h => h.elim) ?_
 intro hpass
 by_cases h1 : i < x.snap.index
 ·repeat (first | apply Zh | (apply Zd; assumption) | (apply Zf; intro K hK) | apply Zg | (apply Y7; refine Za4 rfl rfl rfl ?_) | (apply Xl; refine Zr rfl rfl rfl (by first | exact CellsOf.agg) hS (by repeat (first | exact Pos.head)) (by repeat (first | exact SetC.here (by repeat (first | exact Ovr.nil | apply Ovr.cons)))) (by kernel_rfl) rfl (fun w hS hB => ?_)) | (apply Y7; refine Za rfl rfl rfl (by first | exact Zu rfl | exact Z7 rfl | exact Zc (by first | exact Ys | exact Xe) rfl | (apply Yi; first | exact Zi (by first | exact Zy) rfl (Zgf _) hS (by repeat (first | exact Has.head | apply Has.tail)) (by first | trivial) (by repeat (first | exact Seg.here (Pre.succ Pre.zero))) | exact Zk (by first | exact Y3) rfl (Zgf _) hS (by repeat (first | exact Has.head)) (by first | trivial) (by repeat (first | exact Seg.here (by repeat (first | exact Pre.zero | apply Pre.succ))))) | (apply Y5; first | exact Zeg rfl rfl (by omega)) | (apply Vi; first | exact Z9 rfl rfl rfl)) ?_) | apply Zn rfl rfl | apply Zl | apply Ze | apply Yn)
  refine Zm rfl (by first | exact RV.cell rfl (Z3 (by first | exact Y3) hS (by repeat (first | exact Has.head)) (by repeat (first | exact Seg.here (by repeat (first | exact Pre.zero | apply Pre.succ))))) (RV.tmp rfl RV.nil)) rfl ?_
  exact ⟨rfl, hS.pure⟩
 ·have h2 : x.snap.index + x.log.length < i := by omega
  repeat (first | apply Zh | (apply Zd; assumption) | (apply Zf; intro K hK) | apply Zg | (apply Xl; refine Zr rfl rfl rfl (by first | exact CellsOf.agg) hS (by repeat (first | exact Pos.head)) (by repeat (first | exact SetC.here (by repeat (first | exact Ovr.nil | apply Ovr.cons)))) (by kernel_rfl) rfl (fun w hS hB => ?_)) | (apply Vd; first | refine Vo rfl rfl rfl (by kernel_rfl) rfl (last_any _ _ _ _ _ _ _ (by omega) (by omega)) hS (fun w hS hB => ?_)) | (apply Y7; refine Za rfl rfl rfl (by first | exact Zu rfl | exact Z7 rfl | exact Zc (by first | exact Ys | exact Xe) rfl | (apply Yi; first | exact Zi (by first | exact Zy) rfl (Zgf _) hS (by repeat (first | exact Has.head | apply Has.tail)) (by first | trivial) (by repeat (first | exact Seg.here (Pre.succ Pre.zero))) | exact Zk (by first | exact Y3 | exact V2) rfl (Zgf _) hS (by repeat (first | exact Has.head | apply Has.tail)) (by first | trivial) (by repeat (first | exact Seg.here (by repeat (first | exact Pre.zero | apply Pre.succ))))) | (apply Y5; first | exact Zcq rfl rfl (by omega) | exact yv_gtr_t rfl rfl (by omega)) | (apply Vi; first | exact Yk rfl rfl rfl)) ?_) | apply Zn rfl rfl | apply Zl | apply Ze | apply Yn)
  refine Zm rfl (by first | exact RV.cell rfl (Z3 (by first | exact Y3) hS (by repeat (first | exact Has.head)) (by repeat (first | exact Seg.here (by repeat (first | exact Pre.zero | apply Pre.succ))))) (RV.tmp rfl RV.nil)) rfl ?_
  exact ⟨rfl, hS.pure⟩
end
section
open Go Go.RowKit
set_option maxRecDepth 100000
theorem SlI.li {w : World} {A : OA} {c : Nat} {l : List En} (h : SlI w enE A c l) (hn : l.length ≤ 1000000) : LI w A l.length c l := ⟨rfl, hn, h.le, h.cap, h.rd⟩
theorem Sl.st0 {w w' : World} {A : OA} {n c k : Nat} {xs : List Value} (hs : Sl w w' A n c k xs) (hB : Below w.heap.size w w') : St0 All w w' [.rd A xs] := (St0.start All w).slice hs hB
theorem PureC.st0 {P : Program} {f : Nat} {args : Array Value} {w : World} {v : Value} (h : PureC P f args w v) : Calls P f args w fun e w' => e = .returned v ∧ St0 All w w' [] := h.run.mono fun _ _ h => ⟨h.1, (St0.start All w).below h.2⟩
theorem calls_st0 {P : Program} {f : Nat} {args : Array Value} {w : World} {v : Value} (h : Calls P f args w fun e w' => e = .returned v ∧ Below w.heap.size w w') : Calls P f args w fun e w' => e = .returned v ∧ St0 All w w' [] := h.mono fun _ _ h => ⟨h.1, (St0.start All w).below h.2⟩
def okT (x : Tu) : Bool := decide (x.log.length ≤ 1000000 ∧ -2000000000000 ≤ x.snap.index ∧ x.snap.index ≤ 2000000000000)
theorem okT_iff {x : Tu} : okT x = true ↔ x.log.length ≤ 1000000 ∧ -2000000000000 ≤ x.snap.index ∧ x.snap.index ≤ 2000000000000 := decide_eq_true_iff
def Zf2 (e : En) : Option Bool := some (Jm e)
theorem c_entry_Right (x0 : En) (w0 : World) {r : Bool} (H : Zf2 x0 = some r) : Calls Try.prog 117 #[.agg #[.int .i64 x0.term, .int .i64 x0.kind, .int .i64 x0.value]] w0 fun e w' => e = .returned (.bool r) ∧ St0 All w0 w' [] := by
 obtain rfl := QJ H
 exact calls_st0 (Ze5 x0 w0)
def Zcz (x : Tu) : Option Bool := cond (okT x) (some (Zas x)) none
theorem c_tuple_Right (x0 : Tu) (A0 : OA) (c0 : Nat) (w0 : World) (s0 : SlI w0 enE A0 c0 x0.log) {r : Bool} (H : Zcz x0 = some r) : Calls Try.prog 76 #[.agg #[.int .i64 x0.snap.index, .int .i64 x0.snap.term, .int .i64 x0.snap.sum, .int .i64 x0.snap.level, .bool x0.snap.final, .slice A0 x0.log.length c0, .int .i64 x0.term, .int .i64 x0.vote]] w0 fun e w' => e = .returned (.bool r) ∧ St0 All w0 w' [] := by
 unfold Zcz at H
 cases hb : okT x0 with
 | false => rw [hb] at H; cases H
 | true =>
  rw [hb] at H
  obtain rfl := QJ H
  have h := okT_iff.1 hb
  exact (right_any2 x0.snap A0 x0.log.length c0 x0.log x0.term x0.vote w0 (s0.li h.1) h.2 s0.blk).st0
def J5 (x : Tu) (i : Int) : Option (St × Bool) := cond (okT x) (cond (decide (x.snap.index ≤ i ∧ i ≤ x.snap.index + x.log.length)) (some (allS x.snap (x.log.take (i - x.snap.index).toNat), true)) (some (⟨0, 0, 0, 0, false⟩, false))) none
theorem c_tuple_State (x0 : Tu) (x1 : Int) (A0 : OA) (c0 : Nat) (w0 : World) (s0 : SlI w0 enE A0 c0 x0.log) {r : St × Bool} (H : J5 x0 x1 = some r) : Calls Try.prog 63 #[.agg #[.int .i64 x0.snap.index, .int .i64 x0.snap.term, .int .i64 x0.snap.sum, .int .i64 x0.snap.level, .bool x0.snap.final, .slice A0 x0.log.length c0, .int .i64 x0.term, .int .i64 x0.vote], .int .i64 x1] w0 fun e w' => e = .returned (.tuple #[.agg #[.int .i64 r.1.index, .int .i64 r.1.term, .int .i64 r.1.sum, .int .i64 r.1.level, .bool r.1.final], .bool r.2]) ∧ St0 All w0 w' [] := by
 unfold J5 at H
 cases hb : okT x0 with
 | false => rw [hb] at H; cases H
 | true =>
  rw [hb] at H
  have h := okT_iff.1 hb
  by_cases hi : x0.snap.index ≤ x1 ∧ x1 ≤ x0.snap.index + x0.log.length
  ·rw [decide_eq_true hi] at H
   obtain rfl := QJ H
   exact (state_yes x0 A0 c0 (x1 - x0.snap.index).toNat w0 h.2 (s0.li h.1) x1 (by omega) (by omega)).st0
  ·rw [decide_eq_false hi] at H
   obtain rfl := QJ H
   exact (state_no x0 A0 c0 w0 h.2 h.1 x1 (by omega)).st0
def Zga (x : Tu) (res : Option Tu) : Tu × Int := (Zct x res, chgE x res)
theorem chg_st0 {w0 : World} {x : Tu} {res : Option Tu} {e : Ending} {w' : World} (h : Chg w0 x res e w') : ∃ (A0 : OA) (c0 : Nat), e = .returned (.tuple #[.agg #[.int .i64 (Zga x res).1.snap.index, .int .i64 (Zga x res).1.snap.term, .int .i64 (Zga x res).1.snap.sum, .int .i64 (Zga x res).1.snap.level, .bool (Zga x res).1.snap.final, .slice A0 (Zga x res).1.log.length c0, .int .i64 (Zga x res).1.term, .int .i64 (Zga x res).1.vote], .int .i64 (Zga x res).2]) ∧ ((Zga x res).1.log.length ≤ c0 ∧ c0 ≤ maxLen) ∧ St0 All w0 w' [.rd A0 (Z8 enE (Zga x res).1.log)] := by
 obtain ⟨A, c, ⟨rfl, hs⟩, hB⟩ := h
 exact ⟨A, c, rfl, ⟨hs.le, hs.cap⟩, hs.st0 hB⟩
def Zb9 (x : Tu) (l : List En) : Option (Tu × Int) := cond (decide (x.log.length ≤ 1000000 ∧ l.length ≤ 300)) (some (Zga x (some { x with log := x.log ++ l }))) none
theorem c_tuple_Append (x0 : Tu) (x1 : List En) (A0 : OA) (c0 : Nat) (A1 : OA) (c1 : Nat) (w0 : World) (s0 : SlI w0 enE A0 c0 x0.log) (s1 : SlI w0 enE A1 c1 x1) {r : Tu × Int} (H : Zb9 x0 x1 = some r) : Calls Try.prog 53 #[.agg #[.int .i64 x0.snap.index, .int .i64 x0.snap.term, .int .i64 x0.snap.sum, .int .i64 x0.snap.level, .bool x0.snap.final, .slice A0 x0.log.length c0, .int .i64 x0.term, .int .i64 x0.vote], .slice A1 x1.length c1] w0 fun e w' => ∃ (A0 : OA) (c0 : Nat), e = .returned (.tuple #[.agg #[.int .i64 r.1.snap.index, .int .i64 r.1.snap.term, .int .i64 r.1.snap.sum, .int .i64 r.1.snap.level, .bool r.1.snap.final, .slice A0 r.1.log.length c0, .int .i64 r.1.term, .int .i64 r.1.vote], .int .i64 r.2]) ∧ (r.1.log.length ≤ c0 ∧ c0 ≤ maxLen) ∧ St0 All w0 w' [.rd A0 (Z8 enE r.1.log)] := by
 unfold Zb9 at H
 by_cases h : x0.log.length ≤ 1000000 ∧ x1.length ≤ 300
 ·rw [decide_eq_true h] at H
  obtain rfl := QJ H
  exact (append_any x0 A0 A1 c0 x1.length c1 x1 w0 (s0.li h.1) s0.blk (s1.li (by omega)) h.2).mono fun _ _ h => chg_st0 h
 ·rw [decide_eq_false h] at H; cases H
def J6 (x : Tu) (t v : Int) : Option (Tu × Int) := cond (decide (x.log.length ≤ 1000000)) (some (Zga x (hardR x t v))) none
theorem Ze0 (x0 : Tu) (x1 x2 : Int) (A0 : OA) (c0 : Nat) (w0 : World) (s0 : SlI w0 enE A0 c0 x0.log) {r : Tu × Int} (H : J6 x0 x1 x2 = some r) : Calls Try.prog 49 #[.agg #[.int .i64 x0.snap.index, .int .i64 x0.snap.term, .int .i64 x0.snap.sum, .int .i64 x0.snap.level, .bool x0.snap.final, .slice A0 x0.log.length c0, .int .i64 x0.term, .int .i64 x0.vote], .int .i64 x1, .int .i64 x2] w0 fun e w' => ∃ (A0 : OA) (c0 : Nat), e = .returned (.tuple #[.agg #[.int .i64 r.1.snap.index, .int .i64 r.1.snap.term, .int .i64 r.1.snap.sum, .int .i64 r.1.snap.level, .bool r.1.snap.final, .slice A0 r.1.log.length c0, .int .i64 r.1.term, .int .i64 r.1.vote], .int .i64 r.2]) ∧ (r.1.log.length ≤ c0 ∧ c0 ≤ maxLen) ∧ St0 All w0 w' [.rd A0 (Z8 enE r.1.log)] := by
 unfold J6 at H
 by_cases h : x0.log.length ≤ 1000000
 ·rw [decide_eq_true h] at H
  obtain rfl := QJ H
  exact (hard_any x0 A0 c0 x1 x2 w0 (s0.li h) s0.blk).mono fun _ _ h => chg_st0 h
 ·rw [decide_eq_false h] at H; cases H
end
section
open Go Go.RowKit
set_option maxRecDepth 100000
theorem FineP.bounds {s : St} (h : FineP s) : 0 ≤ s.index ∧ s.index ≤ 1073741824 ∧ 0 ≤ s.sum ∧ s.sum ≤ 1073741824 := by
 rcases h with rfl | h
 ·simp [firstS]
 ·omega
theorem next_data (s : St) (hf : FineP s) (hi : s.index < 1073741824) (v : Int) (h0 : 0 ≤ v) (h1 : v ≤ 1073741824) : Zbk s ⟨1, 1, v⟩ = ⟨s.index + 1, 1, (31 * s.sum + v + 1) % 1073741824, s.level, s.final⟩ := by
 unfold Zbk
 rw [if_pos ⟨by simp [Jm, h0, h1], (Zcl s).2 hf, hi⟩]
 rfl
def SumInv (l : List Int) (q : Nat) (value : Int) (s : St) (k : Nat) (a b : St) : Prop :=
 FineP a ∧ FineP b ∧ a.index = s.index + k ∧ b.index = s.index + k ∧ (k ≤ q → a = b) ∧
  (q < k → a.sum < 1073741824 ∧ b.sum < 1073741824 ∧ ∃ x, l[q]? = some x ∧ 0 ≤ x ∧ x ≤ 999 ∧
   ((k = q + 1 ∧ (a.sum - b.sum - (x - value)) % 1073741824 = 0) ∨ (k = q + 2 ∧ (a.sum - b.sum - 31 * (x - value)) % 1073741824 = 0) ∨ (k = q + 3 ∧ (a.sum - b.sum - 961 * (x - value)) % 1073741824 = 0)))
theorem SumInv.start (l : List Int) (q : Nat) (value : Int) (s : St) (h : FineP s) : SumInv l q value s 0 s s := ⟨h, h, by simp, by simp, fun _ => rfl, fun h => by omega⟩
theorem SumInv.step {l : List Int} {q : Nat} {value : Int} {s : St} {k : Nat} {a b : St} (h : SumInv l q value s k a b) (hs : s.index ≤ 1073741624) (hk : k < 3) (v : Int) (hv : l[k]? = some v) (h0 : 0 ≤ v) (h1 : v ≤ 999) (g0 : 0 ≤ value) (g1 : value ≤ 999) :
  SumInv l q value s (k + 1) (Zbk a ⟨1, 1, v⟩) (Zbk b ⟨1, 1, if k = q then value else v⟩) := by
 obtain ⟨fa, fb, ia, ib, he, hd⟩ := h
 refine ⟨nextS_fine _ _ fa, nextS_fine _ _ fb, ?_⟩
 have va : 0 ≤ (if k = q then value else v) ∧ (if k = q then value else v) ≤ 999 := by split <;> omega
 rw [next_data a fa (by omega) v h0 (by omega), next_data b fb (by omega) _ va.1 (by omega)]
 refine ⟨by show a.index + 1 = _; omega, by show b.index + 1 = _; omega, fun hkq => ?_, fun hkq => ?_⟩
 ·rw [if_neg (by omega), he (by omega)]
 ·refine ⟨by show _ % _ < _; omega, by show _ % _ < _; omega, ?_⟩
  by_cases e : k = q
  ·subst e
   refine ⟨v, hv, h0, h1, .inl ⟨rfl, ?_⟩⟩
   rw [if_pos rfl, he (by omega)]
   show ((31 * b.sum + v + 1) % 1073741824 - (31 * b.sum + value + 1) % 1073741824 - (v - value)) % 1073741824 = 0
   omega
  ·obtain ⟨_, _, x, hx, x0, x1, hh⟩ := hd (by omega)
   refine ⟨x, hx, x0, x1, ?_⟩
   rw [if_neg e]
   have goal : ∀ c : Int, (a.sum - b.sum - c) % 1073741824 = 0 → ((31 * a.sum + v + 1) % 1073741824 - (31 * b.sum + v + 1) % 1073741824 - 31 * c) % 1073741824 = 0 := fun c hc => by omega
   rcases hh with ⟨rfl, hh⟩ | ⟨rfl, hh⟩ | ⟨rfl, hh⟩
   ·exact .inr (.inl ⟨rfl, goal _ hh⟩)
   ·refine .inr (.inr ⟨rfl, ?_⟩)
    have := goal _ hh
    show ((31 * a.sum + v + 1) % 1073741824 - (31 * b.sum + v + 1) % 1073741824 - 961 * (x - value)) % 1073741824 = 0
    omega
   ·omega
theorem SumInv.last {l : List Int} {q : Nat} {value : Int} {s : St} {k : Nat} {a b : St} (h : SumInv l q value s k a b) (hq : q < k) (g0 : 0 ≤ value) (g1 : value ≤ 999) {x : Int} (hx : l[q]? = some x) :
  ((a.sum == b.sum) == (x == value)) = true := by
 obtain ⟨fa, fb, _, _, _, hd⟩ := h
 obtain ⟨la, lb, x', hx', x0, x1, hh⟩ := hd hq
 rw [hx] at hx'
 obtain rfl := QJ hx'
 have ba := fa.bounds
 have bb := fb.bounds
 rw [beq_iff_eq, Bool.eq_iff_iff, beq_iff_eq, beq_iff_eq]
 omega
end
section
open Go Go.RowKit
set_option maxRecDepth 100000
end
section
end
section
open Go Go.RowKit
set_option maxRecDepth 100000
end
section
open Go Go.RowKit Go.Shelf
set_option maxRecDepth 100000
attribute [local go_sem] Oper.semAt_some
end
section
open Go Go.RowKit Go.Shelf
set_option maxRecDepth 100000
theorem run_store_func {P : Program} {w : World} {a : Addr} (f : Fn) (vs bs : Array Value) (m : Mode) : (store a (.func f vs bs) m).run P w = stored P w a (.func f vs bs) m := run_store P w a _ m rfl
attribute [local go_sem] run_store_func
end
section
open Go Go.RowKit Go.Shelf
set_option maxRecDepth 100000
end
section
open Go Go.RowKit
set_option maxRecDepth 100000
end
section
open Go Go.RowKit
set_option maxRecDepth 100000
theorem Zdj {n : Int} (h : -9223372036854775808 ≤ n ∧ n ≤ 9223372036854775807) : IntKind.wrap .i64 n = n := i64_in' h
theorem Vx {α : Type} (l : List α) (k : Nat) : idx l (k : Int) = l[k]? := by unfold idx; simp
theorem takeI_nat {α : Type} (l : List α) (k : Nat) (h : k ≤ l.length) : takeI l (k : Int) = some (l.take k) := by unfold takeI; rw [if_pos (by omega)]; simp
theorem fewI_ok {α : Type} (l : List α) (h : l.length ≤ 1000000000) : fewI l = some l := if_pos h
theorem makeI_nat {α : Type} (z : α) (n : Nat) (h : n ≤ 1000000000) : makeI z (n : Int) = some (List.replicate n z) := by unfold makeI; rw [if_pos (by omega)]; simp
theorem Vj {α : Type} {l : List α} {k : Nat} (h : k < l.length) : ∃ e, l[k]? = some e ∧ l.drop k = e :: l.drop (k + 1) := ⟨l[k], List.getElem?_eq_getElem h, List.drop_eq_getElem_cons h⟩
theorem snap_eq (a b : St) : (decide (a.index = b.index) && (decide (a.term = b.term) && (decide (a.sum = b.sum) && (decide (a.level = b.level) && decide (a.final = b.final))))) = decide (a = b) := by
 obtain ⟨a1, a2, a3, a4, a5⟩ := a; obtain ⟨b1, b2, b3, b4, b5⟩ := b
 rw [Bool.eq_iff_iff]; simp
theorem en_eq (a b : En) : (decide (a.term = b.term) && (decide (a.kind = b.kind) && decide (a.value = b.value))) = decide (a = b) := by
 obtain ⟨a1, a2, a3⟩ := a; obtain ⟨b1, b2, b3⟩ := b
 rw [Bool.eq_iff_iff]; simp
end
section
open Go Go.RowKit
set_option maxRecDepth 100000
def Za5 (id : Int) : Nat → Nat → List Int
 | _, 0 => []
 | k, m + 1 => if (k : Int) ≠ id then (k : Int) :: Za5 id (k + 1) m else Za5 id (k + 1) m
def m_it_others (x0 : Co) : Option (List Int) := some (Za5 x0.id 1 (min x0.n 5).toNat)
theorem it_others (x0 : Co) {A0 A1 A2 A3 A4 : OA} {c0 c1 c2 c3 c4 : Nat} (wB wM w : World) (hB0 : Below wB.heap.size wB wM) (b : Nat) (hN : St0 All wM w [.box b [.int .i64 x0.id, .int .i64 x0.n, .int .u8 x0.role, .int .i64 x0.binary, .int .i64 x0.tuple.snap.index, .int .i64 x0.tuple.snap.term, .int .i64 x0.tuple.snap.sum, .int .i64 x0.tuple.snap.level, .bool x0.tuple.snap.final, .slice A0 x0.tuple.log.length c0, .int .i64 x0.tuple.term, .int .i64 x0.tuple.vote, .int .i64 x0.commit, .int .i64 x0.applied.index, .int .i64 x0.applied.term, .int .i64 x0.applied.sum, .int .i64 x0.applied.level, .bool x0.applied.final, .slice A1 x0.votes.length c1, .slice A2 x0.next.length c2, .slice A3 x0.mtch.length c3, .slice A4 x0.caps.length c4] 30]) {xs : List Int} (H : m_it_others x0 = some xs) :
  IterP Try.prog 110 #[.pointer (some ⟨b, 0, none⟩)] (fun p : Int => [Value.int .i64 p].toArray) xs wB.heap.size wM.heap.size w := by
 obtain rfl := QJ H
 obtain ⟨hb, hbM, hbl⟩ := hN.cap
 intro lo J Jx Jp W hW hJ hJx hJp hy h0
 have hbW : W.heap[b]? = some (.cells #[.int .i64 x0.id, .int .i64 x0.n, .int .u8 x0.role, .int .i64 x0.binary, .int .i64 x0.tuple.snap.index, .int .i64 x0.tuple.snap.term, .int .i64 x0.tuple.snap.sum, .int .i64 x0.tuple.snap.level, .bool x0.tuple.snap.final, .slice A0 x0.tuple.log.length c0, .int .i64 x0.tuple.term, .int .i64 x0.tuple.vote, .int .i64 x0.commit, .int .i64 x0.applied.index, .int .i64 x0.applied.term, .int .i64 x0.applied.sum, .int .i64 x0.applied.level, .bool x0.applied.final, .slice A1 x0.votes.length c1, .slice A2 x0.next.length c2, .slice A3 x0.mtch.length c3, .slice A4 x0.caps.length c4] 30) := (hW.block b hbl).trans hb
 show Calls _ _ #[_, _] _ _
 refine Xw Try.func110 rfl Try.ntmps110 rfl ?_
 have hS := St0.start All W
 obtain ⟨M, hM⟩ : ∃ M, M = (min x0.n 5).toNat := ⟨_, rfl⟩
 rw [← hM] at hy
 try rw [← hM]
 repeat (first | apply Zh | (apply Zd; assumption) | (apply Zf; intro K hK) | apply Zg | (apply Y7; refine Za rfl rfl rfl (by first | exact Z7 rfl) ?_) | apply Z6)
 refine Vp (X := Nat × List Int) (fun z => [(3, .int .i64 z.1), (1, .pointer (some ⟨b, 0, none⟩)), (0, .func (.yield lo) #[] #[])])
  (fun z B => (1 ≤ z.1 ∧ z.1 ≤ M + 1) ∧ Za5 x0.id 1 M = z.2 ++ Za5 x0.id z.1 (M + 1 - z.1) ∧ J z.2.length B ∧ B.heap[b]? = some (.cells #[.int .i64 x0.id, .int .i64 x0.n, .int .u8 x0.role, .int .i64 x0.binary, .int .i64 x0.tuple.snap.index, .int .i64 x0.tuple.snap.term, .int .i64 x0.tuple.snap.sum, .int .i64 x0.tuple.snap.level, .bool x0.tuple.snap.final, .slice A0 x0.tuple.log.length c0, .int .i64 x0.tuple.term, .int .i64 x0.tuple.vote, .int .i64 x0.commit, .int .i64 x0.applied.index, .int .i64 x0.applied.term, .int .i64 x0.applied.sum, .int .i64 x0.applied.level, .bool x0.applied.final, .slice A1 x0.votes.length c1, .slice A2 x0.next.length c2, .slice A3 x0.mtch.length c3, .slice A4 x0.caps.length c4] 30) ∧ w.heap.size ≤ B.heap.size) (fun z => M + 1 - z.1) (1, []) (by repeat (first | exact Sub.nil | refine Sub.cons rfl ?_)) ⟨by dsimp only; omega, by simp, h0, hbW, hW.size⟩ ?_
 rintro ⟨k, done⟩ B ⟨⟨hk1, hk2⟩, hxs, hJk, hbB, hz⟩
 dsimp only at hk1 hk2 hxs hJk
 dsimp only
 clear hbW hS h0
 have hS := St0.start All B
 rcases Nat.lt_or_ge M k with hge | hlt
 ·obtain rfl : k = M + 1 := by omega
  have e0 : M + 1 - (M + 1) = 0 := by omega
  rw [e0] at hxs
  rw [show Za5 x0.id (M + 1) 0 = [] from rfl, List.append_nil] at hxs
  repeat (first | apply Zh | (apply Zd; assumption) | (apply Zf; intro K hK) | apply Zg | (apply Y7; refine Za rfl rfl rfl (by first | exact Zu rfl | exact Zc (by first | exact Ys | exact Yx) rfl | (apply Yi; first | exact Vn (by first | exact Zy) rfl (Zgf _) hS (by first | trivial) (by first | trivial) (by assumption) (by repeat (first | exact Seg.here (Pre.succ Pre.zero) | apply Seg.succ))) | (apply Y5; first | exact yv_leq_f rfl rfl (by omega)) | (apply Js; first | exact yv_min rfl rfl)) ?_) | apply Ym rfl rfl | apply Xy | apply Z4 | apply Yz)
  refine Zel rfl (by first | exact RV.nil) rfl ?_
  refine .inl ⟨⟨_, rfl⟩, .inl ?_⟩
  rw [hxs]
  exact hJ _ _ _ hJk (hS.base.sub fun _ _ _ => trivial)
 ·have hkn : (k : Int) ≤ min x0.n 5 := by omega
  have e0 : M + 1 - k = (M + 1 - (k + 1)) + 1 := by omega
  rw [e0, Za5] at hxs
  by_cases hid : (k : Int) ≠ x0.id
  ·rw [if_pos hid] at hxs
   repeat (first | (apply Zf; intro K hK))
   apply Zg
   repeat (first | apply Zh | (apply Zd; assumption) | (apply Zf; intro K hK) | (apply Y7; refine Za rfl rfl rfl (by first | exact Zu rfl | exact Zc (by first | exact Ys | exact Yx) rfl | (apply Yi; first | exact Vn (by first | exact Zy) rfl (Zgf _) hS (by first | trivial) (by first | trivial) (by assumption) (by repeat (first | exact Seg.here (Pre.succ Pre.zero) | apply Seg.succ))) | (apply Y5; first | exact Zfg rfl rfl (by omega)) | (apply Js; first | exact yv_min rfl rfl)) ?_) | apply Zn rfl rfl | apply Zv | apply Z6)
   refine Zfp 7 (by repeat (first | exact NL.body (by intro _ h; simp at h) | apply NL.then | apply NL.inBlock)) (by kernel_rfl) ?_
   dsimp only [List.take, List.drop]
   repeat (first | apply Zh | (apply Y7; refine Za rfl rfl rfl (by first | exact Zu rfl | exact Zc (by first | exact Ys | exact Xb) rfl | (apply Yi; first | exact Vn (by first | exact Zy) rfl (Zgf _) hS (by first | trivial) (by first | trivial) (by assumption) (by repeat (first | exact Seg.here (Pre.succ Pre.zero)))) | (apply Y5; first | exact yv_neq_t rfl rfl (by omega))) ?_))
   refine QH_Y ?_
   have hk1' : KeepB All B B := hS.base
   refine wpSI_yield rfl rfl rfl rfl (hy done.length (k : Int) B (by rw [hxs]; simp) (hJ _ B B hJk (hk1'.sub fun _ _ _ => trivial)) hz) ?_
   rintro ex w2 (⟨rfl, hJ2, hk2'⟩ | ⟨rfl, hJ2, hk2'⟩ | ⟨ch, rfl, hJ2⟩)
   ·refine .inl ⟨_, rfl, Zdx (by repeat (first | exact NL.body (by intro _ h; simp at h) | apply NL.then | apply NL.inBlock)) (by kernel_rfl) ?_⟩
    have hS := St0.start All w2
    repeat (first | apply Zh | (apply Zd; assumption) | apply Zg | (apply Y7; refine Za rfl rfl rfl (by first | exact Zu rfl | exact Z7 rfl | (apply Y5; first | exact Zfj rfl rfl (by omega)) | (apply Vi; first | exact Z9 rfl rfl rfl) | exact Yt rfl) ?_) | apply Ym rfl rfl | apply Zv | apply Zw)
    refine Xo (k + 1, done ++ [(k : Int)]) (by repeat (first | exact Sub.nil | refine Sub.cons rfl ?_)) ⟨by dsimp only; omega, by dsimp only; rw [hxs]; simp, ?_, ?_, ?_⟩ (by dsimp only; omega)
    ·dsimp only; rw [List.length_append]; exact hJ2
    ·exact (hk2'.block b (Nat.lt_of_lt_of_le hbl hz) (.inr ⟨hbM, hbl⟩)).trans hbB
    ·exact Nat.le_trans hz hk2'.size
   ·refine .inl ⟨_, rfl, Zdx (by repeat (first | exact NL.body (by intro _ h; simp at h) | apply NL.then | apply NL.inBlock)) (by kernel_rfl) ?_⟩
    have hS := St0.start All w2
    repeat (first | apply Zh | (apply Zd; assumption) | (apply Y7; refine Za rfl rfl rfl (by first | (apply Vi; first | exact Z9 rfl rfl rfl) | exact Yt rfl) ?_) | apply Zn rfl rfl | apply Zl | apply Ze | apply Zj)
    refine Zm rfl (by first | exact RV.nil) rfl ?_
    exact .inl ⟨⟨_, rfl⟩, .inr hJ2⟩
   ·refine .inr ⟨ch, rfl, ?_⟩
    repeat (first | apply Vb | apply Zbl)
    exact Ju rfl (.inr ⟨ch, rfl, hJ2⟩)
  ·rw [if_neg hid] at hxs
   have hid' : (k : Int) = x0.id := by omega
   repeat (first | apply Zh | (apply Zd; assumption) | (apply Zf; intro K hK) | apply Zg | (apply Y7; refine Za4 rfl rfl rfl ?_) | (apply Y7; refine Za rfl rfl rfl (by first | exact Zu rfl | exact Z7 rfl | exact Zc (by first | exact Ys | exact Xb | exact Yx) rfl | (apply Yi; first | exact Vn (by first | exact Zy) rfl (Zgf _) hS (by first | trivial) (by first | trivial) (by assumption) (by repeat (first | exact Seg.here (Pre.succ Pre.zero) | apply Seg.succ))) | (apply Y5; first | exact Zfg rfl rfl (by omega) | exact yv_neq_f rfl rfl (by omega) | exact Zfj rfl rfl (by omega)) | (apply Vi; first | exact Yk rfl rfl rfl) | (apply Js; first | exact yv_min rfl rfl)) ?_) | apply Zn rfl rfl | apply Ym rfl rfl | apply Zv | apply Z6 | apply Zw)
   refine Xo (k + 1, done) (by repeat (first | exact Sub.nil | refine Sub.cons rfl ?_)) ⟨by dsimp only; omega, by dsimp only; exact hxs, ?_, ?_, ?_⟩ (by dsimp only; omega)
   ·exact hJ _ _ _ hJk (hS.base.sub fun _ _ _ => trivial)
   ·exact (hS.base.block b (Nat.lt_of_lt_of_le hbl hz) trivial).trans hbB
   ·exact Nat.le_trans hz hS.base.size
end
section
open Go Go.RowKit
set_option maxRecDepth 100000
end
section
open Go Go.RowKit
set_option maxRecDepth 100000
def votesL : Nat → List Bool → List Int
 | _, [] => []
 | k, h :: t => if h = true then (k : Int) :: votesL (k + 1) t else votesL (k + 1) t
def m_it_votes (x0 : List Bool) : Option (List Int) := if x0.length ≤ 1000000 then some (votesL 0 x0) else none
theorem it_votes (x0 : List Bool) {A0 : OA} {c0 : Nat} (wB wM w : World) (s0 : SlI wB enO A0 c0 x0) (hB0 : Below wB.heap.size wB wM) (b : Nat) (hN : St0 All wM w [.box b [.slice A0 x0.length c0] 27]) {xs : List Int} (H : m_it_votes x0 = some xs) :
  IterP Try.prog 102 #[.pointer (some ⟨b, 0, none⟩)] (fun p : Int => [Value.int .i64 p].toArray) xs wB.heap.size wM.heap.size w := by
 unfold m_it_votes at H
 split at H
 case isFalse => cases H
 rename_i hl9
 obtain rfl := QJ H
 obtain ⟨hb, hbM, hbl⟩ := hN.cap
 have hA : Rd w A0 (Z8 enO x0) := (s0.rd.below hB0).below hN.pure
 have hAn := s0.blk
 have hlc := s0.k
 intro lo J Jx Jp W hW hJ hJx hJp hy h0
 have hbW : W.heap[b]? = some (.cells #[.slice A0 x0.length c0] 27) := (hW.block b hbl).trans hb
 have hAW := hA.below hW
 show Calls _ _ #[_, _] _ _
 refine Xw Try.func102 rfl Try.ntmps102 rfl ?_
 have hS := St0.start All W
 repeat (first | apply Zh | (apply Zd; assumption) | (apply Zf; intro K hK) | apply Zg | (apply Y7; refine Za rfl rfl rfl (by first | exact Zu rfl | (apply Yi; first | exact Vn (by first | exact Zf9) rfl (Zgf _) hS (by first | trivial) (by first | trivial) (by assumption) (by repeat (first | exact Seg.here (Pre.succ Pre.zero)))) | (apply Js; first | exact Yb (by first | exact Zff) rfl)) ?_) | apply Z6)
 refine Vp (X := Nat × List Int) (fun z => [(7, .int .i64 z.1), (6, .int .i64 x0.length), (5, .slice A0 x0.length c0), (1, .pointer (some ⟨b, 0, none⟩)), (0, .func (.yield lo) #[] #[])])
  (fun z B => z.1 ≤ x0.length ∧ votesL 0 x0 = z.2 ++ votesL z.1 (x0.drop z.1) ∧ J z.2.length B ∧ Rd B A0 (Z8 enO x0) ∧ w.heap.size ≤ B.heap.size) (fun z => x0.length - z.1) (0, []) (by repeat (first | exact Sub.nil | refine Sub.cons rfl ?_)) ⟨Nat.zero_le _, by simp, h0, hAW, hW.size⟩ ?_
 rintro ⟨k, done⟩ B ⟨hk, hxs, hJk, hAB, hz⟩
 dsimp only at hk hxs hJk
 dsimp only
 clear hbW hAW hS h0
 have hS := St0.start All B
 rcases Nat.lt_or_ge k x0.length with hlt | hge
 ·obtain ⟨e, he, hd⟩ := Vj hlt
  rw [hd, votesL] at hxs
  have hEl := Rd.el hAB Zco he
  cases e with
  | true =>
   rw [if_pos rfl] at hxs
   repeat (first | (apply Zf; intro K hK))
   apply Zg
   repeat (first | apply Zh | (apply Zd; assumption) | (apply Zf; intro K hK) | (apply Y7; refine Za rfl rfl rfl (by first | (apply Y5; first | exact Zeg rfl rfl (by omega))) ?_) | apply Zn rfl rfl | apply Zv | apply Z6)
   apply Zg
   repeat (first | apply Zh | (apply Zd; assumption) | (apply Zf; intro K hK) | (apply Y7; refine Za rfl rfl rfl (by first | exact Y2 (by first | exact Zff) rfl rfl rfl hlt hEl | exact Zav (by first | exact Zgb | exact sc_4) rfl (Zgf _) hEl rfl | exact Zu rfl | exact Z7 rfl) ?_))
   refine Zfp 4 (by repeat (first | exact NL.body (by intro _ h; simp at h) | apply NL.then | apply NL.inBlock)) (by kernel_rfl) ?_
   dsimp only [List.take, List.drop]
   repeat (first | apply Zh | (apply Y7; refine Za rfl rfl rfl (by first | exact Zu rfl) ?_))
   refine QH_Y ?_
   have hk1 : KeepB All B B := hS.base
   refine wpSI_yield rfl rfl rfl rfl (hy done.length (k : Int) B (by rw [hxs]; simp) (hJ _ B B hJk (hk1.sub fun _ _ _ => trivial)) hz) ?_
   rintro ex w2 (⟨rfl, hJ2, hk2⟩ | ⟨rfl, hJ2, hk2⟩ | ⟨ch, rfl, hJ2⟩)
   ·refine .inl ⟨_, rfl, Zdx (by repeat (first | exact NL.body (by intro _ h; simp at h) | apply NL.then | apply NL.inBlock)) (by kernel_rfl) ?_⟩
    have hS := St0.start All w2
    repeat (first | apply Zh | (apply Zd; assumption) | apply Zg | (apply Y7; refine Za rfl rfl rfl (by first | exact Zu rfl | (apply Y5; first | exact Zfj rfl rfl (by omega)) | (apply Vi; first | exact Z9 rfl rfl rfl) | exact Yt rfl) ?_) | apply Ym rfl rfl | apply Zv | apply Zw)
    refine Xo (k + 1, done ++ [(k : Int)]) (by repeat (first | exact Sub.nil | refine Sub.cons rfl ?_)) ⟨hlt, by dsimp only; rw [hxs]; simp, ?_, ?_, ?_⟩ (by dsimp only; omega)
    ·dsimp only; rw [List.length_append]; exact hJ2
    ·exact hk2.rd hAB (fun p hp => .inl (hAn p hp))
    ·exact Nat.le_trans hz hk2.size
   ·refine .inl ⟨_, rfl, Zdx (by repeat (first | exact NL.body (by intro _ h; simp at h) | apply NL.then | apply NL.inBlock)) (by kernel_rfl) ?_⟩
    have hS := St0.start All w2
    repeat (first | apply Zh | (apply Zd; assumption) | (apply Y7; refine Za rfl rfl rfl (by first | (apply Vi; first | exact Z9 rfl rfl rfl) | exact Yt rfl) ?_) | apply Zn rfl rfl | apply Zl | apply Ze | apply Zj)
    refine Zm rfl (by first | exact RV.nil) rfl ?_
    exact .inl ⟨⟨_, rfl⟩, .inr hJ2⟩
   ·refine .inr ⟨ch, rfl, ?_⟩
    repeat (first | apply Vb | apply Zbl)
    exact Ju rfl (.inr ⟨ch, rfl, hJ2⟩)
  | false =>
   rw [if_neg (by decide)] at hxs
   repeat (first | (apply Zf; intro K hK))
   apply Zg
   repeat (first | apply Zh | (apply Zd; assumption) | (apply Zf; intro K hK) | (apply Y7; refine Za rfl rfl rfl (by first | (apply Y5; first | exact Zeg rfl rfl (by omega))) ?_) | apply Zn rfl rfl | apply Zv | apply Z6)
   apply Zg
   repeat (first | apply Zh | (apply Zd; assumption) | (apply Zf; intro K hK) | (apply Y7; refine Za rfl rfl rfl (by first | exact Y2 (by first | exact Zff) rfl rfl rfl hlt hEl | exact Zav (by first | exact Zgb | exact sc_4) rfl (Zgf _) hEl rfl | exact Zu rfl | exact Z7 rfl) ?_))
   refine Zfp 4 (by repeat (first | exact NL.body (by intro _ h; simp at h) | apply NL.then | apply NL.inBlock)) (by kernel_rfl) ?_
   dsimp only [List.take, List.drop]
   repeat (first | apply Zh | (apply Y7; refine Za4 rfl rfl rfl ?_) | (apply Y7; refine Za rfl rfl rfl (by first | exact Zu rfl) ?_))
   refine QH_Y (Zdx (by repeat (first | exact NL.body (by intro _ h; simp at h) | apply NL.then | apply NL.inBlock)) (by kernel_rfl) ?_)
   repeat (first | apply Zh | (apply Zd; assumption) | apply Zg | (apply Y7; refine Za4 rfl rfl rfl ?_) | (apply Y7; refine Za rfl rfl rfl (by first | exact Zu rfl | (apply Y5; first | exact Zfj rfl rfl (by omega)) | (apply Vi; first | exact Yk rfl rfl rfl)) ?_) | apply Ym rfl rfl | apply Zv | apply Zw)
   refine Xo (k + 1, done) (by repeat (first | exact Sub.nil | refine Sub.cons rfl ?_)) ⟨hlt, hxs, ?_, ?_, ?_⟩ (by dsimp only; omega)
   ·exact hJ _ _ _ hJk (hS.base.sub fun _ _ _ => trivial)
   ·exact hAB
   ·exact hz
 ·obtain rfl : k = x0.length := by omega
  rw [List.drop_length, votesL, List.append_nil] at hxs
  repeat (first | apply Zh | (apply Zd; assumption) | (apply Zf; intro K hK) | apply Zg | (apply Y7; refine Za rfl rfl rfl (by first | (apply Y5; first | exact Zcq rfl rfl (by omega))) ?_) | apply Ym rfl rfl | apply Xy | apply Z4 | apply Yz)
  refine Zel rfl (by first | exact RV.nil) rfl ?_
  refine .inl ⟨⟨_, rfl⟩, .inl ?_⟩
  rw [hxs]
  exact hJ _ _ _ hJk (hS.base.sub fun _ _ _ => trivial)
end
section
open Go Go.RowKit
set_option maxRecDepth 100000
section
variable {P : Program} {N : FS} {L : List (Nat × Value)} {w : World} {Q : Exit → Act → World → Prop}
theorem wpC_peel {X : Type} {ro : Option Nat} {c : Code} (Lx : X → List (Nat × Value)) (J : X → World → Prop) (μ : X → Nat) (M : Nat) (L0 : List (Nat × Value)) (hs : Sub L0 L)
  (round : ∀ x w, J x w → wpC P ro c (Exit.then (Again N Lx J μ x) Q) N (Lx x) w)
  (first : wpC P ro c (Exit.then (fun a w' => ∃ x, Fr N (Lx x) a ∧ J x w' ∧ μ x < M) Q) N L0 w) : wpC P ro (.loop c) Q N L w := by
 refine Vp (X := Option X) (fun o => o.elim L0 Lx) (fun o w' => match o with | none => w' = w | some x => J x w') (fun o => o.elim M μ) none hs rfl ?_
 rintro (_ | x) w' h
 ·subst h
  refine .mk fun a hF => Zb3 (first.go a hF) fun e a' w' he => ?_
  cases e with
  | normal =>
   obtain ⟨x, h1, h2, h3⟩ := he
   exact ⟨some x, h1, h2, h3⟩
  | _ => exact he
 ·refine .mk fun a hF => Zb3 ((round x w' h).go a hF) fun e a' w' he => ?_
  cases e with
  | normal =>
   obtain ⟨x', h1, h2, h3⟩ := he
   exact ⟨some x', h1, h2, h3⟩
  | _ => exact he
theorem QH_peel {X : Type} {Lx : X → List (Nat × Value)} {J : X → World → Prop} {μ : X → Nat} {M : Nat} {Q' : Exit → Act → World → Prop} (x' : X) (hs : Sub (Lx x') L) (hJ : J x' w) (hm : μ x' < M) : QH (Exit.then (fun a w' => ∃ x, Fr N (Lx x) a ∧ J x w' ∧ μ x < M) Q') .normal N L w := .mk fun a hF => ⟨x', hF.sub hs, hJ, hm⟩
end
end
section
open Go Go.RowKit
set_option maxRecDepth 100000
def Zcx (x0 : Tu) : Option (Bool) :=
  some (decide (250 < (x0.log.length : Int)))
def Zba (x0 : Co) : Option (Bool) := (Zcx x0.tuple).bind fun r5 =>
  cond r5 (some true) (cond (decide (9 < (x0.votes.length : Int))) (some true) (cond (decide (9 < (x0.next.length : Int))) (some true) (cond (decide (9 < (x0.mtch.length : Int))) (some true) (cond (decide (9 < (x0.caps.length : Int))) (some true) (cond (decide (1099511627776 < x0.tuple.snap.index)) (some true) (some (decide (x0.tuple.snap.index < (-1099511627776)))))))))
def Jo (x0 : Int) : Option (Bool) :=
  cond (decide (0 ≤ x0)) (some (decide (x0 ≤ 1073741824))) (some false)
def Zai : Option (St) :=
  some (⟨0, 0, 0, 1, false⟩ : St)
def Jb (x0 : St) : Option (Bool) := (Jo x0.index).bind fun r6 =>
  cond (!r6) (some false) ((Jo x0.term).bind fun r11 =>
  cond (!r11) (some false) ((Jo x0.sum).bind fun r16 =>
  cond (!r16) (some false) (cond (decide ((decide (x0.term = 0)) ≠ (decide (x0.index = 0)))) (some false) (cond (decide (x0.level ≠ 1)) (cond (decide (x0.level ≠ 2)) (some false) (cond x0.final (cond (decide (0 < x0.index)) (some true) ((Zai).bind fun r32 =>
  some (decide (x0.index = r32.index) && (decide (x0.term = r32.term) && (decide (x0.sum = r32.sum) && (decide (x0.level = r32.level) && (decide (x0.final = r32.final)))))))) (cond (decide (0 < x0.index)) (some true) ((Zai).bind fun r38 =>
  some (decide (x0.index = r38.index) && (decide (x0.term = r38.term) && (decide (x0.sum = r38.sum) && (decide (x0.level = r38.level) && (decide (x0.final = r38.final)))))))))) (cond x0.final (cond (decide (x0.level ≠ 2)) (some false) (cond (decide (0 < x0.index)) (some true) ((Zai).bind fun r48 =>
  some (decide (x0.index = r48.index) && (decide (x0.term = r48.term) && (decide (x0.sum = r48.sum) && (decide (x0.level = r48.level) && (decide (x0.final = r48.final))))))))) (cond (decide (0 < x0.index)) (some true) ((Zai).bind fun r54 =>
  some (decide (x0.index = r54.index) && (decide (x0.term = r54.term) && (decide (x0.sum = r54.sum) && (decide (x0.level = r54.level) && (decide (x0.final = r54.final)))))))))))))
def Zbc (x0 : En) : Option (Bool) :=
  cond (decide (1 ≤ x0.term)) ((Jo x0.term).bind fun r6 =>
  cond r6 (cond (decide (0 ≤ x0.kind)) (cond (decide (x0.kind < 5)) ((Jo x0.value).bind fun r11 =>
  cond r11 (cond (decide (x0.kind = 1)) (some true) (some (decide (x0.value = 0)))) (some false)) (some false)) (some false)) (some false)) (some false)
def J0 (x0 : Tu) : Nat → Bool → Int → Int → Option (Bool)
 | 0, _, _, _ => none
 | n + 1, v26, v27, v28 =>
  cond (decide (v28 < (x0.log.length : Int))) ((idx x0.log v28).bind fun e35 =>
  (Zbc e35).bind fun r38 =>
  cond (!r38) (some false) ((idx x0.log v28).bind fun e43 =>
  cond (decide (e43.term < v27)) (some false) ((idx x0.log v28).bind fun e49 =>
  J0 x0 n v26 e49.term (IntKind.wrap .i64 (v28 + 1))))) (cond (decide (v27 ≤ x0.term)) (cond (decide (0 ≤ x0.term)) (some (decide (x0.term ≤ 1073741824))) (some false)) (some false))
def Zcw (x0 : Tu) : Option (Bool) := (Jb x0.snap).bind fun r6 =>
  cond (!r6) (some false) (cond (decide (1073740824 < x0.snap.index)) (some false) (cond (decide (200 < (x0.log.length : Int))) (some false) (cond (decide (x0.vote < 0)) (some false) (cond (decide (5 < x0.vote)) (some false) (J0 x0 Yy false x0.snap.term 0)))))
def Zcf (x0 : Tu) : Option (Int) :=
  some (IntKind.wrap .i64 (x0.snap.index + (x0.log.length : Int)))
def Zck (x0 : St) (x1 : En) : Option (St) := (Zbc x1).bind fun r10 =>
  cond (!r10) (some x0) ((Jb x0).bind fun r15 =>
  cond (!r15) (some x0) (cond (decide (1073741824 ≤ x0.index)) (some x0) (cond (decide (x1.kind = 1)) (some (⟨(IntKind.wrap .i64 (x0.index + 1)), x1.term, (Int.tmod (IntKind.wrap .i64 ((IntKind.wrap .i64 ((IntKind.wrap .i64 (31 * x0.sum)) + x1.value)) + 1)) 1073741824), x0.level, x0.final⟩ : St)) (cond (decide (x1.kind = 2)) (some (⟨(IntKind.wrap .i64 (x0.index + 1)), x1.term, x0.sum, 2, x0.final⟩ : St)) (cond (decide (x1.kind = 3)) (cond (!x0.final) (some (⟨(IntKind.wrap .i64 (x0.index + 1)), x1.term, x0.sum, 1, x0.final⟩ : St)) (some (⟨(IntKind.wrap .i64 (x0.index + 1)), x1.term, x0.sum, x0.level, x0.final⟩ : St))) (cond (decide (x1.kind = 4)) (some (⟨(IntKind.wrap .i64 (x0.index + 1)), x1.term, x0.sum, x0.level, (decide (x0.level = 2))⟩ : St)) (some (⟨(IntKind.wrap .i64 (x0.index + 1)), x1.term, x0.sum, x0.level, x0.final⟩ : St))))))))
def Zan (x1 : List En) : Nat → Int → Int → Int → Int → Int → Bool → Option (St)
 | 0, _, _, _, _, _, _ => none
 | n + 1, v8, v9, v10, v11, v12, v13 =>
  cond (decide (v8 < (x1.length : Int))) ((idx x1 v8).bind fun e18 =>
  (Zck (⟨v9, v10, v11, v12, v13⟩ : St) e18).bind fun r21 =>
  Zan x1 n (IntKind.wrap .i64 (v8 + 1)) r21.index r21.term r21.sum r21.level r21.final) (some (⟨v9, v10, v11, v12, v13⟩ : St))
def Zfw (x0 : St) (x1 : List En) : Option (St) :=
  Zan x1 Yy 0 x0.index x0.term x0.sum x0.level x0.final
def Zbx (x0 : Tu) (x1 : Int) : Option (St × Bool) :=
  cond (decide (x1 < x0.snap.index)) (some ((⟨0, 0, 0, 0, false⟩ : St), false)) ((Zcf x0).bind fun r11 =>
  cond (decide (r11 < x1)) (some ((⟨0, 0, 0, 0, false⟩ : St), false)) ((takeI x0.log (IntKind.wrap .i64 (x1 - x0.snap.index))).bind fun l17 =>
  (Zfw x0.snap l17).bind fun r19 =>
  some (r19, true)))
def J3 (x0 : Co) (r58 : Int) : Nat → Bool → Int → Option (Bool)
 | 0, _, _ => none
 | n + 1, v62, v63 =>
  cond (decide (v63 < x0.n)) ((idx x0.next v63).bind fun e69 =>
  cond (decide (e69 < 1)) (some false) ((idx x0.next v63).bind fun e75 =>
  cond (decide ((IntKind.wrap .i64 (r58 + 1)) < e75)) (some false) ((idx x0.mtch v63).bind fun e81 =>
  cond (decide (e81 < 0)) (some false) ((idx x0.mtch v63).bind fun e87 =>
  cond (decide (r58 < e87)) (some false) ((idx x0.caps v63).bind fun e93 =>
  cond (decide (e93 < 0)) (some false) ((idx x0.caps v63).bind fun e99 =>
  cond (decide (2 < e99)) (some false) (J3 x0 r58 n v62 (IntKind.wrap .i64 (v63 + 1))))))))) (cond (decide (x0.role ≠ 0)) (cond (decide (x0.tuple.term < 1)) (some false) (cond (decide (x0.tuple.vote ≠ x0.id)) (some false) ((idx x0.caps (IntKind.wrap .i64 (x0.id - 1))).bind fun e116 =>
  some (decide (e116 = x0.binary))))) ((idx x0.caps (IntKind.wrap .i64 (x0.id - 1))).bind fun e121 =>
  some (decide (e121 = x0.binary))))
def V7 (x0 : Co) : Option (Bool) :=
  cond (decide (x0.n < 1)) (some false) (cond (decide (5 < x0.n)) (some false) (cond (decide (x0.id < 1)) (some false) (cond (decide (x0.n < x0.id)) (some false) (cond (decide (2 < x0.role)) (some false) (cond (decide (x0.binary < 1)) (some false) (cond (decide (2 < x0.binary)) (some false) ((Zcw x0.tuple).bind fun r27 =>
  cond (!r27) (some false) ((Zbx x0.tuple x0.commit).bind fun r33 =>
  cond (!r33.2) (some false) (cond (!(decide (r33.1.index = x0.applied.index) && (decide (r33.1.term = x0.applied.term) && (decide (r33.1.sum = x0.applied.sum) && (decide (r33.1.level = x0.applied.level) && (decide (r33.1.final = x0.applied.final))))))) (some false) (cond (decide ((x0.votes.length : Int) ≠ x0.n)) (some false) (cond (decide ((x0.next.length : Int) ≠ x0.n)) (some false) (cond (decide ((x0.mtch.length : Int) ≠ x0.n)) (some false) (cond (decide ((x0.caps.length : Int) ≠ x0.n)) (some false) ((Zcf x0.tuple).bind fun r58 =>
  J3 x0 r58 Yy false 0))))))))))))))
def Zcr : Option (Tu) := (Zai).bind fun r5 =>
  some (⟨r5, [], 0, 0⟩ : Tu)
def m_ref12_Own (x0 : Tu) : Option (Tu) := (fewI ([] ++ x0.log)).bind fun l9 =>
  some {x0 with log := l9}
def Zdn (x0 : Int) (x1 : Int) (x2 : Int) (x3 : Tu) (r21 : Tu) : Nat → Int → List Bool → List Int → List Int → List Int → Option (Co)
 | 0, _, _, _, _, _ => none
 | n + 1, v32, v33, v38, v43, v48 =>
  cond (decide (v32 ≤ x1)) ((fewI (v33 ++ ([false] : List Bool))).bind fun l60 =>
  (Zcf x3).bind fun r66 =>
  (fewI (v38 ++ ([(IntKind.wrap .i64 (r66 + 1))] : List Int))).bind fun l70 =>
  (fewI (v43 ++ ([0] : List Int))).bind fun l78 =>
  (fewI (v48 ++ ([0] : List Int))).bind fun l85 =>
  Zdn x0 x1 x2 x3 r21 n (IntKind.wrap .i64 (v32 + 1)) l60 l70 l78 l85) ((idx v48 (IntKind.wrap .i64 (x0 - 1))).bind fun e92 =>
  some (⟨x0, x1, 0, x2, r21, x3.snap.index, x3.snap, v33, v38, v43, (Zbf v48 (IntKind.wrap .i64 (x0 - 1)) x2)⟩ : Co))
def Zeh (x0 : Int) (x1 : Int) (x2 : Int) (x3 : Tu) : Option (Co) :=
  cond (decide (x1 < 0)) (some (⟨0, 0, 0, 0, (⟨(⟨0, 0, 0, 0, false⟩ : St), [], 0, 0⟩ : Tu), 0, (⟨0, 0, 0, 0, false⟩ : St), [], [], [], []⟩ : Co)) (cond (decide (5 < x1)) (some (⟨0, 0, 0, 0, (⟨(⟨0, 0, 0, 0, false⟩ : St), [], 0, 0⟩ : Tu), 0, (⟨0, 0, 0, 0, false⟩ : St), [], [], [], []⟩ : Co)) (cond (decide (x0 < 1)) (some (⟨0, 0, 0, 0, (⟨(⟨0, 0, 0, 0, false⟩ : St), [], 0, 0⟩ : Tu), 0, (⟨0, 0, 0, 0, false⟩ : St), [], [], [], []⟩ : Co)) (cond (decide (x1 < x0)) (some (⟨0, 0, 0, 0, (⟨(⟨0, 0, 0, 0, false⟩ : St), [], 0, 0⟩ : Tu), 0, (⟨0, 0, 0, 0, false⟩ : St), [], [], [], []⟩ : Co)) ((m_ref12_Own x3).bind fun r21 =>
  Zdn x0 x1 x2 x3 r21 Yy 1 [] [] [] []))))
def Xk (x0 : List En) : Option (List En) := fewI x0
def Zfs (x0 : Tu) : Option (Tu) := (Xk x0.log).bind fun r7 =>
  some {x0 with log := r7}
def Jj (x0 : List Bool) : Option (List Bool) := fewI x0
def Vs (x0 : List Int) : Option (List Int) := fewI x0
def Zax (x0 : Co) : Option (Co) := (Zfs x0.tuple).bind fun r7 =>
  (Jj x0.votes).bind fun r14 =>
  (Vs x0.next).bind fun r20 =>
  (Vs x0.mtch).bind fun r26 =>
  (Vs x0.caps).bind fun r32 =>
  some {x0 with tuple := r7, votes := r14, next := r20, mtch := r26, caps := r32}
def Za0 (x0 : Tu) : Option (Int) :=
  some (IntKind.wrap .i64 (x0.snap.index + (x0.log.length : Int)))
def V4 (x0 : Int) (x1 : Int) (x2 : Int) : Option (Bool) :=
  cond (decide (x1 ≤ x0)) (some (decide (x0 ≤ x2))) (some false)
def Zd8 : Option (St) :=
  some (⟨0, 0, 0, 1, false⟩ : St)
def Vm (x0 : Int) : Option (Bool) :=
  cond (decide (0 ≤ x0)) (some (decide (x0 ≤ 1073741824))) (some false)
def J7 (x0 : St) : Option (Bool) :=
  cond (decide (x0.index = 0)) ((Zd8).bind fun r8 =>
  some (decide (x0.index = r8.index) && (decide (x0.term = r8.term) && (decide (x0.sum = r8.sum) && (decide (x0.level = r8.level) && (decide (x0.final = r8.final))))))) (cond x0.final (cond (decide (x0.level = 2)) ((Vm x0.index).bind fun r15 =>
  cond r15 (cond (decide (0 < x0.term)) ((Vm x0.term).bind fun r19 =>
  cond r19 ((Vm x0.sum).bind fun r22 =>
  some r22) (some false)) (some false)) (some false)) (some false)) (cond (decide (x0.level = 1)) ((Vm x0.index).bind fun r31 =>
  cond r31 (cond (decide (0 < x0.term)) ((Vm x0.term).bind fun r35 =>
  cond r35 ((Vm x0.sum).bind fun r38 =>
  some r38) (some false)) (some false)) (some false)) (cond (decide (x0.level = 2)) ((Vm x0.index).bind fun r45 =>
  cond r45 (cond (decide (0 < x0.term)) ((Vm x0.term).bind fun r49 =>
  cond r49 ((Vm x0.sum).bind fun r52 =>
  some r52) (some false)) (some false)) (some false)) (some false))))
def Za9 (x0 : List Int) (x2 : Int) (x3 : Int) : Nat → Int → Int → Option (Bool)
 | 0, _, _ => none
 | n + 1, v13, v14 =>
  cond (decide (v14 < (x0.length : Int))) ((idx x0 v14).bind fun e21 =>
  (V4 e21 x2 x3).bind fun r26 =>
  cond (!r26) (some (!(decide (0 ≤ v14)))) (Za9 x0 x2 x3 n v13 (IntKind.wrap .i64 (v14 + 1)))) (some (!(decide (0 ≤ (-1)))))
def Zbr (x0 : List Int) (x1 : Int) (x2 : Int) (x3 : Int) : Option (Bool) :=
  cond (decide ((x0.length : Int) = x1)) (Za9 x0 x2 x3 Yy 0 0) (some false)
def Zaj (x0 : Co) : Option (Bool) := (Za0 x0.tuple).bind fun r5 =>
  (V4 x0.n 1 5).bind fun r18 =>
  cond r18 ((V4 x0.id 1 x0.n).bind fun r21 =>
  cond (!r21) (some false) (cond (decide (x0.role ≤ 2)) ((V4 x0.binary 1 2).bind fun r34 =>
  cond r34 ((Zcz x0.tuple).bind fun r37 =>
  cond (!r37) (some false) ((J5 x0.tuple x0.commit).bind fun r49 =>
  cond r49.2 (cond (!(decide (r49.1.index = x0.applied.index) && (decide (r49.1.term = x0.applied.term) && (decide (r49.1.sum = x0.applied.sum) && (decide (r49.1.level = x0.applied.level) && (decide (r49.1.final = x0.applied.final))))))) (some false) (cond (decide ((x0.votes.length : Int) = x0.n)) ((Zbr x0.next x0.n 1 (IntKind.wrap .i64 (r5 + 1))).bind fun r66 =>
  cond r66 ((Zbr x0.mtch x0.n 0 r5).bind fun r69 =>
  cond (!r69) (some false) ((Zbr x0.caps x0.n 0 2).bind fun r81 =>
  cond r81 ((idx x0.caps (IntKind.wrap .i64 (x0.id - 1))).bind fun e84 =>
  cond (!(decide (e84 = x0.binary))) (some false) (cond (decide (x0.role = 0)) (some true) (cond (decide (0 < x0.tuple.term)) (cond (!(decide (x0.tuple.vote = x0.id))) (some false) (some true)) (some false)))) (some false))) (some false)) (some false))) (some false))) (some false)) (some false))) (some false)
def Jr (x0 : List Bool) : List (Int) → Int → Option (Bool)
 | [], v12 =>
  some (decide ((x0.length : Int) < (IntKind.wrap .i64 (2 * v12))))
 | e11 :: l0, v12 =>
  Jr x0 l0 (IntKind.wrap .i64 (v12 + 1))
def Zay (x0 : List Bool) : Option (Bool) := (m_it_votes x0).bind fun xs13 =>
  Jr x0 xs13 0
def Zaf (r7 : Co) (r42 : Tu × Int) (r58 : Int) : Nat → Int → List Int → List Int → Option (Co)
 | 0, _, _, _ => none
 | n + 1, v62, v63, v66 =>
  cond (decide (v62 < r7.n)) ((idx v63 v62).bind fun e74 =>
  (idx v66 v62).bind fun e78 =>
  Zaf r7 r42 r58 n (IntKind.wrap .i64 (v62 + 1)) (Zbf v63 v62 (IntKind.wrap .i64 (r58 + 1))) (Zbf v66 v62 0)) ((idx v66 (IntKind.wrap .i64 (r7.id - 1))).bind fun e84 =>
  some {r7 with role := 2, tuple := r42.1, next := v63, mtch := (Zbf v66 (IntKind.wrap .i64 (r7.id - 1)) r58)})
def Jd (x0 : Co) : Option (Co) := (Zax x0).bind fun r7 =>
  cond (decide (r7.role ≠ 1)) (some r7) ((Zaj r7).bind fun r34 =>
  cond (!r34) (some r7) ((Zb9 r7.tuple ([(⟨r7.tuple.term, 0, 0⟩ : En)] : List En)).bind fun r42 =>
  cond (decide (r42.2 ≠ 0)) (some {r7 with role := 0}) ((Za0 r42.1).bind fun r58 =>
  Zaf r7 r42 r58 Yy 0 r7.next r7.mtch)))
def m_tuple_At (x0 : Tu) (x1 : Int) : Option (En × Bool) :=
  cond (decide (x1 ≤ x0.snap.index)) (some ((⟨0, 0, 0⟩ : En), false)) ((Za0 x0).bind fun r11 =>
  cond (decide (r11 < x1)) (some ((⟨0, 0, 0⟩ : En), false)) ((idx x0.log (IntKind.wrap .i64 ((IntKind.wrap .i64 (x1 - x0.snap.index)) - 1))).bind fun e17 =>
  some (e17, true)))
def Zcd (x0 : Tu) (x1 : Int) : Option (Int × Bool) :=
  cond (decide (x1 = x0.snap.index)) (some (x0.snap.term, true)) ((m_tuple_At x0 x1).bind fun r10 =>
  some (r10.1.term, r10.2))
def Zb6 (x0 : Co) : Option (Int × Int) := (Za0 x0.tuple).bind fun r5 =>
  (Zcd x0.tuple r5).bind fun r8 =>
  some (r5, r8.1)
def Jq (x0 : Co) (x1 : Ms) : List (Int) → List Ms → Option (List Ms)
 | [], v15 =>
  some v15
 | e14 :: l0, v15 =>
  (Xk x1.entries).bind fun r30 =>
  (fewI (v15 ++ [{x1 with frm := x0.id, dst := e14, term := x0.tuple.term, cap := x0.binary, entries := r30}])).bind fun l38 =>
  Jq x0 x1 l0 l38
def Zcm (x0 : Co) (x1 : Ms) : Option (List Ms) := (m_it_others x0).bind fun xs24 =>
  Jq x0 x1 xs24 []
def V1 (x0 : Co) : Option (Co × List Ms) := (Zax x0).bind fun r7 =>
  (Zaj r7).bind fun r31 =>
  cond (!r31) (some (r7, [])) (cond (decide (r7.role = 2)) (some (r7, [])) (cond (decide (r7.tuple.term = 1073741824)) (some (r7, [])) ((J6 r7.tuple (IntKind.wrap .i64 (r7.tuple.term + 1)) r7.id).bind fun r51 =>
  (makeI false r7.n).bind fun l58 =>
  (idx ([r7.id] : List Int) 0).bind fun e70 =>
  (idx l58 (IntKind.wrap .i64 (e70 - 1))).bind fun e73 =>
  (Zay (Zbf l58 (IntKind.wrap .i64 (e70 - 1)) true)).bind fun r82 =>
  cond r82 ((Jd {r7 with role := 1, tuple := r51.1, votes := (Zbf l58 (IntKind.wrap .i64 (e70 - 1)) true)}).bind fun r86 =>
  some (r86, [])) ((Zb6 {r7 with role := 1, tuple := r51.1, votes := (Zbf l58 (IntKind.wrap .i64 (e70 - 1)) true)}).bind fun r110 =>
  (Zcm {r7 with role := 1, tuple := r51.1, votes := (Zbf l58 (IntKind.wrap .i64 (e70 - 1)) true)} (⟨1, 0, 0, 0, 0, r110.1, r110.2, 0, false, [], (⟨0, 0, 0, 0, false⟩ : St)⟩ : Ms)).bind fun r113 =>
  some ({r7 with role := 1, tuple := r51.1, votes := (Zbf l58 (IntKind.wrap .i64 (e70 - 1)) true)}, r113)))))
def J2 (x0 : Ms) : Nat → Bool → Int → Int → Option (Bool)
 | 0, _, _, _ => none
 | n + 1, v7, v8, v9 =>
  cond (decide (v9 < (x0.entries.length : Int))) ((idx x0.entries v9).bind fun e15 =>
  (Zf2 e15).bind fun r22 =>
  cond (!r22) (some false) ((V4 e15.term v8 x0.term).bind fun r27 =>
  cond (!r27) (some false) (J2 x0 n v7 e15.term (IntKind.wrap .i64 (v9 + 1))))) (some (decide ((x0.entries.length : Int) ≤ 4)))
def Zcs (x0 : Ms) : Option (Bool) :=
  J2 x0 Yy false x0.lastTerm 0
def Zd4 (x0 : Ms) (x1 : Int) : Option (Bool) := (V4 x1 1 5).bind fun r6 =>
  cond (!r6) (some false) ((Zbr ([x0.frm, x0.dst] : List Int) 2 1 x1).bind fun r14 =>
  cond (!r14) (some false) (cond (decide (x0.frm = x0.dst)) (some false) ((V4 (IntKind.wrap .i64 x0.kind) 1 5).bind fun r26 =>
  cond (!r26) (some false) ((V4 x0.term 1 1073741824).bind fun r32 =>
  cond (!r32) (some false) ((V4 x0.cap 1 2).bind fun r38 =>
  cond (!r38) (some false) ((Zbr ([x0.last, x0.lastTerm, x0.commit] : List Int) 3 0 1073741824).bind fun r48 =>
  cond (!r48) (some false) ((Zcs x0).bind fun r54 =>
  cond (!r54) (some false) (cond (decide (x0.kind ≠ 3)) (cond (decide (0 < (x0.entries.length : Int))) (some false) (cond (decide (0 < x0.commit)) (some false) (cond x0.okk (cond (decide (x0.kind ≠ 2)) (cond (decide (x0.kind ≠ 4)) (some false) (cond (decide (x0.kind = 5)) (cond (decide (0 < x0.snap.index)) ((J7 x0.snap).bind fun r84 =>
  some r84) (some false)) (some (decide (x0.snap.index = 0) && (decide (x0.snap.term = 0) && (decide (x0.snap.sum = 0) && (decide (x0.snap.level = 0) && (decide (x0.snap.final = false))))))))) (cond (decide (x0.kind = 5)) (cond (decide (0 < x0.snap.index)) ((J7 x0.snap).bind fun r96 =>
  some r96) (some false)) (some (decide (x0.snap.index = 0) && (decide (x0.snap.term = 0) && (decide (x0.snap.sum = 0) && (decide (x0.snap.level = 0) && (decide (x0.snap.final = false))))))))) (cond (decide (x0.kind = 5)) (cond (decide (0 < x0.snap.index)) ((J7 x0.snap).bind fun r108 =>
  some r108) (some false)) (some (decide (x0.snap.index = 0) && (decide (x0.snap.term = 0) && (decide (x0.snap.sum = 0) && (decide (x0.snap.level = 0) && (decide (x0.snap.final = false))))))))))) (cond x0.okk (cond (decide (x0.kind ≠ 2)) (cond (decide (x0.kind ≠ 4)) (some false) (cond (decide (x0.kind = 5)) (cond (decide (0 < x0.snap.index)) ((J7 x0.snap).bind fun r128 =>
  some r128) (some false)) (some (decide (x0.snap.index = 0) && (decide (x0.snap.term = 0) && (decide (x0.snap.sum = 0) && (decide (x0.snap.level = 0) && (decide (x0.snap.final = false))))))))) (cond (decide (x0.kind = 5)) (cond (decide (0 < x0.snap.index)) ((J7 x0.snap).bind fun r140 =>
  some r140) (some false)) (some (decide (x0.snap.index = 0) && (decide (x0.snap.term = 0) && (decide (x0.snap.sum = 0) && (decide (x0.snap.level = 0) && (decide (x0.snap.final = false))))))))) (cond (decide (x0.kind = 5)) (cond (decide (0 < x0.snap.index)) ((J7 x0.snap).bind fun r152 =>
  some r152) (some false)) (some (decide (x0.snap.index = 0) && (decide (x0.snap.term = 0) && (decide (x0.snap.sum = 0) && (decide (x0.snap.level = 0) && (decide (x0.snap.final = false)))))))))))))))))
def Zbo (x0 : Co) (x1 : Ms) : Option (Bool) :=
  cond (decide (x1.dst = x0.id)) ((Zd4 x1 x0.n).bind fun r8 =>
  cond r8 ((Zaj x0).bind fun r11 =>
  some r11) (some false)) (some false)
def Zed (x0 : Co) (x1 : Ms) : Option (Bool) :=
  cond (decide (x1.dst ≠ x0.id)) (some false) ((Zaj x0).bind fun r12 =>
  cond (!r12) (some false) ((Zd4 x1 x0.n).bind fun r19 =>
  some r19))
def Zc0 (x0 : Co) (x1 : Ms) : Option (Co) := (Zed x0 x1).bind fun r9 =>
  (Zax x0).bind fun r19 =>
  cond r9 ((Zaj r19).bind fun r44 =>
  cond r44 ((idx r19.caps (IntKind.wrap .i64 (x1.frm - 1))).bind fun e47 =>
  some {r19 with caps := (Zbf r19.caps (IntKind.wrap .i64 (x1.frm - 1)) x1.cap)}) (some r19)) (some r19)
def Zbs (x0 : Co) (x1 : Ms) : Option (Co) := (Zax x0).bind fun r9 =>
  (Zbo r9 x1).bind fun r33 =>
  cond (!r33) (some r9) ((Zc0 r9 x1).bind fun r41 =>
  cond (decide (r41.tuple.term < x1.term)) ((J6 r41.tuple x1.term 0).bind fun r71 =>
  (makeI false r41.n).bind fun l78 =>
  some {r41 with role := 0, tuple := r71.1, votes := l78}) (some r41))
def Zak (x0 : Co) (x1 : Int) (x2 : Int) : Option (Bool) := (Zaj x0).bind fun r6 =>
  cond (!r6) (some false) ((Zb6 x0).bind fun r12 =>
  cond (decide (r12.2 ≠ x1)) (some (decide (r12.2 < x1))) (some (decide (r12.1 ≤ x2))))
def J4 (x0 : Co) (x1 : Ms) (x2 : Int) (x3 : Bool) (x4 : Int) : Option (Ms) :=
  some (⟨x2, x0.id, x1.frm, x0.tuple.term, x0.binary, x4, 0, 0, x3, [], (⟨0, 0, 0, 0, false⟩ : St)⟩ : Ms)
def V9 (x0 : Co) (x1 : Ms) : Option (Co × List Ms) := (Zbo x0 x1).bind fun r10 =>
  cond (!r10) ((Zax x0).bind fun r14 =>
  some (r14, [])) (cond (decide (x1.kind ≠ 1)) ((Zax x0).bind fun r39 =>
  some (r39, [])) ((Zbs x0 x1).bind fun r63 =>
  cond (decide (r63.tuple.vote = 0)) (cond (decide (r63.role = 0)) (cond (decide (x1.term = r63.tuple.term)) ((Zak r63 x1.lastTerm x1.last).bind fun r90 =>
  cond r90 ((J6 r63.tuple x1.term x1.frm).bind fun r95 =>
  (J4 {r63 with tuple := r95.1} x1 2 r90 0).bind fun r102 =>
  some ({r63 with tuple := r95.1}, ([r102] : List Ms))) ((J4 r63 x1 2 r90 0).bind fun r112 =>
  some (r63, ([r112] : List Ms)))) ((J4 r63 x1 2 false 0).bind fun r124 =>
  some (r63, ([r124] : List Ms)))) ((J4 r63 x1 2 false 0).bind fun r136 =>
  some (r63, ([r136] : List Ms)))) (cond (decide (r63.tuple.vote = x1.frm)) (cond (decide (r63.role = 0)) (cond (decide (x1.term = r63.tuple.term)) ((Zak r63 x1.lastTerm x1.last).bind fun r149 =>
  cond r149 ((J6 r63.tuple x1.term x1.frm).bind fun r154 =>
  (J4 {r63 with tuple := r154.1} x1 2 r149 0).bind fun r161 =>
  some ({r63 with tuple := r154.1}, ([r161] : List Ms))) ((J4 r63 x1 2 r149 0).bind fun r171 =>
  some (r63, ([r171] : List Ms)))) ((J4 r63 x1 2 false 0).bind fun r183 =>
  some (r63, ([r183] : List Ms)))) ((J4 r63 x1 2 false 0).bind fun r195 =>
  some (r63, ([r195] : List Ms)))) ((J4 r63 x1 2 false 0).bind fun r207 =>
  some (r63, ([r207] : List Ms))))))
def J8 (x0 : Co) (x1 : Ms) : Option (Co × List Ms) := (Zbo x0 x1).bind fun r10 =>
  cond (!r10) ((Zax x0).bind fun r14 =>
  some (r14, [])) (cond (decide (x1.kind ≠ 2)) ((Zax x0).bind fun r39 =>
  some (r39, [])) ((Zbs x0 x1).bind fun r63 =>
  cond (!x1.okk) (some (r63, [])) (cond (decide (r63.role ≠ 1)) (some (r63, [])) (cond (decide (x1.term ≠ r63.tuple.term)) (some (r63, [])) ((idx r63.votes (IntKind.wrap .i64 (x1.frm - 1))).bind fun e101 =>
  (Zay (Zbf r63.votes (IntKind.wrap .i64 (x1.frm - 1)) true)).bind fun r106 =>
  cond r106 ((Jd {r63 with votes := (Zbf r63.votes (IntKind.wrap .i64 (x1.frm - 1)) true)}).bind fun r109 =>
  some (r109, [])) (some ({r63 with votes := (Zbf r63.votes (IntKind.wrap .i64 (x1.frm - 1)) true)}, [])))))))
def Jl : Option (Bool) := (Zcr).bind fun r3 =>
  (Zeh 1 1 1 r3).bind fun r9 =>
  (V1 r9).bind fun r31 =>
  (Zcr).bind fun r64 =>
  (Zeh 1 3 1 r64).bind fun r70 =>
  (V1 r70).bind fun r92 =>
  cond (decide ((r92.2.length : Int) ≠ 2)) (some false) (cond (decide ((r92.1.votes.length : Int) ≠ 3)) (some false) ((idx r92.2 0).bind fun e133 =>
  (Zcr).bind fun r138 =>
  (Zeh 2 3 2 r138).bind fun r144 =>
  (V9 r144 e133).bind fun r166 =>
  cond (decide ((r166.2.length : Int) ≠ 1)) (some false) ((idx r166.2 0).bind fun e205 =>
  (J8 r92.1 e205).bind fun r210 =>
  (V9 r166.1 (⟨1, 3, 2, 1, 1, 0, 0, 0, false, [], (⟨0, 0, 0, 0, false⟩ : St)⟩ : Ms)).bind fun r244 =>
  cond (decide ((r244.2.length : Int) ≠ 1)) (some false) (cond (decide (r31.1.role = 2)) (cond (decide ((r31.2.length : Int) = 0)) (cond (decide (r31.1.tuple.term = 1)) (cond (decide ((r31.1.tuple.log.length : Int) = 1)) (cond (decide (r92.1.role = 1)) ((idx r166.2 0).bind fun e287 =>
  cond e287.okk (cond (decide (r166.1.tuple.vote = 1)) (cond (decide (r210.1.role = 2)) (cond (decide ((r210.2.length : Int) = 0)) ((idx r210.1.caps 1).bind fun e296 =>
  cond (decide (e296 = 2)) ((idx r244.2 0).bind fun e300 =>
  cond (!e300.okk) (cond (decide (r244.1.tuple.vote = 1)) ((Zay ([Tt,Tt,Ff] : List Bool)).bind fun r309 =>
  cond r309 ((Zay ([Tt,Ff] : List Bool)).bind fun r314 =>
  cond (!r314) ((Zak r92.1 0 0).bind fun r317 =>
  cond r317 ((Zak r210.1 0 9).bind fun r320 =>
  some (!r320)) (some false)) (some false)) (some false)) (some false)) (some false)) (some false)) (some false)) (some false)) (some false)) (some false)) (some false)) (some false)) (some false)) (some false)) (some false)))))
def Zaz (x0 : Co) (x1 : Int) (x2 : Ms) : Option (Co × List Ms) :=
  cond (decide ((Int.tmod x1 4) = 0)) ((V1 x0).bind fun r13 =>
  some (r13.1, r13.2)) (cond (decide ((Int.tmod x1 4) = 1)) ((V9 x0 x2).bind fun r47 =>
  some (r47.1, r47.2)) (cond (decide ((Int.tmod x1 4) = 2)) ((J8 x0 x2).bind fun r81 =>
  some (r81.1, r81.2)) ((Zbs x0 x2).bind fun r113 =>
  some (r113, []))))
def Zad (x0 : List En) (x1 : List En) : Nat → Bool → Int → Option (Bool)
 | 0, _, _ => none
 | n + 1, v9, v10 =>
  cond (decide (v10 < (x0.length : Int))) ((idx x0 v10).bind fun e16 =>
  (idx x1 v10).bind fun e19 =>
  cond (!(decide (e16.term = e19.term) && (decide (e16.kind = e19.kind) && (decide (e16.value = e19.value))))) (some false) (Zad x0 x1 n v9 (IntKind.wrap .i64 (v10 + 1)))) (some true)
def Va (x0 : List En) (x1 : List En) : Option (Bool) :=
  cond (decide ((x0.length : Int) ≠ (x1.length : Int))) (some false) (Zad x0 x1 Yy false 0)
def Zao (x0 : Int) : Option (Bool) :=
  cond (decide (0 ≤ x0)) (some (decide (x0 ≤ 1073741824))) (some false)
def Jf (x0 : Ms) : Nat → Bool → Int → Int → Option (Bool)
 | 0, _, _, _ => none
 | n + 1, v7, v8, v9 =>
  cond (decide (v9 < (x0.entries.length : Int))) ((idx x0.entries v9).bind fun e16 =>
  (Zbc e16).bind fun r19 =>
  cond (!r19) (some false) ((idx x0.entries v9).bind fun e24 =>
  cond (decide (e24.term < v8)) (some false) ((idx x0.entries v9).bind fun e30 =>
  cond (decide (x0.term < e30.term)) (some false) ((idx x0.entries v9).bind fun e36 =>
  Jf x0 n v7 e36.term (IntKind.wrap .i64 (v9 + 1)))))) (some (decide ((x0.entries.length : Int) ≤ 4)))
def Zbv (x0 : Ms) : Option (Bool) :=
  Jf x0 Yy false x0.lastTerm 0
def Vl (x0 : Ms) (x1 : Int) : Option (Bool) :=
  cond (decide (x1 < 1)) (some false) (cond (decide (5 < x1)) (some false) (cond (decide (x0.frm < 1)) (some false) (cond (decide (x1 < x0.frm)) (some false) (cond (decide (x0.dst < 1)) (some false) (cond (decide (x1 < x0.dst)) (some false) (cond (decide (x0.frm = x0.dst)) (some false) (cond (decide (x0.kind < 1)) (some false) (cond (decide (6 ≤ x0.kind)) (some false) (cond (decide (x0.term < 1)) (some false) (cond (decide (1073741824 < x0.term)) (some false) (cond (decide (x0.cap < 1)) (some false) (cond (decide (2 < x0.cap)) (some false) ((Zao x0.last).bind fun r47 =>
  cond (!r47) (some false) ((Zao x0.lastTerm).bind fun r52 =>
  cond (!r52) (some false) ((Zao x0.commit).bind fun r57 =>
  cond (!r57) (some false) ((Zbv x0).bind fun r62 =>
  cond (!r62) (some false) (cond (decide (x0.kind ≠ 3)) (cond (decide (0 < (x0.entries.length : Int))) (some false) (cond (decide (0 < x0.commit)) (some false) (cond x0.okk (cond (decide (x0.kind ≠ 2)) (cond (decide (x0.kind ≠ 4)) (some false) (cond (decide (x0.kind = 5)) ((Jb x0.snap).bind fun r85 =>
  cond r85 (some (decide (0 < x0.snap.index))) (some false)) (some (decide (x0.snap.index = 0) && (decide (x0.snap.term = 0) && (decide (x0.snap.sum = 0) && (decide (x0.snap.level = 0) && (decide (x0.snap.final = false))))))))) (cond (decide (x0.kind = 5)) ((Jb x0.snap).bind fun r96 =>
  cond r96 (some (decide (0 < x0.snap.index))) (some false)) (some (decide (x0.snap.index = 0) && (decide (x0.snap.term = 0) && (decide (x0.snap.sum = 0) && (decide (x0.snap.level = 0) && (decide (x0.snap.final = false))))))))) (cond (decide (x0.kind = 5)) ((Jb x0.snap).bind fun r107 =>
  cond r107 (some (decide (0 < x0.snap.index))) (some false)) (some (decide (x0.snap.index = 0) && (decide (x0.snap.term = 0) && (decide (x0.snap.sum = 0) && (decide (x0.snap.level = 0) && (decide (x0.snap.final = false))))))))))) (cond x0.okk (cond (decide (x0.kind ≠ 2)) (cond (decide (x0.kind ≠ 4)) (some false) (cond (decide (x0.kind = 5)) ((Jb x0.snap).bind fun r123 =>
  cond r123 (some (decide (0 < x0.snap.index))) (some false)) (some (decide (x0.snap.index = 0) && (decide (x0.snap.term = 0) && (decide (x0.snap.sum = 0) && (decide (x0.snap.level = 0) && (decide (x0.snap.final = false))))))))) (cond (decide (x0.kind = 5)) ((Jb x0.snap).bind fun r134 =>
  cond r134 (some (decide (0 < x0.snap.index))) (some false)) (some (decide (x0.snap.index = 0) && (decide (x0.snap.term = 0) && (decide (x0.snap.sum = 0) && (decide (x0.snap.level = 0) && (decide (x0.snap.final = false))))))))) (cond (decide (x0.kind = 5)) ((Jb x0.snap).bind fun r145 =>
  cond r145 (some (decide (0 < x0.snap.index))) (some false)) (some (decide (x0.snap.index = 0) && (decide (x0.snap.term = 0) && (decide (x0.snap.sum = 0) && (decide (x0.snap.level = 0) && (decide (x0.snap.final = false))))))))))))))))))))))))))
def X3 (kk2 : Int → Int → Int → Int → Int → Int → Int → Int → Int → Bool → List En → Int → Int → Int → Int → Int → Int → Int → Bool → List Bool → List Int → List Int → List Int → Option (Bool)) (v27 : Int) (r98 : Co × List Ms) : Nat → Int → Option (Bool)
 | 0, _ => none
 | n2 + 1, v174 =>
  cond (decide (v174 < (r98.2.length : Int))) ((idx r98.2 v174).bind fun e180 =>
  (Vl e180 r98.1.n).bind fun r185 =>
  cond (!r185) (some false) ((idx r98.2 v174).bind fun e190 =>
  cond (decide (e190.frm ≠ r98.1.id)) (some false) ((idx r98.2 v174).bind fun e198 =>
  cond (decide (e198.term ≠ r98.1.tuple.term)) (some false) (X3 kk2 v27 r98 n2 (IntKind.wrap .i64 (v174 + 1)))))) (kk2 (IntKind.wrap .i64 (v27 + 1)) r98.1.id r98.1.n r98.1.role r98.1.binary r98.1.tuple.snap.index r98.1.tuple.snap.term r98.1.tuple.snap.sum r98.1.tuple.snap.level r98.1.tuple.snap.final r98.1.tuple.log r98.1.tuple.term r98.1.tuple.vote r98.1.commit r98.1.applied.index r98.1.applied.term r98.1.applied.sum r98.1.applied.level r98.1.applied.final r98.1.votes r98.1.next r98.1.mtch r98.1.caps)
def X0 (kk3 : Int → Int → Int → Int → Int → Int → Int → Int → Int → Bool → List En → Int → Int → Int → Int → Int → Int → Int → Bool → List Bool → List Int → List Int → List Int → Option (Bool)) (v27 : Int) (r98 : Co × List Ms) : Nat → Int → Option (Bool)
 | 0, _ => none
 | n3 + 1, v237 =>
  cond (decide (v237 < (r98.2.length : Int))) ((idx r98.2 v237).bind fun e243 =>
  (Vl e243 r98.1.n).bind fun r248 =>
  cond (!r248) (some false) ((idx r98.2 v237).bind fun e253 =>
  cond (decide (e253.frm ≠ r98.1.id)) (some false) ((idx r98.2 v237).bind fun e261 =>
  cond (decide (e261.term ≠ r98.1.tuple.term)) (some false) (X0 kk3 v27 r98 n3 (IntKind.wrap .i64 (v237 + 1)))))) (kk3 (IntKind.wrap .i64 (v27 + 1)) r98.1.id r98.1.n r98.1.role r98.1.binary r98.1.tuple.snap.index r98.1.tuple.snap.term r98.1.tuple.snap.sum r98.1.tuple.snap.level r98.1.tuple.snap.final r98.1.tuple.log r98.1.tuple.term r98.1.tuple.vote r98.1.commit r98.1.applied.index r98.1.applied.term r98.1.applied.sum r98.1.applied.level r98.1.applied.final r98.1.votes r98.1.next r98.1.mtch r98.1.caps)
def Xz (kk4 : Int → Int → Int → Int → Int → Int → Int → Int → Int → Bool → List En → Int → Int → Int → Int → Int → Int → Int → Bool → List Bool → List Int → List Int → List Int → Option (Bool)) (v27 : Int) (r98 : Co × List Ms) : Nat → Int → Option (Bool)
 | 0, _ => none
 | n4 + 1, v300 =>
  cond (decide (v300 < (r98.2.length : Int))) ((idx r98.2 v300).bind fun e306 =>
  (Vl e306 r98.1.n).bind fun r311 =>
  cond (!r311) (some false) ((idx r98.2 v300).bind fun e316 =>
  cond (decide (e316.frm ≠ r98.1.id)) (some false) ((idx r98.2 v300).bind fun e324 =>
  cond (decide (e324.term ≠ r98.1.tuple.term)) (some false) (Xz kk4 v27 r98 n4 (IntKind.wrap .i64 (v300 + 1)))))) (kk4 (IntKind.wrap .i64 (v27 + 1)) r98.1.id r98.1.n r98.1.role r98.1.binary r98.1.tuple.snap.index r98.1.tuple.snap.term r98.1.tuple.snap.sum r98.1.tuple.snap.level r98.1.tuple.snap.final r98.1.tuple.log r98.1.tuple.term r98.1.tuple.vote r98.1.commit r98.1.applied.index r98.1.applied.term r98.1.applied.sum r98.1.applied.level r98.1.applied.final r98.1.votes r98.1.next r98.1.mtch r98.1.caps)
def X6 (kk5 : Int → Int → Int → Int → Int → Int → Int → Int → Int → Bool → List En → Int → Int → Int → Int → Int → Int → Int → Bool → List Bool → List Int → List Int → List Int → Option (Bool)) (v27 : Int) (r344 : Co × List Ms) : Nat → Int → Option (Bool)
 | 0, _ => none
 | n5 + 1, v420 =>
  cond (decide (v420 < (r344.2.length : Int))) ((idx r344.2 v420).bind fun e426 =>
  (Vl e426 r344.1.n).bind fun r431 =>
  cond (!r431) (some false) ((idx r344.2 v420).bind fun e436 =>
  cond (decide (e436.frm ≠ r344.1.id)) (some false) ((idx r344.2 v420).bind fun e444 =>
  cond (decide (e444.term ≠ r344.1.tuple.term)) (some false) (X6 kk5 v27 r344 n5 (IntKind.wrap .i64 (v420 + 1)))))) (kk5 (IntKind.wrap .i64 (v27 + 1)) r344.1.id r344.1.n r344.1.role r344.1.binary r344.1.tuple.snap.index r344.1.tuple.snap.term r344.1.tuple.snap.sum r344.1.tuple.snap.level r344.1.tuple.snap.final r344.1.tuple.log r344.1.tuple.term r344.1.tuple.vote r344.1.commit r344.1.applied.index r344.1.applied.term r344.1.applied.sum r344.1.applied.level r344.1.applied.final r344.1.votes r344.1.next r344.1.mtch r344.1.caps)
def X4 (kk6 : Int → Int → Int → Int → Int → Int → Int → Int → Int → Bool → List En → Int → Int → Int → Int → Int → Int → Int → Bool → List Bool → List Int → List Int → List Int → Option (Bool)) (v27 : Int) (r344 : Co × List Ms) : Nat → Int → Option (Bool)
 | 0, _ => none
 | n6 + 1, v483 =>
  cond (decide (v483 < (r344.2.length : Int))) ((idx r344.2 v483).bind fun e489 =>
  (Vl e489 r344.1.n).bind fun r494 =>
  cond (!r494) (some false) ((idx r344.2 v483).bind fun e499 =>
  cond (decide (e499.frm ≠ r344.1.id)) (some false) ((idx r344.2 v483).bind fun e507 =>
  cond (decide (e507.term ≠ r344.1.tuple.term)) (some false) (X4 kk6 v27 r344 n6 (IntKind.wrap .i64 (v483 + 1)))))) (kk6 (IntKind.wrap .i64 (v27 + 1)) r344.1.id r344.1.n r344.1.role r344.1.binary r344.1.tuple.snap.index r344.1.tuple.snap.term r344.1.tuple.snap.sum r344.1.tuple.snap.level r344.1.tuple.snap.final r344.1.tuple.log r344.1.tuple.term r344.1.tuple.vote r344.1.commit r344.1.applied.index r344.1.applied.term r344.1.applied.sum r344.1.applied.level r344.1.applied.final r344.1.votes r344.1.next r344.1.mtch r344.1.caps)
def X2 (kk7 : Int → Int → Int → Int → Int → Int → Int → Int → Int → Bool → List En → Int → Int → Int → Int → Int → Int → Int → Bool → List Bool → List Int → List Int → List Int → Option (Bool)) (v27 : Int) (r344 : Co × List Ms) : Nat → Int → Option (Bool)
 | 0, _ => none
 | n7 + 1, v546 =>
  cond (decide (v546 < (r344.2.length : Int))) ((idx r344.2 v546).bind fun e552 =>
  (Vl e552 r344.1.n).bind fun r557 =>
  cond (!r557) (some false) ((idx r344.2 v546).bind fun e562 =>
  cond (decide (e562.frm ≠ r344.1.id)) (some false) ((idx r344.2 v546).bind fun e570 =>
  cond (decide (e570.term ≠ r344.1.tuple.term)) (some false) (X2 kk7 v27 r344 n7 (IntKind.wrap .i64 (v546 + 1)))))) (kk7 (IntKind.wrap .i64 (v27 + 1)) r344.1.id r344.1.n r344.1.role r344.1.binary r344.1.tuple.snap.index r344.1.tuple.snap.term r344.1.tuple.snap.sum r344.1.tuple.snap.level r344.1.tuple.snap.final r344.1.tuple.log r344.1.tuple.term r344.1.tuple.vote r344.1.commit r344.1.applied.index r344.1.applied.term r344.1.applied.sum r344.1.applied.level r344.1.applied.final r344.1.votes r344.1.next r344.1.mtch r344.1.caps)
def Z0 (x1 : List UInt8) (x2 : List Ms) : Nat → Int → Int → Int → Int → Int → Int → Int → Int → Int → Bool → List En → Int → Int → Int → Int → Int → Int → Int → Bool → List Bool → List Int → List Int → List Int → Option (Bool)
 | 0, _, _, _, _, _, _, _, _, _, _, _, _, _, _, _, _, _, _, _, _, _, _, _ => none
 | n + 1, v27, v28, v29, v30, v31, v32, v33, v34, v35, v36, v37, v41, v42, v43, v44, v45, v46, v47, v48, v49, v53, v57, v61 =>
  cond (decide (v27 < (x2.length : Int))) ((idx x2 v27).bind fun e71 =>
  cond (decide (4 < (e71.entries.length : Int))) ((Jl).bind fun r78 =>
  some r78) (cond (decide (v27 < (x1.length : Int))) ((idx x1 v27).bind fun e85 =>
  (idx x2 v27).bind fun e89 =>
  (Zaz (⟨v28, v29, v30, v31, (⟨(⟨v32, v33, v34, v35, v36⟩ : St), v37, v41, v42⟩ : Tu), v43, (⟨v44, v45, v46, v47, v48⟩ : St), v49, v53, v57, v61⟩ : Co) (e85.toNat : Int) {e89 with dst := v28}).bind fun r98 =>
  (V7 r98.1).bind fun r132 =>
  cond (!r132) (some false) (cond (decide (r98.1.tuple.term < v41)) (some false) (cond (decide (r98.1.tuple.term = v41)) (cond (decide (0 < v42)) (cond (decide (r98.1.tuple.vote ≠ v42)) (some false) (cond (decide ((r98.1.tuple.log.length : Int) < (v37.length : Int))) (some false) (cond (decide (r98.1.commit ≠ v43)) (some false) (cond (!(decide (r98.1.tuple.snap.index = v32) && (decide (r98.1.tuple.snap.term = v33) && (decide (r98.1.tuple.snap.sum = v34) && (decide (r98.1.tuple.snap.level = v35) && (decide (r98.1.tuple.snap.final = v36))))))) (some false) (cond (decide (r98.1.id ≠ v28)) (some false) (cond (decide (r98.1.n ≠ v29)) (some false) ((takeI r98.1.tuple.log (v37.length : Int)).bind fun l162 =>
  (Va l162 v37).bind fun r164 =>
  cond (!r164) (some false) (cond (decide (r98.1.n < (r98.2.length : Int))) (some false) (X3 (Z0 x1 x2 n) v27 r98 Yy 0))))))))) (cond (decide ((r98.1.tuple.log.length : Int) < (v37.length : Int))) (some false) (cond (decide (r98.1.commit ≠ v43)) (some false) (cond (!(decide (r98.1.tuple.snap.index = v32) && (decide (r98.1.tuple.snap.term = v33) && (decide (r98.1.tuple.snap.sum = v34) && (decide (r98.1.tuple.snap.level = v35) && (decide (r98.1.tuple.snap.final = v36))))))) (some false) (cond (decide (r98.1.id ≠ v28)) (some false) (cond (decide (r98.1.n ≠ v29)) (some false) ((takeI r98.1.tuple.log (v37.length : Int)).bind fun l225 =>
  (Va l225 v37).bind fun r227 =>
  cond (!r227) (some false) (cond (decide (r98.1.n < (r98.2.length : Int))) (some false) (X0 (Z0 x1 x2 n) v27 r98 Yy 0))))))))) (cond (decide ((r98.1.tuple.log.length : Int) < (v37.length : Int))) (some false) (cond (decide (r98.1.commit ≠ v43)) (some false) (cond (!(decide (r98.1.tuple.snap.index = v32) && (decide (r98.1.tuple.snap.term = v33) && (decide (r98.1.tuple.snap.sum = v34) && (decide (r98.1.tuple.snap.level = v35) && (decide (r98.1.tuple.snap.final = v36))))))) (some false) (cond (decide (r98.1.id ≠ v28)) (some false) (cond (decide (r98.1.n ≠ v29)) (some false) ((takeI r98.1.tuple.log (v37.length : Int)).bind fun l288 =>
  (Va l288 v37).bind fun r290 =>
  cond (!r290) (some false) (cond (decide (r98.1.n < (r98.2.length : Int))) (some false) (Xz (Z0 x1 x2 n) v27 r98 Yy 0))))))))))) ((idx x2 v27).bind fun e335 =>
  (Zaz (⟨v28, v29, v30, v31, (⟨(⟨v32, v33, v34, v35, v36⟩ : St), v37, v41, v42⟩ : Tu), v43, (⟨v44, v45, v46, v47, v48⟩ : St), v49, v53, v57, v61⟩ : Co) 0 {e335 with dst := v28}).bind fun r344 =>
  (V7 r344.1).bind fun r378 =>
  cond (!r378) (some false) (cond (decide (r344.1.tuple.term < v41)) (some false) (cond (decide (r344.1.tuple.term = v41)) (cond (decide (0 < v42)) (cond (decide (r344.1.tuple.vote ≠ v42)) (some false) (cond (decide ((r344.1.tuple.log.length : Int) < (v37.length : Int))) (some false) (cond (decide (r344.1.commit ≠ v43)) (some false) (cond (!(decide (r344.1.tuple.snap.index = v32) && (decide (r344.1.tuple.snap.term = v33) && (decide (r344.1.tuple.snap.sum = v34) && (decide (r344.1.tuple.snap.level = v35) && (decide (r344.1.tuple.snap.final = v36))))))) (some false) (cond (decide (r344.1.id ≠ v28)) (some false) (cond (decide (r344.1.n ≠ v29)) (some false) ((takeI r344.1.tuple.log (v37.length : Int)).bind fun l408 =>
  (Va l408 v37).bind fun r410 =>
  cond (!r410) (some false) (cond (decide (r344.1.n < (r344.2.length : Int))) (some false) (X6 (Z0 x1 x2 n) v27 r344 Yy 0))))))))) (cond (decide ((r344.1.tuple.log.length : Int) < (v37.length : Int))) (some false) (cond (decide (r344.1.commit ≠ v43)) (some false) (cond (!(decide (r344.1.tuple.snap.index = v32) && (decide (r344.1.tuple.snap.term = v33) && (decide (r344.1.tuple.snap.sum = v34) && (decide (r344.1.tuple.snap.level = v35) && (decide (r344.1.tuple.snap.final = v36))))))) (some false) (cond (decide (r344.1.id ≠ v28)) (some false) (cond (decide (r344.1.n ≠ v29)) (some false) ((takeI r344.1.tuple.log (v37.length : Int)).bind fun l471 =>
  (Va l471 v37).bind fun r473 =>
  cond (!r473) (some false) (cond (decide (r344.1.n < (r344.2.length : Int))) (some false) (X4 (Z0 x1 x2 n) v27 r344 Yy 0))))))))) (cond (decide ((r344.1.tuple.log.length : Int) < (v37.length : Int))) (some false) (cond (decide (r344.1.commit ≠ v43)) (some false) (cond (!(decide (r344.1.tuple.snap.index = v32) && (decide (r344.1.tuple.snap.term = v33) && (decide (r344.1.tuple.snap.sum = v34) && (decide (r344.1.tuple.snap.level = v35) && (decide (r344.1.tuple.snap.final = v36))))))) (some false) (cond (decide (r344.1.id ≠ v28)) (some false) (cond (decide (r344.1.n ≠ v29)) (some false) ((takeI r344.1.tuple.log (v37.length : Int)).bind fun l534 =>
  (Va l534 v37).bind fun r536 =>
  cond (!r536) (some false) (cond (decide (r344.1.n < (r344.2.length : Int))) (some false) (X2 (Z0 x1 x2 n) v27 r344 Yy 0))))))))))))) ((Jl).bind fun r581 =>
  some r581)
def X1 (x1 : List UInt8) (x2 : List Ms) (r616 : Co × List Ms) : Nat → Bool → Int → Option (Bool)
 | 0, _, _ => none
 | n + 1, v692, v693 =>
  cond (decide (v693 < (r616.2.length : Int))) ((idx r616.2 v693).bind fun e699 =>
  (Vl e699 r616.1.n).bind fun r704 =>
  cond (!r704) (some false) ((idx r616.2 v693).bind fun e709 =>
  cond (decide (e709.frm ≠ r616.1.id)) (some false) ((idx r616.2 v693).bind fun e717 =>
  cond (decide (e717.term ≠ r616.1.tuple.term)) (some false) (X1 x1 x2 r616 n v692 (IntKind.wrap .i64 (v693 + 1)))))) (Z0 x1 x2 Yy 1 r616.1.id r616.1.n r616.1.role r616.1.binary r616.1.tuple.snap.index r616.1.tuple.snap.term r616.1.tuple.snap.sum r616.1.tuple.snap.level r616.1.tuple.snap.final r616.1.tuple.log r616.1.tuple.term r616.1.tuple.vote r616.1.commit r616.1.applied.index r616.1.applied.term r616.1.applied.sum r616.1.applied.level r616.1.applied.final r616.1.votes r616.1.next r616.1.mtch r616.1.caps)
def X5 (x1 : List UInt8) (x2 : List Ms) (r616 : Co × List Ms) : Nat → Bool → Int → Option (Bool)
 | 0, _, _ => none
 | n + 1, v756, v757 =>
  cond (decide (v757 < (r616.2.length : Int))) ((idx r616.2 v757).bind fun e763 =>
  (Vl e763 r616.1.n).bind fun r768 =>
  cond (!r768) (some false) ((idx r616.2 v757).bind fun e773 =>
  cond (decide (e773.frm ≠ r616.1.id)) (some false) ((idx r616.2 v757).bind fun e781 =>
  cond (decide (e781.term ≠ r616.1.tuple.term)) (some false) (X5 x1 x2 r616 n v756 (IntKind.wrap .i64 (v757 + 1)))))) (Z0 x1 x2 Yy 1 r616.1.id r616.1.n r616.1.role r616.1.binary r616.1.tuple.snap.index r616.1.tuple.snap.term r616.1.tuple.snap.sum r616.1.tuple.snap.level r616.1.tuple.snap.final r616.1.tuple.log r616.1.tuple.term r616.1.tuple.vote r616.1.commit r616.1.applied.index r616.1.applied.term r616.1.applied.sum r616.1.applied.level r616.1.applied.final r616.1.votes r616.1.next r616.1.mtch r616.1.caps)
def Xr (x1 : List UInt8) (x2 : List Ms) (r616 : Co × List Ms) : Nat → Bool → Int → Option (Bool)
 | 0, _, _ => none
 | n + 1, v820, v821 =>
  cond (decide (v821 < (r616.2.length : Int))) ((idx r616.2 v821).bind fun e827 =>
  (Vl e827 r616.1.n).bind fun r832 =>
  cond (!r832) (some false) ((idx r616.2 v821).bind fun e837 =>
  cond (decide (e837.frm ≠ r616.1.id)) (some false) ((idx r616.2 v821).bind fun e845 =>
  cond (decide (e845.term ≠ r616.1.tuple.term)) (some false) (Xr x1 x2 r616 n v820 (IntKind.wrap .i64 (v821 + 1)))))) (Z0 x1 x2 Yy 1 r616.1.id r616.1.n r616.1.role r616.1.binary r616.1.tuple.snap.index r616.1.tuple.snap.term r616.1.tuple.snap.sum r616.1.tuple.snap.level r616.1.tuple.snap.final r616.1.tuple.log r616.1.tuple.term r616.1.tuple.vote r616.1.commit r616.1.applied.index r616.1.applied.term r616.1.applied.sum r616.1.applied.level r616.1.applied.final r616.1.votes r616.1.next r616.1.mtch r616.1.caps)
def Xs (x1 : List UInt8) (x2 : List Ms) (r865 : Co × List Ms) : Nat → Bool → Int → Option (Bool)
 | 0, _, _ => none
 | n + 1, v941, v942 =>
  cond (decide (v942 < (r865.2.length : Int))) ((idx r865.2 v942).bind fun e948 =>
  (Vl e948 r865.1.n).bind fun r953 =>
  cond (!r953) (some false) ((idx r865.2 v942).bind fun e958 =>
  cond (decide (e958.frm ≠ r865.1.id)) (some false) ((idx r865.2 v942).bind fun e966 =>
  cond (decide (e966.term ≠ r865.1.tuple.term)) (some false) (Xs x1 x2 r865 n v941 (IntKind.wrap .i64 (v942 + 1)))))) (Z0 x1 x2 Yy 1 r865.1.id r865.1.n r865.1.role r865.1.binary r865.1.tuple.snap.index r865.1.tuple.snap.term r865.1.tuple.snap.sum r865.1.tuple.snap.level r865.1.tuple.snap.final r865.1.tuple.log r865.1.tuple.term r865.1.tuple.vote r865.1.commit r865.1.applied.index r865.1.applied.term r865.1.applied.sum r865.1.applied.level r865.1.applied.final r865.1.votes r865.1.next r865.1.mtch r865.1.caps)
def Xp (x1 : List UInt8) (x2 : List Ms) (r865 : Co × List Ms) : Nat → Bool → Int → Option (Bool)
 | 0, _, _ => none
 | n + 1, v1005, v1006 =>
  cond (decide (v1006 < (r865.2.length : Int))) ((idx r865.2 v1006).bind fun e1012 =>
  (Vl e1012 r865.1.n).bind fun r1017 =>
  cond (!r1017) (some false) ((idx r865.2 v1006).bind fun e1022 =>
  cond (decide (e1022.frm ≠ r865.1.id)) (some false) ((idx r865.2 v1006).bind fun e1030 =>
  cond (decide (e1030.term ≠ r865.1.tuple.term)) (some false) (Xp x1 x2 r865 n v1005 (IntKind.wrap .i64 (v1006 + 1)))))) (Z0 x1 x2 Yy 1 r865.1.id r865.1.n r865.1.role r865.1.binary r865.1.tuple.snap.index r865.1.tuple.snap.term r865.1.tuple.snap.sum r865.1.tuple.snap.level r865.1.tuple.snap.final r865.1.tuple.log r865.1.tuple.term r865.1.tuple.vote r865.1.commit r865.1.applied.index r865.1.applied.term r865.1.applied.sum r865.1.applied.level r865.1.applied.final r865.1.votes r865.1.next r865.1.mtch r865.1.caps)
def Xq (x1 : List UInt8) (x2 : List Ms) (r865 : Co × List Ms) : Nat → Bool → Int → Option (Bool)
 | 0, _, _ => none
 | n + 1, v1069, v1070 =>
  cond (decide (v1070 < (r865.2.length : Int))) ((idx r865.2 v1070).bind fun e1076 =>
  (Vl e1076 r865.1.n).bind fun r1081 =>
  cond (!r1081) (some false) ((idx r865.2 v1070).bind fun e1086 =>
  cond (decide (e1086.frm ≠ r865.1.id)) (some false) ((idx r865.2 v1070).bind fun e1094 =>
  cond (decide (e1094.term ≠ r865.1.tuple.term)) (some false) (Xq x1 x2 r865 n v1069 (IntKind.wrap .i64 (v1070 + 1)))))) (Z0 x1 x2 Yy 1 r865.1.id r865.1.n r865.1.role r865.1.binary r865.1.tuple.snap.index r865.1.tuple.snap.term r865.1.tuple.snap.sum r865.1.tuple.snap.level r865.1.tuple.snap.final r865.1.tuple.log r865.1.tuple.term r865.1.tuple.vote r865.1.commit r865.1.applied.index r865.1.applied.term r865.1.applied.sum r865.1.applied.level r865.1.applied.final r865.1.votes r865.1.next r865.1.mtch r865.1.caps)
def Zbq (x0 : Co) (x1 : List UInt8) (x2 : List Ms) : Option (Bool) := (Zba x0).bind fun r6 =>
  cond r6 ((Jl).bind fun r10 =>
  some r10) ((V7 x0).bind fun r13 =>
  cond (!r13) ((Jl).bind fun r17 =>
  some r17) (cond (decide (20 < (x2.length : Int))) ((Jl).bind fun r22 =>
  some r22) (cond (decide (0 < (x2.length : Int))) ((idx x2 0).bind fun e589 =>
  cond (decide (4 < (e589.entries.length : Int))) ((Jl).bind fun r596 =>
  some r596) (cond (decide (0 < (x1.length : Int))) ((idx x1 0).bind fun e603 =>
  (idx x2 0).bind fun e607 =>
  (Zaz x0 (e603.toNat : Int) {e607 with dst := x0.id}).bind fun r616 =>
  (V7 r616.1).bind fun r650 =>
  cond (!r650) (some false) (cond (decide (r616.1.tuple.term < x0.tuple.term)) (some false) (cond (decide (r616.1.tuple.term = x0.tuple.term)) (cond (decide (0 < x0.tuple.vote)) (cond (decide (r616.1.tuple.vote ≠ x0.tuple.vote)) (some false) (cond (decide ((r616.1.tuple.log.length : Int) < (x0.tuple.log.length : Int))) (some false) (cond (decide (r616.1.commit ≠ x0.commit)) (some false) (cond (!(decide (r616.1.tuple.snap.index = x0.tuple.snap.index) && (decide (r616.1.tuple.snap.term = x0.tuple.snap.term) && (decide (r616.1.tuple.snap.sum = x0.tuple.snap.sum) && (decide (r616.1.tuple.snap.level = x0.tuple.snap.level) && (decide (r616.1.tuple.snap.final = x0.tuple.snap.final))))))) (some false) (cond (decide (r616.1.id ≠ x0.id)) (some false) (cond (decide (r616.1.n ≠ x0.n)) (some false) ((takeI r616.1.tuple.log (x0.tuple.log.length : Int)).bind fun l680 =>
  (Va l680 x0.tuple.log).bind fun r682 =>
  cond (!r682) (some false) (cond (decide (r616.1.n < (r616.2.length : Int))) (some false) (X1 x1 x2 r616 Yy false 0))))))))) (cond (decide ((r616.1.tuple.log.length : Int) < (x0.tuple.log.length : Int))) (some false) (cond (decide (r616.1.commit ≠ x0.commit)) (some false) (cond (!(decide (r616.1.tuple.snap.index = x0.tuple.snap.index) && (decide (r616.1.tuple.snap.term = x0.tuple.snap.term) && (decide (r616.1.tuple.snap.sum = x0.tuple.snap.sum) && (decide (r616.1.tuple.snap.level = x0.tuple.snap.level) && (decide (r616.1.tuple.snap.final = x0.tuple.snap.final))))))) (some false) (cond (decide (r616.1.id ≠ x0.id)) (some false) (cond (decide (r616.1.n ≠ x0.n)) (some false) ((takeI r616.1.tuple.log (x0.tuple.log.length : Int)).bind fun l744 =>
  (Va l744 x0.tuple.log).bind fun r746 =>
  cond (!r746) (some false) (cond (decide (r616.1.n < (r616.2.length : Int))) (some false) (X5 x1 x2 r616 Yy false 0))))))))) (cond (decide ((r616.1.tuple.log.length : Int) < (x0.tuple.log.length : Int))) (some false) (cond (decide (r616.1.commit ≠ x0.commit)) (some false) (cond (!(decide (r616.1.tuple.snap.index = x0.tuple.snap.index) && (decide (r616.1.tuple.snap.term = x0.tuple.snap.term) && (decide (r616.1.tuple.snap.sum = x0.tuple.snap.sum) && (decide (r616.1.tuple.snap.level = x0.tuple.snap.level) && (decide (r616.1.tuple.snap.final = x0.tuple.snap.final))))))) (some false) (cond (decide (r616.1.id ≠ x0.id)) (some false) (cond (decide (r616.1.n ≠ x0.n)) (some false) ((takeI r616.1.tuple.log (x0.tuple.log.length : Int)).bind fun l808 =>
  (Va l808 x0.tuple.log).bind fun r810 =>
  cond (!r810) (some false) (cond (decide (r616.1.n < (r616.2.length : Int))) (some false) (Xr x1 x2 r616 Yy false 0))))))))))) ((idx x2 0).bind fun e856 =>
  (Zaz x0 0 {e856 with dst := x0.id}).bind fun r865 =>
  (V7 r865.1).bind fun r899 =>
  cond (!r899) (some false) (cond (decide (r865.1.tuple.term < x0.tuple.term)) (some false) (cond (decide (r865.1.tuple.term = x0.tuple.term)) (cond (decide (0 < x0.tuple.vote)) (cond (decide (r865.1.tuple.vote ≠ x0.tuple.vote)) (some false) (cond (decide ((r865.1.tuple.log.length : Int) < (x0.tuple.log.length : Int))) (some false) (cond (decide (r865.1.commit ≠ x0.commit)) (some false) (cond (!(decide (r865.1.tuple.snap.index = x0.tuple.snap.index) && (decide (r865.1.tuple.snap.term = x0.tuple.snap.term) && (decide (r865.1.tuple.snap.sum = x0.tuple.snap.sum) && (decide (r865.1.tuple.snap.level = x0.tuple.snap.level) && (decide (r865.1.tuple.snap.final = x0.tuple.snap.final))))))) (some false) (cond (decide (r865.1.id ≠ x0.id)) (some false) (cond (decide (r865.1.n ≠ x0.n)) (some false) ((takeI r865.1.tuple.log (x0.tuple.log.length : Int)).bind fun l929 =>
  (Va l929 x0.tuple.log).bind fun r931 =>
  cond (!r931) (some false) (cond (decide (r865.1.n < (r865.2.length : Int))) (some false) (Xs x1 x2 r865 Yy false 0))))))))) (cond (decide ((r865.1.tuple.log.length : Int) < (x0.tuple.log.length : Int))) (some false) (cond (decide (r865.1.commit ≠ x0.commit)) (some false) (cond (!(decide (r865.1.tuple.snap.index = x0.tuple.snap.index) && (decide (r865.1.tuple.snap.term = x0.tuple.snap.term) && (decide (r865.1.tuple.snap.sum = x0.tuple.snap.sum) && (decide (r865.1.tuple.snap.level = x0.tuple.snap.level) && (decide (r865.1.tuple.snap.final = x0.tuple.snap.final))))))) (some false) (cond (decide (r865.1.id ≠ x0.id)) (some false) (cond (decide (r865.1.n ≠ x0.n)) (some false) ((takeI r865.1.tuple.log (x0.tuple.log.length : Int)).bind fun l993 =>
  (Va l993 x0.tuple.log).bind fun r995 =>
  cond (!r995) (some false) (cond (decide (r865.1.n < (r865.2.length : Int))) (some false) (Xp x1 x2 r865 Yy false 0))))))))) (cond (decide ((r865.1.tuple.log.length : Int) < (x0.tuple.log.length : Int))) (some false) (cond (decide (r865.1.commit ≠ x0.commit)) (some false) (cond (!(decide (r865.1.tuple.snap.index = x0.tuple.snap.index) && (decide (r865.1.tuple.snap.term = x0.tuple.snap.term) && (decide (r865.1.tuple.snap.sum = x0.tuple.snap.sum) && (decide (r865.1.tuple.snap.level = x0.tuple.snap.level) && (decide (r865.1.tuple.snap.final = x0.tuple.snap.final))))))) (some false) (cond (decide (r865.1.id ≠ x0.id)) (some false) (cond (decide (r865.1.n ≠ x0.n)) (some false) ((takeI r865.1.tuple.log (x0.tuple.log.length : Int)).bind fun l1057 =>
  (Va l1057 x0.tuple.log).bind fun r1059 =>
  cond (!r1059) (some false) (cond (decide (r865.1.n < (r865.2.length : Int))) (some false) (Xq x1 x2 r865 Yy false 0))))))))))))) ((Jl).bind fun r1105 =>
  some r1105))))
end

end Go.Proofs.Ytamjlcaoieliaaa
