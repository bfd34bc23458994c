/- Texts of one claim put together. -/
import Derived.Test.YtamjlcaoieliaaaGreatMu1
import Derived.Test.YtamjlcaoieliaaaGreatMu0
import Derived.Deep.DeepCutAuto
namespace Go.Proofs.YtamjlcaoieliaaaGreat

section
open Go Go.RowKit
set_option maxRecDepth 100000
theorem Rd.blk {w : World} {A : OA} {xs : List Value} (h : Rd w A xs) (hne : xs ≠ []) : ∀ a, A = some a → a.block < w.heap.size := fun a ha => by
 cases xs with
 | nil => exact (hne rfl).elim
 | cons v xs =>
  obtain ⟨b, o, hA, hb, _⟩ := h 0 v rfl
  rw [ha] at hA
  injection hA with hA
  subst hA
  exact hb
theorem KeepB.rdN {S : Nat → Prop} {w w' : World} {A : OA} {xs : List Value} (hk : KeepB S w w') (h : Rd w A xs) (hs : ∀ a, A = some a → xs ≠ [] → S a.block) : Rd w' A xs := by
 cases xs with
 | nil => exact Rd.nil _ _
 | cons v xs => exact hk.rd h (fun a ha => hs a ha (by simp))
theorem append1_does (bl m d : Nat) (B : OA) (l : List En) (w0 : World) (hbl : w0.heap[bl]? = some (.cells #[.slice B m d] 24)) (hl : LI w0 B m d l) (x : Tu) (hm : m ≤ 300) (hx : V7 x = true) :
  Does 110 #[.pointer (some ⟨bl, 0, none⟩)] w0 x (some { x with log := x.log ++ l }) := by
 intro W bo A' c' hB hbo hT hLI hA'
 have hxb := Zfc x hx
 have hol : bo < W.heap.size := (Array.getElem?_eq_some_iff.1 hT).1
 have hbl' : bl < w0.heap.size := (Array.getElem?_eq_some_iff.1 hbl).1
 have hblW : W.heap[bl]? = some (.cells #[.slice B m d] 24) := (hB.block bl hbl').trans hbl
 have hne : bl ≠ bo := by omega
 have hlW := hl.below hB
 show Calls _ _ #[_, _] _ _
 refine Yn Tryz.func110 rfl Tryz.ntmps110 rfl ?_
 have hS := St0.old (w := W) (fun k => k ≠ bo) (e := .box bo [.int .i64 x.snap.index, .int .i64 x.snap.term, .int .i64 x.snap.sum, .int .i64 x.snap.level, .bool x.snap.final, .slice A' x.log.length c', .int .i64 x.term, .int .i64 x.vote] 26) hT (fun k hk => by subst hk; exact ⟨hol, by simp⟩)
 refine Yi 11 [10] (fun i b => (i = 10 → b ≠ bo)) ⟨by kernel_rfl, by kernel_rfl⟩ hS (fun w hS hB => Zq [Tt,Tt,Tt,Tt,Tt,Tt] (by decide +kernel) (by repeat (first | exact PF.body)) ?_)
 repeat (first | refine LtK.put rfl rfl rfl (by first | exact Zw rfl | exact Zf (by first | exact Yj | exact X4) rfl | (apply Yb; first | exact Zh (by first | exact Zeb | exact Xx) rfl (Zhs _) hS (by repeat (first | exact Has.head | apply Has.tail)) (by first | trivial) (by repeat (first | exact Seg.here (Pre.succ Pre.zero) | apply Seg.succ)) | exact Vf (by first | exact Zeb | exact Xx) rfl (Zhs _) hS (by first | trivial) (by first | trivial) (by assumption) (by repeat (first | exact Seg.here (Pre.succ Pre.zero)))) | exact X5 rfl) ?_)
 refine LtK.nil (Z6 [Ff,Ff,Ff,Ff,Ff,Ff,Tt] 6 ⟨by decide, by kernel_rfl, by kernel_rfl⟩ rfl rfl ?_)
 dsimp only [Z0]
 repeat (first | apply Zg | (apply Yw; refine Xb (ps := [(0, .tmp 7), (1, .tmp 8)]) [.slice A' x.log.length c', .slice B m d] (by first | exact el_122) (by first | exact zc_24) rfl rfl rfl rfl rfl (by kernel_rfl) hS ?_; rintro bq w hS hB))
 refine Z9 (by first | assumption) ?_
 refine Z6 [Ff,Ff,Ff,Ff,Ff,Ff,Ff,Tt] 7 ⟨by decide, by kernel_rfl, by kernel_rfl⟩ rfl rfl ?_
 dsimp only [Z0]
 repeat (first | apply Zg | (apply Y5; refine Zn rfl rfl rfl rfl (by kernel_rfl) rfl (concat_any bq 2 A' B x.log.length m c' d x.log l _ rfl hl.len (by omega) (hS.base.rd hLI.rd (fun a ha => (hA' a ha).1)) (hS.base.rdN hlW.rd (fun a ha hne => by have := hl.rd.blk hne a ha; omega)) (hS.box_cell (b := bq) (by repeat (first | exact Has.head)) (by repeat (first | exact Seg.here (Pre.succ Pre.zero)))) (hS.box_cell (b := bq) (by repeat (first | exact Has.head)) (by repeat (first | exact Seg.here (Pre.succ Pre.zero) | apply Seg.succ))) (by omega)) ?_; rintro e w1 ⟨A2, c2, ⟨rfl, hs⟩, hB⟩; refine ⟨_, rfl, ?_⟩; have hS := hS.slice hs hB))
 refine Z9 (by first | assumption) ?_
 refine Y7 [Ff,Ff,Ff,Ff,Ff,Ff,Ff,Ff,Tt] [10] (fun b => b ≠ bo) (by decide +kernel) (by intro j hj b hb; simp only [List.mem_cons, List.not_mem_nil, or_false] at hj; (try rcases hj with rfl | rfl) <;> simp_all) (by repeat (first | exact PF.body)) ?_
 repeat (first | refine LtK.put rfl rfl rfl (by first | exact X5 rfl) ?_)
 refine LtK.nil (Zq [Ff,Ff,Ff,Ff,Ff,Ff,Ff,Ff,Ff,Tt] (by decide +kernel) (by repeat (first | exact PF.body)) ?_)
 repeat (first | refine LtK.put rfl rfl rfl (by first | exact Zf (by first | exact Yj | exact X4) rfl) ?_)
 refine LtK.nil (Yq [Ff,Ff,Ff,Ff,Ff,Ff,Ff,Ff,Ff,Ff,Tt] 10 ⟨by decide, by kernel_rfl, by kernel_rfl⟩ rfl rfl ?_)
 dsimp only [Z0]
 repeat (first | apply Zg | (apply Yu; refine Zl rfl rfl rfl (by first | exact CellsOf.slice) hS (by repeat (first | exact Pos.head | apply Pos.tail)) (by repeat (first | exact SetC.here (by repeat (first | exact Ovr.nil | apply Ovr.cons)) | apply SetC.succ)) (by kernel_rfl) rfl (fun w hS hB => ?_)))
 refine Yk (by first | exact hB.sub (fun _ _ h => by simpa using h)) ?_
 refine Ye (by kernel_rfl) (Zdb rfl (by first | exact RV.nil) rfl ?_)
 have hob := hS.ok (.box bo [.int .i64 x.snap.index, .int .i64 x.snap.term, .int .i64 x.snap.sum, .int .i64 x.snap.level, .bool x.snap.final, .slice A2 (x.log.length + m) c2, .int .i64 x.term, .int .i64 x.vote] 26) (Has.mem (by repeat (first | exact Has.head | apply Has.tail)))
 have hrd : LI w A2 (x.log ++ l).length c2 (x.log ++ l) := ⟨rfl, by rw [List.length_append, hl.len]; omega, by rw [List.length_append, hl.len]; exact hs.le, hs.cap, hS.rd (by repeat (first | exact Has.head))⟩
 have hln : (x.log ++ l).length = x.log.length + m := by rw [List.length_append, hl.len]
 refine ⟨hS.base, .inl ⟨_, A2, c2, rfl, rfl, ?_, hrd, fun a ha => ⟨(hS.rng (.rd A2 (ens (x.log ++ l))) (Has.mem (by repeat (first | exact Has.head))) a.block ⟨a, ha, rfl⟩).1, .inr ?_⟩⟩⟩
 ·unfold TB; rw [hln]; exact hob
 ·exact Nat.le_of_not_lt fun hlt => (hS.rng (.rd A2 (ens (x.log ++ l))) (Has.mem (by repeat (first | exact Has.head))) a.block ⟨a, ha, rfl⟩).2 hlt (hS.rd_ne 0 2 rfl rfl rfl a ha)
def Chg (w0 : World) (x : Tu) (res : Option Tu) (e : Ending) (w' : World) : Prop := ∃ A2 c2, (e = .returned (.tuple #[.agg #[.int .i64 (Zch x res).snap.index, .int .i64 (Zch x res).snap.term, .int .i64 (Zch x res).snap.sum, .int .i64 (Zch x res).snap.level, .bool (Zch x res).snap.final, .slice A2 (Zch x res).log.length c2, .int .i64 (Zch x res).term, .int .i64 (Zch x res).vote], .int .i64 (Zhh x res)]) ∧ Sl w0 w' A2 (Zch x res).log.length c2 3 (ens (Zch x res).log)) ∧ Below w0.heap.size w0 w'
theorem append_any (x : Tu) (A B : OA) (c m d : Nat) (l : List En) (w0 : World) (hx : LI w0 A x.log.length c x.log) (hA : ∀ a, A = some a → a.block < w0.heap.size) (hl : LI w0 B m d l) (hm : m ≤ 300) :
  Calls Tryz.prog 66 #[.agg #[.int .i64 x.snap.index, .int .i64 x.snap.term, .int .i64 x.snap.sum, .int .i64 x.snap.level, .bool x.snap.final, .slice A x.log.length c, .int .i64 x.term, .int .i64 x.vote], .slice B m d] w0 (Chg w0 x (some { x with log := x.log ++ l })) := by
 refine Yn Tryz.func66 rfl Tryz.ntmps66 rfl ?_
 have hS := St0.start All w0
 repeat (first | (apply Zd; intro K hK) | apply Ze)
 first | (apply X9; refine Z4 rfl rfl rfl (by first | exact CellsOf.agg) hS (fun bt w hS hB => ?_))
 first | (apply X9; refine Z4 rfl rfl rfl (by first | exact CellsOf.slice) hS (fun bl w hS hB => ?_))
 repeat (first | apply Zg | (apply Zc; assumption) | (apply Zd; intro K hK) | apply Ze | (apply Vd; refine Z5 rfl rfl (by first | exact Zal) hS (fun b w hS hB => ?_)) | (apply Yw; refine Za rfl rfl rfl (by first | exact Z2 rfl | (apply Yb; first | exact Zi (by first | exact Ya) rfl (Zhr _) hS (by repeat (first | exact Has.head | apply Has.tail)) (by first | trivial) (by repeat (first | exact Seg.here (by repeat (first | exact Pre.zero | apply Pre.succ))))) | exact Vc rfl rfl) ?_))
 have hbl := (hS.box_ge (b := bl) (by repeat (first | exact Has.head | apply Has.tail)))
 refine Zn rfl rfl rfl rfl (by kernel_rfl) rfl (changed_any x (some { x with log := x.log ++ l }) A c 110 #[.pointer (some ⟨bl, 0, none⟩)] _ (by kernel_rfl) (hx.below hS.pure) (fun a ha => Nat.lt_of_lt_of_le (hA a ha) hS.size)
  (fun hT => append1_does bl m d B l _ hbl.2.2 (hl.below hS.pure) x hm hT)) ?_
 rintro e w1 ⟨A2, c2, ⟨rfl, hs⟩, hB⟩
 refine ⟨_, rfl, ?_⟩
 replace hS := hS.slice hs hB
 repeat (first | apply Zg | (apply Zc; assumption) | (apply Yu; refine Zl rfl rfl rfl (by first | exact CellsOf.agg) hS (by repeat (first | exact Pos.head | apply Pos.tail)) (by repeat (first | exact SetC.here (by repeat (first | exact Ovr.nil | apply Ovr.cons)))) (by kernel_rfl) rfl (fun w hS hB => ?_)) | (apply Yw; refine Za rfl rfl rfl (by first | exact Z2 rfl | exact Zv rfl rfl) ?_) | apply Zk)
 refine Zm rfl (by first | exact RV.cell rfl (Zu (by first | exact Ya) hS (by repeat (first | exact Has.head | apply Has.tail)) (by repeat (first | exact Seg.here (by repeat (first | exact Pre.zero | apply Pre.succ))))) (RV.tmp rfl RV.nil)) rfl ?_
 exact ⟨A2, c2, ⟨rfl, hS.giveS (by repeat (first | exact Has.head)) hs.len hs.le hs.cap⟩, hS.pure⟩
def Zg7 (x : Tu) (i : Int) : Option Tu := if x.snap.index < i ∧ i ≤ x.last + 1 then some { x with log := x.log.take (i - x.snap.index - 1).toNat } else none
theorem cut1_does (bf : Nat) (i : Int) (w0 : World) (hbf : w0.heap[bf]? = some (.cells #[.int .i64 i] 3)) (x : Tu) (hx : V7 x = true) :
  Does 119 #[.pointer (some ⟨bf, 0, none⟩)] w0 x (Zg7 x i) := by
 intro W bo A' c' hB hbo hT hLI hA'
 have hxb := Zfc x hx
 have hol : bo < W.heap.size := (Array.getElem?_eq_some_iff.1 hT).1
 have hbf' : bf < w0.heap.size := (Array.getElem?_eq_some_iff.1 hbf).1
 have hbW : W.heap[bf]? = some (.cells #[.int .i64 i] 3) := (hB.block bf hbf').trans hbf
 have hne : bf ≠ bo := by omega
 have hle := hLI.le
 show Calls _ _ #[_, _] _ _
 refine Yn Tryz.func119 rfl Tryz.ntmps119 rfl ?_
 have hS := St0.old (w := W) (fun k => k ≠ bo) (e := .box bo [.int .i64 x.snap.index, .int .i64 x.snap.term, .int .i64 x.snap.sum, .int .i64 x.snap.level, .bool x.snap.final, .slice A' x.log.length c', .int .i64 x.term, .int .i64 x.vote] 26) hT (fun k hk => by subst hk; exact ⟨hol, by simp⟩)
 by_cases h1 : x.snap.index < i
 ·by_cases h2 : i ≤ x.snap.index + x.log.length + 1
  ·have e1 : Zg7 x i = some { x with log := x.log.take (i - x.snap.index - 1).toNat } := if_pos ⟨h1, h2⟩
   rw [e1]
   obtain ⟨k, hk⟩ : ∃ k : Nat, i - x.snap.index - 1 = k := ⟨(i - x.snap.index - 1).toNat, by omega⟩
   have hkn : (i - x.snap.index - 1).toNat = k := by omega
   repeat (first | (apply Zd; intro K hK))
   refine Yi 17 [] (fun _ _ => True) ⟨by kernel_rfl, by kernel_rfl⟩ hS (fun w hS hB => Zq [Tt,Tt,Tt,Tt,Tt,Tt,Tt,Tt,Tt,Tt,Tt,Tt] (by decide +kernel) (by repeat (first | exact PF.body | apply PF.then)) ?_)
   repeat (first | refine LtK.put rfl rfl rfl (by first | exact Zw rfl | exact Zf (by first | exact Yj | exact Xj) rfl | (apply Yb; first | exact Zh (by first | exact Zeb | exact Z1) rfl (Zhs _) hS (by repeat (first | exact Has.head | apply Has.tail)) (by first | trivial) (by repeat (first | exact Seg.here (Pre.succ Pre.zero))) | exact Zi (by first | exact Y6 | exact Ya) rfl (Zhs _) hS (by repeat (first | exact Has.head)) (by first | trivial) (by repeat (first | exact Seg.here (by repeat (first | exact Pre.zero | apply Pre.succ)))) | exact Vf (by first | exact Zeb | exact Z1) rfl (Zhs _) hS (by first | trivial) (by first | trivial) (by assumption) (by repeat (first | exact Seg.here (Pre.succ Pre.zero)))) | (apply Yr; first | exact Zfr rfl rfl (by omega)) | exact X5 rfl) ?_)
   refine LtK.nil (Z6 [Ff,Ff,Ff,Ff,Ff,Ff,Ff,Ff,Ff,Ff,Ff,Ff,Tt] 12 ⟨by decide, by kernel_rfl, by kernel_rfl⟩ rfl rfl ?_)
   dsimp only [Z0]
   repeat (first | apply Zg | (apply Y5; first | refine Xh rfl rfl rfl (by kernel_rfl) rfl (Zhe _ _ _ _ _ _ _ (by omega) (by omega)) hS (fun w hS hB => ?_)))
   refine Z9 (by first | assumption) ?_
   refine Zq [Ff,Ff,Ff,Ff,Ff,Ff,Ff,Ff,Ff,Ff,Ff,Ff,Ff,Tt,Tt,Tt] (by decide +kernel) (by repeat (first | exact PF.body | apply PF.then)) ?_
   repeat (first | refine LtK.put rfl rfl rfl (by first | (apply Yr; first | exact Zgh rfl rfl (by omega) | exact Ze9 rfl rfl (by omega)) | (apply Xg; first | exact Ym rfl rfl rfl)) ?_)
   refine LtK.nil (Z6 [Ff,Ff,Ff,Ff,Ff,Ff,Ff,Ff,Ff,Ff,Ff,Ff,Ff,Ff,Ff,Ff,Tt] 16 ⟨by decide, by kernel_rfl, by kernel_rfl⟩ rfl rfl ?_)
   dsimp only [Z0]
   repeat (first | apply Zg | (apply Y5; first | refine Xh rfl rfl rfl (by kernel_rfl) rfl (Zg9 _) hS (fun w hS hB => ?_)))
   refine Z9 (by first | assumption) ?_
   refine Ye (by kernel_rfl) ?_
   repeat (first | (apply Zc; assumption))
   refine Yi 17 [16] (fun i b => (i = 16 → b ≠ bo)) ⟨by kernel_rfl, by kernel_rfl⟩ hS (fun w hS hB => Zq [Tt,Tt,Tt,Tt,Tt,Tt,Tt,Tt,Tt,Tt,Tt,Tt,Tt,Tt] (by decide +kernel) (by repeat (first | exact PF.body)) ?_)
   repeat (first | refine LtK.put rfl rfl rfl (by first | exact Zf9 (h := k) (by first | exact Y8) rfl rfl (by omega) (by omega) | exact Zw rfl | exact Zf (by first | exact Yj | exact Xj | exact X4) rfl | (apply Yb; first | exact Zh (by first | exact Zeb | exact Z1 | exact Xx) rfl (Zhs _) hS (by repeat (first | exact Has.head | apply Has.tail)) (by first | trivial) (by repeat (first | exact Seg.here (Pre.succ Pre.zero) | apply Seg.succ)) | exact Vf (by first | exact Zeb | exact Z1) rfl (Zhs _) hS (by first | trivial) (by first | trivial) (by assumption) (by repeat (first | exact Seg.here (Pre.succ Pre.zero)))) | (apply Yr; first | exact yv_sub rfl rfl (by omega)) | exact X5 rfl) ?_)
   refine LtK.nil (Y7 [Ff,Ff,Ff,Ff,Ff,Ff,Ff,Ff,Ff,Ff,Ff,Ff,Ff,Ff,Tt] [16] (fun b => b ≠ bo) (by decide +kernel) (by intro j hj b hb; simp only [List.mem_cons, List.not_mem_nil, or_false] at hj; (try rcases hj with rfl | rfl) <;> simp_all) (by repeat (first | exact PF.body)) ?_)
   repeat (first | refine LtK.put rfl rfl rfl (by first | exact X5 rfl) ?_)
   refine LtK.nil (Zq [Ff,Ff,Ff,Ff,Ff,Ff,Ff,Ff,Ff,Ff,Ff,Ff,Ff,Ff,Ff,Tt] (by decide +kernel) (by repeat (first | exact PF.body)) ?_)
   repeat (first | refine LtK.put rfl rfl rfl (by first | exact Zf (by first | exact Yj | exact X4) rfl) ?_)
   refine LtK.nil (Yq [Ff,Ff,Ff,Ff,Ff,Ff,Ff,Ff,Ff,Ff,Ff,Ff,Ff,Ff,Ff,Ff,Tt] 16 ⟨by decide, by kernel_rfl, by kernel_rfl⟩ rfl rfl ?_)
   dsimp only [Z0]
   repeat (first | apply Zg | (apply Yu; refine Zl rfl rfl rfl (by first | exact CellsOf.slice) hS (by repeat (first | exact Pos.head)) (by repeat (first | exact SetC.here (by repeat (first | exact Ovr.nil | apply Ovr.cons)) | apply SetC.succ)) (by kernel_rfl) rfl (fun w hS hB => ?_)))
   refine Yk (by first | exact hB.sub (fun _ _ h => by simpa using h)) ?_
   refine Ye (by kernel_rfl) (Zdb rfl (by first | exact RV.nil) rfl ?_)
   have hob := hS.ok (.box bo [.int .i64 x.snap.index, .int .i64 x.snap.term, .int .i64 x.snap.sum, .int .i64 x.snap.level, .bool x.snap.final, .slice A' k c', .int .i64 x.term, .int .i64 x.vote] 26) (Has.mem (by repeat (first | exact Has.head)))
   have hkl : (x.log.take k).length = k := by rw [List.length_take]; omega
   rw [hkn]
   refine ⟨hS.base, .inl ⟨_, A', c', rfl, rfl, ?_, ⟨rfl, by have := hLI.small; dsimp only; rw [hkl]; omega, by dsimp only; rw [hkl]; omega, hLI.cap, ?_⟩, fun a ha => ⟨Nat.lt_of_lt_of_le (hA' a ha).2 hS.base.size, .inl ⟨a, ha, rfl⟩⟩⟩⟩
   ·unfold TB; dsimp only; rw [hkl]; exact hob
   ·have h5 := (hS.base.rd hLI.rd (fun a ha => (hA' a ha).1)).take (3 * k)
    have e2 : (ens x.log).take (3 * k) = ens (x.log.take k) := by
     have := ens_app (x.log.take k) (x.log.drop k)
     rw [List.take_append_drop] at this
     rw [this, List.take_left' (by rw [Zdv, hkl])]
    rwa [e2] at h5
  ·have e1 : Zg7 x i = none := if_neg (fun h => h2 (by have := h.2; unfold Tu.last at this; exact this))
   rw [e1]
   repeat (first | (apply Zd; intro K hK))
   refine Yi 17 [] (fun _ _ => True) ⟨by kernel_rfl, by kernel_rfl⟩ hS (fun w hS hB => Zq [Tt,Tt,Tt,Tt,Tt,Tt,Tt,Tt,Tt,Tt,Tt,Tt] (by decide +kernel) (by repeat (first | exact PF.body | apply PF.then)) ?_)
   repeat (first | refine LtK.put rfl rfl rfl (by first | exact Zw rfl | exact Zf (by first | exact Yj | exact Xj) rfl | (apply Yb; first | exact Zh (by first | exact Zeb | exact Z1) rfl (Zhs _) hS (by repeat (first | exact Has.head | apply Has.tail)) (by first | trivial) (by repeat (first | exact Seg.here (Pre.succ Pre.zero))) | exact Zi (by first | exact Y6 | exact Ya) rfl (Zhs _) hS (by repeat (first | exact Has.head)) (by first | trivial) (by repeat (first | exact Seg.here (by repeat (first | exact Pre.zero | apply Pre.succ)))) | exact Vf (by first | exact Zeb | exact Z1) rfl (Zhs _) hS (by first | trivial) (by first | trivial) (by assumption) (by repeat (first | exact Seg.here (Pre.succ Pre.zero)))) | (apply Yr; first | exact Zfr rfl rfl (by omega)) | exact X5 rfl) ?_)
   refine LtK.nil (Z6 [Ff,Ff,Ff,Ff,Ff,Ff,Ff,Ff,Ff,Ff,Ff,Ff,Tt] 12 ⟨by decide, by kernel_rfl, by kernel_rfl⟩ rfl rfl ?_)
   dsimp only [Z0]
   repeat (first | apply Zg | (apply Y5; first | refine Xh rfl rfl rfl (by kernel_rfl) rfl (Zhe _ _ _ _ _ _ _ (by omega) (by omega)) hS (fun w hS hB => ?_)))
   refine Z9 (by first | assumption) ?_
   refine Zq [Ff,Ff,Ff,Ff,Ff,Ff,Ff,Ff,Ff,Ff,Ff,Ff,Ff,Tt,Tt,Tt] (by decide +kernel) (by repeat (first | exact PF.body | apply PF.then)) ?_
   repeat (first | refine LtK.put rfl rfl rfl (by first | (apply Yr; first | exact Zgb rfl rfl (by omega) | exact Ze9 rfl rfl (by omega)) | (apply Xg; first | exact Ym rfl rfl rfl)) ?_)
   refine LtK.nil (Z6 [Ff,Ff,Ff,Ff,Ff,Ff,Ff,Ff,Ff,Ff,Ff,Ff,Ff,Ff,Ff,Ff,Tt] 16 ⟨by decide, by kernel_rfl, by kernel_rfl⟩ rfl rfl ?_)
   dsimp only [Z0]
   repeat (first | (apply Y5; first | (refine Xz rfl rfl (by kernel_rfl) rfl (Ze0 _) ?_; rintro e w2 ⟨rfl, hB2⟩; refine ⟨_, rfl, ?_⟩)) | apply Xs)
   exact Ja rfl ⟨(hS.below hB2).base, .inr ⟨rfl, rfl, TB.eight (x := x) (A := A') (c := c') ((hS.below hB2).ok (.box bo [.int .i64 x.snap.index, .int .i64 x.snap.term, .int .i64 x.snap.sum, .int .i64 x.snap.level, .bool x.snap.final, .slice A' x.log.length c', .int .i64 x.term, .int .i64 x.vote] 26) (Has.mem (by repeat (first | exact Has.head))))⟩⟩
 ·have e1 : Zg7 x i = none := if_neg (fun h => h1 h.1)
  rw [e1]
  repeat (first | (apply Zd; intro K hK))
  refine Yi 17 [] (fun _ _ => True) ⟨by kernel_rfl, by kernel_rfl⟩ hS (fun w hS hB => Zq [Tt,Tt,Tt,Tt,Tt,Tt,Tt,Tt,Tt,Tt,Tt,Tt] (by decide +kernel) (by repeat (first | exact PF.body | apply PF.then)) ?_)
  repeat (first | refine LtK.put rfl rfl rfl (by first | exact Zw rfl | exact Zf (by first | exact Yj | exact Xj) rfl | (apply Yb; first | exact Zh (by first | exact Zeb | exact Z1) rfl (Zhs _) hS (by repeat (first | exact Has.head | apply Has.tail)) (by first | trivial) (by repeat (first | exact Seg.here (Pre.succ Pre.zero))) | exact Vf (by first | exact Zeb | exact Z1) rfl (Zhs _) hS (by first | trivial) (by first | trivial) (by assumption) (by repeat (first | exact Seg.here (Pre.succ Pre.zero)))) | (apply Yr; first | exact Zdl rfl rfl (by omega)) | exact X5 rfl) ?_ | refine LtK.skip rfl rfl rfl ?_)
  refine LtK.nil (Z6 [Ff,Ff,Ff,Ff,Ff,Ff,Ff,Ff,Ff,Ff,Ff,Ff,Tt] 12 ⟨by decide, by kernel_rfl, by kernel_rfl⟩ rfl rfl ?_)
  dsimp only [Z0]
  repeat (first | apply Zg | (apply Yw; refine Xi rfl rfl rfl ?_))
  refine Z9 (by first | exact Below.refl _ _) ?_
  refine Zq [Ff,Ff,Ff,Ff,Ff,Ff,Ff,Ff,Ff,Ff,Ff,Ff,Ff,Tt,Tt,Tt] (by decide +kernel) (by repeat (first | exact PF.body | apply PF.then)) ?_
  repeat (first | refine LtK.put rfl rfl rfl (by first | (apply Xg; first | exact Y3 rfl rfl rfl)) ?_ | refine LtK.skip rfl rfl rfl ?_)
  refine LtK.nil (Z6 [Ff,Ff,Ff,Ff,Ff,Ff,Ff,Ff,Ff,Ff,Ff,Ff,Ff,Ff,Ff,Ff,Tt] 16 ⟨by decide, by kernel_rfl, by kernel_rfl⟩ rfl rfl ?_)
  dsimp only [Z0]
  repeat (first | (apply Y5; first | (refine Xz rfl rfl (by kernel_rfl) rfl (Ze0 _) ?_; rintro e w2 ⟨rfl, hB2⟩; refine ⟨_, rfl, ?_⟩)) | apply Xs)
  exact Ja rfl ⟨(hS.below hB2).base, .inr ⟨rfl, rfl, TB.eight (x := x) (A := A') (c := c') ((hS.below hB2).ok (.box bo [.int .i64 x.snap.index, .int .i64 x.snap.term, .int .i64 x.snap.sum, .int .i64 x.snap.level, .bool x.snap.final, .slice A' x.log.length c', .int .i64 x.term, .int .i64 x.vote] 26) (Has.mem (by repeat (first | exact Has.head))))⟩⟩
end
section
open Go Go.RowKit
set_option maxRecDepth 100000
theorem Rd.cutE {w : World} {A : OA} {l : List En} (h : Rd w A (ens l)) {k c : Nat} (hc : l.length ≤ c) : Rd w (if c = k then A else A.map (·.add (k * 3))) (ens (l.drop k)) := by
 split
 ·rename_i hck
  have : l.drop k = [] := List.drop_eq_nil_of_le (by omega)
  rw [this]; exact Rd.nil w A
 ·rw [ens_drop, Nat.mul_comm]; exact h.drop (3 * k)
def V2 (x : Tu) (i : Int) : Option Int := if i = x.snap.index then some x.snap.term else if x.snap.index < i ∧ i ≤ x.last then (x.log[(i - x.snap.index - 1).toNat]?).map En.term else none
end
section
open Go Go.RowKit
set_option maxRecDepth 100000
set_option maxHeartbeats 1000000
theorem cut_any (x : Tu) (A : OA) (c : Nat) (i : Int) (w0 : World) (hx : LI w0 A x.log.length c x.log) (hA : ∀ a, A = some a → a.block < w0.heap.size) :
  Calls Tryz.prog 75 #[.agg #[.int .i64 x.snap.index, .int .i64 x.snap.term, .int .i64 x.snap.sum, .int .i64 x.snap.level, .bool x.snap.final, .slice A x.log.length c, .int .i64 x.term, .int .i64 x.vote], .int .i64 i] w0 (Chg w0 x (Zg7 x i)) := by
 refine Yn Tryz.func75 rfl Tryz.ntmps75 rfl ?_
 have hS := St0.start All w0
 repeat (first | (apply Zd; intro K hK) | apply Ze)
 first | (apply X9; refine Z4 rfl rfl rfl (by first | exact CellsOf.agg) hS (fun bt w hS hB => ?_))
 first | (apply X9; refine Z4 rfl rfl rfl (by first | exact CellsOf.int) hS (fun bf w hS hB => ?_))
 repeat (first | apply Zg | (apply Zc; assumption) | (apply Zd; intro K hK) | apply Ze | (apply Vd; refine Z5 rfl rfl (by first | exact Zal) hS (fun b w hS hB => ?_)) | (apply Yw; refine Za rfl rfl rfl (by first | exact Z2 rfl | (apply Yb; first | exact Zi (by first | exact Ya) rfl (Zhr _) hS (by repeat (first | exact Has.head | apply Has.tail)) (by first | trivial) (by repeat (first | exact Seg.here (by repeat (first | exact Pre.zero | apply Pre.succ))))) | exact Vc rfl rfl) ?_))
 have hbf := (hS.box_ge (b := bf) (by repeat (first | exact Has.head | apply Has.tail)))
 refine Zn rfl rfl rfl rfl (by kernel_rfl) rfl (changed_any x (Zg7 x i) A c 119 #[.pointer (some ⟨bf, 0, none⟩)] _ (by kernel_rfl) (hx.below hS.pure) (fun a ha => Nat.lt_of_lt_of_le (hA a ha) hS.size)
  (fun hT => cut1_does bf i _ hbf.2.2 x hT)) ?_
 rintro e w1 ⟨A2, c2, ⟨rfl, hs⟩, hB⟩
 refine ⟨_, rfl, ?_⟩
 replace hS := hS.slice hs hB
 repeat (first | apply Zg | (apply Zc; assumption) | (apply Yu; refine Zl rfl rfl rfl (by first | exact CellsOf.agg) hS (by repeat (first | exact Pos.head | apply Pos.tail)) (by repeat (first | exact SetC.here (by repeat (first | exact Ovr.nil | apply Ovr.cons)))) (by kernel_rfl) rfl (fun w hS hB => ?_)) | (apply Yw; refine Za rfl rfl rfl (by first | exact Z2 rfl | exact Zv rfl rfl) ?_) | apply Zk)
 refine Zm rfl (by first | exact RV.cell rfl (Zu (by first | exact Ya) hS (by repeat (first | exact Has.head | apply Has.tail)) (by repeat (first | exact Seg.here (by repeat (first | exact Pre.zero | apply Pre.succ))))) (RV.tmp rfl RV.nil)) rfl ?_
 exact ⟨A2, c2, ⟨rfl, hS.giveS (by repeat (first | exact Has.head)) hs.len hs.le hs.cap⟩, hS.pure⟩
def Zfx (x : Tu) (t v : Int) : Option Tu := if x.term < t ∨ t = x.term ∧ (x.vote = 0 ∨ x.vote = v) then some { x with term := t, vote := v } else none
theorem hard1_does (bf bg : Nat) (t v : Int) (w0 : World) (hbf : w0.heap[bf]? = some (.cells #[.int .i64 t] 3)) (hbg : w0.heap[bg]? = some (.cells #[.int .i64 v] 3)) (x : Tu) (hx : V7 x = true) :
  Does 106 #[.pointer (some ⟨bf, 0, none⟩), .pointer (some ⟨bg, 0, none⟩)] w0 x (Zfx x t v) := by
 intro W bo A' c' hB hbo hT hLI hA'
 have hxb := Zfc x hx
 have hol : bo < W.heap.size := (Array.getElem?_eq_some_iff.1 hT).1
 have hle := hLI.le
 have hcp := hLI.cap
 have hAn := fun a ha => (hA' a ha).1
 have hbfl : bf < w0.heap.size := (Array.getElem?_eq_some_iff.1 hbf).1
 have hbfW : W.heap[bf]? = some (.cells #[.int .i64 t] 3) := (hB.block bf hbfl).trans hbf
 have hbfn : bf ≠ bo := by omega
 have hbgl : bg < w0.heap.size := (Array.getElem?_eq_some_iff.1 hbg).1
 have hbgW : W.heap[bg]? = some (.cells #[.int .i64 v] 3) := (hB.block bg hbgl).trans hbg
 have hbgn : bg ≠ bo := by omega
 show Calls _ _ #[_, _, _] _ _
 refine Vx Tryz.func106 rfl Tryz.ntmps106 rfl ?_
 have hS := St0.old (w := W) (fun k => k ≠ bo) (e := .box bo [.int .i64 x.snap.index, .int .i64 x.snap.term, .int .i64 x.snap.sum, .int .i64 x.snap.level, .bool x.snap.final, .slice A' x.log.length c', .int .i64 x.term, .int .i64 x.vote] 26) hT (fun k hk => by subst hk; exact ⟨hol, by simp⟩)
 by_cases h0 : x.term < t ∨ t = x.term ∧ (x.vote = 0 ∨ x.vote = v)
 ·have e1 : Zfx x t v = some { x with term := t, vote := v } := if_pos h0
  rw [e1]
  have hfin : ∀ w, KeepB (fun k => k ≠ bo) W w → w.heap[bo]? = some (.cells #[.int .i64 x.snap.index, .int .i64 x.snap.term, .int .i64 x.snap.sum, .int .i64 x.snap.level, .bool x.snap.final, .slice A' x.log.length c', .int .i64 t, .int .i64 v] 26) → (KeepB (fun k => k ≠ bo) W w ∧ ((∃ y A2 c2, some ({ x with term := t, vote := v } : Tu) = some y ∧ (Ending.returned (.tuple #[])) = .returned (.tuple #[]) ∧ TB w bo y A2 c2 ∧ LI w A2 y.log.length c2 y.log ∧ (∀ a, A2 = some a → a.block < w.heap.size ∧ ((∃ a', A' = some a' ∧ a.block = a'.block) ∨ W.heap.size ≤ a.block))) ∨ (some ({ x with term := t, vote := v } : Tu) = none ∧ (Ending.returned (.tuple #[])) = .panicked badP ∧ TB8 w bo))) :=
   fun w hk ho => ⟨hk, .inl ⟨_, A', c', rfl, rfl, ho, hLI.keep hk hAn, fun a ha => ⟨Nat.lt_of_lt_of_le (hA' a ha).2 hk.size, .inl ⟨a, ha, rfl⟩⟩⟩⟩
  by_cases h1 : x.term < t
  ·repeat (first | (apply Zd; intro K hK))
   refine Yi 30 [] (fun _ _ => True) ⟨by kernel_rfl, by kernel_rfl⟩ hS (fun w hS hB => Zq [Tt,Tt,Tt,Tt,Tt,Tt,Tt,Tt,Tt,Tt,Tt,Tt,Tt,Tt,Tt,Tt,Tt,Tt,Tt,Tt,Tt,Tt,Tt,Tt,Tt,Tt,Tt,Tt,Tt] (by decide +kernel) (by repeat (first | exact PF.body | apply PF.then)) ?_)
   repeat (first | refine LtK.put rfl rfl rfl (by first | exact Zw rfl | exact Zf (by first | exact Yj | exact Vi | exact J5) rfl | (apply Yb; first | exact Zh (by first | exact Zeb | exact Z1) rfl (Zhs _) hS (by repeat (first | exact Has.head | apply Has.tail)) (by first | trivial) (by repeat (first | exact Seg.here (Pre.succ Pre.zero) | apply Seg.succ)) | exact Vf (by first | exact Zeb | exact Z1) rfl (Zhs _) hS (by first | trivial) (by first | trivial) (by assumption) (by repeat (first | exact Seg.here (Pre.succ Pre.zero)))) | (apply Yr; first | exact Zfr rfl rfl (by omega)) | (apply Xg; first | exact Ym rfl rfl rfl) | exact X5 rfl) ?_ | refine LtK.skip rfl rfl rfl ?_)
   refine LtK.nil (Z6 [Ff,Ff,Ff,Ff,Ff,Ff,Ff,Ff,Ff,Ff,Ff,Ff,Ff,Ff,Ff,Ff,Ff,Ff,Ff,Ff,Ff,Ff,Ff,Ff,Ff,Ff,Ff,Ff,Ff,Tt] 29 ⟨by decide, by kernel_rfl, by kernel_rfl⟩ rfl rfl ?_)
   dsimp only [Z0]
   repeat (first | apply Zg | (apply Y5; first | refine Xh rfl rfl rfl (by kernel_rfl) rfl (Zg9 _) hS (fun w hS hB => ?_)))
   refine Z9 (by first | assumption) ?_
   refine Ye (by kernel_rfl) ?_
   repeat (first | (apply Zc; assumption))
   refine Yi 10 [6, 9] (fun i b => (i = 6 → b ≠ bo) ∧ (i = 9 → b ≠ bo)) ⟨by kernel_rfl, by kernel_rfl⟩ hS (fun w hS hB => Zq [Tt,Ff,Tt] (by decide +kernel) (by repeat (first | exact PF.body)) ?_)
   repeat (first | refine LtK.put rfl rfl rfl (by first | exact Zw rfl | (apply Yb; first | exact Vf (by first | exact Zeb | exact Z1) rfl (Zhs _) hS (by first | trivial) (by first | trivial) (by assumption) (by repeat (first | exact Seg.here (Pre.succ Pre.zero))))) ?_)
   refine LtK.nil (Y7 [Ff,Tt,Ff,Tt,Tt] [6] (fun b => b ≠ bo) (by decide +kernel) (by intro j hj b hb; simp only [List.mem_cons, List.not_mem_nil, or_false] at hj; (try rcases hj with rfl | rfl) <;> simp_all) (by repeat (first | exact PF.body)) ?_)
   repeat (first | refine LtK.put rfl rfl rfl (by first | exact Zw rfl | (apply Yb; first | exact Vf (by first | exact Zeb | exact Z1) rfl (Zht _ _) hS (by first | trivial) (by first | trivial) (by assumption) (by repeat (first | exact Seg.here (Pre.succ Pre.zero)))) | exact X5 rfl) ?_)
   refine LtK.nil (Zq [Ff,Ff,Ff,Ff,Ff,Tt] (by decide +kernel) (by repeat (first | exact PF.body)) ?_)
   repeat (first | refine LtK.put rfl rfl rfl (by first | exact Zf (by first | exact Yj | exact Vi) rfl) ?_)
   refine LtK.nil (Yq [Ff,Ff,Ff,Ff,Ff,Ff,Tt] 6 ⟨by decide, by kernel_rfl, by kernel_rfl⟩ rfl rfl ?_)
   dsimp only [Z0]
   repeat (first | apply Zg | (apply Yu; refine Zl rfl rfl rfl (by first | exact CellsOf.int) hS (by repeat (first | exact Pos.head)) (by repeat (first | exact SetC.here (by repeat (first | exact Ovr.nil | apply Ovr.cons)) | apply SetC.succ)) (by kernel_rfl) rfl (fun w hS hB => ?_)))
   refine Yk (by first | exact hB.sub (fun _ _ h => by simpa using h)) ?_
   refine Y7 [Ff,Ff,Ff,Ff,Ff,Ff,Ff,Tt] [9] (fun b => b ≠ bo) (by decide +kernel) (by intro j hj b hb; simp only [List.mem_cons, List.not_mem_nil, or_false] at hj; (try rcases hj with rfl | rfl) <;> simp_all) (by repeat (first | exact PF.body)) ?_
   repeat (first | refine LtK.put rfl rfl rfl (by first | exact X5 rfl) ?_)
   refine LtK.nil (Zq [Ff,Ff,Ff,Ff,Ff,Ff,Ff,Ff,Tt] (by decide +kernel) (by repeat (first | exact PF.body)) ?_)
   repeat (first | refine LtK.put rfl rfl rfl (by first | exact Zf (by first | exact Yj | exact J5) rfl) ?_)
   refine LtK.nil (Yq [Ff,Ff,Ff,Ff,Ff,Ff,Ff,Ff,Ff,Tt] 9 ⟨by decide, by kernel_rfl, by kernel_rfl⟩ rfl rfl ?_)
   dsimp only [Z0]
   repeat (first | apply Zg | (apply Yu; refine Zl rfl rfl rfl (by first | exact CellsOf.int) hS (by repeat (first | exact Pos.head)) (by repeat (first | exact SetC.here (by repeat (first | exact Ovr.nil | apply Ovr.cons)) | apply SetC.succ)) (by kernel_rfl) rfl (fun w hS hB => ?_)))
   refine Yk (by first | exact hB.sub (fun _ _ h => by simpa using h)) ?_
   refine Ye (by kernel_rfl) (Zdb rfl (by first | exact RV.nil) rfl ?_)
   exact hfin _ hS.base (hS.ok (.box bo [.int .i64 x.snap.index, .int .i64 x.snap.term, .int .i64 x.snap.sum, .int .i64 x.snap.level, .bool x.snap.final, .slice A' x.log.length c', .int .i64 t, .int .i64 v] 26) (Has.mem (by repeat (first | exact Has.head))))
  ·have h2 : t = x.term := by omega
   by_cases h3 : x.vote = 0
   ·repeat (first | (apply Zd; intro K hK))
    refine Yi 30 [] (fun _ _ => True) ⟨by kernel_rfl, by kernel_rfl⟩ hS (fun w hS hB => Zq [Tt,Tt,Tt,Tt,Tt,Tt,Tt,Tt,Tt,Tt,Tt,Tt,Tt,Tt,Tt,Tt,Tt,Tt,Tt,Tt,Tt,Tt,Tt,Tt,Tt,Tt,Tt,Tt,Tt] (by decide +kernel) (by repeat (first | exact PF.body | apply PF.then)) ?_)
    repeat (first | refine LtK.put rfl rfl rfl (by first | exact Zw rfl | exact Zf (by first | exact Yj | exact Vi | exact J5) rfl | (apply Yb; first | exact Zh (by first | exact Zeb | exact Z1) rfl (Zhs _) hS (by repeat (first | exact Has.head | apply Has.tail)) (by first | trivial) (by repeat (first | exact Seg.here (Pre.succ Pre.zero) | apply Seg.succ)) | exact Vf (by first | exact Zeb | exact Z1) rfl (Zhs _) hS (by first | trivial) (by first | trivial) (by assumption) (by repeat (first | exact Seg.here (Pre.succ Pre.zero)))) | (apply Yr; first | exact Zdl rfl rfl (by omega) | exact Zhk rfl rfl (by omega)) | (apply Xg; first | exact Ym rfl rfl rfl | exact Y3 rfl rfl rfl) | exact X5 rfl) ?_ | refine LtK.skip rfl rfl rfl ?_)
    refine LtK.nil (Z6 [Ff,Ff,Ff,Ff,Ff,Ff,Ff,Ff,Ff,Ff,Ff,Ff,Ff,Ff,Ff,Ff,Ff,Ff,Ff,Ff,Ff,Ff,Ff,Ff,Ff,Ff,Ff,Ff,Ff,Tt] 29 ⟨by decide, by kernel_rfl, by kernel_rfl⟩ rfl rfl ?_)
    dsimp only [Z0]
    repeat (first | apply Zg | (apply Y5; first | refine Xh rfl rfl rfl (by kernel_rfl) rfl (Zg9 _) hS (fun w hS hB => ?_)))
    refine Z9 (by first | assumption) ?_
    refine Ye (by kernel_rfl) ?_
    repeat (first | (apply Zc; assumption))
    refine Yi 10 [6, 9] (fun i b => (i = 6 → b ≠ bo) ∧ (i = 9 → b ≠ bo)) ⟨by kernel_rfl, by kernel_rfl⟩ hS (fun w hS hB => Zq [Tt,Ff,Tt] (by decide +kernel) (by repeat (first | exact PF.body)) ?_)
    repeat (first | refine LtK.put rfl rfl rfl (by first | exact Zw rfl | (apply Yb; first | exact Vf (by first | exact Zeb | exact Z1) rfl (Zhs _) hS (by first | trivial) (by first | trivial) (by assumption) (by repeat (first | exact Seg.here (Pre.succ Pre.zero))))) ?_)
    refine LtK.nil (Y7 [Ff,Tt,Ff,Tt,Tt] [6] (fun b => b ≠ bo) (by decide +kernel) (by intro j hj b hb; simp only [List.mem_cons, List.not_mem_nil, or_false] at hj; (try rcases hj with rfl | rfl) <;> simp_all) (by repeat (first | exact PF.body)) ?_)
    repeat (first | refine LtK.put rfl rfl rfl (by first | exact Zw rfl | (apply Yb; first | exact Vf (by first | exact Zeb | exact Z1) rfl (Zht _ _) hS (by first | trivial) (by first | trivial) (by assumption) (by repeat (first | exact Seg.here (Pre.succ Pre.zero)))) | exact X5 rfl) ?_)
    refine LtK.nil (Zq [Ff,Ff,Ff,Ff,Ff,Tt] (by decide +kernel) (by repeat (first | exact PF.body)) ?_)
    repeat (first | refine LtK.put rfl rfl rfl (by first | exact Zf (by first | exact Yj | exact Vi) rfl) ?_)
    refine LtK.nil (Yq [Ff,Ff,Ff,Ff,Ff,Ff,Tt] 6 ⟨by decide, by kernel_rfl, by kernel_rfl⟩ rfl rfl ?_)
    dsimp only [Z0]
    repeat (first | apply Zg | (apply Yu; refine Zl rfl rfl rfl (by first | exact CellsOf.int) hS (by repeat (first | exact Pos.head)) (by repeat (first | exact SetC.here (by repeat (first | exact Ovr.nil | apply Ovr.cons)) | apply SetC.succ)) (by kernel_rfl) rfl (fun w hS hB => ?_)))
    refine Yk (by first | exact hB.sub (fun _ _ h => by simpa using h)) ?_
    refine Y7 [Ff,Ff,Ff,Ff,Ff,Ff,Ff,Tt] [9] (fun b => b ≠ bo) (by decide +kernel) (by intro j hj b hb; simp only [List.mem_cons, List.not_mem_nil, or_false] at hj; (try rcases hj with rfl | rfl) <;> simp_all) (by repeat (first | exact PF.body)) ?_
    repeat (first | refine LtK.put rfl rfl rfl (by first | exact X5 rfl) ?_)
    refine LtK.nil (Zq [Ff,Ff,Ff,Ff,Ff,Ff,Ff,Ff,Tt] (by decide +kernel) (by repeat (first | exact PF.body)) ?_)
    repeat (first | refine LtK.put rfl rfl rfl (by first | exact Zf (by first | exact Yj | exact J5) rfl) ?_)
    refine LtK.nil (Yq [Ff,Ff,Ff,Ff,Ff,Ff,Ff,Ff,Ff,Tt] 9 ⟨by decide, by kernel_rfl, by kernel_rfl⟩ rfl rfl ?_)
    dsimp only [Z0]
    repeat (first | apply Zg | (apply Yu; refine Zl rfl rfl rfl (by first | exact CellsOf.int) hS (by repeat (first | exact Pos.head)) (by repeat (first | exact SetC.here (by repeat (first | exact Ovr.nil | apply Ovr.cons)) | apply SetC.succ)) (by kernel_rfl) rfl (fun w hS hB => ?_)))
    refine Yk (by first | exact hB.sub (fun _ _ h => by simpa using h)) ?_
    refine Ye (by kernel_rfl) (Zdb rfl (by first | exact RV.nil) rfl ?_)
    exact hfin _ hS.base (hS.ok (.box bo [.int .i64 x.snap.index, .int .i64 x.snap.term, .int .i64 x.snap.sum, .int .i64 x.snap.level, .bool x.snap.final, .slice A' x.log.length c', .int .i64 t, .int .i64 v] 26) (Has.mem (by repeat (first | exact Has.head))))
   ·have h4 : x.vote = v := by omega
    repeat (first | (apply Zd; intro K hK))
    refine Yi 30 [] (fun _ _ => True) ⟨by kernel_rfl, by kernel_rfl⟩ hS (fun w hS hB => Zq [Tt,Tt,Tt,Tt,Tt,Tt,Tt,Tt,Tt,Tt,Tt,Tt,Tt,Tt,Tt,Tt,Tt,Tt,Tt,Tt,Tt,Tt,Tt,Tt,Tt,Tt,Tt,Tt,Tt] (by decide +kernel) (by repeat (first | exact PF.body | apply PF.then)) ?_)
    repeat (first | refine LtK.put rfl rfl rfl (by first | exact Zw rfl | exact Zf (by first | exact Yj | exact Vi | exact J5) rfl | (apply Yb; first | exact Zh (by first | exact Zeb | exact Z1) rfl (Zhs _) hS (by repeat (first | exact Has.head | apply Has.tail)) (by first | trivial) (by repeat (first | exact Seg.here (Pre.succ Pre.zero) | apply Seg.succ)) | exact Vf (by first | exact Zeb | exact Z1) rfl (Zhs _) hS (by first | trivial) (by first | trivial) (by assumption) (by repeat (first | exact Seg.here (Pre.succ Pre.zero)))) | (apply Yr; first | exact Zdl rfl rfl (by omega) | exact Zhk rfl rfl (by omega) | exact Zho rfl rfl (by omega)) | (apply Xg; first | exact Ym rfl rfl rfl | exact Y3 rfl rfl rfl) | exact X5 rfl) ?_)
    refine LtK.nil (Z6 [Ff,Ff,Ff,Ff,Ff,Ff,Ff,Ff,Ff,Ff,Ff,Ff,Ff,Ff,Ff,Ff,Ff,Ff,Ff,Ff,Ff,Ff,Ff,Ff,Ff,Ff,Ff,Ff,Ff,Tt] 29 ⟨by decide, by kernel_rfl, by kernel_rfl⟩ rfl rfl ?_)
    dsimp only [Z0]
    repeat (first | apply Zg | (apply Y5; first | refine Xh rfl rfl rfl (by kernel_rfl) rfl (Zg9 _) hS (fun w hS hB => ?_)))
    refine Z9 (by first | assumption) ?_
    refine Ye (by kernel_rfl) ?_
    repeat (first | (apply Zc; assumption))
    refine Yi 10 [6, 9] (fun i b => (i = 6 → b ≠ bo) ∧ (i = 9 → b ≠ bo)) ⟨by kernel_rfl, by kernel_rfl⟩ hS (fun w hS hB => Zq [Tt,Ff,Tt] (by decide +kernel) (by repeat (first | exact PF.body)) ?_)
    repeat (first | refine LtK.put rfl rfl rfl (by first | exact Zw rfl | (apply Yb; first | exact Vf (by first | exact Zeb | exact Z1) rfl (Zhs _) hS (by first | trivial) (by first | trivial) (by assumption) (by repeat (first | exact Seg.here (Pre.succ Pre.zero))))) ?_)
    refine LtK.nil (Y7 [Ff,Tt,Ff,Tt,Tt] [6] (fun b => b ≠ bo) (by decide +kernel) (by intro j hj b hb; simp only [List.mem_cons, List.not_mem_nil, or_false] at hj; (try rcases hj with rfl | rfl) <;> simp_all) (by repeat (first | exact PF.body)) ?_)
    repeat (first | refine LtK.put rfl rfl rfl (by first | exact Zw rfl | (apply Yb; first | exact Vf (by first | exact Zeb | exact Z1) rfl (Zht _ _) hS (by first | trivial) (by first | trivial) (by assumption) (by repeat (first | exact Seg.here (Pre.succ Pre.zero)))) | exact X5 rfl) ?_)
    refine LtK.nil (Zq [Ff,Ff,Ff,Ff,Ff,Tt] (by decide +kernel) (by repeat (first | exact PF.body)) ?_)
    repeat (first | refine LtK.put rfl rfl rfl (by first | exact Zf (by first | exact Yj | exact Vi) rfl) ?_)
    refine LtK.nil (Yq [Ff,Ff,Ff,Ff,Ff,Ff,Tt] 6 ⟨by decide, by kernel_rfl, by kernel_rfl⟩ rfl rfl ?_)
    dsimp only [Z0]
    repeat (first | apply Zg | (apply Yu; refine Zl rfl rfl rfl (by first | exact CellsOf.int) hS (by repeat (first | exact Pos.head)) (by repeat (first | exact SetC.here (by repeat (first | exact Ovr.nil | apply Ovr.cons)) | apply SetC.succ)) (by kernel_rfl) rfl (fun w hS hB => ?_)))
    refine Yk (by first | exact hB.sub (fun _ _ h => by simpa using h)) ?_
    refine Y7 [Ff,Ff,Ff,Ff,Ff,Ff,Ff,Tt] [9] (fun b => b ≠ bo) (by decide +kernel) (by intro j hj b hb; simp only [List.mem_cons, List.not_mem_nil, or_false] at hj; (try rcases hj with rfl | rfl) <;> simp_all) (by repeat (first | exact PF.body)) ?_
    repeat (first | refine LtK.put rfl rfl rfl (by first | exact X5 rfl) ?_)
    refine LtK.nil (Zq [Ff,Ff,Ff,Ff,Ff,Ff,Ff,Ff,Tt] (by decide +kernel) (by repeat (first | exact PF.body)) ?_)
    repeat (first | refine LtK.put rfl rfl rfl (by first | exact Zf (by first | exact Yj | exact J5) rfl) ?_)
    refine LtK.nil (Yq [Ff,Ff,Ff,Ff,Ff,Ff,Ff,Ff,Ff,Tt] 9 ⟨by decide, by kernel_rfl, by kernel_rfl⟩ rfl rfl ?_)
    dsimp only [Z0]
    repeat (first | apply Zg | (apply Yu; refine Zl rfl rfl rfl (by first | exact CellsOf.int) hS (by repeat (first | exact Pos.head)) (by repeat (first | exact SetC.here (by repeat (first | exact Ovr.nil | apply Ovr.cons)) | apply SetC.succ)) (by kernel_rfl) rfl (fun w hS hB => ?_)))
    refine Yk (by first | exact hB.sub (fun _ _ h => by simpa using h)) ?_
    refine Ye (by kernel_rfl) (Zdb rfl (by first | exact RV.nil) rfl ?_)
    exact hfin _ hS.base (hS.ok (.box bo [.int .i64 x.snap.index, .int .i64 x.snap.term, .int .i64 x.snap.sum, .int .i64 x.snap.level, .bool x.snap.final, .slice A' x.log.length c', .int .i64 t, .int .i64 v] 26) (Has.mem (by repeat (first | exact Has.head))))
 ·have e1 : Zfx x t v = none := if_neg h0
  rw [e1]
  have h1 : ¬ x.term < t := fun h => h0 (.inl h)
  by_cases h2 : t = x.term
  ·have h3 : x.vote ≠ 0 := fun h => h0 (.inr ⟨h2, .inl h⟩)
   have h4 : x.vote ≠ v := fun h => h0 (.inr ⟨h2, .inr h⟩)
   repeat (first | (apply Zd; intro K hK))
   refine Yi 30 [] (fun _ _ => True) ⟨by kernel_rfl, by kernel_rfl⟩ hS (fun w hS hB => Zq [Tt,Tt,Tt,Tt,Tt,Tt,Tt,Tt,Tt,Tt,Tt,Tt,Tt,Tt,Tt,Tt,Tt,Tt,Tt,Tt,Tt,Tt,Tt,Tt,Tt,Tt,Tt,Tt,Tt] (by decide +kernel) (by repeat (first | exact PF.body | apply PF.then)) ?_)
   repeat (first | refine LtK.put rfl rfl rfl (by first | exact Zw rfl | exact Zf (by first | exact Yj | exact Vi | exact J5) rfl | (apply Yb; first | exact Zh (by first | exact Zeb | exact Z1) rfl (Zhs _) hS (by repeat (first | exact Has.head | apply Has.tail)) (by first | trivial) (by repeat (first | exact Seg.here (Pre.succ Pre.zero) | apply Seg.succ)) | exact Vf (by first | exact Zeb | exact Z1) rfl (Zhs _) hS (by first | trivial) (by first | trivial) (by assumption) (by repeat (first | exact Seg.here (Pre.succ Pre.zero)))) | (apply Yr; first | exact Zdl rfl rfl (by omega) | exact Zhk rfl rfl (by omega) | exact Zho rfl rfl (by omega)) | (apply Xg; first | exact Ym rfl rfl rfl | exact Y3 rfl rfl rfl) | exact X5 rfl) ?_)
   refine LtK.nil (Z6 [Ff,Ff,Ff,Ff,Ff,Ff,Ff,Ff,Ff,Ff,Ff,Ff,Ff,Ff,Ff,Ff,Ff,Ff,Ff,Ff,Ff,Ff,Ff,Ff,Ff,Ff,Ff,Ff,Ff,Tt] 29 ⟨by decide, by kernel_rfl, by kernel_rfl⟩ rfl rfl ?_)
   dsimp only [Z0]
   repeat (first | (apply Y5; first | (refine Xz rfl rfl (by kernel_rfl) rfl (Ze0 _) ?_; rintro e w2 ⟨rfl, hB2⟩; refine ⟨_, rfl, ?_⟩)) | apply Xs)
   exact Ja rfl ⟨(hS.below hB2).base, .inr ⟨rfl, rfl, TB.eight (x := x) (A := A') (c := c') ((hS.below hB2).ok (.box bo [.int .i64 x.snap.index, .int .i64 x.snap.term, .int .i64 x.snap.sum, .int .i64 x.snap.level, .bool x.snap.final, .slice A' x.log.length c', .int .i64 x.term, .int .i64 x.vote] 26) (Has.mem (by repeat (first | exact Has.head))))⟩⟩
  ·repeat (first | (apply Zd; intro K hK))
   refine Yi 30 [] (fun _ _ => True) ⟨by kernel_rfl, by kernel_rfl⟩ hS (fun w hS hB => Zq [Tt,Tt,Tt,Tt,Tt,Tt,Tt,Tt,Tt,Tt,Tt,Tt,Tt,Tt,Tt,Tt,Tt,Tt,Tt,Tt,Tt,Tt,Tt,Tt,Tt,Tt,Tt,Tt,Tt] (by decide +kernel) (by repeat (first | exact PF.body | apply PF.then)) ?_)
   repeat (first | refine LtK.put rfl rfl rfl (by first | exact Zw rfl | exact Zf (by first | exact Yj | exact Vi | exact J5) rfl | (apply Yb; first | exact Zh (by first | exact Zeb | exact Z1) rfl (Zhs _) hS (by repeat (first | exact Has.head | apply Has.tail)) (by first | trivial) (by repeat (first | exact Seg.here (Pre.succ Pre.zero) | apply Seg.succ)) | exact Vf (by first | exact Zeb | exact Z1) rfl (Zhs _) hS (by first | trivial) (by first | trivial) (by assumption) (by repeat (first | exact Seg.here (Pre.succ Pre.zero)))) | (apply Yr; first | exact Zdl rfl rfl (by omega) | exact Zho rfl rfl (by omega)) | (apply Xg; first | exact Y3 rfl rfl rfl) | exact X5 rfl) ?_ | refine LtK.skip rfl rfl rfl ?_)
   refine LtK.nil (Z6 [Ff,Ff,Ff,Ff,Ff,Ff,Ff,Ff,Ff,Ff,Ff,Ff,Ff,Ff,Ff,Ff,Ff,Ff,Ff,Ff,Ff,Ff,Ff,Ff,Ff,Ff,Ff,Ff,Ff,Tt] 29 ⟨by decide, by kernel_rfl, by kernel_rfl⟩ rfl rfl ?_)
   dsimp only [Z0]
   repeat (first | (apply Y5; first | (refine Xz rfl rfl (by kernel_rfl) rfl (Ze0 _) ?_; rintro e w2 ⟨rfl, hB2⟩; refine ⟨_, rfl, ?_⟩)) | apply Xs)
   exact Ja rfl ⟨(hS.below hB2).base, .inr ⟨rfl, rfl, TB.eight (x := x) (A := A') (c := c') ((hS.below hB2).ok (.box bo [.int .i64 x.snap.index, .int .i64 x.snap.term, .int .i64 x.snap.sum, .int .i64 x.snap.level, .bool x.snap.final, .slice A' x.log.length c', .int .i64 x.term, .int .i64 x.vote] 26) (Has.mem (by repeat (first | exact Has.head))))⟩⟩
theorem hard_any (x : Tu) (A : OA) (c : Nat) (t v : Int) (w0 : World) (hx : LI w0 A x.log.length c x.log) (hA : ∀ a, A = some a → a.block < w0.heap.size) :
  Calls Tryz.prog 60 #[.agg #[.int .i64 x.snap.index, .int .i64 x.snap.term, .int .i64 x.snap.sum, .int .i64 x.snap.level, .bool x.snap.final, .slice A x.log.length c, .int .i64 x.term, .int .i64 x.vote], .int .i64 t, .int .i64 v] w0 (Chg w0 x (Zfx x t v)) := by
 refine Vx Tryz.func60 rfl Tryz.ntmps60 rfl ?_
 have hS := St0.start All w0
 repeat (first | (apply Zd; intro K hK) | apply Ze)
 first | (apply X9; refine Z4 rfl rfl rfl (by first | exact CellsOf.agg) hS (fun bt w hS hB => ?_))
 first | (apply X9; refine Z4 rfl rfl rfl (by first | exact CellsOf.int) hS (fun bf w hS hB => ?_))
 first | (apply X9; refine Z4 rfl rfl rfl (by first | exact CellsOf.int) hS (fun bg w hS hB => ?_))
 repeat (first | apply Zg | (apply Zc; assumption) | (apply Zd; intro K hK) | apply Ze | (apply Vd; refine Z5 rfl rfl (by first | exact Zal) hS (fun b w hS hB => ?_)) | (apply Yw; refine Za rfl rfl rfl (by first | exact Z2 rfl | (apply Yb; first | exact Zi (by first | exact Ya) rfl (Zhr _) hS (by repeat (first | exact Has.head | apply Has.tail)) (by first | trivial) (by repeat (first | exact Seg.here (by repeat (first | exact Pre.zero | apply Pre.succ))))) | exact Vc rfl rfl) ?_))
 have hbf := (hS.box_ge (b := bf) (by repeat (first | exact Has.head | apply Has.tail)))
 have hbg := (hS.box_ge (b := bg) (by repeat (first | exact Has.head | apply Has.tail)))
 refine Zn rfl rfl rfl rfl (by kernel_rfl) rfl (changed_any x (Zfx x t v) A c 106 #[.pointer (some ⟨bf, 0, none⟩), .pointer (some ⟨bg, 0, none⟩)] _ (by kernel_rfl) (hx.below hS.pure) (fun a ha => Nat.lt_of_lt_of_le (hA a ha) hS.size)
  (fun hT => hard1_does bf bg t v _ hbf.2.2 hbg.2.2 x hT)) ?_
 rintro e w1 ⟨A2, c2, ⟨rfl, hs⟩, hB⟩
 refine ⟨_, rfl, ?_⟩
 replace hS := hS.slice hs hB
 repeat (first | apply Zg | (apply Zc; assumption) | (apply Yu; refine Zl rfl rfl rfl (by first | exact CellsOf.agg) hS (by repeat (first | exact Pos.head | apply Pos.tail)) (by repeat (first | exact SetC.here (by repeat (first | exact Ovr.nil | apply Ovr.cons)))) (by kernel_rfl) rfl (fun w hS hB => ?_)) | (apply Yw; refine Za rfl rfl rfl (by first | exact Z2 rfl | exact Zv rfl rfl) ?_) | apply Zk)
 refine Zm rfl (by first | exact RV.cell rfl (Zu (by first | exact Ya) hS (by repeat (first | exact Has.head | apply Has.tail)) (by repeat (first | exact Seg.here (by repeat (first | exact Pre.zero | apply Pre.succ))))) (RV.tmp rfl RV.nil)) rfl ?_
 exact ⟨A2, c2, ⟨rfl, hS.giveS (by repeat (first | exact Has.head)) hs.len hs.le hs.cap⟩, hS.pure⟩
end
section
open Go Go.RowKit
set_option maxRecDepth 100000
theorem next_p (s : St) (e : En) (w : World) : PureC Tryz.prog 120 #[.agg #[.int .i64 s.index, .int .i64 s.term, .int .i64 s.sum, .int .i64 s.level, .bool s.final], .agg #[.int .i64 e.term, .int .i64 e.kind, .int .i64 e.value]] w (.agg #[.int .i64 (Zby s e).index, .int .i64 (Zby s e).term, .int .i64 (Zby s e).sum, .int .i64 (Zby s e).level, .bool (Zby s e).final]) := ⟨next_any s e w⟩
structure SX where
 bt : Nat
 bs : Nat
 A : OA
 c : Nat
 j : Nat
 n : Nat
theorem state_yes (x : Tu) (A : OA) (c : Nat) (k : Nat) (w0 : World) (h : -2000000000000 ≤ x.snap.index ∧ x.snap.index ≤ 2000000000000) (hl : LI w0 A x.log.length c x.log) (i : Int) (hi : i = x.snap.index + k) (hk : k ≤ x.log.length) :
  PureC Tryz.prog 76 #[.agg #[.int .i64 x.snap.index, .int .i64 x.snap.term, .int .i64 x.snap.sum, .int .i64 x.snap.level, .bool x.snap.final, .slice A x.log.length c, .int .i64 x.term, .int .i64 x.vote], .int .i64 i] w0 (.tuple #[.agg #[.int .i64 (allS x.snap (x.log.take k)).index, .int .i64 (allS x.snap (x.log.take k)).term, .int .i64 (allS x.snap (x.log.take k)).sum, .int .i64 (allS x.snap (x.log.take k)).level, .bool (allS x.snap (x.log.take k)).final], .bool true]) := by
 refine PureC.mk ?_
 have hsm := hl.small
 have hle := hl.le
 have hcp := hl.cap
 have hkl : (x.log.take k).length = k := by rw [List.length_take]; omega
 have hrd : Rd w0 A (ens (x.log.take k)) := by
  have := hl.rd.take (3 * k)
  have e2 : (ens x.log).take (3 * k) = ens (x.log.take k) := by
   have := ens_app (x.log.take k) (x.log.drop k)
   rw [List.take_append_drop] at this
   rw [this, List.take_left' (by rw [Zdv, hkl])]
  rwa [e2] at this
 refine Yn Tryz.func76 rfl Tryz.ntmps76 rfl ?_
 have hS := St0.start All w0
 repeat (first | (apply Zd; intro K hK) | apply Ze)
 first | (apply X9; refine Z4 rfl rfl rfl (by first | exact CellsOf.agg) hS (fun bt w hS hB => ?_))
 first | (apply Vd; refine Z5 rfl rfl (by first | exact zc_23) hS (fun bs w hS hB => ?_))
 repeat (first | apply Zg | (apply Zc; assumption) | (apply Yw; refine Za rfl rfl rfl (by first | exact Z2 rfl) ?_))
 refine wpC_scope 0 (fun y : SX => [(6, .slice y.A y.n y.c), (5, .bool false), (4, .pointer (some ⟨y.bs, 0, none⟩)), (2, .pointer (some ⟨y.bt, 0, none⟩)), (1, .int .i64 i)])
  (fun y w => y.j + y.n = k ∧ y.n ≤ y.c ∧ y.c ≤ maxLen ∧ Rd w0 y.A (ens ((x.log.take k).drop y.j)) ∧ St0 All w0 w [.box y.bs [.int .i64 (allS x.snap (x.log.take y.j)).index, .int .i64 (allS x.snap (x.log.take y.j)).term, .int .i64 (allS x.snap (x.log.take y.j)).sum, .int .i64 (allS x.snap (x.log.take y.j)).level, .bool (allS x.snap (x.log.take y.j)).final] 23, .box y.bt [.int .i64 x.snap.index, .int .i64 x.snap.term, .int .i64 x.snap.sum, .int .i64 x.snap.level, .bool x.snap.final, .slice A x.log.length c, .int .i64 x.term, .int .i64 x.vote] 26])
  (fun y => y.n) rfl ?_ ?_
 ·rintro ⟨bt, bs, Aj, cj, j, n⟩ w ⟨hj, hcj, hcm, hrj, hS⟩
  dsimp only at hj hcj hcm hrj hS ⊢
  rcases Nat.eq_zero_or_pos n with rfl | hn
  ·obtain rfl : j = k := by omega
   repeat (first | apply Zg | (apply Zc; assumption) | (apply Zd; intro K hK) | apply Ze | (apply Yu; refine Zl rfl rfl rfl (by first | exact CellsOf.agg) hS (by repeat (first | exact Pos.head)) (by repeat (first | exact SetC.here (by repeat (first | exact Ovr.nil | apply Ovr.cons)))) (by kernel_rfl) rfl (fun w hS hB => ?_)) | (apply Yw; refine Za rfl rfl rfl (by first | exact Zw rfl | exact Z2 rfl | (apply Yb; first | exact Zi (by first | exact Y6) rfl (Zhr _) hS (by repeat (first | exact Has.head)) (by first | trivial) (by repeat (first | exact Seg.here (by repeat (first | exact Pre.zero | apply Pre.succ))))) | (apply Yr; first | exact Zdl rfl rfl (by omega)) | (apply Zas; first | exact Y0 (by first | exact Y8) rfl)) ?_) | apply Yl rfl rfl | apply Zr | apply Zk | apply Yc)
   refine Zm rfl (by first | exact RV.cell rfl (Zu (by first | exact Y6) hS (by repeat (first | exact Has.head)) (by repeat (first | exact Seg.here (by repeat (first | exact Pre.zero | apply Pre.succ))))) (RV.tmp rfl RV.nil)) rfl ?_
   exact ⟨rfl, hS.pure⟩
  ·obtain ⟨e, he⟩ : ∃ e, ((x.log.take k).drop j)[0]? = some e := ⟨_, List.getElem?_eq_getElem (by rw [List.length_drop]; omega)⟩
   obtain ⟨b1, o1, hA1, hb1, hr1⟩ := hrj.entR he
   subst hA1
   have htk : x.log.take (j + 1) = x.log.take j ++ [e] := by
    rw [List.getElem?_drop, List.getElem?_take] at he
    split at he
    ·rw [List.take_add_one]; rw [show x.log[j]? = some e from by simpa using he]; rfl
    ·cases he
   repeat (first | (apply Zc; assumption) | (apply Zd; intro K hK) | apply Zr)
   apply Ze
   repeat (first | apply Zg | (apply Zc; assumption) | (apply Zd; intro K hK) | (apply Yw; refine Za rfl rfl rfl (by first | exact Zw rfl | (apply Yr; first | exact Zfr rfl rfl (by omega)) | (apply Zas; first | exact Y0 (by first | exact Y8) rfl)) ?_) | apply Zt rfl rfl)
   refine Yi 9 [7] (fun i b => (i = 7 → b ≠ bs)) ⟨by kernel_rfl, by kernel_rfl⟩ hS (fun w hS hB => Zq [Tt,Tt,Tt,Tt] (by decide +kernel) (by repeat (first | exact PF.body | apply PF.then | apply PF.jump)) ?_)
   repeat (first | refine LtK.put rfl rfl rfl (by first | exact Zar (j := 0) (by first | exact Y8) rfl rfl rfl (by omega) | exact Zw rfl | (apply Yb; first | exact Zi (by first | exact Y6 | exact Jt) rfl (Zhs _) hS (by repeat (first | exact Has.head | apply Has.tail)) (by first | trivial) (by repeat (first | exact Seg.here (by repeat (first | exact Pre.zero | apply Pre.succ)))) | exact Zem (by first | exact Y6 | exact Jt) rfl (Zhs _) hS (by first | trivial) (by first | trivial) (by assumption) (by rfl))) ?_)
   refine LtK.nil (Y7 [Ff,Ff,Ff,Ff,Ff,Tt,Tt] [7] (fun b => b ≠ bs) (by decide +kernel) (by intro j hj b hb; simp only [List.mem_cons, List.not_mem_nil, or_false] at hj; (try rcases hj with rfl | rfl) <;> simp_all) (by repeat (first | exact PF.body | apply PF.then | apply PF.jump)) ?_)
   repeat (first | refine LtK.put rfl rfl rfl (by first | exact yv_slice_l (l := 1) (by first | exact Y8) rfl rfl rfl (by omega) | exact Zw rfl) ?_)
   refine LtK.nil (Z6 [Ff,Ff,Ff,Ff,Tt] 4 ⟨by decide, by kernel_rfl, by kernel_rfl⟩ rfl rfl ?_)
   dsimp only [Z0]
   repeat (first | apply Zg | (apply Y5; first | refine Xh rfl rfl rfl (by kernel_rfl) rfl (next_p _ _ _) hS (fun w hS hB => ?_)))
   refine Z9 (by first | assumption) ?_
   refine Yq [Ff,Ff,Ff,Ff,Ff,Ff,Ff,Tt] 7 ⟨by decide, by kernel_rfl, by kernel_rfl⟩ rfl rfl ?_
   dsimp only [Z0]
   repeat (first | apply Zg | (apply Yu; refine Zl rfl rfl rfl (by first | exact CellsOf.agg) hS (by repeat (first | exact Pos.head)) (by repeat (first | exact SetC.here (by repeat (first | exact Ovr.nil | apply Ovr.cons)))) (by kernel_rfl) rfl (fun w hS hB => ?_)))
   refine Yk (by first | exact hB.sub (fun _ _ h => by simpa using h)) ?_
   refine Zq [Ff,Ff,Ff,Ff,Ff,Ff,Ff,Ff,Tt] (by decide +kernel) (by repeat (first | exact PF.body | apply PF.then | apply PF.jump)) ?_
   repeat (first | refine LtK.put rfl rfl rfl (by first | exact Z2 rfl) ?_)
   refine LtK.nil (Ye (by kernel_rfl) ?_)
   repeat (first | (apply Zc; assumption) | apply Vr | apply Xp)
   refine QH_jump ⟨bt, bs, _, _, j + 1, n - 1⟩ (by repeat (first | exact Sub.nil | refine Sub.cons rfl ?_)) ⟨by dsimp only; omega, by dsimp only; omega, by dsimp only; omega, ?_, ?_⟩ (by dsimp only; omega)
   ·dsimp only
    have h3 := hrj.cutE (k := 1) (c := cj) (by rw [List.length_drop, hkl]; omega)
    rwa [List.drop_drop] at h3
   ·dsimp only
    rw [htk, allS_snoc]
    exact hS
 ·intro hpass
  repeat (first | apply Zg | (apply Zc; assumption) | (apply Zd; intro K hK) | apply Ze | (apply Yu; refine Zl rfl rfl rfl (by first | exact CellsOf.agg) hS (by repeat (first | exact Pos.head)) (by repeat (first | exact SetC.here (by repeat (first | exact Ovr.nil | apply Ovr.cons)))) (by kernel_rfl) rfl (fun w hS hB => ?_)) | (apply Y5; first | refine Xh rfl rfl rfl (by kernel_rfl) rfl (Zhe _ _ _ _ _ _ _ (by omega) (by omega)) hS (fun w hS hB => ?_)) | (apply Yw; refine Za rfl rfl rfl (by first | exact Zf9 (h := k) (by first | exact Y8) rfl rfl (by omega) (by omega) | exact Zw rfl | exact Z2 rfl | exact Zf (by first | exact Yj | exact Xj | exact X4) rfl | (apply Yb; first | exact Zh (by first | exact Z1 | exact Xx) rfl (Zhr _) hS (by repeat (first | exact Has.head | apply Has.tail)) (by first | trivial) (by repeat (first | exact Seg.here (Pre.succ Pre.zero) | apply Seg.succ)) | exact Zi (by first | exact Y6 | exact Ya) rfl (Zhr _) hS (by repeat (first | exact Has.head | apply Has.tail)) (by first | trivial) (by repeat (first | exact Seg.here (by repeat (first | exact Pre.zero | apply Pre.succ))))) | (apply Yr; first | exact Zdj rfl rfl (by omega) | exact Zdl rfl rfl (by omega) | exact yv_sub rfl rfl (by omega)) | (apply Xg; first | exact Y3 rfl rfl rfl)) ?_) | apply Yl rfl rfl | apply Zr)
  apply Zea
  apply Zc
  assumption
  rcases Nat.eq_zero_or_pos k with hk0 | hn
  ·repeat (first | apply Zg | (apply Zc; assumption) | (apply Zd; intro K hK) | apply Ze | (apply Yu; refine Zl rfl rfl rfl (by first | exact CellsOf.agg) hS (by repeat (first | exact Pos.head)) (by repeat (first | exact SetC.here (by repeat (first | exact Ovr.nil | apply Ovr.cons)))) (by kernel_rfl) rfl (fun w hS hB => ?_)) | (apply Yw; refine Za rfl rfl rfl (by first | exact Zw rfl | exact Z2 rfl | (apply Yb; first | exact Zi (by first | exact Y6) rfl (Zhr _) hS (by repeat (first | exact Has.head)) (by first | trivial) (by repeat (first | exact Seg.here (by repeat (first | exact Pre.zero | apply Pre.succ))))) | (apply Yr; first | exact Zdl rfl rfl (by omega)) | (apply Zas; first | exact Y0 (by first | exact Y8) rfl)) ?_) | apply Yl rfl rfl | apply Zr | apply Zk | apply Yc)
   refine Zm rfl (by first | exact RV.cell rfl (Zu (by first | exact Y6) hS (by repeat (first | exact Has.head)) (by repeat (first | exact Seg.here (by repeat (first | exact Pre.zero | apply Pre.succ))))) (RV.tmp rfl RV.nil)) rfl ?_
   subst hk0
   exact ⟨rfl, hS.pure⟩
  ·obtain ⟨e, he⟩ : ∃ e, (x.log.take k)[0]? = some e := ⟨_, List.getElem?_eq_getElem (by omega)⟩
   obtain ⟨b1, o1, hA1, hb1, hr1⟩ := hrd.entR he
   subst hA1
   have htk : x.log.take 1 = [e] := by
    rw [List.getElem?_take, if_pos hn] at he
    rw [List.take_add_one, he]; rfl
   repeat (first | (apply Zd; intro K hK))
   apply Ze
   repeat (first | apply Zg | (apply Zc; assumption) | (apply Zd; intro K hK) | (apply Yw; refine Za rfl rfl rfl (by first | exact Zw rfl | (apply Yr; first | exact Zfr rfl rfl (by omega)) | (apply Zas; first | exact Y0 (by first | exact Y8) rfl)) ?_) | apply Zt rfl rfl)
   refine Yi 9 [7] (fun i b => (i = 7 → b ≠ bs)) ⟨by kernel_rfl, by kernel_rfl⟩ hS (fun w hS hB => Zq [Tt,Tt,Tt,Tt] (by decide +kernel) (by repeat (first | exact PF.body | apply PF.then | apply PF.jump)) ?_)
   repeat (first | refine LtK.put rfl rfl rfl (by first | exact Zar (j := 0) (by first | exact Y8) rfl rfl rfl (by omega) | exact Zw rfl | (apply Yb; first | exact Zi (by first | exact Y6 | exact Jt) rfl (Zhs _) hS (by repeat (first | exact Has.head | apply Has.tail)) (by first | trivial) (by repeat (first | exact Seg.here (by repeat (first | exact Pre.zero | apply Pre.succ)))) | exact Zem (by first | exact Y6 | exact Jt) rfl (Zhs _) hS (by first | trivial) (by first | trivial) (by assumption) (by rfl))) ?_)
   refine LtK.nil (Y7 [Ff,Ff,Ff,Ff,Ff,Tt,Tt] [7] (fun b => b ≠ bs) (by decide +kernel) (by intro j hj b hb; simp only [List.mem_cons, List.not_mem_nil, or_false] at hj; (try rcases hj with rfl | rfl) <;> simp_all) (by repeat (first | exact PF.body | apply PF.then | apply PF.jump)) ?_)
   repeat (first | refine LtK.put rfl rfl rfl (by first | exact yv_slice_l (l := 1) (by first | exact Y8) rfl rfl rfl (by omega) | exact Zw rfl) ?_)
   refine LtK.nil (Z6 [Ff,Ff,Ff,Ff,Tt] 4 ⟨by decide, by kernel_rfl, by kernel_rfl⟩ rfl rfl ?_)
   dsimp only [Z0]
   repeat (first | apply Zg | (apply Y5; first | refine Xh rfl rfl rfl (by kernel_rfl) rfl (next_p _ _ _) hS (fun w hS hB => ?_)))
   refine Z9 (by first | assumption) ?_
   refine Yq [Ff,Ff,Ff,Ff,Ff,Ff,Ff,Tt] 7 ⟨by decide, by kernel_rfl, by kernel_rfl⟩ rfl rfl ?_
   dsimp only [Z0]
   repeat (first | apply Zg | (apply Yu; refine Zl rfl rfl rfl (by first | exact CellsOf.agg) hS (by repeat (first | exact Pos.head)) (by repeat (first | exact SetC.here (by repeat (first | exact Ovr.nil | apply Ovr.cons)))) (by kernel_rfl) rfl (fun w hS hB => ?_)))
   refine Yk (by first | exact hB.sub (fun _ _ h => by simpa using h)) ?_
   refine Zq [Ff,Ff,Ff,Ff,Ff,Ff,Ff,Ff,Tt] (by decide +kernel) (by repeat (first | exact PF.body | apply PF.then | apply PF.jump)) ?_
   repeat (first | refine LtK.put rfl rfl rfl (by first | exact Z2 rfl) ?_)
   refine LtK.nil (Ye (by kernel_rfl) ?_)
   repeat (first | (apply Zc; assumption) | apply Vr | apply Xp)
   refine QH_jump0 ⟨bt, bs, _, _, 1, k - 1⟩ (by repeat (first | exact Sub.nil | refine Sub.cons rfl ?_)) ⟨by dsimp only; omega, by dsimp only; omega, by dsimp only; omega, ?_, ?_⟩
   ·dsimp only
    exact hrd.cutE (k := 1) (c := c) (by omega)
   ·dsimp only
    rw [htk]
    exact hS
theorem state_no (x : Tu) (A : OA) (c : Nat) (w0 : World) (h : -2000000000000 ≤ x.snap.index ∧ x.snap.index ≤ 2000000000000) (hsm : x.log.length ≤ 1000000) (i : Int) (hi : i < x.snap.index ∨ x.snap.index + x.log.length < i) :
  PureC Tryz.prog 76 #[.agg #[.int .i64 x.snap.index, .int .i64 x.snap.term, .int .i64 x.snap.sum, .int .i64 x.snap.level, .bool x.snap.final, .slice A x.log.length c, .int .i64 x.term, .int .i64 x.vote], .int .i64 i] w0 (.tuple #[.agg #[.int .i64 0, .int .i64 0, .int .i64 0, .int .i64 0, .bool false], .bool false]) := by
 refine PureC.mk (Yn Tryz.func76 rfl Tryz.ntmps76 rfl ?_)
 have hS := St0.start All w0
 repeat (first | apply Zg | (apply Zc; assumption) | (apply Zd; intro K hK) | apply Ze | (apply X9; refine Z4 rfl rfl rfl (by first | exact CellsOf.agg) hS (fun b w hS hB => ?_)) | (apply Vd; refine Z5 rfl rfl (by first | exact zc_23) hS (fun b w hS hB => ?_)) | (apply Yw; refine Za rfl rfl rfl (by first | exact Z2 rfl) ?_))
 refine wpC_scope 0 (X := Unit) (fun _ => []) (fun _ _ => False) (fun _ => 0) rfl (fun _ _ h => h.elim) ?_
 intro hpass
 by_cases h1 : i < x.snap.index
 ·repeat (first | apply Zg | (apply Zc; assumption) | (apply Zd; intro K hK) | apply Ze | (apply Yw; refine Xi rfl rfl rfl ?_) | (apply Yu; refine Zl rfl rfl rfl (by first | exact CellsOf.agg) hS (by repeat (first | exact Pos.head)) (by repeat (first | exact SetC.here (by repeat (first | exact Ovr.nil | apply Ovr.cons)))) (by kernel_rfl) rfl (fun w hS hB => ?_)) | (apply Yw; refine Za rfl rfl rfl (by first | exact Zw rfl | exact Z2 rfl | exact Zf (by first | exact Yj | exact Xj) rfl | (apply Yb; first | exact Zh (by first | exact Z1) rfl (Zhr _) hS (by repeat (first | exact Has.head | apply Has.tail)) (by first | trivial) (by repeat (first | exact Seg.here (Pre.succ Pre.zero))) | exact Zi (by first | exact Y6) rfl (Zhr _) hS (by repeat (first | exact Has.head)) (by first | trivial) (by repeat (first | exact Seg.here (by repeat (first | exact Pre.zero | apply Pre.succ))))) | (apply Yr; first | exact Zgl rfl rfl (by omega)) | (apply Xg; first | exact Ym rfl rfl rfl)) ?_) | apply Zt rfl rfl | apply Zk | apply Zj | apply Yc)
  refine Zm rfl (by first | exact RV.cell rfl (Zu (by first | exact Y6) hS (by repeat (first | exact Has.head)) (by repeat (first | exact Seg.here (by repeat (first | exact Pre.zero | apply Pre.succ))))) (RV.tmp rfl RV.nil)) rfl ?_
  exact ⟨rfl, hS.pure⟩
 ·have h2 : x.snap.index + x.log.length < i := by omega
  repeat (first | apply Zg | (apply Zc; assumption) | (apply Zd; intro K hK) | apply Ze | (apply Yu; refine Zl rfl rfl rfl (by first | exact CellsOf.agg) hS (by repeat (first | exact Pos.head)) (by repeat (first | exact SetC.here (by repeat (first | exact Ovr.nil | apply Ovr.cons)))) (by kernel_rfl) rfl (fun w hS hB => ?_)) | (apply Y5; first | refine Xh rfl rfl rfl (by kernel_rfl) rfl (Zhe _ _ _ _ _ _ _ (by omega) (by omega)) hS (fun w hS hB => ?_)) | (apply Yw; refine Za rfl rfl rfl (by first | exact Zw rfl | exact Z2 rfl | exact Zf (by first | exact Yj | exact Xj) rfl | (apply Yb; first | exact Zh (by first | exact Z1) rfl (Zhr _) hS (by repeat (first | exact Has.head | apply Has.tail)) (by first | trivial) (by repeat (first | exact Seg.here (Pre.succ Pre.zero))) | exact Zi (by first | exact Y6 | exact Ya) rfl (Zhr _) hS (by repeat (first | exact Has.head | apply Has.tail)) (by first | trivial) (by repeat (first | exact Seg.here (by repeat (first | exact Pre.zero | apply Pre.succ))))) | (apply Yr; first | exact Zdj rfl rfl (by omega) | exact Zfr rfl rfl (by omega)) | (apply Xg; first | exact Y3 rfl rfl rfl)) ?_) | apply Zt rfl rfl | apply Zk | apply Zj | apply Yc)
  refine Zm rfl (by first | exact RV.cell rfl (Zu (by first | exact Y6) hS (by repeat (first | exact Has.head)) (by repeat (first | exact Seg.here (by repeat (first | exact Pre.zero | apply Pre.succ))))) (RV.tmp rfl RV.nil)) rfl ?_
  exact ⟨rfl, hS.pure⟩
end
section
open Go Go.RowKit
set_option maxRecDepth 100000
theorem SlI.li {w : World} {A : OA} {c : Nat} {l : List En} (h : SlI w Vv A c l) (hn : l.length ≤ 1000000) : LI w A l.length c l := ⟨rfl, hn, h.le, h.cap, h.rd⟩
theorem Sl.st0 {w w' : World} {A : OA} {n c k : Nat} {xs : List Value} (hs : Sl w w' A n c k xs) (hB : Below w.heap.size w w') : St0 All w w' [.rd A xs] := (St0.start All w).slice hs hB
theorem PureC.st0 {P : Program} {f : Nat} {args : Array Value} {w : World} {v : Value} (h : PureC P f args w v) : Calls P f args w fun e w' => e = .returned v ∧ St0 All w w' [] := h.run.mono fun _ _ h => ⟨h.1, (St0.start All w).below h.2⟩
theorem calls_st0 {P : Program} {f : Nat} {args : Array Value} {w : World} {v : Value} (h : Calls P f args w fun e w' => e = .returned v ∧ Below w.heap.size w w') : Calls P f args w fun e w' => e = .returned v ∧ St0 All w w' [] := h.mono fun _ _ h => ⟨h.1, (St0.start All w).below h.2⟩
def okT (x : Tu) : Bool := decide (x.log.length ≤ 1000000 ∧ -2000000000000 ≤ x.snap.index ∧ x.snap.index ≤ 2000000000000)
theorem okT_iff {x : Tu} : okT x = true ↔ x.log.length ≤ 1000000 ∧ -2000000000000 ≤ x.snap.index ∧ x.snap.index ≤ 2000000000000 := decide_eq_true_iff
def Zg3 (e : En) : Option Bool := some (Zaa e)
theorem c_entry_Right (x0 : En) (w0 : World) {r : Bool} (H : Zg3 x0 = some r) : Calls Tryz.prog 137 #[.agg #[.int .i64 x0.term, .int .i64 x0.kind, .int .i64 x0.value]] w0 fun e w' => e = .returned (.bool r) ∧ St0 All w0 w' [] := by
 obtain rfl := QJ H
 exact calls_st0 (Zf5 x0 w0)
def Zdg (x : Tu) : Option Bool := cond (okT x) (some (V7 x)) none
theorem c_tuple_Right (x0 : Tu) (A0 : OA) (c0 : Nat) (w0 : World) (s0 : SlI w0 Vv A0 c0 x0.log) {r : Bool} (H : Zdg x0 = some r) : Calls Tryz.prog 95 #[.agg #[.int .i64 x0.snap.index, .int .i64 x0.snap.term, .int .i64 x0.snap.sum, .int .i64 x0.snap.level, .bool x0.snap.final, .slice A0 x0.log.length c0, .int .i64 x0.term, .int .i64 x0.vote]] w0 fun e w' => e = .returned (.bool r) ∧ St0 All w0 w' [] := by
 unfold Zdg at H
 cases hb : okT x0 with
 | false => rw [hb] at H; cases H
 | true =>
  rw [hb] at H
  obtain rfl := QJ H
  have h := okT_iff.1 hb
  exact (right_any2 x0.snap A0 x0.log.length c0 x0.log x0.term x0.vote w0 (s0.li h.1) h.2 s0.blk).st0
def X6 (x : Tu) (i : Int) : Option (St × Bool) := cond (okT x) (cond (decide (x.snap.index ≤ i ∧ i ≤ x.snap.index + x.log.length)) (some (allS x.snap (x.log.take (i - x.snap.index).toNat), true)) (some (⟨0, 0, 0, 0, false⟩, false))) none
theorem Zfb (x0 : Tu) (x1 : Int) (A0 : OA) (c0 : Nat) (w0 : World) (s0 : SlI w0 Vv A0 c0 x0.log) {r : St × Bool} (H : X6 x0 x1 = some r) : Calls Tryz.prog 76 #[.agg #[.int .i64 x0.snap.index, .int .i64 x0.snap.term, .int .i64 x0.snap.sum, .int .i64 x0.snap.level, .bool x0.snap.final, .slice A0 x0.log.length c0, .int .i64 x0.term, .int .i64 x0.vote], .int .i64 x1] w0 fun e w' => e = .returned (.tuple #[.agg #[.int .i64 r.1.index, .int .i64 r.1.term, .int .i64 r.1.sum, .int .i64 r.1.level, .bool r.1.final], .bool r.2]) ∧ St0 All w0 w' [] := by
 unfold X6 at H
 cases hb : okT x0 with
 | false => rw [hb] at H; cases H
 | true =>
  rw [hb] at H
  have h := okT_iff.1 hb
  by_cases hi : x0.snap.index ≤ x1 ∧ x1 ≤ x0.snap.index + x0.log.length
  ·rw [decide_eq_true hi] at H
   obtain rfl := QJ H
   exact (state_yes x0 A0 c0 (x1 - x0.snap.index).toNat w0 h.2 (s0.li h.1) x1 (by omega) (by omega)).st0
  ·rw [decide_eq_false hi] at H
   obtain rfl := QJ H
   exact (state_no x0 A0 c0 w0 h.2 h.1 x1 (by omega)).st0
def Zgr (x : Tu) (res : Option Tu) : Tu × Int := (Zch x res, Zhh x res)
theorem chg_st0 {w0 : World} {x : Tu} {res : Option Tu} {e : Ending} {w' : World} (h : Chg w0 x res e w') : ∃ (A0 : OA) (c0 : Nat), e = .returned (.tuple #[.agg #[.int .i64 (Zgr x res).1.snap.index, .int .i64 (Zgr x res).1.snap.term, .int .i64 (Zgr x res).1.snap.sum, .int .i64 (Zgr x res).1.snap.level, .bool (Zgr x res).1.snap.final, .slice A0 (Zgr x res).1.log.length c0, .int .i64 (Zgr x res).1.term, .int .i64 (Zgr x res).1.vote], .int .i64 (Zgr x res).2]) ∧ ((Zgr x res).1.log.length ≤ c0 ∧ c0 ≤ maxLen) ∧ St0 All w0 w' [.rd A0 (Yg Vv (Zgr x res).1.log)] := by
 obtain ⟨A, c, ⟨rfl, hs⟩, hB⟩ := h
 exact ⟨A, c, rfl, ⟨hs.le, hs.cap⟩, hs.st0 hB⟩
def Zaf (x : Tu) (l : List En) : Option (Tu × Int) := cond (decide (x.log.length ≤ 1000000 ∧ l.length ≤ 300)) (some (Zgr x (some { x with log := x.log ++ l }))) none
theorem c_tuple_Append (x0 : Tu) (x1 : List En) (A0 : OA) (c0 : Nat) (A1 : OA) (c1 : Nat) (w0 : World) (s0 : SlI w0 Vv A0 c0 x0.log) (s1 : SlI w0 Vv A1 c1 x1) {r : Tu × Int} (H : Zaf x0 x1 = some r) : Calls Tryz.prog 66 #[.agg #[.int .i64 x0.snap.index, .int .i64 x0.snap.term, .int .i64 x0.snap.sum, .int .i64 x0.snap.level, .bool x0.snap.final, .slice A0 x0.log.length c0, .int .i64 x0.term, .int .i64 x0.vote], .slice A1 x1.length c1] w0 fun e w' => ∃ (A0 : OA) (c0 : Nat), e = .returned (.tuple #[.agg #[.int .i64 r.1.snap.index, .int .i64 r.1.snap.term, .int .i64 r.1.snap.sum, .int .i64 r.1.snap.level, .bool r.1.snap.final, .slice A0 r.1.log.length c0, .int .i64 r.1.term, .int .i64 r.1.vote], .int .i64 r.2]) ∧ (r.1.log.length ≤ c0 ∧ c0 ≤ maxLen) ∧ St0 All w0 w' [.rd A0 (Yg Vv r.1.log)] := by
 unfold Zaf at H
 by_cases h : x0.log.length ≤ 1000000 ∧ x1.length ≤ 300
 ·rw [decide_eq_true h] at H
  obtain rfl := QJ H
  exact (append_any x0 A0 A1 c0 x1.length c1 x1 w0 (s0.li h.1) s0.blk (s1.li (by omega)) h.2).mono fun _ _ h => chg_st0 h
 ·rw [decide_eq_false h] at H; cases H
def Zd4 (x : Tu) (i : Int) : Option (Tu × Int) := cond (decide (x.log.length ≤ 1000000)) (some (Zgr x (Zg7 x i))) none
theorem c_tuple_Cut (x0 : Tu) (x1 : Int) (A0 : OA) (c0 : Nat) (w0 : World) (s0 : SlI w0 Vv A0 c0 x0.log) {r : Tu × Int} (H : Zd4 x0 x1 = some r) : Calls Tryz.prog 75 #[.agg #[.int .i64 x0.snap.index, .int .i64 x0.snap.term, .int .i64 x0.snap.sum, .int .i64 x0.snap.level, .bool x0.snap.final, .slice A0 x0.log.length c0, .int .i64 x0.term, .int .i64 x0.vote], .int .i64 x1] w0 fun e w' => ∃ (A0 : OA) (c0 : Nat), e = .returned (.tuple #[.agg #[.int .i64 r.1.snap.index, .int .i64 r.1.snap.term, .int .i64 r.1.snap.sum, .int .i64 r.1.snap.level, .bool r.1.snap.final, .slice A0 r.1.log.length c0, .int .i64 r.1.term, .int .i64 r.1.vote], .int .i64 r.2]) ∧ (r.1.log.length ≤ c0 ∧ c0 ≤ maxLen) ∧ St0 All w0 w' [.rd A0 (Yg Vv r.1.log)] := by
 unfold Zd4 at H
 by_cases h : x0.log.length ≤ 1000000
 ·rw [decide_eq_true h] at H
  obtain rfl := QJ H
  exact (cut_any x0 A0 c0 x1 w0 (s0.li h) s0.blk).mono fun _ _ h => chg_st0 h
 ·rw [decide_eq_false h] at H; cases H
def Zb9 (x : Tu) (t v : Int) : Option (Tu × Int) := cond (decide (x.log.length ≤ 1000000)) (some (Zgr x (Zfx x t v))) none
theorem c_tuple_Hard (x0 : Tu) (x1 x2 : Int) (A0 : OA) (c0 : Nat) (w0 : World) (s0 : SlI w0 Vv A0 c0 x0.log) {r : Tu × Int} (H : Zb9 x0 x1 x2 = some r) : Calls Tryz.prog 60 #[.agg #[.int .i64 x0.snap.index, .int .i64 x0.snap.term, .int .i64 x0.snap.sum, .int .i64 x0.snap.level, .bool x0.snap.final, .slice A0 x0.log.length c0, .int .i64 x0.term, .int .i64 x0.vote], .int .i64 x1, .int .i64 x2] w0 fun e w' => ∃ (A0 : OA) (c0 : Nat), e = .returned (.tuple #[.agg #[.int .i64 r.1.snap.index, .int .i64 r.1.snap.term, .int .i64 r.1.snap.sum, .int .i64 r.1.snap.level, .bool r.1.snap.final, .slice A0 r.1.log.length c0, .int .i64 r.1.term, .int .i64 r.1.vote], .int .i64 r.2]) ∧ (r.1.log.length ≤ c0 ∧ c0 ≤ maxLen) ∧ St0 All w0 w' [.rd A0 (Yg Vv r.1.log)] := by
 unfold Zb9 at H
 by_cases h : x0.log.length ≤ 1000000
 ·rw [decide_eq_true h] at H
  obtain rfl := QJ H
  exact (hard_any x0 A0 c0 x1 x2 w0 (s0.li h) s0.blk).mono fun _ _ h => chg_st0 h
 ·rw [decide_eq_false h] at H; cases H
end
section
open Go Go.RowKit
set_option maxRecDepth 100000
theorem FineP.bounds {s : St} (h : FineP s) : 0 ≤ s.index ∧ s.index ≤ 1073741824 ∧ 0 ≤ s.sum ∧ s.sum ≤ 1073741824 := by
 rcases h with rfl | h
 ·simp [firstS]
 ·omega
theorem next_data (s : St) (hf : FineP s) (hi : s.index < 1073741824) (v : Int) (h0 : 0 ≤ v) (h1 : v ≤ 1073741824) : Zby s ⟨1, 1, v⟩ = ⟨s.index + 1, 1, (31 * s.sum + v + 1) % 1073741824, s.level, s.final⟩ := by
 unfold Zby
 rw [if_pos ⟨by simp [Zaa, h0, h1], (Zc6 s).2 hf, hi⟩]
 rfl
def SumInv (l : List Int) (q : Nat) (value : Int) (s : St) (k : Nat) (a b : St) : Prop :=
 FineP a ∧ FineP b ∧ a.index = s.index + k ∧ b.index = s.index + k ∧ (k ≤ q → a = b) ∧
  (q < k → a.sum < 1073741824 ∧ b.sum < 1073741824 ∧ ∃ x, l[q]? = some x ∧ 0 ≤ x ∧ x ≤ 999 ∧
   ((k = q + 1 ∧ (a.sum - b.sum - (x - value)) % 1073741824 = 0) ∨ (k = q + 2 ∧ (a.sum - b.sum - 31 * (x - value)) % 1073741824 = 0) ∨ (k = q + 3 ∧ (a.sum - b.sum - 961 * (x - value)) % 1073741824 = 0)))
theorem SumInv.start (l : List Int) (q : Nat) (value : Int) (s : St) (h : FineP s) : SumInv l q value s 0 s s := ⟨h, h, by simp, by simp, fun _ => rfl, fun h => by omega⟩
theorem SumInv.step {l : List Int} {q : Nat} {value : Int} {s : St} {k : Nat} {a b : St} (h : SumInv l q value s k a b) (hs : s.index ≤ 1073741624) (hk : k < 3) (v : Int) (hv : l[k]? = some v) (h0 : 0 ≤ v) (h1 : v ≤ 999) (g0 : 0 ≤ value) (g1 : value ≤ 999) :
  SumInv l q value s (k + 1) (Zby a ⟨1, 1, v⟩) (Zby b ⟨1, 1, if k = q then value else v⟩) := by
 obtain ⟨fa, fb, ia, ib, he, hd⟩ := h
 refine ⟨nextS_fine _ _ fa, nextS_fine _ _ fb, ?_⟩
 have va : 0 ≤ (if k = q then value else v) ∧ (if k = q then value else v) ≤ 999 := by split <;> omega
 rw [next_data a fa (by omega) v h0 (by omega), next_data b fb (by omega) _ va.1 (by omega)]
 refine ⟨by show a.index + 1 = _; omega, by show b.index + 1 = _; omega, fun hkq => ?_, fun hkq => ?_⟩
 ·rw [if_neg (by omega), he (by omega)]
 ·refine ⟨by show _ % _ < _; omega, by show _ % _ < _; omega, ?_⟩
  by_cases e : k = q
  ·subst e
   refine ⟨v, hv, h0, h1, .inl ⟨rfl, ?_⟩⟩
   rw [if_pos rfl, he (by omega)]
   show ((31 * b.sum + v + 1) % 1073741824 - (31 * b.sum + value + 1) % 1073741824 - (v - value)) % 1073741824 = 0
   omega
  ·obtain ⟨_, _, x, hx, x0, x1, hh⟩ := hd (by omega)
   refine ⟨x, hx, x0, x1, ?_⟩
   rw [if_neg e]
   have goal : ∀ c : Int, (a.sum - b.sum - c) % 1073741824 = 0 → ((31 * a.sum + v + 1) % 1073741824 - (31 * b.sum + v + 1) % 1073741824 - 31 * c) % 1073741824 = 0 := fun c hc => by omega
   rcases hh with ⟨rfl, hh⟩ | ⟨rfl, hh⟩ | ⟨rfl, hh⟩
   ·exact .inr (.inl ⟨rfl, goal _ hh⟩)
   ·refine .inr (.inr ⟨rfl, ?_⟩)
    have := goal _ hh
    show ((31 * a.sum + v + 1) % 1073741824 - (31 * b.sum + v + 1) % 1073741824 - 961 * (x - value)) % 1073741824 = 0
    omega
   ·omega
theorem SumInv.last {l : List Int} {q : Nat} {value : Int} {s : St} {k : Nat} {a b : St} (h : SumInv l q value s k a b) (hq : q < k) (g0 : 0 ≤ value) (g1 : value ≤ 999) {x : Int} (hx : l[q]? = some x) :
  ((a.sum == b.sum) == (x == value)) = true := by
 obtain ⟨fa, fb, _, _, _, hd⟩ := h
 obtain ⟨la, lb, x', hx', x0, x1, hh⟩ := hd hq
 rw [hx] at hx'
 obtain rfl := QJ hx'
 have ba := fa.bounds
 have bb := fb.bounds
 rw [beq_iff_eq, Bool.eq_iff_iff, beq_iff_eq, beq_iff_eq]
 omega
end
section
open Go Go.RowKit
set_option maxRecDepth 100000
end
section
end
section
open Go Go.RowKit
set_option maxRecDepth 100000
end
section
open Go Go.RowKit Go.Shelf
set_option maxRecDepth 100000
attribute [local go_sem] Oper.semAt_some
end
section
open Go Go.RowKit Go.Shelf
set_option maxRecDepth 100000
theorem run_store_func {P : Program} {w : World} {a : Addr} (f : Fn) (vs bs : Array Value) (m : Mode) : (store a (.func f vs bs) m).run P w = stored P w a (.func f vs bs) m := run_store P w a _ m rfl
attribute [local go_sem] run_store_func
end
section
open Go Go.RowKit Go.Shelf
set_option maxRecDepth 100000
end
section
open Go Go.RowKit
set_option maxRecDepth 100000
end
section
open Go Go.RowKit
set_option maxRecDepth 100000
theorem J7 {n : Int} (h : -9223372036854775808 ≤ n ∧ n ≤ 9223372036854775807) : IntKind.wrap .i64 n = n := i64_in' h
theorem Zav {α : Type} (l : List α) (k : Nat) : idx l (k : Int) = l[k]? := by unfold idx; simp
theorem takeI_nat {α : Type} (l : List α) (k : Nat) (h : k ≤ l.length) : takeI l (k : Int) = some (l.take k) := by unfold takeI; rw [if_pos (by omega)]; simp
theorem dropI_nat {α : Type} (l : List α) (k : Nat) (h : k ≤ l.length) : dropI l (k : Int) = some (l.drop k) := by unfold dropI; rw [if_pos (by omega)]; simp
theorem Zcd {α : Type} (l : List α) (h : l.length ≤ 1000000000) : Zeh l = some l := if_pos h
theorem makeI_nat {α : Type} (z : α) (n : Nat) (h : n ≤ 1000000000) : makeI z (n : Int) = some (List.replicate n z) := by unfold makeI; rw [if_pos (by omega)]; simp
theorem Xw {α : Type} {l : List α} {k : Nat} (h : k < l.length) : ∃ e, l[k]? = some e ∧ l.drop k = e :: l.drop (k + 1) := ⟨l[k], List.getElem?_eq_getElem h, List.drop_eq_getElem_cons h⟩
theorem snap_eq (a b : St) : (decide (a.index = b.index) && (decide (a.term = b.term) && (decide (a.sum = b.sum) && (decide (a.level = b.level) && decide (a.final = b.final))))) = decide (a = b) := by
 obtain ⟨a1, a2, a3, a4, a5⟩ := a; obtain ⟨b1, b2, b3, b4, b5⟩ := b
 rw [Bool.eq_iff_iff]; simp
theorem en_eq (a b : En) : (decide (a.term = b.term) && (decide (a.kind = b.kind) && decide (a.value = b.value))) = decide (a = b) := by
 obtain ⟨a1, a2, a3⟩ := a; obtain ⟨b1, b2, b3⟩ := b
 rw [Bool.eq_iff_iff]; simp
end
section
open Go Go.RowKit
set_option maxRecDepth 100000
end
section
open Go Go.RowKit
set_option maxRecDepth 100000
end
section
open Go Go.RowKit
set_option maxRecDepth 100000
theorem St0.three {S : Nat → Prop} {w : World} {b1 b2 b3 T1 T2 T3 : Nat} {c1 c2 c3 : List Value} (h1 : w.heap[b1]? = some (.cells c1.toArray T1)) (h2 : w.heap[b2]? = some (.cells c2.toArray T2)) (h3 : w.heap[b3]? = some (.cells c3.toArray T3)) (n12 : b1 ≠ b2) (n13 : b1 ≠ b3) (n23 : b2 ≠ b3) (s1 : ¬ S b1) (s2 : ¬ S b2) (s3 : ¬ S b3) :
  St0 S w w [.box b1 c1 T1, .box b2 c2 T2, .box b3 c3 T3] := by
 have lt : ∀ {b T : Nat} {c : List Value}, w.heap[b]? = some (.cells c.toArray T) → b < w.heap.size := fun h => (Array.getElem?_eq_some_iff.1 h).1
 refine ⟨KeepB.refl _ _, fun e he => ?_, fun e he k hk => ?_, ?_⟩
 ·simp only [List.mem_cons, List.not_mem_nil, or_false] at he
  rcases he with rfl | rfl | rfl
  ·exact h1
  ·exact h2
  ·exact h3
 ·simp only [List.mem_cons, List.not_mem_nil, or_false] at he
  rcases he with rfl | rfl | rfl
  ·obtain rfl : k = b1 := hk
   exact ⟨lt h1, fun _ => s1⟩
  ·obtain rfl : k = b2 := hk
   exact ⟨lt h2, fun _ => s2⟩
  ·obtain rfl : k = b3 := hk
   exact ⟨lt h3, fun _ => s3⟩
 ·refine List.pairwise_cons.2 ⟨fun e he k hk hk' => ?_, List.pairwise_cons.2 ⟨fun e he k hk hk' => ?_, List.pairwise_cons.2 ⟨fun e he => (by cases he), List.Pairwise.nil⟩⟩⟩
  ·obtain rfl : k = b1 := hk
   simp only [List.mem_cons, List.not_mem_nil, or_false] at he
   rcases he with rfl | rfl
   ·exact n12 hk'
   ·exact n13 hk'
  ·obtain rfl : k = b2 := hk
   simp only [List.mem_cons, List.not_mem_nil, or_false] at he
   subst he
   exact n23 hk'
def Zhp (x0 : Tu) (at_ many : Int) : Option (List En) :=
  if (x0.log.length ≤ 1000000 ∧ -2000000000000 ≤ x0.snap.index ∧ x0.snap.index ≤ 2000000000000) ∧ (-2000000000000 ≤ at_ ∧ at_ ≤ 2000000000000) ∧ 0 ≤ many ∧ many ≤ 1000 then
  some (if x0.snap.index < at_ then (x0.log.drop (at_ - x0.snap.index - 1).toNat).take many.toNat else []) else none
set_option maxHeartbeats 1000000 in
theorem it_from (x0 : Tu) (at_ many : Int) {A0 : OA} {c0 : Nat} (wB wM wI : World) (s0 : SlI wB Vv A0 c0 x0.log) (hB0 : Below wB.heap.size wB wM) (b1 b2 b3 : Nat) (hN : St0 All wM wI [.box b1 [.int .i64 x0.snap.index, .int .i64 x0.snap.term, .int .i64 x0.snap.sum, .int .i64 x0.snap.level, .bool x0.snap.final, .slice A0 x0.log.length c0, .int .i64 x0.term, .int .i64 x0.vote] 26, .box b2 [.int .i64 at_] 3, .box b3 [.int .i64 many] 3]) {xs : List En} (H : Zhp x0 at_ many = some xs) :
  IterP Tryz.prog 114 #[.pointer (some ⟨b1, 0, none⟩), .pointer (some ⟨b2, 0, none⟩), .pointer (some ⟨b3, 0, none⟩)] (fun e : En => [Value.agg #[.int .i64 e.term, .int .i64 e.kind, .int .i64 e.value]].toArray) xs wB.heap.size wM.heap.size wI := by
 unfold Zhp at H
 split at H
 case isFalse => cases H
 rename_i h9
 obtain ⟨hbt, hba, hm0, hm1⟩ := h9
 obtain hxs := QJ H
 have n12 := hN.ne 0 1 rfl rfl rfl
 have n13 := hN.ne 0 2 rfl rfl rfl
 have n23 := hN.ne 1 2 rfl rfl rfl
 have n32 : b3 ≠ b2 := fun h => n23 h.symm
 obtain ⟨hb, hbM, hbl⟩ := hN.cap
 obtain ⟨hc, hcM, hcl⟩ := (hN.front 1 rfl).cap
 obtain ⟨hd, hdM, hdl⟩ := (hN.front 2 rfl).cap
 have hA : Rd wI A0 (Yg Vv x0.log) := (s0.rd.below hB0).below hN.pure
 have hAn := s0.blk
 have hBs := hB0.size
 have s1 : ¬ (b1 < wM.heap.size ∨ wI.heap.size ≤ b1) := by omega
 have s2 : ¬ (b2 < wM.heap.size ∨ wI.heap.size ≤ b2) := by omega
 have s3 : ¬ (b3 < wM.heap.size ∨ wI.heap.size ≤ b3) := by omega
 have hmore : ∀ (k : Nat) (e : En), xs[k]? = some e → ∃ k0 : Nat, at_ = x0.snap.index + 1 + k0 ∧ x0.log[k0 + k]? = some e ∧ (k : Int) < many := by
  intro k e he
  rw [← hxs] at he
  split at he
  ·rename_i h1
   rw [List.getElem?_take] at he
   split at he
   ·rename_i h2
    rw [List.getElem?_drop] at he
    exact ⟨(at_ - x0.snap.index - 1).toNat, by omega, he, by omega⟩
   ·cases he
  ·simp at he
 have hdone : ∀ k : Nat, k ≤ xs.length → xs.length ≤ k → (at_ + k ≤ x0.snap.index ∨ x0.snap.index + x0.log.length < at_ + k) ∨ many - k = 0 := by
  intro k h1 h2
  have hl : xs.length = (if x0.snap.index < at_ then min many.toNat (x0.log.length - (at_ - x0.snap.index - 1).toNat) else 0) := by
   rw [← hxs]; split
   ·rw [List.length_take, List.length_drop]
   ·rfl
  split at hl <;> omega
 have hkm : ∀ k : Nat, k ≤ xs.length → (k : Int) ≤ 1000 := by
  intro k h1
  have : xs.length ≤ many.toNat := by
   rw [← hxs]; split
   ·rw [List.length_take]; omega
   ·simp
  omega
 intro lo J Jx Jp W hW hJ hJx hJp hy h0
 have hbW := (hW.block b1 hbl).trans hb
 have hcW := (hW.block b2 hcl).trans hc
 have hdW := (hW.block b3 hdl).trans hd
 have hAW := hA.below hW
 show Calls _ _ #[_, _, _, _] _ _
 refine Zhm Tryz.func114 rfl Tryz.ntmps114 rfl ?_
 refine wpC_scope 0 (X := Nat) (fun _ => [(3, .pointer (some ⟨b3, 0, none⟩)), (2, .pointer (some ⟨b2, 0, none⟩)), (1, .pointer (some ⟨b1, 0, none⟩)), (0, .func (.yield lo) #[] #[])])
  (fun k B => k ≤ xs.length ∧ J k B ∧ Rd B A0 (Yg Vv x0.log) ∧ B.heap[b1]? = some (.cells [.int .i64 x0.snap.index, .int .i64 x0.snap.term, .int .i64 x0.snap.sum, .int .i64 x0.snap.level, .bool x0.snap.final, .slice A0 x0.log.length c0, .int .i64 x0.term, .int .i64 x0.vote].toArray 26) ∧ B.heap[b2]? = some (.cells [.int .i64 (at_ + k)].toArray 3) ∧ B.heap[b3]? = some (.cells [.int .i64 (many - k)].toArray 3) ∧ wI.heap.size ≤ B.heap.size) (fun k => xs.length + 1 - k) rfl ?_ (fun _ => ?_)
 ·rintro k B ⟨hk, hJk, hAB, hb1, hb2, hb3, hz⟩
  have hkk := hkm k hk
  have hS := St0.three (S := fun b => b < wM.heap.size ∨ wI.heap.size ≤ b) hb1 hb2 hb3 n12 n13 n23 s1 s2 s3
  rcases Nat.lt_or_ge k xs.length with hlt | hge
  ·obtain ⟨e, he, _⟩ := Xw hlt
   obtain ⟨k0, hat, hek, hmk⟩ := hmore k e he
   repeat (first | (apply Zc; assumption) | (apply Zd; intro K hK) | apply Zr)
   apply Ze
   repeat (first | (apply Y5; first | refine Xh rfl rfl rfl (by kernel_rfl) rfl (at_yes x0.snap A0 x0.log.length c0 x0.term x0.vote (at_ + k) _ hbt.2 hbt.1 (k0 + k) (by omega) (List.getElem?_eq_some_iff.1 hek).1 x0.log hAB rfl e hek) hS (fun w hS hB => ?_)) | (apply Yw; refine Za rfl rfl rfl (by first | exact Zw rfl | (apply Yb; first | exact Zh (by first | exact Z1) rfl (Zhr _) hS (by repeat (first | exact Has.head | apply Has.tail)) (by first | trivial) (by repeat (first | exact Seg.here (Pre.succ Pre.zero))) | exact Zi (by first | exact Ya) rfl (Zhr _) hS (by repeat (first | exact Has.head)) (by first | trivial) (by repeat (first | exact Seg.here (by repeat (first | exact Pre.zero | apply Pre.succ))))) | exact Zv rfl rfl) ?_))
   first | (apply Vd; refine Z5 rfl rfl (by first | exact Zdh) hS (fun b5 w hS hB => ?_))
   repeat (first | apply Zg | (apply Zc; assumption) | (apply Zd; intro K hK) | (apply Yu; refine Zl rfl rfl rfl (by first | exact CellsOf.agg) hS (by repeat (first | exact Pos.head)) (by repeat (first | exact SetC.here (by repeat (first | exact Ovr.nil | apply Ovr.cons)))) (by kernel_rfl) rfl (fun w hS hB => ?_)) | (apply Yw; refine Za rfl rfl rfl (by first | exact Z2 rfl) ?_))
   refine Zgo 9 (by repeat (first | exact NL.body (by intro _ h; simp at h) | apply NL.then | apply NL.jump)) (by kernel_rfl) ?_
   dsimp only [List.take, List.drop]
   repeat (first | apply Zg | (apply Yw; refine Za rfl rfl rfl (by first | exact Zw rfl | (apply Yb; first | exact Zh (by first | exact Z1) rfl (Zhr _) hS (by repeat (first | exact Has.head | apply Has.tail)) (by first | trivial) (by repeat (first | exact Seg.here (Pre.succ Pre.zero))) | exact Zi (by first | exact Jt) rfl (Zhr _) hS (by repeat (first | exact Has.head)) (by first | trivial) (by repeat (first | exact Seg.here (by repeat (first | exact Pre.zero | apply Pre.succ))))) | (apply Yr; first | exact Zho rfl rfl (by omega)) | (apply Xg; first | exact Y3 rfl rfl rfl) | exact Ys rfl) ?_))
   refine QH_Y ?_
   have hk1 := hS.base
   have g1 := hS.ok _ (List.mem_cons_of_mem _ (List.mem_cons_self ..))
   have g2 := hS.ok _ (List.mem_cons_of_mem _ (List.mem_cons_of_mem _ (List.mem_cons_self ..)))
   have g3 := hS.ok _ (List.mem_cons_of_mem _ (List.mem_cons_of_mem _ (List.mem_cons_of_mem _ (List.mem_cons_self ..))))
   have hz1 := Nat.le_trans hz hk1.size
   refine wpSI_yield rfl rfl rfl rfl (hy k e _ he (hJ k B _ hJk hk1) hz1) ?_
   rintro ex w2 (⟨rfl, hJ2, hk2⟩ | ⟨rfl, hJ2, hk2⟩ | ⟨ch, rfl, hJ2⟩)
   ·refine .inl ⟨_, rfl, Zd6 (by repeat (first | exact NL.body (by intro _ h; simp at h) | apply NL.then | apply NL.jump)) (by kernel_rfl) ?_⟩
    have q1 := (hk2.block b1 (Nat.lt_of_lt_of_le hbl hz1) (.inr ⟨hbM, hbl⟩)).trans g1
    have q2 := (hk2.block b2 (Nat.lt_of_lt_of_le hcl hz1) (.inr ⟨hcM, hcl⟩)).trans g2
    have q3 := (hk2.block b3 (Nat.lt_of_lt_of_le hdl hz1) (.inr ⟨hdM, hdl⟩)).trans g3
    have hA2 : Rd w2 A0 (Yg Vv x0.log) := hk2.rd (hk1.rd hAB (fun p hp => .inl (Nat.lt_of_lt_of_le (hAn p hp) hBs))) (fun p hp => .inl (hAn p hp))
    have hS := St0.three (S := fun b => b < wM.heap.size ∨ wI.heap.size ≤ b) q1 q2 q3 n12 n13 n23 s1 s2 s3
    repeat (first | apply Zg | (apply Zc; assumption) | (apply Zd; intro K hK) | (apply Yw; refine Za rfl rfl rfl (by first | (apply Xg; first | exact Y3 rfl rfl rfl) | exact Ys rfl) ?_) | apply Yl rfl rfl | apply Zr)
    refine Yi 6 [4, 5] (fun i b => (i = 4 → b ≠ b2) ∧ (i = 5 → b ≠ b3)) ⟨by kernel_rfl, by kernel_rfl⟩ hS (fun w hS hB => Zq [Tt,Tt] (by decide +kernel) (by repeat (first | exact PF.body | apply PF.then | apply PF.jump)) ?_)
    repeat (first | refine LtK.put rfl rfl rfl (by first | (apply Yb; first | exact Zh (by first | exact Zeb | exact Z1) rfl (Zhs _) hS (by repeat (first | exact Has.head | apply Has.tail)) (by first | trivial) (by repeat (first | exact Seg.here (Pre.succ Pre.zero)))) | (apply Yr; first | exact Ze9 rfl rfl (by omega))) ?_)
    refine LtK.nil (Y7 [Ff,Ff,Tt,Tt] [4] (fun b => b ≠ b2) (by decide +kernel) (by intro j hj b hb; simp only [List.mem_cons, List.not_mem_nil, or_false] at hj; (try rcases hj with rfl | rfl) <;> simp_all) (by repeat (first | exact PF.body | apply PF.then | apply PF.jump)) ?_)
    repeat (first | refine LtK.put rfl rfl rfl (by first | (apply Yb; first | exact Zh (by first | exact Zeb | exact Z1) rfl (Zht _ _) hS (by repeat (first | exact Has.head | apply Has.tail)) (by first | trivial) (by repeat (first | exact Seg.here (Pre.succ Pre.zero)))) | (apply Yr; first | exact yv_sub rfl rfl (by omega))) ?_)
    refine LtK.nil (Yq [Ff,Ff,Ff,Ff,Tt] 4 ⟨by decide, by kernel_rfl, by kernel_rfl⟩ rfl rfl ?_)
    dsimp only [Z0]
    repeat (first | apply Zg | (apply Yu; refine Zl rfl rfl rfl (by first | exact CellsOf.int) hS (by repeat (first | exact Pos.head | apply Pos.tail)) (by repeat (first | exact SetC.here (by repeat (first | exact Ovr.nil | apply Ovr.cons)))) (by kernel_rfl) rfl (fun w hS hB => ?_)))
    refine Yk (by first | exact hB.sub (fun _ _ h => by simpa using h)) ?_
    refine Yq [Ff,Ff,Ff,Ff,Ff,Tt] 5 ⟨by decide, by kernel_rfl, by kernel_rfl⟩ rfl rfl ?_
    dsimp only [Z0]
    repeat (first | apply Zg | (apply Yu; refine Zl rfl rfl rfl (by first | exact CellsOf.int) hS (by repeat (first | exact Pos.head | apply Pos.tail)) (by repeat (first | exact SetC.here (by repeat (first | exact Ovr.nil | apply Ovr.cons)))) (by kernel_rfl) rfl (fun w hS hB => ?_)))
    refine Yk (by first | exact hB.sub (fun _ _ h => by simpa using h)) ?_
    refine Ye (by kernel_rfl) ?_
    repeat (first | (apply Zc; assumption) | apply Vr)
    have r2 := hS.ok _ (List.mem_cons_of_mem _ (List.mem_cons_self ..))
    have r3 := hS.ok _ (List.mem_cons_of_mem _ (List.mem_cons_of_mem _ (List.mem_cons_self ..)))
    have e2 : at_ + ((k + 1 : Nat) : Int) = at_ + (k : Int) + 1 := by omega
    have e3 : many - ((k + 1 : Nat) : Int) = many - (k : Int) - 1 := by omega
    refine QH_jump (k + 1) (by repeat (first | exact Sub.nil | refine Sub.cons rfl ?_)) ⟨hlt, ?_, ?_, ?_, ?_, ?_, ?_⟩ (by omega)
    ·exact hJ (k + 1) w2 _ hJ2 hS.base
    ·exact hS.base.rd hA2 (fun p hp => .inl (Nat.lt_of_lt_of_le (hAn p hp) hBs))
    ·exact hS.ok _ (List.mem_cons_self ..)
    ·rw [e2]; exact r2
    ·rw [e3]; exact r3
    ·exact Nat.le_trans (Nat.le_trans hz1 hk2.size) hS.base.size
   ·refine .inl ⟨_, rfl, Zd6 (by repeat (first | exact NL.body (by intro _ h; simp at h) | apply NL.then | apply NL.jump)) (by kernel_rfl) ?_⟩
    have hS := St0.start All w2
    repeat (first | apply Zg | (apply Zc; assumption) | (apply Yw; refine Za rfl rfl rfl (by first | (apply Xg; first | exact Y3 rfl rfl rfl) | exact Ys rfl) ?_) | apply Zt rfl rfl | apply Zk | apply Zj | apply Yc)
    refine Zm rfl (by first | exact RV.nil) rfl ?_
    exact .inl ⟨⟨_, rfl⟩, .inr hJ2⟩
   ·refine .inr ⟨ch, rfl, ?_⟩
    repeat (first | apply QH_jmp_panic | apply Xs)
    exact Ja rfl (.inr ⟨ch, rfl, hJ2⟩)
  ·have hkl : k = xs.length := by omega
   by_cases hno : at_ + k ≤ x0.snap.index ∨ x0.snap.index + x0.log.length < at_ + k
   ·repeat (first | (apply Zc; assumption) | (apply Zd; intro K hK) | apply Ze | (apply Y5; first | refine Xh rfl rfl rfl (by kernel_rfl) rfl (at_no x0.snap A0 x0.log.length c0 x0.term x0.vote (at_ + k) _ hbt.2 hbt.1 hno) hS (fun w hS hB => ?_)) | (apply Yw; refine Za rfl rfl rfl (by first | exact Zw rfl | (apply Yb; first | exact Zh (by first | exact Z1) rfl (Zhr _) hS (by repeat (first | exact Has.head | apply Has.tail)) (by first | trivial) (by repeat (first | exact Seg.here (Pre.succ Pre.zero))) | exact Zi (by first | exact Ya) rfl (Zhr _) hS (by repeat (first | exact Has.head)) (by first | trivial) (by repeat (first | exact Seg.here (by repeat (first | exact Pre.zero | apply Pre.succ))))) | exact Zv rfl rfl) ?_) | apply Zr)
    first | (apply Vd; refine Z5 rfl rfl (by first | exact Zdh) hS (fun b5 w hS hB => ?_))
    repeat (first | apply Zg | (apply Zc; assumption) | (apply Zd; intro K hK) | apply Ze | (apply Yw; refine Xi rfl rfl rfl ?_) | (apply Yu; refine Zl rfl rfl rfl (by first | exact CellsOf.agg) hS (by repeat (first | exact Pos.head)) (by repeat (first | exact SetC.here (by repeat (first | exact Ovr.nil | apply Ovr.cons)))) (by kernel_rfl) rfl (fun w hS hB => ?_)) | (apply Yw; refine Za rfl rfl rfl (by first | exact Zw rfl | exact Z2 rfl | (apply Xg; first | exact Ym rfl rfl rfl) | exact Ys rfl) ?_) | apply Zt rfl rfl | apply Zk | apply Zj | apply Yc)
    refine Zm rfl (by first | exact RV.nil) rfl ?_
    refine .inl ⟨⟨_, rfl⟩, .inl ?_⟩
    rw [← hkl]
    exact hJ k B _ hJk hS.base
   ·have hm : many - k = 0 := by rcases hdone k hk hge with h | h; exact (hno h).elim; exact h
    obtain ⟨e, he, _⟩ := Xw (show (at_ + k - x0.snap.index - 1).toNat < x0.log.length by omega)
    repeat (first | (apply Zc; assumption) | (apply Zd; intro K hK) | apply Ze | (apply Y5; first | refine Xh rfl rfl rfl (by kernel_rfl) rfl (at_yes x0.snap A0 x0.log.length c0 x0.term x0.vote (at_ + k) _ hbt.2 hbt.1 (at_ + k - x0.snap.index - 1).toNat (by omega) (by omega) x0.log hAB rfl e he) hS (fun w hS hB => ?_)) | (apply Yw; refine Za rfl rfl rfl (by first | exact Zw rfl | (apply Yb; first | exact Zh (by first | exact Z1) rfl (Zhr _) hS (by repeat (first | exact Has.head | apply Has.tail)) (by first | trivial) (by repeat (first | exact Seg.here (Pre.succ Pre.zero))) | exact Zi (by first | exact Ya) rfl (Zhr _) hS (by repeat (first | exact Has.head)) (by first | trivial) (by repeat (first | exact Seg.here (by repeat (first | exact Pre.zero | apply Pre.succ))))) | exact Zv rfl rfl) ?_) | apply Zr)
    first | (apply Vd; refine Z5 rfl rfl (by first | exact Zdh) hS (fun b5 w hS hB => ?_))
    repeat (first | apply Zg | (apply Zc; assumption) | (apply Zd; intro K hK) | apply Ze | (apply Yw; refine Xi rfl rfl rfl ?_) | (apply Yu; refine Zl rfl rfl rfl (by first | exact CellsOf.agg) hS (by repeat (first | exact Pos.head)) (by repeat (first | exact SetC.here (by repeat (first | exact Ovr.nil | apply Ovr.cons)))) (by kernel_rfl) rfl (fun w hS hB => ?_)) | (apply Yw; refine Za rfl rfl rfl (by first | exact Zw rfl | exact Z2 rfl | (apply Yb; first | exact Zh (by first | exact Z1) rfl (Zhr _) hS (by repeat (first | exact Has.head | apply Has.tail)) (by first | trivial) (by repeat (first | exact Seg.here (Pre.succ Pre.zero)))) | (apply Yr; first | exact Zhk rfl rfl (by omega)) | (apply Xg; first | exact Ym rfl rfl rfl | exact Y3 rfl rfl rfl) | exact Ys rfl) ?_) | apply Zt rfl rfl | apply Zk | apply Zj | apply Yc)
    refine Zm rfl (by first | exact RV.nil) rfl ?_
    refine .inl ⟨⟨_, rfl⟩, .inl ?_⟩
    rw [← hkl]
    exact hJ k B _ hJk hS.base
 ·obtain ⟨k, hk0⟩ : ∃ k : Nat, k = 0 := ⟨0, rfl⟩
  have hk : k ≤ xs.length := by omega
  have hJk : J k W := by rw [hk0]; exact h0
  have hb1 : W.heap[b1]? = some (.cells [.int .i64 x0.snap.index, .int .i64 x0.snap.term, .int .i64 x0.snap.sum, .int .i64 x0.snap.level, .bool x0.snap.final, .slice A0 x0.log.length c0, .int .i64 x0.term, .int .i64 x0.vote].toArray 26) := hbW
  have hb2 : W.heap[b2]? = some (.cells [.int .i64 (at_ + k)].toArray 3) := by rw [hk0, show at_ + ((0 : Nat) : Int) = at_ by omega]; exact hcW
  have hb3 : W.heap[b3]? = some (.cells [.int .i64 (many - k)].toArray 3) := by rw [hk0, show many - ((0 : Nat) : Int) = many by omega]; exact hdW
  have hz := hW.size
  have hAB := hAW
  clear hk0 hbW hcW hdW hAW h0 hW hxs
  have hkk := hkm k hk
  have hS := St0.three (S := fun b => b < wM.heap.size ∨ wI.heap.size ≤ b) hb1 hb2 hb3 n12 n13 n23 s1 s2 s3
  rcases Nat.lt_or_ge k xs.length with hlt | hge
  ·obtain ⟨e, he, _⟩ := Xw hlt
   obtain ⟨k0, hat, hek, hmk⟩ := hmore k e he
   repeat (first | (apply Zc; assumption) | (apply Zd; intro K hK) | apply Zea)
   apply Ze
   repeat (first | (apply Y5; first | refine Xh rfl rfl rfl (by kernel_rfl) rfl (at_yes x0.snap A0 x0.log.length c0 x0.term x0.vote (at_ + k) _ hbt.2 hbt.1 (k0 + k) (by omega) (List.getElem?_eq_some_iff.1 hek).1 x0.log hAB rfl e hek) hS (fun w hS hB => ?_)) | (apply Yw; refine Za rfl rfl rfl (by first | exact Zw rfl | (apply Yb; first | exact Zh (by first | exact Z1) rfl (Zhr _) hS (by repeat (first | exact Has.head | apply Has.tail)) (by first | trivial) (by repeat (first | exact Seg.here (Pre.succ Pre.zero))) | exact Zi (by first | exact Ya) rfl (Zhr _) hS (by repeat (first | exact Has.head)) (by first | trivial) (by repeat (first | exact Seg.here (by repeat (first | exact Pre.zero | apply Pre.succ))))) | exact Zv rfl rfl) ?_))
   first | (apply Vd; refine Z5 rfl rfl (by first | exact Zdh) hS (fun b5 w hS hB => ?_))
   repeat (first | apply Zg | (apply Zc; assumption) | (apply Zd; intro K hK) | (apply Yu; refine Zl rfl rfl rfl (by first | exact CellsOf.agg) hS (by repeat (first | exact Pos.head)) (by repeat (first | exact SetC.here (by repeat (first | exact Ovr.nil | apply Ovr.cons)))) (by kernel_rfl) rfl (fun w hS hB => ?_)) | (apply Yw; refine Za rfl rfl rfl (by first | exact Z2 rfl) ?_))
   refine Zgo 9 (by repeat (first | exact NL.body (by intro _ h; simp at h) | apply NL.then | apply NL.jump)) (by kernel_rfl) ?_
   dsimp only [List.take, List.drop]
   repeat (first | apply Zg | (apply Yw; refine Za rfl rfl rfl (by first | exact Zw rfl | (apply Yb; first | exact Zh (by first | exact Z1) rfl (Zhr _) hS (by repeat (first | exact Has.head | apply Has.tail)) (by first | trivial) (by repeat (first | exact Seg.here (Pre.succ Pre.zero))) | exact Zi (by first | exact Jt) rfl (Zhr _) hS (by repeat (first | exact Has.head)) (by first | trivial) (by repeat (first | exact Seg.here (by repeat (first | exact Pre.zero | apply Pre.succ))))) | (apply Yr; first | exact Zho rfl rfl (by omega)) | (apply Xg; first | exact Y3 rfl rfl rfl) | exact Ys rfl) ?_))
   refine QH_Y ?_
   have hk1 := hS.base
   have g1 := hS.ok _ (List.mem_cons_of_mem _ (List.mem_cons_self ..))
   have g2 := hS.ok _ (List.mem_cons_of_mem _ (List.mem_cons_of_mem _ (List.mem_cons_self ..)))
   have g3 := hS.ok _ (List.mem_cons_of_mem _ (List.mem_cons_of_mem _ (List.mem_cons_of_mem _ (List.mem_cons_self ..))))
   have hz1 := Nat.le_trans hz hk1.size
   refine wpSI_yield rfl rfl rfl rfl (hy k e _ he (hJ k W _ hJk hk1) hz1) ?_
   rintro ex w2 (⟨rfl, hJ2, hk2⟩ | ⟨rfl, hJ2, hk2⟩ | ⟨ch, rfl, hJ2⟩)
   ·refine .inl ⟨_, rfl, Zd6 (by repeat (first | exact NL.body (by intro _ h; simp at h) | apply NL.then | apply NL.jump)) (by kernel_rfl) ?_⟩
    have q1 := (hk2.block b1 (Nat.lt_of_lt_of_le hbl hz1) (.inr ⟨hbM, hbl⟩)).trans g1
    have q2 := (hk2.block b2 (Nat.lt_of_lt_of_le hcl hz1) (.inr ⟨hcM, hcl⟩)).trans g2
    have q3 := (hk2.block b3 (Nat.lt_of_lt_of_le hdl hz1) (.inr ⟨hdM, hdl⟩)).trans g3
    have hA2 : Rd w2 A0 (Yg Vv x0.log) := hk2.rd (hk1.rd hAB (fun p hp => .inl (Nat.lt_of_lt_of_le (hAn p hp) hBs))) (fun p hp => .inl (hAn p hp))
    have hS := St0.three (S := fun b => b < wM.heap.size ∨ wI.heap.size ≤ b) q1 q2 q3 n12 n13 n23 s1 s2 s3
    repeat (first | apply Zg | (apply Zc; assumption) | (apply Zd; intro K hK) | (apply Yw; refine Za rfl rfl rfl (by first | (apply Xg; first | exact Y3 rfl rfl rfl) | exact Ys rfl) ?_) | apply Yl rfl rfl | apply Zr)
    refine Yi 6 [4, 5] (fun i b => (i = 4 → b ≠ b2) ∧ (i = 5 → b ≠ b3)) ⟨by kernel_rfl, by kernel_rfl⟩ hS (fun w hS hB => Zq [Tt,Tt] (by decide +kernel) (by repeat (first | exact PF.body | apply PF.then | apply PF.jump)) ?_)
    repeat (first | refine LtK.put rfl rfl rfl (by first | (apply Yb; first | exact Zh (by first | exact Zeb | exact Z1) rfl (Zhs _) hS (by repeat (first | exact Has.head | apply Has.tail)) (by first | trivial) (by repeat (first | exact Seg.here (Pre.succ Pre.zero)))) | (apply Yr; first | exact Ze9 rfl rfl (by omega))) ?_)
    refine LtK.nil (Y7 [Ff,Ff,Tt,Tt] [4] (fun b => b ≠ b2) (by decide +kernel) (by intro j hj b hb; simp only [List.mem_cons, List.not_mem_nil, or_false] at hj; (try rcases hj with rfl | rfl) <;> simp_all) (by repeat (first | exact PF.body | apply PF.then | apply PF.jump)) ?_)
    repeat (first | refine LtK.put rfl rfl rfl (by first | (apply Yb; first | exact Zh (by first | exact Zeb | exact Z1) rfl (Zht _ _) hS (by repeat (first | exact Has.head | apply Has.tail)) (by first | trivial) (by repeat (first | exact Seg.here (Pre.succ Pre.zero)))) | (apply Yr; first | exact yv_sub rfl rfl (by omega))) ?_)
    refine LtK.nil (Yq [Ff,Ff,Ff,Ff,Tt] 4 ⟨by decide, by kernel_rfl, by kernel_rfl⟩ rfl rfl ?_)
    dsimp only [Z0]
    repeat (first | apply Zg | (apply Yu; refine Zl rfl rfl rfl (by first | exact CellsOf.int) hS (by repeat (first | exact Pos.head | apply Pos.tail)) (by repeat (first | exact SetC.here (by repeat (first | exact Ovr.nil | apply Ovr.cons)))) (by kernel_rfl) rfl (fun w hS hB => ?_)))
    refine Yk (by first | exact hB.sub (fun _ _ h => by simpa using h)) ?_
    refine Yq [Ff,Ff,Ff,Ff,Ff,Tt] 5 ⟨by decide, by kernel_rfl, by kernel_rfl⟩ rfl rfl ?_
    dsimp only [Z0]
    repeat (first | apply Zg | (apply Yu; refine Zl rfl rfl rfl (by first | exact CellsOf.int) hS (by repeat (first | exact Pos.head | apply Pos.tail)) (by repeat (first | exact SetC.here (by repeat (first | exact Ovr.nil | apply Ovr.cons)))) (by kernel_rfl) rfl (fun w hS hB => ?_)))
    refine Yk (by first | exact hB.sub (fun _ _ h => by simpa using h)) ?_
    refine Ye (by kernel_rfl) ?_
    repeat (first | (apply Zc; assumption) | apply Vr)
    have r2 := hS.ok _ (List.mem_cons_of_mem _ (List.mem_cons_self ..))
    have r3 := hS.ok _ (List.mem_cons_of_mem _ (List.mem_cons_of_mem _ (List.mem_cons_self ..)))
    have e2 : at_ + ((k + 1 : Nat) : Int) = at_ + (k : Int) + 1 := by omega
    have e3 : many - ((k + 1 : Nat) : Int) = many - (k : Int) - 1 := by omega
    refine QH_jump0 (k + 1) (by repeat (first | exact Sub.nil | refine Sub.cons rfl ?_)) ⟨hlt, ?_, ?_, ?_, ?_, ?_, ?_⟩
    ·exact hJ (k + 1) w2 _ hJ2 hS.base
    ·exact hS.base.rd hA2 (fun p hp => .inl (Nat.lt_of_lt_of_le (hAn p hp) hBs))
    ·exact hS.ok _ (List.mem_cons_self ..)
    ·rw [e2]; exact r2
    ·rw [e3]; exact r3
    ·exact Nat.le_trans (Nat.le_trans hz1 hk2.size) hS.base.size
   ·refine .inl ⟨_, rfl, Zd6 (by repeat (first | exact NL.body (by intro _ h; simp at h) | apply NL.then | apply NL.jump)) (by kernel_rfl) ?_⟩
    have hS := St0.start All w2
    repeat (first | apply Zg | (apply Zc; assumption) | (apply Yw; refine Za rfl rfl rfl (by first | (apply Xg; first | exact Y3 rfl rfl rfl) | exact Ys rfl) ?_) | apply Zt rfl rfl | apply Zk | apply Zj | apply Yc)
    refine Zm rfl (by first | exact RV.nil) rfl ?_
    exact .inl ⟨⟨_, rfl⟩, .inr hJ2⟩
   ·refine .inr ⟨ch, rfl, ?_⟩
    repeat (first | apply QH_jmp_panic | apply Xs)
    exact Ja rfl (.inr ⟨ch, rfl, hJ2⟩)
  ·have hkl : k = xs.length := by omega
   by_cases hno : at_ + k ≤ x0.snap.index ∨ x0.snap.index + x0.log.length < at_ + k
   ·repeat (first | (apply Zc; assumption) | (apply Zd; intro K hK) | apply Ze | (apply Y5; first | refine Xh rfl rfl rfl (by kernel_rfl) rfl (at_no x0.snap A0 x0.log.length c0 x0.term x0.vote (at_ + k) _ hbt.2 hbt.1 hno) hS (fun w hS hB => ?_)) | (apply Yw; refine Za rfl rfl rfl (by first | exact Zw rfl | (apply Yb; first | exact Zh (by first | exact Z1) rfl (Zhr _) hS (by repeat (first | exact Has.head | apply Has.tail)) (by first | trivial) (by repeat (first | exact Seg.here (Pre.succ Pre.zero))) | exact Zi (by first | exact Ya) rfl (Zhr _) hS (by repeat (first | exact Has.head)) (by first | trivial) (by repeat (first | exact Seg.here (by repeat (first | exact Pre.zero | apply Pre.succ))))) | exact Zv rfl rfl) ?_) | apply Zea)
    first | (apply Vd; refine Z5 rfl rfl (by first | exact Zdh) hS (fun b5 w hS hB => ?_))
    repeat (first | apply Zg | (apply Zc; assumption) | (apply Zd; intro K hK) | apply Ze | (apply Yw; refine Xi rfl rfl rfl ?_) | (apply Yu; refine Zl rfl rfl rfl (by first | exact CellsOf.agg) hS (by repeat (first | exact Pos.head)) (by repeat (first | exact SetC.here (by repeat (first | exact Ovr.nil | apply Ovr.cons)))) (by kernel_rfl) rfl (fun w hS hB => ?_)) | (apply Yw; refine Za rfl rfl rfl (by first | exact Zw rfl | exact Z2 rfl | (apply Xg; first | exact Ym rfl rfl rfl) | exact Ys rfl) ?_) | apply Zt rfl rfl | apply Zk | apply Zj | apply Yc)
    refine Zm rfl (by first | exact RV.nil) rfl ?_
    refine .inl ⟨⟨_, rfl⟩, .inl ?_⟩
    rw [← hkl]
    exact hJ k W _ hJk hS.base
   ·have hm : many - k = 0 := by rcases hdone k hk hge with h | h; exact (hno h).elim; exact h
    obtain ⟨e, he, _⟩ := Xw (show (at_ + k - x0.snap.index - 1).toNat < x0.log.length by omega)
    repeat (first | (apply Zc; assumption) | (apply Zd; intro K hK) | apply Ze | (apply Y5; first | refine Xh rfl rfl rfl (by kernel_rfl) rfl (at_yes x0.snap A0 x0.log.length c0 x0.term x0.vote (at_ + k) _ hbt.2 hbt.1 (at_ + k - x0.snap.index - 1).toNat (by omega) (by omega) x0.log hAB rfl e he) hS (fun w hS hB => ?_)) | (apply Yw; refine Za rfl rfl rfl (by first | exact Zw rfl | (apply Yb; first | exact Zh (by first | exact Z1) rfl (Zhr _) hS (by repeat (first | exact Has.head | apply Has.tail)) (by first | trivial) (by repeat (first | exact Seg.here (Pre.succ Pre.zero))) | exact Zi (by first | exact Ya) rfl (Zhr _) hS (by repeat (first | exact Has.head)) (by first | trivial) (by repeat (first | exact Seg.here (by repeat (first | exact Pre.zero | apply Pre.succ))))) | exact Zv rfl rfl) ?_) | apply Zea)
    first | (apply Vd; refine Z5 rfl rfl (by first | exact Zdh) hS (fun b5 w hS hB => ?_))
    repeat (first | apply Zg | (apply Zc; assumption) | (apply Zd; intro K hK) | apply Ze | (apply Yw; refine Xi rfl rfl rfl ?_) | (apply Yu; refine Zl rfl rfl rfl (by first | exact CellsOf.agg) hS (by repeat (first | exact Pos.head)) (by repeat (first | exact SetC.here (by repeat (first | exact Ovr.nil | apply Ovr.cons)))) (by kernel_rfl) rfl (fun w hS hB => ?_)) | (apply Yw; refine Za rfl rfl rfl (by first | exact Zw rfl | exact Z2 rfl | (apply Yb; first | exact Zh (by first | exact Z1) rfl (Zhr _) hS (by repeat (first | exact Has.head | apply Has.tail)) (by first | trivial) (by repeat (first | exact Seg.here (Pre.succ Pre.zero)))) | (apply Yr; first | exact Zhk rfl rfl (by omega)) | (apply Xg; first | exact Ym rfl rfl rfl | exact Y3 rfl rfl rfl) | exact Ys rfl) ?_) | apply Zt rfl rfl | apply Zk | apply Zj | apply Yc)
    refine Zm rfl (by first | exact RV.nil) rfl ?_
    refine .inl ⟨⟨_, rfl⟩, .inl ?_⟩
    rw [← hkl]
    exact hJ k W _ hJk hS.base
end
section
open Go Go.RowKit
set_option maxRecDepth 100000
end
section
open Go Go.RowKit
set_option maxRecDepth 100000
def Zf2 (x0 : Ms) : Option (List Int) := if x0.entries.length ≤ 1000000 ∧ -2000000000000 ≤ x0.last ∧ x0.last ≤ 2000000000000 then some ((List.range x0.entries.length).map fun i : Nat => x0.last + 1 + (i : Int)) else none
theorem it_indexes (x0 : Ms) {A0 : OA} {c0 : Nat} (n0 M : Nat) (w : World) (b : Nat) (hb : w.heap[b]? = some (.cells #[.int .u8 x0.kind, .int .i64 x0.frm, .int .i64 x0.dst, .int .i64 x0.term, .int .i64 x0.cap, .int .i64 x0.last, .int .i64 x0.lastTerm, .int .i64 x0.commit, .bool x0.okk, .slice A0 x0.entries.length c0, .int .i64 x0.snap.index, .int .i64 x0.snap.term, .int .i64 x0.snap.sum, .int .i64 x0.snap.level, .bool x0.snap.final] 32)) (hbn : b < n0) {xs : List Int} (H : Zf2 x0 = some xs) :
  IterP Tryz.prog 136 #[.pointer (some ⟨b, 0, none⟩)] (fun p : Int => [Value.int .i64 p].toArray) xs n0 M w := by
 unfold Zf2 at H
 split at H
 case isFalse => cases H
 rename_i h9
 obtain ⟨hl9, hl1, hl2⟩ := h9
 obtain hxs := QJ H
 have hget : ∀ k : Nat, k < x0.entries.length → xs[k]? = some (x0.last + 1 + (k : Int)) := fun k hk => by rw [← hxs]; simp [hk]
 have hlen : xs.length = x0.entries.length := by rw [← hxs]; simp
 have hbl : b < w.heap.size := (Array.getElem?_eq_some_iff.1 hb).1
 intro lo J Jx Jp W hW hJ hJx hJp hy h0
 have hbW : W.heap[b]? = some (.cells #[.int .u8 x0.kind, .int .i64 x0.frm, .int .i64 x0.dst, .int .i64 x0.term, .int .i64 x0.cap, .int .i64 x0.last, .int .i64 x0.lastTerm, .int .i64 x0.commit, .bool x0.okk, .slice A0 x0.entries.length c0, .int .i64 x0.snap.index, .int .i64 x0.snap.term, .int .i64 x0.snap.sum, .int .i64 x0.snap.level, .bool x0.snap.final] 32) := (hW.block b hbl).trans hb
 show Calls _ _ #[_, _] _ _
 refine Yn Tryz.func136 rfl Tryz.ntmps136 rfl ?_
 have hS := St0.start All W
 repeat (first | apply Zg | (apply Zc; assumption) | (apply Zd; intro K hK) | apply Ze | (apply Yw; refine Za rfl rfl rfl (by first | exact Zw rfl | exact Zf (by first | exact Yj | exact X8) rfl | (apply Yb; first | exact Vf (by first | exact Xx) rfl (Zhr _) hS (by first | trivial) (by first | trivial) (by assumption) (by repeat (first | exact Seg.here (Pre.succ Pre.zero) | apply Seg.succ))) | (apply Zas; first | exact Y0 (by first | exact Y8) rfl)) ?_) | apply Yd)
 refine Vq (X := Nat) (fun k => [(7, .int .i64 k), (6, .int .i64 x0.entries.length), (1, .pointer (some ⟨b, 0, none⟩)), (0, .func (.yield lo) #[] #[])])
  (fun k B => k ≤ x0.entries.length ∧ J k B ∧ B.heap[b]? = some (.cells #[.int .u8 x0.kind, .int .i64 x0.frm, .int .i64 x0.dst, .int .i64 x0.term, .int .i64 x0.cap, .int .i64 x0.last, .int .i64 x0.lastTerm, .int .i64 x0.commit, .bool x0.okk, .slice A0 x0.entries.length c0, .int .i64 x0.snap.index, .int .i64 x0.snap.term, .int .i64 x0.snap.sum, .int .i64 x0.snap.level, .bool x0.snap.final] 32) ∧ w.heap.size ≤ B.heap.size) (fun k => x0.entries.length - k) 0 (by repeat (first | exact Sub.nil | refine Sub.cons rfl ?_)) ⟨Nat.zero_le _, h0, hbW, hW.size⟩ ?_
 rintro k B ⟨hk, hJk, hbB, hz⟩
 clear hbW hS h0
 have hS := St0.start All B
 rcases Nat.lt_or_ge k x0.entries.length with hlt | hge
 ·repeat (first | (apply Zd; intro K hK))
  apply Ze
  repeat (first | apply Zg | (apply Zc; assumption) | (apply Zd; intro K hK) | (apply Yw; refine Za rfl rfl rfl (by first | (apply Yr; first | exact Zgl rfl rfl (by omega))) ?_) | apply Zt rfl rfl | apply Zr | apply Yd)
  apply Ze
  repeat (first | apply Zg | (apply Zc; assumption) | (apply Zd; intro K hK) | (apply Yw; refine Za rfl rfl rfl (by first | exact Zw rfl | exact Z2 rfl) ?_))
  refine Zgo 6 (by repeat (first | exact NL.body (by intro _ h; simp at h) | apply NL.then | apply NL.inBlock)) (by kernel_rfl) ?_
  dsimp only [List.take, List.drop]
  repeat (first | apply Zg | (apply Yw; refine Za rfl rfl rfl (by first | exact Zw rfl | exact Zf (by first | exact Yj | exact V0) rfl | (apply Yb; first | exact Vf (by first | exact Z1) rfl (Zhr _) hS (by first | trivial) (by first | trivial) (by assumption) (by repeat (first | exact Seg.here (Pre.succ Pre.zero) | apply Seg.succ))) | (apply Yr; first | exact Ze9 rfl rfl (by omega))) ?_))
  refine QH_Y ?_
  have hk1 : KeepB All B B := hS.base
  refine wpSI_yield rfl rfl rfl rfl (hy k _ B (hget k hlt) (hJ k B B hJk (hk1.sub fun _ _ _ => trivial)) hz) ?_
  rintro ex w2 (⟨rfl, hJ2, hk2⟩ | ⟨rfl, hJ2, hk2⟩ | ⟨ch, rfl, hJ2⟩)
  ·refine .inl ⟨_, rfl, Zd6 (by repeat (first | exact NL.body (by intro _ h; simp at h) | apply NL.then | apply NL.inBlock)) (by kernel_rfl) ?_⟩
   have hS := St0.start All w2
   repeat (first | apply Zg | (apply Zc; assumption) | apply Ze | (apply Yw; refine Za rfl rfl rfl (by first | exact Zw rfl | (apply Yr; first | exact Ze9 rfl rfl (by omega)) | exact Ys rfl) ?_) | apply Yl rfl rfl | apply Zr | apply Z3)
   refine X2 (k + 1) (by repeat (first | exact Sub.nil | refine Sub.cons rfl ?_)) ⟨hlt, hJ2, ?_, ?_⟩ (by show x0.entries.length - (k + 1) < x0.entries.length - k; omega)
   ·exact (hk2.block b (Nat.lt_of_lt_of_le hbl hz) (.inl hbn)).trans hbB
   ·exact Nat.le_trans hz hk2.size
  ·refine .inl ⟨_, rfl, Zd6 (by repeat (first | exact NL.body (by intro _ h; simp at h) | apply NL.then | apply NL.inBlock)) (by kernel_rfl) ?_⟩
   have hS := St0.start All w2
   repeat (first | apply Zg | (apply Zc; assumption) | (apply Yw; refine Za rfl rfl rfl (by first | exact Ys rfl) ?_) | apply Zt rfl rfl | apply Zk | apply Zj | apply Zx)
   refine Zm rfl (by first | exact RV.nil) rfl ?_
   exact .inl ⟨⟨_, rfl⟩, .inr hJ2⟩
  ·refine .inr ⟨ch, rfl, ?_⟩
   repeat (first | apply Xs | apply Zcu)
   exact Ja rfl (.inr ⟨ch, rfl, hJ2⟩)
 ·have hkl : k = xs.length := by omega
  repeat (first | apply Zg | (apply Zc; assumption) | (apply Zd; intro K hK) | apply Ze | (apply Yw; refine Za rfl rfl rfl (by first | (apply Yr; first | exact Zdj rfl rfl (by omega))) ?_) | apply Yl rfl rfl | apply X1 | apply Z8 | apply Yz)
  refine Zdb rfl (by first | exact RV.nil) rfl ?_
  refine .inl ⟨⟨_, rfl⟩, .inl ?_⟩
  rw [← hkl]
  exact hJ _ _ _ hJk (hS.base.sub fun _ _ _ => trivial)
theorem c_appendSeq (gf : Nat) (lb : Array Value) (xs : List Int) (w0 : World) (eg : Zfs Tryz.prog gf = true) (hit : ∀ w, Below w0.heap.size w0 w → IterP Tryz.prog gf lb (fun p : Int => [Value.int .i64 p].toArray) xs w0.heap.size w.heap.size w) (hf : xs.length ≤ 1000000000) :
  Calls Tryz.prog 135 #[.slice none 0 0, .func (.func gf) #[] lb] w0 fun e w' => ∃ (A : OA) (c : Nat), e = .returned (.slice A xs.length c) ∧ (xs.length ≤ c ∧ c ≤ maxLen) ∧ St0 All w0 w' [.row (.slice A xs.length c) 3 1 xs.length (Yg Vh xs)] := by
 have em : Elem Tryz.prog 28 3 (.int .i64 0) 1 8 := ⟨by kernel_rfl, by kernel_rfl, rfl, by omega⟩
 refine Yn Tryz.func135 rfl Tryz.ntmps135 rfl ?_
 have hS := St0.start All w0
 refine Zd (fun K hK1 => Ze (Z4 rfl rfl rfl CellsOf.slice hS (fun b2 w hS hB => Zb 1 rfl (Zg (Zc hK1 (Zd (fun K hK2 => Zd (fun K hK3 => ?_))))))))
 refine Ze (Zb 1 rfl (Zg (Zc hK3 (Yd ?_))))
 have hM := hS
 replace hS := hS.nilRow 3 1
 have hBw := hM.pure
 refine wpC_range (w0 := w0) (M := w.heap.size) (X := List Int × OA × Nat) rfl eg (hit w hBw) ⟨hM.size, Nat.le_refl _⟩ (fun _ => rfl) (by kernel_rfl) (fun k x => .row (.slice x.2.1 x.1.length x.2.2) 3 1 x.1.length (Yg Vh x.1) :: .box b2 [.slice x.2.1 x.1.length x.2.2] 28 :: []) (fun k x => (x.1.length ≤ x.2.2 ∧ x.2.2 ≤ maxLen) ∧ x.1 = xs.take k) (fun _ _ => []) (fun _ _ => False) (fun _ => False) ([], none, 0) ⟨hS, fun e he k hk => .inl ?_⟩ ⟨⟨Nat.le_refl _, Nat.zero_le _⟩, by simp⟩ ?_ ?_ (fun _ _ _ h _ => h.elim) (fun _ _ h _ => h.elim)
 ·rcases List.mem_cons.1 he with rfl | he
  ·cases hk
  ·exact (hM.rng e he k hk).1
 ·rintro lo k e16 ⟨v17, A18, c19⟩ A hke ⟨k20, hv⟩ hzB hRB hS
  dsimp only at hRB k20 hv ⊢
  dsimp only [List.zip, List.zipWith, List.foldl]
  have hkl := (List.getElem?_eq_some_iff.1 hke).1
  have hvl : v17.length = k := by rw [hv, List.length_take]; omega
  have hf31 : Zeh (v17 ++ ([e16] : List Int)) = some (v17 ++ [e16]) := if_pos (by rw [List.length_append]; simp only [List.length_cons, List.length_nil]; omega)
  have hnx : v17 ++ [e16] = xs.take (k + 1) := by rw [hv, List.take_add_one, hke]; rfl
  refine Zb5 (by repeat (first | exact NL.false | apply NL.then)) (by kernel_rfl) (Zb 1 rfl (Zg (QH_asg hS ?_)))
  rintro A2 hS hBase hE
  dsimp only [List.cons_append, List.nil_append] at hS
  refine Yd (Zb5 (by repeat (first | exact NL.round | apply NL.inBlock)) (by kernel_rfl) (Za rfl rfl rfl (Zh X3 rfl (Zhr _) hS (Has.tail Has.head) trivial (.here (.succ .zero))) (Zb 1 rfl (Xb (ps := [(0, .tmp 9)]) [.int .i64 e16] Xv zc_3 rfl rfl rfl rfl rfl (by kernel_rfl) hS (fun b28 w hS hB => Jf (ys := ([e16] : List Int)) Yh oc_enI em (by decide) rfl rfl rfl rfl hS (fun _ => .tail .head) (hS.box_rd Has.head) hf31 (fun A32 c33 w k34 hS => Zl rfl rfl rfl CellsOf.slice hS (.tail (.tail .head)) (.here (.cons .nil)) (by kernel_rfl) rfl (fun w hS hB => Zg ?_)))))))
  refine Z3 ?_
  exact QH_round hBase hE hS (v17 ++ [e16], A32, c33) (List.Sublist.cons _ (List.Sublist.cons_cons _ (List.Sublist.cons_cons _ List.Sublist.slnil))) ⟨k34, hnx⟩
 ·rintro ⟨v17, A18, c19⟩ A ⟨k20, hv⟩ hS
  dsimp only at hS k20 hv ⊢
  rw [List.take_length] at hv
  subst hv
  refine Z3 (Zc hK2 (Zd (fun K hK36 => Ze (Za rfl rfl rfl (Zh X3 rfl (Zhr _) hS (Has.tail (Has.tail Has.head)) trivial (.here (.succ .zero))) (Zb 1 rfl (Zg (Zc hK36 ?_)))))))
  refine Zk (QH_shut (.inl rfl) hS .head (fun w hS => Zm rfl (RV.tmp rfl RV.nil) rfl ?_))
  exact ⟨A18, c19, rfl, k20, hS.sub (List.Sublist.cons _ (List.Sublist.cons_cons _ (List.Sublist.cons _ List.Sublist.slnil)))⟩
theorem c_slices_Collect (gf : Nat) (lb : Array Value) (xs : List Int) (w0 : World) (eg : Zfs Tryz.prog gf = true) (hit : ∀ w, Below w0.heap.size w0 w → IterP Tryz.prog gf lb (fun p : Int => [Value.int .i64 p].toArray) xs w0.heap.size w.heap.size w) (hf : xs.length ≤ 1000000000) :
  Calls Tryz.prog 116 #[.func (.func gf) #[] lb] w0 fun e w' => ∃ (A : OA) (c : Nat), e = .returned (.slice A xs.length c) ∧ (xs.length ≤ c ∧ c ≤ maxLen) ∧ St0 All w0 w' [.row (.slice A xs.length c) 3 1 xs.length (Yg Vh xs)] := by
 refine Yp Tryz.func116 rfl Tryz.ntmps116 rfl ?_
 have hS := St0.start All w0
 refine Zd (fun K hK1 => Ze (Zb 1 rfl (Zg (Zc hK1 (Zd (fun K hK2 => Ze (Zb 1 rfl ?_)))))))
 refine Zn rfl rfl rfl rfl (by kernel_rfl) rfl (c_appendSeq gf lb xs w0 eg hit hf) ?_
 rintro e w ⟨A, c, rfl, k, hN⟩; refine ⟨_, rfl, ?_⟩; have hB := hN.pure; have hS := hN
 refine Zb 1 rfl (Zg (Zc hK2 (Zk (Zm rfl (RV.tmp rfl RV.nil) rfl ?_))))
 exact ⟨A, c, rfl, k, hS⟩
end
section
open Go Go.RowKit
set_option maxRecDepth 100000
section
variable {P : Program} {N : FS} {L : List (Nat × Value)} {w : World} {Q : Exit → Act → World → Prop}
theorem wpC_join {ro : Option Nat} {x y : Code} (LJ : List (Nat × Value)) (kx : ∀ K : Act → World → Prop, (∀ a, Fr N LJ a → K a w) → wpC P ro x (Exit.then K Q) N L w) (k : wpC P ro y Q N LJ w) : wpC P ro (.seq x y) Q N L w := .mk fun a hF => wpo_seq ((kx _ (fun a h => k.go a h)).go a hF)
theorem QH_join {K : Act → World → Prop} {Q' : Exit → Act → World → Prop} {LJ : List (Nat × Value)} (hK : ∀ a, Fr N LJ a → K a w) (hs : Sub LJ L) : QH (Exit.then K Q') .normal N L w := .mk fun a hF => hK a (hF.sub hs)
end
end
section
open Go Go.RowKit
set_option maxRecDepth 100000
def Zdp (x0 : Tu) : Option (Bool) :=
  some (decide (250 < (x0.log.length : Int)))
def Zbp (x0 : Co) : Option (Bool) := (Zdp x0.tuple).bind fun r5 =>
  cond r5 (some true) (cond (decide (9 < (x0.votes.length : Int))) (some true) (cond (decide (9 < (x0.next.length : Int))) (some true) (cond (decide (9 < (x0.mtch.length : Int))) (some true) (cond (decide (9 < (x0.caps.length : Int))) (some true) (cond (decide (1099511627776 < x0.tuple.snap.index)) (some true) (some (decide (x0.tuple.snap.index < (-1099511627776)))))))))
def Zaz : Option (St) :=
  some (⟨0, 0, 0, 1, false⟩ : St)
def Zg1 : Option (Tu) := (Zaz).bind fun r5 =>
  some (⟨r5, [], 0, 0⟩ : Tu)
def Xt (x0 : Tu) : Option (Tu) := (Zeh ([] ++ x0.log)).bind fun l9 =>
  some {x0 with log := l9}
def Jn (x0 : Tu) : Option (Int) :=
  some (IntKind.wrap .i64 (x0.snap.index + (x0.log.length : Int)))
def Zet (x0 : Int) (x1 : Int) (x2 : Int) (x3 : Tu) (r21 : Tu) : Nat → Int → List Bool → List Int → List Int → List Int → Option (Co)
 | 0, _, _, _, _, _ => none
 | n + 1, v32, v33, v38, v43, v48 =>
  cond (decide (v32 ≤ x1)) ((Zeh (v33 ++ ([false] : List Bool))).bind fun l60 =>
  (Jn x3).bind fun r66 =>
  (Zeh (v38 ++ ([(IntKind.wrap .i64 (r66 + 1))] : List Int))).bind fun l70 =>
  (Zeh (v43 ++ ([0] : List Int))).bind fun l78 =>
  (Zeh (v48 ++ ([0] : List Int))).bind fun l85 =>
  Zet x0 x1 x2 x3 r21 n (IntKind.wrap .i64 (v32 + 1)) l60 l70 l78 l85) ((idx v48 (IntKind.wrap .i64 (x0 - 1))).bind fun e92 =>
  some (⟨x0, x1, 0, x2, r21, x3.snap.index, x3.snap, v33, v38, v43, (Zbe v48 (IntKind.wrap .i64 (x0 - 1)) x2)⟩ : Co))
def Zgx (x0 : Int) (x1 : Int) (x2 : Int) (x3 : Tu) : Option (Co) :=
  cond (decide (x1 < 0)) (some (⟨0, 0, 0, 0, (⟨(⟨0, 0, 0, 0, false⟩ : St), [], 0, 0⟩ : Tu), 0, (⟨0, 0, 0, 0, false⟩ : St), [], [], [], []⟩ : Co)) (cond (decide (5 < x1)) (some (⟨0, 0, 0, 0, (⟨(⟨0, 0, 0, 0, false⟩ : St), [], 0, 0⟩ : Tu), 0, (⟨0, 0, 0, 0, false⟩ : St), [], [], [], []⟩ : Co)) (cond (decide (x0 < 1)) (some (⟨0, 0, 0, 0, (⟨(⟨0, 0, 0, 0, false⟩ : St), [], 0, 0⟩ : Tu), 0, (⟨0, 0, 0, 0, false⟩ : St), [], [], [], []⟩ : Co)) (cond (decide (x1 < x0)) (some (⟨0, 0, 0, 0, (⟨(⟨0, 0, 0, 0, false⟩ : St), [], 0, 0⟩ : Tu), 0, (⟨0, 0, 0, 0, false⟩ : St), [], [], [], []⟩ : Co)) ((Xt x3).bind fun r21 =>
  Zet x0 x1 x2 x3 r21 Xr 1 [] [] [] []))))
def Vg (x0 : List En) : Option (List En) := Zeh x0
def Zgt (x0 : Tu) : Option (Tu) := (Vg x0.log).bind fun r7 =>
  some {x0 with log := r7}
def Jj (x0 : List Bool) : Option (List Bool) := Zeh x0
def Vn (x0 : List Int) : Option (List Int) := Zeh x0
def Zbz (x0 : Co) : Option (Co) := (Zgt x0.tuple).bind fun r7 =>
  (Jj x0.votes).bind fun r14 =>
  (Vn x0.next).bind fun r20 =>
  (Vn x0.mtch).bind fun r26 =>
  (Vn x0.caps).bind fun r32 =>
  some {x0 with tuple := r7, votes := r14, next := r20, mtch := r26, caps := r32}
def Zaw (x0 : Tu) : Option (Int) :=
  some (IntKind.wrap .i64 (x0.snap.index + (x0.log.length : Int)))
def Vz (x0 : Int) (x1 : Int) (x2 : Int) : Option (Bool) :=
  cond (decide (x1 ≤ x0)) (some (decide (x0 ≤ x2))) (some false)
def Zfh : Option (St) :=
  some (⟨0, 0, 0, 1, false⟩ : St)
def Vk (x0 : Int) : Option (Bool) :=
  cond (decide (0 ≤ x0)) (some (decide (x0 ≤ 1073741824))) (some false)
def J8 (x0 : St) : Option (Bool) :=
  cond (decide (x0.index = 0)) ((Zfh).bind fun r8 =>
  some (decide (x0.index = r8.index) && (decide (x0.term = r8.term) && (decide (x0.sum = r8.sum) && (decide (x0.level = r8.level) && (decide (x0.final = r8.final))))))) (cond x0.final (cond (decide (x0.level = 2)) ((Vk x0.index).bind fun r15 =>
  cond r15 (cond (decide (0 < x0.term)) ((Vk x0.term).bind fun r19 =>
  cond r19 ((Vk x0.sum).bind fun r22 =>
  some r22) (some false)) (some false)) (some false)) (some false)) (cond (decide (x0.level = 1)) ((Vk x0.index).bind fun r31 =>
  cond r31 (cond (decide (0 < x0.term)) ((Vk x0.term).bind fun r35 =>
  cond r35 ((Vk x0.sum).bind fun r38 =>
  some r38) (some false)) (some false)) (some false)) (cond (decide (x0.level = 2)) ((Vk x0.index).bind fun r45 =>
  cond r45 (cond (decide (0 < x0.term)) ((Vk x0.term).bind fun r49 =>
  cond r49 ((Vk x0.sum).bind fun r52 =>
  some r52) (some false)) (some false)) (some false)) (some false))))
def Zbm (x0 : List Int) (x2 : Int) (x3 : Int) : Nat → Int → Int → Option (Bool)
 | 0, _, _ => none
 | n + 1, v13, v14 =>
  cond (decide (v14 < (x0.length : Int))) ((idx x0 v14).bind fun e21 =>
  (Vz e21 x2 x3).bind fun r26 =>
  cond (!r26) (some (!(decide (0 ≤ v14)))) (Zbm x0 x2 x3 n v13 (IntKind.wrap .i64 (v14 + 1)))) (some (!(decide (0 ≤ (-1)))))
def Zcb (x0 : List Int) (x1 : Int) (x2 : Int) (x3 : Int) : Option (Bool) :=
  cond (decide ((x0.length : Int) = x1)) (Zbm x0 x2 x3 Xr 0 0) (some false)
def Zb3 (x0 : Co) : Option (Bool) := (Zaw x0.tuple).bind fun r5 =>
  (Vz x0.n 1 5).bind fun r18 =>
  cond r18 ((Vz x0.id 1 x0.n).bind fun r21 =>
  cond (!r21) (some false) (cond (decide (x0.role ≤ 2)) ((Vz x0.binary 1 2).bind fun r34 =>
  cond r34 ((Zdg x0.tuple).bind fun r37 =>
  cond (!r37) (some false) ((X6 x0.tuple x0.commit).bind fun r49 =>
  cond r49.2 (cond (!(decide (r49.1.index = x0.applied.index) && (decide (r49.1.term = x0.applied.term) && (decide (r49.1.sum = x0.applied.sum) && (decide (r49.1.level = x0.applied.level) && (decide (r49.1.final = x0.applied.final))))))) (some false) (cond (decide ((x0.votes.length : Int) = x0.n)) ((Zcb x0.next x0.n 1 (IntKind.wrap .i64 (r5 + 1))).bind fun r66 =>
  cond r66 ((Zcb x0.mtch x0.n 0 r5).bind fun r69 =>
  cond (!r69) (some false) ((Zcb x0.caps x0.n 0 2).bind fun r81 =>
  cond r81 ((idx x0.caps (IntKind.wrap .i64 (x0.id - 1))).bind fun e84 =>
  cond (!(decide (e84 = x0.binary))) (some false) (cond (decide (x0.role = 0)) (some true) (cond (decide (0 < x0.tuple.term)) (cond (!(decide (x0.tuple.vote = x0.id))) (some false) (some true)) (some false)))) (some false))) (some false)) (some false))) (some false))) (some false)) (some false))) (some false)
def m_tuple_At (x0 : Tu) (x1 : Int) : Option (En × Bool) :=
  cond (decide (x1 ≤ x0.snap.index)) (some ((⟨0, 0, 0⟩ : En), false)) ((Zaw x0).bind fun r11 =>
  cond (decide (r11 < x1)) (some ((⟨0, 0, 0⟩ : En), false)) ((idx x0.log (IntKind.wrap .i64 ((IntKind.wrap .i64 (x1 - x0.snap.index)) - 1))).bind fun e17 =>
  some (e17, true)))
def Za2 (x0 : Tu) (x1 : Int) : Option (Int × Bool) :=
  cond (decide (x1 = x0.snap.index)) (some (x0.snap.term, true)) ((m_tuple_At x0 x1).bind fun r10 =>
  some (r10.1.term, r10.2))
def J2 (x0 : Ms) : Nat → Bool → Int → Int → Option (Bool)
 | 0, _, _, _ => none
 | n + 1, v7, v8, v9 =>
  cond (decide (v9 < (x0.entries.length : Int))) ((idx x0.entries v9).bind fun e15 =>
  (Zg3 e15).bind fun r22 =>
  cond (!r22) (some false) ((Vz e15.term v8 x0.term).bind fun r27 =>
  cond (!r27) (some false) (J2 x0 n v7 e15.term (IntKind.wrap .i64 (v9 + 1))))) (some (decide ((x0.entries.length : Int) ≤ 4)))
def Zdm (x0 : Ms) : Option (Bool) :=
  J2 x0 Xr false x0.lastTerm 0
def Zez (x0 : Ms) (x1 : Int) : Option (Bool) := (Vz x1 1 5).bind fun r6 =>
  cond (!r6) (some false) ((Zcb ([x0.frm, x0.dst] : List Int) 2 1 x1).bind fun r14 =>
  cond (!r14) (some false) (cond (decide (x0.frm = x0.dst)) (some false) ((Vz (IntKind.wrap .i64 x0.kind) 1 5).bind fun r26 =>
  cond (!r26) (some false) ((Vz x0.term 1 1073741824).bind fun r32 =>
  cond (!r32) (some false) ((Vz x0.cap 1 2).bind fun r38 =>
  cond (!r38) (some false) ((Zcb ([x0.last, x0.lastTerm, x0.commit] : List Int) 3 0 1073741824).bind fun r48 =>
  cond (!r48) (some false) ((Zdm x0).bind fun r54 =>
  cond (!r54) (some false) (cond (decide (x0.kind ≠ 3)) (cond (decide (0 < (x0.entries.length : Int))) (some false) (cond (decide (0 < x0.commit)) (some false) (cond x0.okk (cond (decide (x0.kind ≠ 2)) (cond (decide (x0.kind ≠ 4)) (some false) (cond (decide (x0.kind = 5)) (cond (decide (0 < x0.snap.index)) ((J8 x0.snap).bind fun r84 =>
  some r84) (some false)) (some (decide (x0.snap.index = 0) && (decide (x0.snap.term = 0) && (decide (x0.snap.sum = 0) && (decide (x0.snap.level = 0) && (decide (x0.snap.final = false))))))))) (cond (decide (x0.kind = 5)) (cond (decide (0 < x0.snap.index)) ((J8 x0.snap).bind fun r96 =>
  some r96) (some false)) (some (decide (x0.snap.index = 0) && (decide (x0.snap.term = 0) && (decide (x0.snap.sum = 0) && (decide (x0.snap.level = 0) && (decide (x0.snap.final = false))))))))) (cond (decide (x0.kind = 5)) (cond (decide (0 < x0.snap.index)) ((J8 x0.snap).bind fun r108 =>
  some r108) (some false)) (some (decide (x0.snap.index = 0) && (decide (x0.snap.term = 0) && (decide (x0.snap.sum = 0) && (decide (x0.snap.level = 0) && (decide (x0.snap.final = false))))))))))) (cond x0.okk (cond (decide (x0.kind ≠ 2)) (cond (decide (x0.kind ≠ 4)) (some false) (cond (decide (x0.kind = 5)) (cond (decide (0 < x0.snap.index)) ((J8 x0.snap).bind fun r128 =>
  some r128) (some false)) (some (decide (x0.snap.index = 0) && (decide (x0.snap.term = 0) && (decide (x0.snap.sum = 0) && (decide (x0.snap.level = 0) && (decide (x0.snap.final = false))))))))) (cond (decide (x0.kind = 5)) (cond (decide (0 < x0.snap.index)) ((J8 x0.snap).bind fun r140 =>
  some r140) (some false)) (some (decide (x0.snap.index = 0) && (decide (x0.snap.term = 0) && (decide (x0.snap.sum = 0) && (decide (x0.snap.level = 0) && (decide (x0.snap.final = false))))))))) (cond (decide (x0.kind = 5)) (cond (decide (0 < x0.snap.index)) ((J8 x0.snap).bind fun r152 =>
  some r152) (some false)) (some (decide (x0.snap.index = 0) && (decide (x0.snap.term = 0) && (decide (x0.snap.sum = 0) && (decide (x0.snap.level = 0) && (decide (x0.snap.final = false)))))))))))))))))
def Zej (x0 : Co) (x1 : Ms) : Option (Bool) :=
  cond (decide (x1.dst = x0.id)) ((Zez x1 x0.n).bind fun r8 =>
  cond r8 ((Zb3 x0).bind fun r11 =>
  some r11) (some false)) (some false)
def Zct (x0 : Co) (x1 : Ms) : Option (Bool) :=
  cond (decide (x1.dst ≠ x0.id)) (some false) ((Zb3 x0).bind fun r12 =>
  cond (!r12) (some false) ((Zez x1 x0.n).bind fun r19 =>
  some r19))
def Zde (x0 : Co) (x1 : Ms) : Option (Co) := (Zct x0 x1).bind fun r9 =>
  (Zbz x0).bind fun r19 =>
  cond r9 ((Zb3 r19).bind fun r44 =>
  cond r44 ((idx r19.caps (IntKind.wrap .i64 (x1.frm - 1))).bind fun e47 =>
  some {r19 with caps := (Zbe r19.caps (IntKind.wrap .i64 (x1.frm - 1)) x1.cap)}) (some r19)) (some r19)
def Zc4 (x0 : Co) (x1 : Ms) : Option (Co) := (Zbz x0).bind fun r9 =>
  (Zej r9 x1).bind fun r33 =>
  cond (!r33) (some r9) ((Zde r9 x1).bind fun r41 =>
  cond (decide (r41.tuple.term < x1.term)) ((Zb9 r41.tuple x1.term 0).bind fun r71 =>
  (makeI false r41.n).bind fun l78 =>
  some {r41 with role := 0, tuple := r71.1, votes := l78}) (some r41))
def V3 (x0 : Co) (x1 : Ms) (x2 : Int) (x3 : Bool) (x4 : Int) : Option (Ms) :=
  some (⟨x2, x0.id, x1.frm, x0.tuple.term, x0.binary, x4, 0, 0, x3, [], (⟨0, 0, 0, 0, false⟩ : St)⟩ : Ms)
def Zab (x0 : Co) : Option (Co) := (Xt x0.tuple).bind fun r7 =>
  (Zeh ([] ++ x0.votes)).bind fun l16 =>
  (Zeh ([] ++ x0.next)).bind fun l24 =>
  (Zeh ([] ++ x0.mtch)).bind fun l32 =>
  (Zeh ([] ++ x0.caps)).bind fun l40 =>
  some {x0 with tuple := r7, votes := l16, next := l24, mtch := l32, caps := l40}
def Jq (x0 : Int) : Option (Bool) :=
  cond (decide (0 ≤ x0)) (some (decide (x0 ≤ 1073741824))) (some false)
def Jb (x0 : St) : Option (Bool) := (Jq x0.index).bind fun r6 =>
  cond (!r6) (some false) ((Jq x0.term).bind fun r11 =>
  cond (!r11) (some false) ((Jq x0.sum).bind fun r16 =>
  cond (!r16) (some false) (cond (decide ((decide (x0.term = 0)) ≠ (decide (x0.index = 0)))) (some false) (cond (decide (x0.level ≠ 1)) (cond (decide (x0.level ≠ 2)) (some false) (cond x0.final (cond (decide (0 < x0.index)) (some true) ((Zaz).bind fun r32 =>
  some (decide (x0.index = r32.index) && (decide (x0.term = r32.term) && (decide (x0.sum = r32.sum) && (decide (x0.level = r32.level) && (decide (x0.final = r32.final)))))))) (cond (decide (0 < x0.index)) (some true) ((Zaz).bind fun r38 =>
  some (decide (x0.index = r38.index) && (decide (x0.term = r38.term) && (decide (x0.sum = r38.sum) && (decide (x0.level = r38.level) && (decide (x0.final = r38.final)))))))))) (cond x0.final (cond (decide (x0.level ≠ 2)) (some false) (cond (decide (0 < x0.index)) (some true) ((Zaz).bind fun r48 =>
  some (decide (x0.index = r48.index) && (decide (x0.term = r48.term) && (decide (x0.sum = r48.sum) && (decide (x0.level = r48.level) && (decide (x0.final = r48.final))))))))) (cond (decide (0 < x0.index)) (some true) ((Zaz).bind fun r54 =>
  some (decide (x0.index = r54.index) && (decide (x0.term = r54.term) && (decide (x0.sum = r54.sum) && (decide (x0.level = r54.level) && (decide (x0.final = r54.final)))))))))))))
def Zbl (x0 : En) : Option (Bool) :=
  cond (decide (1 ≤ x0.term)) ((Jq x0.term).bind fun r6 =>
  cond r6 (cond (decide (0 ≤ x0.kind)) (cond (decide (x0.kind < 5)) ((Jq x0.value).bind fun r11 =>
  cond r11 (cond (decide (x0.kind = 1)) (some true) (some (decide (x0.value = 0)))) (some false)) (some false)) (some false)) (some false)) (some false)
def J1 (x0 : Tu) : Nat → Bool → Int → Int → Option (Bool)
 | 0, _, _, _ => none
 | n + 1, v26, v27, v28 =>
  cond (decide (v28 < (x0.log.length : Int))) ((idx x0.log v28).bind fun e35 =>
  (Zbl e35).bind fun r38 =>
  cond (!r38) (some false) ((idx x0.log v28).bind fun e43 =>
  cond (decide (e43.term < v27)) (some false) ((idx x0.log v28).bind fun e49 =>
  J1 x0 n v26 e49.term (IntKind.wrap .i64 (v28 + 1))))) (cond (decide (v27 ≤ x0.term)) (cond (decide (0 ≤ x0.term)) (some (decide (x0.term ≤ 1073741824))) (some false)) (some false))
def Ve (x0 : Tu) : Option (Bool) := (Jb x0.snap).bind fun r6 =>
  cond (!r6) (some false) (cond (decide (1073740824 < x0.snap.index)) (some false) (cond (decide (200 < (x0.log.length : Int))) (some false) (cond (decide (x0.vote < 0)) (some false) (cond (decide (5 < x0.vote)) (some false) (J1 x0 Xr false x0.snap.term 0)))))
def Zc3 (x0 : St) (x1 : En) : Option (St) := (Zbl x1).bind fun r10 =>
  cond (!r10) (some x0) ((Jb x0).bind fun r15 =>
  cond (!r15) (some x0) (cond (decide (1073741824 ≤ x0.index)) (some x0) (cond (decide (x1.kind = 1)) (some (⟨(IntKind.wrap .i64 (x0.index + 1)), x1.term, (Int.tmod (IntKind.wrap .i64 ((IntKind.wrap .i64 ((IntKind.wrap .i64 (31 * x0.sum)) + x1.value)) + 1)) 1073741824), x0.level, x0.final⟩ : St)) (cond (decide (x1.kind = 2)) (some (⟨(IntKind.wrap .i64 (x0.index + 1)), x1.term, x0.sum, 2, x0.final⟩ : St)) (cond (decide (x1.kind = 3)) (cond (!x0.final) (some (⟨(IntKind.wrap .i64 (x0.index + 1)), x1.term, x0.sum, 1, x0.final⟩ : St)) (some (⟨(IntKind.wrap .i64 (x0.index + 1)), x1.term, x0.sum, x0.level, x0.final⟩ : St))) (cond (decide (x1.kind = 4)) (some (⟨(IntKind.wrap .i64 (x0.index + 1)), x1.term, x0.sum, x0.level, (decide (x0.level = 2))⟩ : St)) (some (⟨(IntKind.wrap .i64 (x0.index + 1)), x1.term, x0.sum, x0.level, x0.final⟩ : St))))))))
def Za6 (x1 : List En) : Nat → Int → Int → Int → Int → Int → Bool → Option (St)
 | 0, _, _, _, _, _, _ => none
 | n + 1, v8, v9, v10, v11, v12, v13 =>
  cond (decide (v8 < (x1.length : Int))) ((idx x1 v8).bind fun e18 =>
  (Zc3 (⟨v9, v10, v11, v12, v13⟩ : St) e18).bind fun r21 =>
  Za6 x1 n (IntKind.wrap .i64 (v8 + 1)) r21.index r21.term r21.sum r21.level r21.final) (some (⟨v9, v10, v11, v12, v13⟩ : St))
def Zgu (x0 : St) (x1 : List En) : Option (St) :=
  Za6 x1 Xr 0 x0.index x0.term x0.sum x0.level x0.final
def V8 (x0 : Tu) (x1 : Int) : Option (St × Bool) :=
  cond (decide (x1 < x0.snap.index)) (some ((⟨0, 0, 0, 0, false⟩ : St), false)) ((Jn x0).bind fun r11 =>
  cond (decide (r11 < x1)) (some ((⟨0, 0, 0, 0, false⟩ : St), false)) ((takeI x0.log (IntKind.wrap .i64 (x1 - x0.snap.index))).bind fun l17 =>
  (Zgu x0.snap l17).bind fun r19 =>
  some (r19, true)))
def Jz (x0 : Co) (r58 : Int) : Nat → Bool → Int → Option (Bool)
 | 0, _, _ => none
 | n + 1, v62, v63 =>
  cond (decide (v63 < x0.n)) ((idx x0.next v63).bind fun e69 =>
  cond (decide (e69 < 1)) (some false) ((idx x0.next v63).bind fun e75 =>
  cond (decide ((IntKind.wrap .i64 (r58 + 1)) < e75)) (some false) ((idx x0.mtch v63).bind fun e81 =>
  cond (decide (e81 < 0)) (some false) ((idx x0.mtch v63).bind fun e87 =>
  cond (decide (r58 < e87)) (some false) ((idx x0.caps v63).bind fun e93 =>
  cond (decide (e93 < 0)) (some false) ((idx x0.caps v63).bind fun e99 =>
  cond (decide (2 < e99)) (some false) (Jz x0 r58 n v62 (IntKind.wrap .i64 (v63 + 1))))))))) (cond (decide (x0.role ≠ 0)) (cond (decide (x0.tuple.term < 1)) (some false) (cond (decide (x0.tuple.vote ≠ x0.id)) (some false) ((idx x0.caps (IntKind.wrap .i64 (x0.id - 1))).bind fun e116 =>
  some (decide (e116 = x0.binary))))) ((idx x0.caps (IntKind.wrap .i64 (x0.id - 1))).bind fun e121 =>
  some (decide (e121 = x0.binary))))
def Zbn (x0 : Co) : Option (Bool) :=
  cond (decide (x0.n < 1)) (some false) (cond (decide (5 < x0.n)) (some false) (cond (decide (x0.id < 1)) (some false) (cond (decide (x0.n < x0.id)) (some false) (cond (decide (2 < x0.role)) (some false) (cond (decide (x0.binary < 1)) (some false) (cond (decide (2 < x0.binary)) (some false) ((Ve x0.tuple).bind fun r27 =>
  cond (!r27) (some false) ((V8 x0.tuple x0.commit).bind fun r33 =>
  cond (!r33.2) (some false) (cond (!(decide (r33.1.index = x0.applied.index) && (decide (r33.1.term = x0.applied.term) && (decide (r33.1.sum = x0.applied.sum) && (decide (r33.1.level = x0.applied.level) && (decide (r33.1.final = x0.applied.final))))))) (some false) (cond (decide ((x0.votes.length : Int) ≠ x0.n)) (some false) (cond (decide ((x0.next.length : Int) ≠ x0.n)) (some false) (cond (decide ((x0.mtch.length : Int) ≠ x0.n)) (some false) (cond (decide ((x0.caps.length : Int) ≠ x0.n)) (some false) ((Jn x0.tuple).bind fun r58 =>
  Jz x0 r58 Xr false 0))))))))))))))
def Zc5 (x0 : Tu) (x1 : Int) (x2 : Int) : Option (Tu × Int) := (Xt x0).bind fun r7 =>
  cond (decide (x0.term < x1)) ((Ve x0).bind fun r27 =>
  cond (!r27) ((Xt x0).bind fun r31 =>
  some (r31, 2)) ((Ve (⟨r7.snap, r7.log, x1, x2⟩ : Tu)).bind fun r38 =>
  cond (!r38) ((Xt x0).bind fun r42 =>
  some (r42, 2)) (some ((⟨r7.snap, r7.log, x1, x2⟩ : Tu), 0)))) (cond (decide (x1 = x0.term)) (cond (decide (x0.vote = 0)) ((Ve x0).bind fun r62 =>
  cond (!r62) ((Xt x0).bind fun r66 =>
  some (r66, 2)) ((Ve (⟨r7.snap, r7.log, x1, x2⟩ : Tu)).bind fun r73 =>
  cond (!r73) ((Xt x0).bind fun r77 =>
  some (r77, 2)) (some ((⟨r7.snap, r7.log, x1, x2⟩ : Tu), 0)))) (cond (!(decide (x0.vote = x2))) ((Xt x0).bind fun r97 =>
  some (r97, 2)) ((Ve x0).bind fun r104 =>
  cond (!r104) ((Xt x0).bind fun r108 =>
  some (r108, 2)) ((Ve (⟨r7.snap, r7.log, x1, x2⟩ : Tu)).bind fun r115 =>
  cond (!r115) ((Xt x0).bind fun r119 =>
  some (r119, 2)) (some ((⟨r7.snap, r7.log, x1, x2⟩ : Tu), 0)))))) ((Xt x0).bind fun r138 =>
  some (r138, 2)))
def Zcp (x0 : Tu) (x1 : Int) : Option (En × Bool) :=
  cond (decide (x1 ≤ x0.snap.index)) (some ((⟨0, 0, 0⟩ : En), false)) ((Jn x0).bind fun r11 =>
  cond (decide (r11 < x1)) (some ((⟨0, 0, 0⟩ : En), false)) ((idx x0.log (IntKind.wrap .i64 ((IntKind.wrap .i64 (x1 - x0.snap.index)) - 1))).bind fun e17 =>
  some (e17, true)))
def Zbv (x0 : Tu) (x1 : Int) : Option (Int × Bool) :=
  cond (decide (x1 = x0.snap.index)) (some (x0.snap.term, true)) ((Zcp x0 x1).bind fun r10 =>
  some (r10.1.term, r10.2))
def Za1 (x0 : Tu) (x1 : List En) : Option (Tu × Int) := (Xt x0).bind fun r7 =>
  (Zeh (r7.log ++ x1)).bind fun l16 =>
  (Ve x0).bind fun r31 =>
  cond (!r31) ((Xt x0).bind fun r35 =>
  some (r35, 2)) ((Ve {r7 with log := l16}).bind fun r42 =>
  cond (!r42) ((Xt x0).bind fun r46 =>
  some (r46, 2)) (some ({r7 with log := l16}, 0)))
def Zan (x0 : List En) (x1 : List En) : Nat → Bool → Int → Option (Bool)
 | 0, _, _ => none
 | n + 1, v9, v10 =>
  cond (decide (v10 < (x0.length : Int))) ((idx x0 v10).bind fun e16 =>
  (idx x1 v10).bind fun e19 =>
  cond (!(decide (e16.term = e19.term) && (decide (e16.kind = e19.kind) && (decide (e16.value = e19.value))))) (some false) (Zan x0 x1 n v9 (IntKind.wrap .i64 (v10 + 1)))) (some true)
def Zda (x0 : List En) (x1 : List En) : Option (Bool) :=
  cond (decide ((x0.length : Int) ≠ (x1.length : Int))) (some false) (Zan x0 x1 Xr false 0)
def Zec (x0 : Tu) (x1 : Tu) : Option (Bool) :=
  cond (decide (x0.snap.index = x1.snap.index) && (decide (x0.snap.term = x1.snap.term) && (decide (x0.snap.sum = x1.snap.sum) && (decide (x0.snap.level = x1.snap.level) && (decide (x0.snap.final = x1.snap.final)))))) (cond (decide (x0.term = x1.term)) (cond (decide (x0.vote = x1.vote)) ((Zda x0.log x1.log).bind fun r10 =>
  some r10) (some false)) (some false)) (some false)
def Zap (x0 : List Int) (x1 : List Int) : Nat → Bool → Int → Option (Bool)
 | 0, _, _ => none
 | n + 1, v9, v10 =>
  cond (decide (v10 < (x0.length : Int))) ((idx x0 v10).bind fun e16 =>
  (idx x1 v10).bind fun e19 =>
  cond (decide (e16 ≠ e19)) (some false) (Zap x0 x1 n v9 (IntKind.wrap .i64 (v10 + 1)))) (some true)
def Zce (x0 : List Int) (x1 : List Int) : Option (Bool) :=
  cond (decide ((x0.length : Int) ≠ (x1.length : Int))) (some false) (Zap x0 x1 Xr false 0)
def Zao (x0 : Co) (x1 : Co) : Nat → Bool → Int → Option (Bool)
 | 0, _, _ => none
 | n + 1, v36, v37 =>
  cond (decide (v37 < (x0.votes.length : Int))) ((idx x0.votes v37).bind fun e43 =>
  (idx x1.votes v37).bind fun e46 =>
  cond (decide (e43 ≠ e46)) (some false) (Zao x0 x1 n v36 (IntKind.wrap .i64 (v37 + 1)))) ((Zce x0.next x1.next).bind fun r54 =>
  cond r54 ((Zce x0.mtch x1.mtch).bind fun r57 =>
  cond r57 ((Zce x0.caps x1.caps).bind fun r60 =>
  some r60) (some false)) (some false))
def Zb6 (x0 : Co) (x1 : Co) : Option (Bool) :=
  cond (decide (x0.id ≠ x1.id)) (some false) (cond (decide (x0.n ≠ x1.n)) (some false) (cond (decide (x0.role ≠ x1.role)) (some false) (cond (decide (x0.binary ≠ x1.binary)) (some false) ((Zec x0.tuple x1.tuple).bind fun r20 =>
  cond (!r20) (some false) (cond (decide (x0.commit ≠ x1.commit)) (some false) (cond (!(decide (x0.applied.index = x1.applied.index) && (decide (x0.applied.term = x1.applied.term) && (decide (x0.applied.sum = x1.applied.sum) && (decide (x0.applied.level = x1.applied.level) && (decide (x0.applied.final = x1.applied.final))))))) (some false) (cond (decide ((x0.votes.length : Int) ≠ (x1.votes.length : Int))) (some false) (Zao x0 x1 Xr false 0))))))))
def Zcj (x0 : Ms) (x1 : Ms) : Option (Bool) :=
  cond (decide (x0.kind = x1.kind)) (cond (decide (x0.frm = x1.frm)) (cond (decide (x0.dst = x1.dst)) (cond (decide (x0.term = x1.term)) (cond (decide (x0.cap = x1.cap)) (cond (decide (x0.last = x1.last)) (cond (decide (x0.lastTerm = x1.lastTerm)) (cond (decide (x0.commit = x1.commit)) (cond (decide (x0.okk = x1.okk)) (cond (decide (x0.snap.index = x1.snap.index) && (decide (x0.snap.term = x1.snap.term) && (decide (x0.snap.sum = x1.snap.sum) && (decide (x0.snap.level = x1.snap.level) && (decide (x0.snap.final = x1.snap.final)))))) ((Zda x0.entries x1.entries).bind fun r17 =>
  some r17) (some false)) (some false)) (some false)) (some false)) (some false)) (some false)) (some false)) (some false)) (some false)) (some false)
def Za7 (x0 : List Ms) (x1 : List Ms) : Nat → Bool → Int → Option (Bool)
 | 0, _, _ => none
 | n + 1, v9, v10 =>
  cond (decide (v10 < (x0.length : Int))) ((idx x0 v10).bind fun e16 =>
  (idx x1 v10).bind fun e21 =>
  (Zcj e16 e21).bind fun r26 =>
  cond (!r26) (some false) (Za7 x0 x1 n v9 (IntKind.wrap .i64 (v10 + 1)))) (some true)
def Zco (x0 : List Ms) (x1 : List Ms) : Option (Bool) :=
  cond (decide ((x0.length : Int) ≠ (x1.length : Int))) (some false) (Za7 x0 x1 Xr false 0)
def Za3 (x0 : Int) : Option (Bool) :=
  cond (decide (0 ≤ x0)) (some (decide (x0 ≤ 1073741824))) (some false)
def Je (x0 : Ms) : Nat → Bool → Int → Int → Option (Bool)
 | 0, _, _, _ => none
 | n + 1, v7, v8, v9 =>
  cond (decide (v9 < (x0.entries.length : Int))) ((idx x0.entries v9).bind fun e16 =>
  (Zbl e16).bind fun r19 =>
  cond (!r19) (some false) ((idx x0.entries v9).bind fun e24 =>
  cond (decide (e24.term < v8)) (some false) ((idx x0.entries v9).bind fun e30 =>
  cond (decide (x0.term < e30.term)) (some false) ((idx x0.entries v9).bind fun e36 =>
  Je x0 n v7 e36.term (IntKind.wrap .i64 (v9 + 1)))))) (some (decide ((x0.entries.length : Int) ≤ 4)))
def Zcg (x0 : Ms) : Option (Bool) :=
  Je x0 Xr false x0.lastTerm 0
def Zc2 (x0 : Ms) (x1 : Int) : Option (Bool) :=
  cond (decide (x1 < 1)) (some false) (cond (decide (5 < x1)) (some false) (cond (decide (x0.frm < 1)) (some false) (cond (decide (x1 < x0.frm)) (some false) (cond (decide (x0.dst < 1)) (some false) (cond (decide (x1 < x0.dst)) (some false) (cond (decide (x0.frm = x0.dst)) (some false) (cond (decide (x0.kind < 1)) (some false) (cond (decide (6 ≤ x0.kind)) (some false) (cond (decide (x0.term < 1)) (some false) (cond (decide (1073741824 < x0.term)) (some false) (cond (decide (x0.cap < 1)) (some false) (cond (decide (2 < x0.cap)) (some false) ((Za3 x0.last).bind fun r47 =>
  cond (!r47) (some false) ((Za3 x0.lastTerm).bind fun r52 =>
  cond (!r52) (some false) ((Za3 x0.commit).bind fun r57 =>
  cond (!r57) (some false) ((Zcg x0).bind fun r62 =>
  cond (!r62) (some false) (cond (decide (x0.kind ≠ 3)) (cond (decide (0 < (x0.entries.length : Int))) (some false) (cond (decide (0 < x0.commit)) (some false) (cond x0.okk (cond (decide (x0.kind ≠ 2)) (cond (decide (x0.kind ≠ 4)) (some false) (cond (decide (x0.kind = 5)) ((Jb x0.snap).bind fun r85 =>
  cond r85 (some (decide (0 < x0.snap.index))) (some false)) (some (decide (x0.snap.index = 0) && (decide (x0.snap.term = 0) && (decide (x0.snap.sum = 0) && (decide (x0.snap.level = 0) && (decide (x0.snap.final = false))))))))) (cond (decide (x0.kind = 5)) ((Jb x0.snap).bind fun r96 =>
  cond r96 (some (decide (0 < x0.snap.index))) (some false)) (some (decide (x0.snap.index = 0) && (decide (x0.snap.term = 0) && (decide (x0.snap.sum = 0) && (decide (x0.snap.level = 0) && (decide (x0.snap.final = false))))))))) (cond (decide (x0.kind = 5)) ((Jb x0.snap).bind fun r107 =>
  cond r107 (some (decide (0 < x0.snap.index))) (some false)) (some (decide (x0.snap.index = 0) && (decide (x0.snap.term = 0) && (decide (x0.snap.sum = 0) && (decide (x0.snap.level = 0) && (decide (x0.snap.final = false))))))))))) (cond x0.okk (cond (decide (x0.kind ≠ 2)) (cond (decide (x0.kind ≠ 4)) (some false) (cond (decide (x0.kind = 5)) ((Jb x0.snap).bind fun r123 =>
  cond r123 (some (decide (0 < x0.snap.index))) (some false)) (some (decide (x0.snap.index = 0) && (decide (x0.snap.term = 0) && (decide (x0.snap.sum = 0) && (decide (x0.snap.level = 0) && (decide (x0.snap.final = false))))))))) (cond (decide (x0.kind = 5)) ((Jb x0.snap).bind fun r134 =>
  cond r134 (some (decide (0 < x0.snap.index))) (some false)) (some (decide (x0.snap.index = 0) && (decide (x0.snap.term = 0) && (decide (x0.snap.sum = 0) && (decide (x0.snap.level = 0) && (decide (x0.snap.final = false))))))))) (cond (decide (x0.kind = 5)) ((Jb x0.snap).bind fun r145 =>
  cond r145 (some (decide (0 < x0.snap.index))) (some false)) (some (decide (x0.snap.index = 0) && (decide (x0.snap.term = 0) && (decide (x0.snap.sum = 0) && (decide (x0.snap.level = 0) && (decide (x0.snap.final = false))))))))))))))))))))))))))
def Zen (x0 : Co) (x1 : Ms) : Option (Bool) := (Zbn x0).bind fun r7 =>
  cond r7 ((Zc2 x1 x0.n).bind fun r10 =>
  cond r10 (some (decide (x1.dst = x0.id))) (some false)) (some false)
def Zcr (x0 : Co) (x1 : Ms) : Option (Bool) := (Zbn x0).bind fun r7 =>
  cond r7 ((Zc2 x1 x0.n).bind fun r10 =>
  cond r10 (some (decide (x1.dst = x0.id))) (some false)) (some false)
def Zee (x0 : Co) (x1 : Ms) : Option (Co) := (Zab x0).bind fun r9 =>
  (Zcr r9 x1).bind fun r33 =>
  cond r33 ((idx r9.caps (IntKind.wrap .i64 (x1.frm - 1))).bind fun e36 =>
  some {r9 with caps := (Zbe r9.caps (IntKind.wrap .i64 (x1.frm - 1)) x1.cap)}) (some r9)
def Zc0 (x0 : Co) (x1 : Ms) : Option (Co) := (Zab x0).bind fun r9 =>
  (Zen r9 x1).bind fun r33 =>
  cond (!r33) (some r9) ((Zee r9 x1).bind fun r39 =>
  cond (decide (x1.term ≤ r39.tuple.term)) (some r39) ((Zc5 r39.tuple x1.term 0).bind fun r67 =>
  (makeI false r39.n).bind fun l75 =>
  some {r39 with role := 0, tuple := r67.1, votes := l75}))
def m_ref20_Back (x0 : Co) (x1 : Ms) (x2 : Int) (x3 : Bool) (x4 : Int) : Option (Ms) :=
  some (⟨x2, x0.id, x1.frm, x0.tuple.term, x0.binary, x4, 0, 0, x3, [], (⟨0, 0, 0, 0, false⟩ : St)⟩ : Ms)
def Zdn (x0 : Co) (x1 : Ms) : Option (Bool) := (Zbp x0).bind fun r7 =>
  cond r7 (some true) (some (decide (20 < (x1.entries.length : Int))))
def V5 (x0 : Co) (x1 : Int) (e32 : Int) (r37 : Int × Bool) : List (En) → List En → Option (Ms × Bool)
 | [], v50 =>
  some ((⟨3, x0.id, x1, x0.tuple.term, x0.binary, (IntKind.wrap .i64 (e32 - 1)), r37.1, x0.commit, false, v50, (⟨0, 0, 0, 0, false⟩ : St)⟩ : Ms), true)
 | e49 :: l0, v50 =>
  (Zeh (v50 ++ ([e49] : List En))).bind fun l61 =>
  V5 x0 x1 e32 r37 l0 l61
def Vb (x0 : Co) (x1 : Int) : Option (Ms × Bool) := (Zb3 x0).bind fun r8 =>
  cond (!r8) (some ((⟨0, 0, 0, 0, 0, 0, 0, 0, false, [], (⟨0, 0, 0, 0, false⟩ : St)⟩ : Ms), false)) (cond (decide (x0.role ≠ 2)) (some ((⟨0, 0, 0, 0, 0, 0, 0, 0, false, [], (⟨0, 0, 0, 0, false⟩ : St)⟩ : Ms), false)) (cond (decide (x1 < 1)) (some ((⟨0, 0, 0, 0, 0, 0, 0, 0, false, [], (⟨0, 0, 0, 0, false⟩ : St)⟩ : Ms), false)) (cond (decide (x0.n < x1)) (some ((⟨0, 0, 0, 0, 0, 0, 0, 0, false, [], (⟨0, 0, 0, 0, false⟩ : St)⟩ : Ms), false)) (cond (decide (x1 = x0.id)) (some ((⟨0, 0, 0, 0, 0, 0, 0, 0, false, [], (⟨0, 0, 0, 0, false⟩ : St)⟩ : Ms), false)) ((idx x0.next (IntKind.wrap .i64 (x1 - 1))).bind fun e25 =>
  cond (decide (e25 ≤ x0.tuple.snap.index)) (some ((⟨0, 0, 0, 0, 0, 0, 0, 0, false, [], (⟨0, 0, 0, 0, false⟩ : St)⟩ : Ms), false)) ((idx x0.next (IntKind.wrap .i64 (x1 - 1))).bind fun e32 =>
  (Za2 x0.tuple (IntKind.wrap .i64 (e32 - 1))).bind fun r37 =>
  (Zhp x0.tuple e32 4).bind fun xs55 =>
  V5 x0 x1 e32 r37 xs55 []))))))
def Jc (x0 : Co) (x1 : Ms) (xs11 : List Int) : Nat → Int → Int → Option (Int)
 | 0, _, _ => none
 | n + 1, v22, v23 =>
  cond (decide (v23 < (xs11.length : Int))) ((idx xs11 v23).bind fun e30 =>
  (Za2 x0.tuple e30).bind fun r35 =>
  cond (decide (x0.tuple.snap.index < e30)) (cond (!r35.2) (cond (decide (v23 < 0)) (some (x1.entries.length : Int)) (some v23)) ((idx x1.entries (IntKind.wrap .i64 ((IntKind.wrap .i64 (e30 - x1.last)) - 1))).bind fun e48 =>
  cond (decide (r35.1 ≠ e48.term)) (cond (decide (v23 < 0)) (some (x1.entries.length : Int)) (some v23)) (Jc x0 x1 xs11 n v22 (IntKind.wrap .i64 (v23 + 1))))) (Jc x0 x1 xs11 n v22 (IntKind.wrap .i64 (v23 + 1)))) (some (x1.entries.length : Int))
def Zc7 (x0 : Co) (x1 : Ms) : Option (Int) := (Zf2 x1).bind fun xs11 =>
  (Zeh xs11).bind fun l13 =>
  Jc x0 x1 xs11 Xr 0 0
def J3 (r7 : Co) (r30 : Int) (v36 : List Int) : Nat → Int → List Int → Option (Co)
 | 0, _, _ => none
 | n + 1, v54, v55 =>
  cond (decide (v54 < (r7.mtch.length : Int))) ((idx v55 v54).bind fun e63 =>
  (idx v55 v54).bind fun e66 =>
  J3 r7 r30 v36 n (IntKind.wrap .i64 (v54 + 1)) (Zbe v55 v54 (min e63 r30))) (some {r7 with next := v36, mtch := v55})
def J6 (r7 : Co) (r30 : Int) : Nat → Int → List Int → Option (Co)
 | 0, _, _ => none
 | n + 1, v35, v36 =>
  cond (decide (v35 < (r7.next.length : Int))) ((idx v36 v35).bind fun e44 =>
  (idx v36 v35).bind fun e47 =>
  J6 r7 r30 n (IntKind.wrap .i64 (v35 + 1)) (Zbe v36 v35 (min e44 (IntKind.wrap .i64 (r30 + 1))))) (J3 r7 r30 v36 Xr 0 r7.mtch)
def J0 (x0 : Co) : Option (Co) := (Zbz x0).bind fun r7 =>
  (Zaw r7.tuple).bind fun r30 =>
  J6 r7 r30 Xr 0 r7.next
def J4 (x0 : Co) (x1 : Ms) : Option (Co × List Ms) := (Zct x0 x1).bind fun r15 =>
  cond (!r15) ((Zbz x0).bind fun r19 =>
  some (r19, [])) (cond (decide (x1.kind ≠ 3)) ((Zbz x0).bind fun r44 =>
  some (r44, [])) ((Zc4 x0 x1).bind fun r68 =>
  (Zaw r68.tuple).bind fun r91 =>
  (Za2 r68.tuple x1.last).bind fun r95 =>
  cond (decide (x1.term < r68.tuple.term)) ((V3 r68 x1 4 false r91).bind fun r102 =>
  some (r68, ([r102] : List Ms))) (cond (decide (r68.role = 2)) (some (r68, [])) (cond (decide (r91 < x1.last)) ((V3 {r68 with role := 0} x1 4 false r91).bind fun r121 =>
  some ({r68 with role := 0}, ([r121] : List Ms))) (cond (r95.2 && (decide (r95.1 ≠ x1.lastTerm))) ((V3 {r68 with role := 0} x1 4 false (max (IntKind.wrap .i64 (x1.last - 1)) 0)).bind fun r136 =>
  some ({r68 with role := 0}, ([r136] : List Ms))) ((Zc7 {r68 with role := 0} x1).bind fun r146 =>
  cond (decide (r146 < (x1.entries.length : Int))) (cond (decide ((IntKind.wrap .i64 ((IntKind.wrap .i64 (x1.last + 1)) + r146)) ≤ r68.commit)) (some ({r68 with role := 0}, [])) (cond (decide ((IntKind.wrap .i64 ((IntKind.wrap .i64 (x1.last + 1)) + r146)) ≤ r91)) ((Zd4 r68.tuple (IntKind.wrap .i64 ((IntKind.wrap .i64 (x1.last + 1)) + r146))).bind fun r160 =>
  (dropI x1.entries r146).bind fun l167 =>
  (Zaf r160.1 l167).bind fun r169 =>
  cond (decide (r169.2 ≠ 0)) ((V3 {r68 with role := 0} x1 4 false r91).bind fun r179 =>
  some ({r68 with role := 0}, ([r179] : List Ms))) ((J0 {r68 with role := 0, tuple := r169.1}).bind fun r190 =>
  (X6 r190.tuple (max r190.commit (min x1.commit (IntKind.wrap .i64 (x1.last + (x1.entries.length : Int)))))).bind fun r215 =>
  (V3 {r190 with commit := (max r190.commit (min x1.commit (IntKind.wrap .i64 (x1.last + (x1.entries.length : Int))))), applied := r215.1} x1 4 true (IntKind.wrap .i64 (x1.last + (x1.entries.length : Int)))).bind fun r219 =>
  some ({r190 with commit := (max r190.commit (min x1.commit (IntKind.wrap .i64 (x1.last + (x1.entries.length : Int))))), applied := r215.1}, ([r219] : List Ms)))) ((dropI x1.entries r146).bind fun l229 =>
  (Zaf r68.tuple l229).bind fun r231 =>
  cond (decide (r231.2 ≠ 0)) ((V3 {r68 with role := 0} x1 4 false r91).bind fun r241 =>
  some ({r68 with role := 0}, ([r241] : List Ms))) ((J0 {r68 with role := 0, tuple := r231.1}).bind fun r252 =>
  (X6 r252.tuple (max r252.commit (min x1.commit (IntKind.wrap .i64 (x1.last + (x1.entries.length : Int)))))).bind fun r277 =>
  (V3 {r252 with commit := (max r252.commit (min x1.commit (IntKind.wrap .i64 (x1.last + (x1.entries.length : Int))))), applied := r277.1} x1 4 true (IntKind.wrap .i64 (x1.last + (x1.entries.length : Int)))).bind fun r281 =>
  some ({r252 with commit := (max r252.commit (min x1.commit (IntKind.wrap .i64 (x1.last + (x1.entries.length : Int))))), applied := r277.1}, ([r281] : List Ms)))))) ((J0 {r68 with role := 0}).bind fun r292 =>
  (X6 r292.tuple (max r292.commit (min x1.commit (IntKind.wrap .i64 (x1.last + (x1.entries.length : Int)))))).bind fun r317 =>
  (V3 {r292 with commit := (max r292.commit (min x1.commit (IntKind.wrap .i64 (x1.last + (x1.entries.length : Int))))), applied := r317.1} x1 4 true (IntKind.wrap .i64 (x1.last + (x1.entries.length : Int)))).bind fun r321 =>
  some ({r292 with commit := (max r292.commit (min x1.commit (IntKind.wrap .i64 (x1.last + (x1.entries.length : Int))))), applied := r317.1}, ([r321] : List Ms)))))))))
def Vu (x0 : Co) (x1 : Ms) : Option (Co) := (Zct x0 x1).bind fun r10 =>
  cond (!r10) ((Zbz x0).bind fun r14 =>
  some r14) (cond (decide (x1.kind ≠ 4)) ((Zbz x0).bind fun r39 =>
  some r39) ((Zc4 x0 x1).bind fun r63 =>
  cond (decide (r63.role ≠ 2)) (some r63) (cond (decide (x1.term ≠ r63.tuple.term)) (some r63) ((idx r63.next (IntKind.wrap .i64 (x1.frm - 1))).bind fun e94 =>
  (idx r63.mtch (IntKind.wrap .i64 (x1.frm - 1))).bind fun e97 =>
  cond x1.okk ((Zaw r63.tuple).bind fun r112 =>
  some {r63 with next := (Zbe r63.next (IntKind.wrap .i64 (x1.frm - 1)) (max e94 (IntKind.wrap .i64 ((max e97 (min x1.last r112)) + 1)))), mtch := (Zbe r63.mtch (IntKind.wrap .i64 (x1.frm - 1)) (max e97 (min x1.last r112)))}) (some {r63 with next := (Zbe r63.next (IntKind.wrap .i64 (x1.frm - 1)) (max (IntKind.wrap .i64 (e97 + 1)) (min (IntKind.wrap .i64 (e94 - 1)) (IntKind.wrap .i64 (x1.last + 1)))))})))))
def Zag (x0 : Co) : Nat → List Ms → Int → Option (List Ms)
 | 0, _, _ => none
 | n + 1, v6, v15 =>
  cond (decide (v15 < (min (max x0.n 0) 5))) ((Vb x0 (IntKind.wrap .i64 (v15 + 1))).bind fun r22 =>
  cond r22.2 ((Zeh (v6 ++ [r22.1])).bind fun l34 =>
  Zag x0 n l34 (IntKind.wrap .i64 (v15 + 1))) (Zag x0 n v6 (IntKind.wrap .i64 (v15 + 1)))) (some v6)
def Zfn (x0 : Co) : Option (List Ms) :=
  Zag x0 Xr [] 0
def Zdd : Option (Bool) := (Zgx 1 3 2 (⟨(⟨0, 0, 0, 1, false⟩ : St), ([(⟨1, 0, 0⟩ : En)] : List En), 1, 1⟩ : Tu)).bind fun r8 =>
  (Vb r8 2).bind fun r33 =>
  (Vb {r8 with role := 2, next := ([1, 1, 1] : List Int)} 2).bind fun r46 =>
  (Zg1).bind fun r55 =>
  (Zgx 2 3 1 r55).bind fun r61 =>
  (J4 r61 r46.1).bind fun r83 =>
  cond (decide ((r83.2.length : Int) ≠ 1)) (some false) ((idx r83.2 0).bind fun e122 =>
  (Vu {r8 with role := 2, next := ([1, 1, 1] : List Int)} e122).bind fun r127 =>
  cond (decide ((r127.mtch.length : Int) ≠ 3)) (some false) (cond (decide ((r127.next.length : Int) ≠ 3)) (some false) (cond (!r33.2) (cond r46.2 (cond (decide ((r46.1.entries.length : Int) = 1)) (cond (decide (r46.1.last = 0)) (cond (decide ((r83.1.tuple.log.length : Int) = 1)) (cond (decide (r83.1.tuple.term = 1)) ((idx r83.2 0).bind fun e167 =>
  cond e167.okk ((idx r83.2 0).bind fun e173 =>
  cond (decide (e173.last = 1)) ((idx r127.mtch 1).bind fun e179 =>
  cond (decide (e179 = 1)) ((idx r127.next 1).bind fun e183 =>
  cond (decide (e183 = 2)) ((Zfn {r8 with role := 2, next := ([1, 1, 1] : List Int)}).bind fun r187 =>
  some (decide ((r187.length : Int) = 2))) (some false)) (some false)) (some false)) (some false)) (some false)) (some false)) (some false)) (some false)) (some false)) (some false))))
def Vt (x0 : Co) (x1 : Int) (e26 : Int) (r38 : Int × Bool) : Nat → Int → List En → Option (Ms × Bool)
 | 0, _, _ => none
 | n + 1, v42, v43 =>
  cond (decide (v42 < (IntKind.wrap .i64 (e26 + 4)))) ((Zcp x0.tuple v42).bind fun r53 =>
  cond r53.2 ((Zeh (v43 ++ ([r53.1] : List En))).bind fun l61 =>
  Vt x0 x1 e26 r38 n (IntKind.wrap .i64 (v42 + 1)) l61) (Vt x0 x1 e26 r38 n (IntKind.wrap .i64 (v42 + 1)) v43)) (some ((⟨3, x0.id, x1, x0.tuple.term, x0.binary, (IntKind.wrap .i64 (e26 - 1)), r38.1, x0.commit, false, v43, (⟨0, 0, 0, 0, false⟩ : St)⟩ : Ms), true))
def Vw (x0 : Co) (x1 : Int) : Option (Ms × Bool) := (Zbn x0).bind fun r8 =>
  cond (!r8) (some ((⟨0, 0, 0, 0, 0, 0, 0, 0, false, [], (⟨0, 0, 0, 0, false⟩ : St)⟩ : Ms), false)) (cond (decide (x0.role ≠ 2)) (some ((⟨0, 0, 0, 0, 0, 0, 0, 0, false, [], (⟨0, 0, 0, 0, false⟩ : St)⟩ : Ms), false)) (cond (decide (x1 < 1)) (some ((⟨0, 0, 0, 0, 0, 0, 0, 0, false, [], (⟨0, 0, 0, 0, false⟩ : St)⟩ : Ms), false)) (cond (decide (x0.n < x1)) (some ((⟨0, 0, 0, 0, 0, 0, 0, 0, false, [], (⟨0, 0, 0, 0, false⟩ : St)⟩ : Ms), false)) (cond (decide (x1 = x0.id)) (some ((⟨0, 0, 0, 0, 0, 0, 0, 0, false, [], (⟨0, 0, 0, 0, false⟩ : St)⟩ : Ms), false)) ((idx x0.next (IntKind.wrap .i64 (x1 - 1))).bind fun e26 =>
  cond (decide (e26 ≤ x0.tuple.snap.index)) (some ((⟨0, 0, 0, 0, 0, 0, 0, 0, false, [], (⟨0, 0, 0, 0, false⟩ : St)⟩ : Ms), false)) ((Zbv x0.tuple (IntKind.wrap .i64 (e26 - 1))).bind fun r38 =>
  Vt x0 x1 e26 r38 Xr e26 []))))))
def V1 (x0 : Co) (x1 : Ms) (x2 : Bool) (x3 : Int) : Option (List Ms) := (m_ref20_Back x0 x1 4 x2 x3).bind fun r7 =>
  some ([r7] : List Ms)
def Zfm (x0 : Tu) (x1 : Int) : Option (Tu × Int) :=
  cond (decide (x1 ≤ x0.snap.index)) ((Xt x0).bind fun r20 =>
  some (r20, 2)) ((Jn x0).bind fun r27 =>
  cond (decide ((IntKind.wrap .i64 (r27 + 1)) < x1)) ((Xt x0).bind fun r41 =>
  some (r41, 2)) ((Xt x0).bind fun r49 =>
  (takeI r49.log (IntKind.wrap .i64 ((IntKind.wrap .i64 (x1 - x0.snap.index)) - 1))).bind fun l58 =>
  (Ve x0).bind fun r70 =>
  cond (!r70) ((Xt x0).bind fun r74 =>
  some (r74, 2)) ((Ve {r49 with log := l58}).bind fun r81 =>
  cond (!r81) ((Xt x0).bind fun r85 =>
  some (r85, 2)) (some ({r49 with log := l58}, 0)))))
def Zbx (r7 : Co) (r30 : Int) (v35 : List Int) : Nat → Int → List Int → Option (Co)
 | 0, _, _ => none
 | n + 1, v52, v53 =>
  cond (decide (v52 < (r7.mtch.length : Int))) ((idx v53 v52).bind fun e60 =>
  (idx v53 v52).bind fun e63 =>
  Zbx r7 r30 v35 n (IntKind.wrap .i64 (v52 + 1)) (Zbe v53 v52 (min e60 r30))) (some {r7 with next := v35, mtch := v53})
def Zb0 (r7 : Co) (r30 : Int) : Nat → Int → List Int → Option (Co)
 | 0, _, _ => none
 | n + 1, v34, v35 =>
  cond (decide (v34 < (r7.next.length : Int))) ((idx v35 v34).bind fun e42 =>
  (idx v35 v34).bind fun e45 =>
  Zb0 r7 r30 n (IntKind.wrap .i64 (v34 + 1)) (Zbe v35 v34 (min e42 (IntKind.wrap .i64 (r30 + 1))))) (Zbx r7 r30 v35 Xr 0 r7.mtch)
def Zay (x0 : Co) : Option (Co) := (Zab x0).bind fun r7 =>
  (Jn r7.tuple).bind fun r30 =>
  Zb0 r7 r30 Xr 0 r7.next
def Vm (x1 : Ms) (r63 : Co) (r86 : Int) : Nat → Int → Int → Option (Co × List Ms)
 | 0, _, _ => none
 | n + 1, v155, v156 =>
  cond (decide (v156 < (x1.entries.length : Int))) (cond (decide ((IntKind.wrap .i64 ((IntKind.wrap .i64 (x1.last + 1)) + v156)) ≤ r63.tuple.snap.index)) (Vm x1 r63 r86 n v155 (IntKind.wrap .i64 (v156 + 1))) ((Zbv r63.tuple (IntKind.wrap .i64 ((IntKind.wrap .i64 (x1.last + 1)) + v156))).bind fun r167 =>
  cond r167.2 ((idx x1.entries v156).bind fun e172 =>
  cond (decide (r167.1 = e172.term)) (Vm x1 r63 r86 n v155 (IntKind.wrap .i64 (v156 + 1))) (cond (decide ((IntKind.wrap .i64 ((IntKind.wrap .i64 (x1.last + 1)) + v156)) ≤ r63.commit)) (some ({r63 with role := 0}, [])) ((Zfm r63.tuple (IntKind.wrap .i64 ((IntKind.wrap .i64 (x1.last + 1)) + v156))).bind fun r189 =>
  (dropI x1.entries v156).bind fun l196 =>
  (Za1 r189.1 l196).bind fun r198 =>
  cond (decide (r198.2 ≠ 0)) ((V1 {r63 with role := 0} x1 false r86).bind fun r218 =>
  some ({r63 with role := 0}, r218)) ((Zay {r63 with role := 0, tuple := r198.1}).bind fun r238 =>
  (V8 r238.tuple (max r238.commit (min x1.commit (IntKind.wrap .i64 (x1.last + (x1.entries.length : Int)))))).bind fun r263 =>
  (V1 {r238 with commit := (max r238.commit (min x1.commit (IntKind.wrap .i64 (x1.last + (x1.entries.length : Int))))), applied := r263.1} x1 true (IntKind.wrap .i64 (x1.last + (x1.entries.length : Int)))).bind fun r266 =>
  some ({r238 with commit := (max r238.commit (min x1.commit (IntKind.wrap .i64 (x1.last + (x1.entries.length : Int))))), applied := r263.1}, r266))))) ((dropI x1.entries v156).bind fun l282 =>
  (Za1 r63.tuple l282).bind fun r284 =>
  cond (decide (r284.2 ≠ 0)) ((V1 {r63 with role := 0} x1 false r86).bind fun r304 =>
  some ({r63 with role := 0}, r304)) ((Zay {r63 with role := 0, tuple := r284.1}).bind fun r324 =>
  (V8 r324.tuple (max r324.commit (min x1.commit (IntKind.wrap .i64 (x1.last + (x1.entries.length : Int)))))).bind fun r349 =>
  (V1 {r324 with commit := (max r324.commit (min x1.commit (IntKind.wrap .i64 (x1.last + (x1.entries.length : Int))))), applied := r349.1} x1 true (IntKind.wrap .i64 (x1.last + (x1.entries.length : Int)))).bind fun r352 =>
  some ({r324 with commit := (max r324.commit (min x1.commit (IntKind.wrap .i64 (x1.last + (x1.entries.length : Int))))), applied := r349.1}, r352))))) ((Zay {r63 with role := 0}).bind fun r372 =>
  (V8 r372.tuple (max r372.commit (min x1.commit (IntKind.wrap .i64 (x1.last + (x1.entries.length : Int)))))).bind fun r397 =>
  (V1 {r372 with commit := (max r372.commit (min x1.commit (IntKind.wrap .i64 (x1.last + (x1.entries.length : Int))))), applied := r397.1} x1 true (IntKind.wrap .i64 (x1.last + (x1.entries.length : Int)))).bind fun r400 =>
  some ({r372 with commit := (max r372.commit (min x1.commit (IntKind.wrap .i64 (x1.last + (x1.entries.length : Int))))), applied := r397.1}, r400))
def Za4 (x0 : Co) (x1 : Ms) : Option (Co × List Ms) := (Zcr x0 x1).bind fun r10 =>
  cond (!r10) ((Zab x0).bind fun r14 =>
  some (r14, [])) (cond (decide (x1.kind ≠ 3)) ((Zab x0).bind fun r39 =>
  some (r39, [])) ((Zc0 x0 x1).bind fun r63 =>
  (Jn r63.tuple).bind fun r86 =>
  cond (decide (x1.term < r63.tuple.term)) ((V1 r63 x1 false r86).bind fun r92 =>
  some (r63, r92)) (cond (decide (r63.role = 2)) (some (r63, [])) (cond (decide (r86 < x1.last)) ((V1 {r63 with role := 0} x1 false r86).bind fun r113 =>
  some ({r63 with role := 0}, r113)) ((Zbv r63.tuple x1.last).bind fun r125 =>
  cond (r125.2 && (decide (r125.1 ≠ x1.lastTerm))) ((V1 {r63 with role := 0} x1 false (max (IntKind.wrap .i64 (x1.last - 1)) 0)).bind fun r131 =>
  some ({r63 with role := 0}, r131)) (Vm x1 r63 r86 Xr 0 0))))))
def Js (x0 : Co) : Nat → List Ms → Int → Option (List Ms)
 | 0, _, _ => none
 | n + 1, v7, v16 =>
  cond (decide (v16 ≤ x0.n)) (cond (decide (v16 ≤ 5)) ((Vw x0 v16).bind fun r23 =>
  cond r23.2 ((Zeh (v7 ++ [r23.1])).bind fun l35 =>
  Js x0 n l35 (IntKind.wrap .i64 (v16 + 1))) (Js x0 n v7 (IntKind.wrap .i64 (v16 + 1)))) (some v7)) (some v7)
def Zf1 (x0 : Co) : Option (List Ms) :=
  Js x0 Xr [] 1
def Zb8 (x0 : Co) (x1 : Ms) : Option (Co) := (Zcr x0 x1).bind fun r10 =>
  cond (!r10) ((Zab x0).bind fun r14 =>
  some r14) (cond (decide (x1.kind ≠ 4)) ((Zab x0).bind fun r39 =>
  some r39) ((Zc0 x0 x1).bind fun r63 =>
  cond (decide (r63.role ≠ 2)) (some r63) (cond (decide (x1.term ≠ r63.tuple.term)) (some r63) (cond x1.okk ((idx r63.mtch (IntKind.wrap .i64 (x1.frm - 1))).bind fun e98 =>
  (Jn r63.tuple).bind fun r101 =>
  (idx r63.mtch (IntKind.wrap .i64 (x1.frm - 1))).bind fun e103 =>
  (idx r63.next (IntKind.wrap .i64 (x1.frm - 1))).bind fun e108 =>
  (idx (Zbe r63.mtch (IntKind.wrap .i64 (x1.frm - 1)) (max e98 (min x1.last r101))) (IntKind.wrap .i64 (x1.frm - 1))).bind fun e111 =>
  (idx r63.next (IntKind.wrap .i64 (x1.frm - 1))).bind fun e114 =>
  some {r63 with next := (Zbe r63.next (IntKind.wrap .i64 (x1.frm - 1)) (max e108 (IntKind.wrap .i64 (e111 + 1)))), mtch := (Zbe r63.mtch (IntKind.wrap .i64 (x1.frm - 1)) (max e98 (min x1.last r101)))}) ((idx r63.mtch (IntKind.wrap .i64 (x1.frm - 1))).bind fun e121 =>
  (idx r63.next (IntKind.wrap .i64 (x1.frm - 1))).bind fun e124 =>
  (idx r63.next (IntKind.wrap .i64 (x1.frm - 1))).bind fun e127 =>
  some {r63 with next := (Zbe r63.next (IntKind.wrap .i64 (x1.frm - 1)) (max (IntKind.wrap .i64 (e121 + 1)) (min (IntKind.wrap .i64 (e124 - 1)) (IntKind.wrap .i64 (x1.last + 1)))))})))))
def Zcl (x0 : Co) (x1 : Ms) (x2 : Int) : Option (Bool) := (Zdn x0 x1).bind fun r8 =>
  cond r8 ((Zdd).bind fun r12 =>
  some r12) ((Vb x0 x2).bind fun r16 =>
  (Vw x0 x2).bind fun r25 =>
  (J4 x0 x1).bind fun r34 =>
  (Za4 x0 x1).bind fun r67 =>
  (Zcj r16.1 r25.1).bind fun r101 =>
  cond (!r101) (some false) (cond (decide (r16.2 ≠ r25.2)) (some false) ((Zb6 r34.1 r67.1).bind fun r109 =>
  cond (!r109) (some false) ((Zco r34.2 r67.2).bind fun r114 =>
  cond (!r114) (some false) ((Zfn x0).bind fun r119 =>
  (Zf1 x0).bind fun r129 =>
  (Zco r119 r129).bind fun r139 =>
  cond (!r139) (some false) ((Vu x0 x1).bind fun r145 =>
  (Zb8 x0 x1).bind fun r167 =>
  (Zb6 r145 r167).bind fun r189 =>
  cond r189 ((J0 x0).bind fun r192 =>
  (Zay x0).bind fun r214 =>
  (Zb6 r192 r214).bind fun r236 =>
  cond r236 ((Zdd).bind fun r239 =>
  some r239) (some false)) (some false)))))))
end

end Go.Proofs.YtamjlcaoieliaaaGreat
