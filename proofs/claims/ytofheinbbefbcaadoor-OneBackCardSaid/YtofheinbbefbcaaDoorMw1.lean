/- Texts of one claim put together: what its walks share. -/
import Derived.Test.YtofheinbbefbcaaDoorMw0
import Derived.Test.YtofheinbbefbcaaDoorRows
import Derived.Laws.OwnMore
import Derived.Recover
import Derived.WalkSmall
import Derived.Laws.Pointers
import Derived.Laws.Cover3
import Derived.Test.YtofheinbbefbcaaDoorTie
import Derived.Lib.SliceRun
import Derived.Laws.IdiomCopy
import Derived.Laws.BitsAllLaws
import Derived.MapKept
/- Laws for walks that a program of mine prints: values as the program reckons them, every test left open. -/
namespace Go.Proofs.YtofheinbbefbcaaDoor
open Go Go.RowKit
set_option maxRecDepth 100000

/-! ### What is said in plain terms -/
/-- The element at a place. -/
def idx {α : Type} (l : List α) (i : Int) : Option α := if 0 ≤ i then l[i.toNat]? else none
/-- The same list but for one place. -/
def setI {α : Type} (l : List α) (i : Int) (x : α) : List α := l.set i.toNat x
/-- l[:h], if there are as many. -/
def takeI {α : Type} (l : List α) (h : Int) : Option (List α) := if 0 ≤ h ∧ h ≤ (l.length : Int) then some (l.take h.toNat) else none
/-- l[k:], if there are as many. -/
def dropI {α : Type} (l : List α) (k : Int) : Option (List α) := if 0 ≤ k ∧ k ≤ (l.length : Int) then some (l.drop k.toNat) else none
/-- So many at most that no append can fail. -/
def fewI {α : Type} (l : List α) : Option (List α) := if l.length ≤ 1000000000 then some l else none
/-- x rem y, y not nought. -/
def remI (m n : Int) : Option Int := if n ≠ 0 then some (m.tmod n) else none
/-- How often a loop is gone through at most. -/
def fuelN : Nat := 100000000
theorem idx_some {α : Type} {l : List α} {i : Int} {x : α} (h : idx l i = some x) : ∃ k : Nat, i = (k : Int) ∧ l[k]? = some x ∧ k < l.length := by
  unfold idx at h
  split at h
  · rename_i h0
    exact ⟨i.toNat, by omega, h, (List.getElem?_eq_some_iff.1 h).1⟩
  · cases h
theorem takeI_some {α : Type} {l r : List α} {i : Int} (h : takeI l i = some r) : ∃ k : Nat, i = (k : Int) ∧ r = l.take k ∧ k ≤ l.length ∧ r.length = k := by
  unfold takeI at h
  split at h
  · rename_i h0
    injection h with h
    exact ⟨i.toNat, by omega, h.symm, by omega, by rw [← h, List.length_take]; omega⟩
  · cases h
theorem dropI_some {α : Type} {l r : List α} {i : Int} (h : dropI l i = some r) : ∃ k : Nat, i = (k : Int) ∧ r = l.drop k ∧ k ≤ l.length ∧ r.length = l.length - k := by
  unfold dropI at h
  split at h
  · rename_i h0
    injection h with h
    exact ⟨i.toNat, by omega, h.symm, by omega, by rw [← h, List.length_drop]⟩
  · cases h
theorem fewI_some {α : Type} {l r : List α} (h : fewI l = some r) : r = l ∧ l.length ≤ 1000000000 := by
  unfold fewI at h
  split at h
  · rename_i h0; injection h with h; exact ⟨h.symm, h0⟩
  · cases h
theorem remI_some {m n r : Int} (h : remI m n = some r) : n ≠ 0 ∧ r = m.tmod n := by
  unfold remI at h
  split at h
  · rename_i h0; injection h with h; exact ⟨h0, h.symm⟩
  · cases h
theorem bind_some {α β : Type} {o : Option α} {f : α → Option β} {r : β} (h : o.bind f = some r) : ∃ v, o = some v ∧ f v = some r := by
  cases o with
  | none => cases h
  | some v => exact ⟨v, rfl, h⟩
theorem cond_t {α : Type} {b : Bool} {x y : Option α} {r : α} (h : cond b x y = some r) (hb : b = true) : x = some r := by subst hb; exact h
theorem cond_f {α : Type} {b : Bool} {x y : Option α} {r : α} (h : cond b x y = some r) (hb : b = false) : y = some r := by subst hb; exact h

/-! ### Rows of elements -/
/-- The cells of a list's elements. -/
def encs {α : Type} (e : α → List Value) (l : List α) : List Value := l.flatMap e
def enE (e : En) : List Value := [.int .i64 e.term, .int .i64 e.kind, .int .i64 e.value]
def enI (n : Int) : List Value := [.int .i64 n]
def enY (b : UInt8) : List Value := [.int .u8 b.toNat]
theorem encs_length {α : Type} {e : α → List Value} {k : Nat} (he : ∀ x, (e x).length = k) (l : List α) : (encs e l).length = l.length * k := by
  induction l with
  | nil => simp [encs]
  | cons x l ih =>
    have : encs e (x :: l) = e x ++ encs e l := by simp [encs]
    rw [this, List.length_append, he, ih, List.length_cons, Nat.succ_mul, Nat.add_comm]
theorem encs_app {α : Type} (e : α → List Value) (l m : List α) : encs e (l ++ m) = encs e l ++ encs e m := by simp [encs]
theorem encs_cons {α : Type} (e : α → List Value) (x : α) (l : List α) : encs e (x :: l) = e x ++ encs e l := by simp [encs]
theorem encs_drop {α : Type} {e : α → List Value} {k : Nat} (he : ∀ x, (e x).length = k) (l : List α) (j : Nat) : encs e (l.drop j) = (encs e l).drop (j * k) := by
  induction l generalizing j with
  | nil => simp [encs]
  | cons x l ih =>
    cases j with
    | zero => simp
    | succ j =>
      rw [List.drop_succ_cons, ih, encs_cons, Nat.succ_mul, Nat.add_comm, List.drop_append, he]
      have : (e x).drop (k + j * k) = [] := List.drop_eq_nil_of_le (by rw [he]; omega)
      rw [this, List.nil_append]; congr 1; omega
theorem encs_take {α : Type} {e : α → List Value} {k : Nat} (he : ∀ x, (e x).length = k) (l : List α) (j : Nat) : encs e (l.take j) = (encs e l).take (j * k) := by
  induction l generalizing j with
  | nil => simp [encs]
  | cons x l ih =>
    cases j with
    | zero => simp [encs]
    | succ j =>
      rw [List.take_succ_cons, encs_cons, ih, encs_cons, Nat.succ_mul, Nat.add_comm, List.take_append, he]
      have h1 : (e x).take (k + j * k) = e x := List.take_of_length_le (by rw [he]; omega)
      have h2 : k + j * k - k = j * k := by omega
      rw [h1, h2]
theorem encs_at {α : Type} {e : α → List Value} {k : Nat} (he : ∀ x, (e x).length = k) {l : List α} {j : Nat} {x : α} (h : l[j]? = some x) (f : Nat) (hf : f < k) : (encs e l)[j * k + f]? = (e x)[f]? := by
  have hj := (List.getElem?_eq_some_iff.1 h).1
  have h1 : l.drop j = x :: l.drop (j + 1) := by
    rw [List.drop_eq_getElem_cons hj]; congr 1; exact (List.getElem?_eq_some_iff.1 h).2
  have h2 := encs_drop he l j
  rw [h1, encs_cons] at h2
  have h3 : (encs e l)[j * k + f]? = ((encs e l).drop (j * k))[f]? := by rw [List.getElem?_drop]
  rw [h3, ← h2, List.getElem?_append_left (by rw [he]; exact hf)]

/-- A slice's elements, at a world. -/
structure SlI {α : Type} (w : World) (e : α → List Value) (A : Option Addr) (c : Nat) (l : List α) : Prop where
  le : l.length ≤ c
  cap : c ≤ maxLen
  rd : Rd w A (encs e l)
  blk : ∀ a, A = some a → a.block < w.heap.size
theorem SlI.nil {α : Type} (w : World) (e : α → List Value) : SlI w e none 0 [] := ⟨Nat.le_refl _, Nat.zero_le _, Rd.nil _ _, fun _ h => by cases h⟩
/-- An element's cells. -/
structure El (w : World) (A : Option Addr) (o : Nat) (cs : List Value) : Prop where
  adr : ∃ b q, A = some ⟨b, q, none⟩
  at_ : ∀ f v, cs[f]? = some v → ∀ b q, A = some ⟨b, q, none⟩ → w.cell? ⟨b, q + (o + f), none⟩ = some v
theorem Rd.el {α : Type} {w : World} {A : Option Addr} {e : α → List Value} {k : Nat} {l : List α} (hr : Rd w A (encs e l)) (he : ∀ x, (e x).length = k + 1) {j : Nat} {x : α} (h : l[j]? = some x) : El w A (j * (k + 1)) (e x) := by
  have h0 : ∀ f v, (e x)[f]? = some v → (encs e l)[j * (k + 1) + f]? = some v := fun f v hv => by
    have hf := (List.getElem?_eq_some_iff.1 hv).1
    rw [he] at hf
    rw [encs_at he h f hf]; exact hv
  refine ⟨?_, fun f v hv b q hA => ?_⟩
  · obtain ⟨v, hv⟩ : ∃ v, (e x)[0]? = some v := ⟨_, List.getElem?_eq_getElem (by rw [he]; omega)⟩
    obtain ⟨b, q, hA, _⟩ := hr _ _ (h0 0 v hv)
    exact ⟨b, q, hA⟩
  · obtain ⟨b', q', hA', _, hc⟩ := hr _ _ (h0 f v hv)
    rw [hA'] at hA
    injection hA with hA
    injection hA with h1 h2
    subst h1; subst h2
    exact hc

section
variable {P : Program} {L : List (Nat × Value)} {R : World → Prop} {d : Option Nat} {ty : TypeId} {pos : String} {af : Array Edge} {g : Option (Nat × Bool)} {w : World}
/-! ### Numbers -/
theorem yx_add {x y : Operand} {t t' : TypeId} {k : IntKind} {m n : Int} (hx : ev L x = some (.int k m)) (hy : ev L y = some (.int k n)) : Yv P L R ⟨d, .binOp .add t x y t', ty, pos, af, g⟩ (.int k (k.wrap (m + n))) := Yv.mk fun w1 _ ρ hρ => by
  simp only [execOp, hρ x _ hx, hρ y _ hy, eqGuard]
  simp [binOp, Op.intArith]
theorem yx_sub {x y : Operand} {t t' : TypeId} {k : IntKind} {m n : Int} (hx : ev L x = some (.int k m)) (hy : ev L y = some (.int k n)) : Yv P L R ⟨d, .binOp .sub t x y t', ty, pos, af, g⟩ (.int k (k.wrap (m - n))) := Yv.mk fun w1 _ ρ hρ => by
  simp only [execOp, hρ x _ hx, hρ y _ hy, eqGuard]
  simp [binOp, Op.intArith]
theorem yx_mul {x y : Operand} {t t' : TypeId} {k : IntKind} {m n : Int} (hx : ev L x = some (.int k m)) (hy : ev L y = some (.int k n)) : Yv P L R ⟨d, .binOp .mul t x y t', ty, pos, af, g⟩ (.int k (k.wrap (m * n))) := Yv.mk fun w1 _ ρ hρ => by
  simp only [execOp, hρ x _ hx, hρ y _ hy, eqGuard]
  simp [binOp, Op.intArith]
theorem yx_rem {x y : Operand} {t t' : TypeId} {k : IntKind} {m n : Int} (hx : ev L x = some (.int k m)) (hy : ev L y = some (.int k n)) (h : n ≠ 0) : Yv P L R ⟨d, .binOp .rem t x y t', ty, pos, af, g⟩ (.int k (m.tmod n)) := Yv.mk fun w1 _ ρ hρ => by
  simp only [execOp, hρ x _ hx, hρ y _ hy, eqGuard]
  simp [binOp, Op.intDiv, h]
theorem yx_quo {x y : Operand} {t t' : TypeId} {k : IntKind} {m n : Int} (hx : ev L x = some (.int k m)) (hy : ev L y = some (.int k n)) (h : n ≠ 0) : Yv P L R ⟨d, .binOp .quo t x y t', ty, pos, af, g⟩ (.int k (k.wrap (m.tdiv n))) := Yv.mk fun w1 _ ρ hρ => by
  simp only [execOp, hρ x _ hx, hρ y _ hy, eqGuard]
  simp [binOp, Op.intDiv, h]
theorem yx_conv {x : Operand} {s t : TypeId} {k k' : IntKind} {n : Int} (hs : (P.underlying s).isSome = true) (ht : P.underlying t = some (.int k')) (hx : ev L x = some (.int k n)) : Yv P L R ⟨d, .convert s t x, ty, pos, af, g⟩ (.int k' (k'.wrap n)) := Yv.mk fun w1 _ ρ hρ => by
  obtain ⟨ds, hs⟩ := Option.isSome_iff_exists.1 hs
  simp only [execOp, hρ x _ hx, convert, Sem.run_bind, run_underlying hs, run_underlying ht, Result.andThen_ok]
  cases ds <;> simp [Conv.intToInt]
/-! ### Elements of slices -/
theorem yx_idx {x y : Operand} {t e n c k j : Nat} {q : IntKind} {i : Int} {A : Option Addr} (ht0 : ElC P t e k) (hx : ev L x = some (.slice A n c)) (hy : ev L y = some (.int q i)) (hi : i = (j : Int)) (hj : j < n) {w' : World} {cs : List Value} (hA : El w' A (j * k) cs) : Yv P L R ⟨d, .indexAddr t x y, ty, pos, af, g⟩ (.pointer (A.map (·.add (j * k)))) := by
  obtain ⟨b, o, rfl⟩ := hA.adr
  have := yv_indexAddr (P := P) (L := L) (R := R) (d := d) (ty := ty) (pos := pos) (af := af) (g := g) (x := x) (y := y) (j := j) ht0 hx hy hi hj
  simpa [Addr.add_mid] using this
theorem yx_fieldAddr {x : Operand} {s f k o : Nat} {A : Option Addr} {w' : World} {cs : List Value} {o' : Nat} (hk0 : FoC P s f k) (hx : ev L x = some (.pointer (A.map (·.add o)))) (hA : El w' A o' cs) : Yv P L R ⟨d, .fieldAddr s x f, ty, pos, af, g⟩ (.pointer (A.map (·.add (o + k)))) := by
  obtain ⟨b, q, rfl⟩ := hA.adr
  simp only [Option.map_some, Addr.add_mid] at hx ⊢
  have := yv_fieldAddr (P := P) (L := L) (R := R) (d := d) (ty := ty) (pos := pos) (af := af) (g := g) hk0 hx
  rw [← Nat.add_assoc]; exact this
theorem yx_ld {x : Operand} {t : TypeId} {o f : Nat} {A : Option Addr} {v : Value} {cs : List Value} (hs0 : ScC P t) (hx : ev L x = some (.pointer (A.map (·.add (o + f))))) (hR : RW R (fun _ => True) w) (hE : El w A o cs) (hv : cs[f]? = some v) : Yv P L R ⟨d, .load t x, ty, pos, af, g⟩ v := by
  obtain ⟨b, q, rfl⟩ := hE.adr
  simp only [Option.map_some, Addr.add_mid] at hx
  exact yv_load hs0 hx hR trivial (hE.at_ f v hv b q rfl)
theorem yx_ld0 {x : Operand} {t : TypeId} {o : Nat} {A : Option Addr} {v : Value} {cs : List Value} (hs0 : ScC P t) (hx : ev L x = some (.pointer (A.map (·.add o)))) (hR : RW R (fun _ => True) w) (hE : El w A o cs) (hv : cs[0]? = some v) : Yv P L R ⟨d, .load t x, ty, pos, af, g⟩ v := yx_ld (o := o) (f := 0) hs0 hx hR hE hv
theorem yx_ldA {x : Operand} {t : TypeId} {o f n : Nat} {A : Option Addr} {vs cs : List Value} (hn0 : AgC P t n) (hx : ev L x = some (.pointer (A.map (·.add (o + f))))) (hR : RW R (fun _ => True) w) (hE : El w A o cs) (hv : Seg cs f n vs) : Yv P L R ⟨d, .load t x, ty, pos, af, g⟩ (.agg vs.toArray) := by
  obtain ⟨b, q, rfl⟩ := hE.adr
  simp only [Option.map_some, Addr.add_mid] at hx
  refine yv_loadA hn0 hx hR trivial (fun j v hj => ?_) hv.spec.2
  have h1 := hv.spec.1
  have : cs[f + j]? = some v := by
    rw [h1, List.getElem?_take] at hj
    split at hj
    · rwa [List.getElem?_drop] at hj
    · cases hj
  have := hE.at_ (f + j) v this b q rfl
  rw [show q + (o + f) + j = q + (o + (f + j)) by omega]; exact this
theorem yx_ldA0 {x : Operand} {t : TypeId} {o n : Nat} {A : Option Addr} {vs cs : List Value} (hn0 : AgC P t n) (hx : ev L x = some (.pointer (A.map (·.add o)))) (hR : RW R (fun _ => True) w) (hE : El w A o cs) (hv : Seg cs 0 n vs) : Yv P L R ⟨d, .load t x, ty, pos, af, g⟩ (.agg vs.toArray) := yx_ldA (o := o) (f := 0) hn0 hx hR hE hv
/-! ### Parts of slices -/
theorem yx_slice_h {α : Type} {x y : Operand} {t e c k : Nat} {q : IntKind} {i : Int} {A : Option Addr} {l r : List α} (ht0 : ElC P t e k) (hx : ev L x = some (.slice A l.length c)) (hy : ev L y = some (.int q i)) (hc : l.length ≤ c) (h : takeI l i = some r) : Yv P L R ⟨d, .slice t x none (some y) none, ty, pos, af, g⟩ (.slice A r.length c) := by
  obtain ⟨k, hi, _, hk, hl⟩ := takeI_some h
  rw [hl]
  exact yv_slice_h ht0 hx hy hi (by omega)
/-- Where a slice's rest begins. -/
def cutA (A : Option Addr) (c k s : Nat) : Option Addr := if c = k then A else A.map (·.add (k * s))
theorem yx_slice_l {α : Type} {x y : Operand} {t e c k : Nat} {q : IntKind} {i : Int} {A : Option Addr} {l r : List α} (ht0 : ElC P t e k) (hx : ev L x = some (.slice A l.length c)) (hy : ev L y = some (.int q i)) (h : dropI l i = some r) : Yv P L R ⟨d, .slice t x (some y) none none, ty, pos, af, g⟩ (.slice (cutA A c i.toNat k) r.length (c - i.toNat)) := by
  obtain ⟨j, hi, _, hk, hl⟩ := dropI_some h
  rw [hl]
  have := yv_slice_l (P := P) (L := L) (R := R) (d := d) (ty := ty) (pos := pos) (af := af) (g := g) ht0 hx hy hi hk
  subst hi
  exact this
theorem yx_slice_lh {α : Type} {x y z : Operand} {t e c k : Nat} {q r' : IntKind} {i m : Int} {A : Option Addr} {l u r : List α} (ht0 : ElC P t e k) (hx : ev L x = some (.slice A l.length c)) (hy : ev L y = some (.int q i)) (hz : ev L z = some (.int r' m)) (hc : l.length ≤ c) (h1 : takeI l m = some u) (h2 : dropI u i = some r) : Yv P L R ⟨d, .slice t x (some y) (some z) none, ty, pos, af, g⟩ (.slice (cutA A c i.toNat k) r.length (c - i.toNat)) := by
  obtain ⟨j, hi, _, hk, hl⟩ := dropI_some h2
  obtain ⟨j', hi', _, hk', hl'⟩ := takeI_some h1
  rw [hl, hl']
  have := yv_slice_lh (P := P) (L := L) (R := R) (d := d) (ty := ty) (pos := pos) (af := af) (g := g) ht0 hx hy hz hi hi' (by omega) (by omega)
  subst hi
  exact this
theorem Rd.takeI {α : Type} {w : World} {A : Option Addr} {e : α → List Value} {k : Nat} (he : ∀ x, (e x).length = k) {l r : List α} {i : Int} (hr : Rd w A (encs e l)) (h : takeI l i = some r) : Rd w A (encs e r) := by
  obtain ⟨j, _, rfl, _⟩ := takeI_some h
  rw [encs_take he]; exact hr.take _
theorem Rd.dropI {α : Type} {w : World} {A : Option Addr} {e : α → List Value} {k c : Nat} (he : ∀ x, (e x).length = k) {l r : List α} {i : Int} (hr : Rd w A (encs e l)) (hc : l.length ≤ c) (h : dropI l i = some r) : Rd w (cutA A c i.toNat k) (encs e r) := by
  obtain ⟨j, rfl, rfl, hj, _⟩ := dropI_some h
  unfold cutA
  split
  · rename_i h0
    have : l.drop j = [] := List.drop_eq_nil_of_le (by have : (j : Int).toNat = j := by simp
                                                       omega)
    rw [this]; exact Rd.nil _ _
  · rw [encs_drop he]; exact hr.drop _
theorem cutA_blk {A : Option Addr} {c k s n : Nat} (h : ∀ a, A = some a → a.block < n) : ∀ a, cutA A c k s = some a → a.block < n := fun a ha => by
  unfold cutA at ha
  split at ha
  · exact h a ha
  · cases A with
    | none => cases ha
    | some b =>
      injection ha with ha
      subst ha
      have := h b rfl
      obtain ⟨b1, o1, sp⟩ := b
      simp only [Addr.add]
      split <;> exact this
end
end Go.Proofs.YtofheinbbefbcaaDoor
/- Laws for walks that a program of mine prints, second part: splitting, blocks, loops, what is given back. -/
namespace Go.Proofs.YtofheinbbefbcaaDoor
open Go Go.RowKit
set_option maxRecDepth 100000
section
variable {P : Program} {ro : Option Nat} {ops : Array Oper} {Q : Exit → Act → World → Prop} {l : List Oper} {N : FS} {L : List (Nat × Value)} {w w0 w1 : World} {S : Nat → Prop} {H H' : List Ent}
theorem Fr.again {a : Act} {t : Nat} {v : Value} (h : Fr N L a) (hx : lk L t = some v) : Fr N ((t, v) :: L) a := ⟨h.size, h.defers, fun d u hd => by
  simp only [lk] at hd
  cases hb : Nat.beq t d with
  | true =>
    rw [hb] at hd
    simp only [cond_true, Option.some.injEq] at hd
    subst hd
    rw [← Nat.eq_of_beq_eq_true hb]
    exact h.at_ t _ hx
  | false => rw [hb] at hd; exact h.at_ d u hd⟩
theorem wpS_case (t : Nat) {b : Bool} (hx : lk L t = some (.bool b)) (kt : b = true → wpS P ops Q l N ((t, .bool true) :: L) w) (kf : b = false → wpS P ops Q l N ((t, .bool false) :: L) w) : wpS P ops Q l N L w := ⟨fun a hF => by
  have h := hF.again hx
  cases b with
  | true => exact (kt rfl).go a h
  | false => exact (kf rfl).go a h⟩
theorem wpR_case {md : Region.Mode} {G : Nat → Nat → Prop} {sl : List Nat} {f : Nat} {listed : Array Bool} (t : Nat) {b : Bool} (hx : lk L t = some (.bool b)) (kt : b = true → wpR P md ops G sl Q f listed N ((t, .bool true) :: L) w) (kf : b = false → wpR P md ops G sl Q f listed N ((t, .bool false) :: L) w) : wpR P md ops G sl Q f listed N L w := ⟨fun a hF => by
  have h := hF.again hx
  cases b with
  | true => exact (kt rfl).go a h
  | false => exact (kf rfl).go a h⟩
/-- What a call made. -/
theorem St0.join {Hn : List Ent} (h : St0 S w0 w H) (hn : St0 All w w1 Hn) : St0 S w0 w1 (Hn ++ H) := by
  have hb := hn.pure
  have h' := h.below hb
  refine ⟨h'.base, fun e he => ?_, fun e he k hk => ?_, List.pairwise_append.2 ⟨hn.dis, h.dis, fun x hx y hy k h1 h2 => ?_⟩⟩
  · rcases List.mem_append.1 he with h1 | h1
    · exact hn.ok e h1
    · exact h'.ok e h1
  · rcases List.mem_append.1 he with h1 | h1
    · have h2 := hn.rng e h1 k hk
      refine ⟨h2.1, fun h3 => (h2.2 (Nat.lt_of_lt_of_le h3 h.size) trivial).elim⟩
    · exact h'.rng e h1 k hk
  · have h3 := (h.rng y hy k h2).1
    exact (hn.rng x hx k h1).2 h3 trivial
theorem perm_front {α : Type} : ∀ (H : List α) (i : Nat) (e : α), H[i]? = some e → H.Perm (e :: H.eraseIdx i)
  | [], i, e, h => by simp at h
  | x :: H, 0, e, h => by simp at h; subst h; exact List.Perm.refl _
  | x :: H, i + 1, e, h => by
    have := perm_front H i e (by simpa using h)
    exact (this.cons x).trans (.swap _ _ _)
theorem St0.front (i : Nat) {e : Ent} (h : St0 S w0 w H) (hi : H[i]? = some e) : St0 S w0 w (e :: H.eraseIdx i) := by
  exact h.reord (perm_front H i e hi)
/-- One entry says less. -/
structure Weak (w : World) (e e' : Ent) : Prop where
  ok : e.ok w → e'.ok w
  occ : ∀ k, e'.occ k → e.occ k
theorem St0.weak {e e' : Ent} (h : St0 S w0 w (e :: H)) (hw : Weak w e e') : St0 S w0 w (e' :: H) := by
  refine ⟨h.base, fun x hx => ?_, fun x hx k hk => ?_, List.pairwise_cons.2 ⟨fun y hy k h1 h2 => ?_, h.dis.tail⟩⟩
  · rcases List.mem_cons.1 hx with rfl | hx
    · exact hw.ok (h.ok e (by simp))
    · exact h.ok x (by simp [hx])
  · rcases List.mem_cons.1 hx with rfl | hx
    · exact h.rng e (by simp) k (hw.occ k hk)
    · exact h.rng x (by simp [hx]) k hk
  · exact (List.pairwise_cons.1 h.dis).1 y hy k (hw.occ k h1) h2
theorem St0.nilRow (e size : Nat) (h : St0 S w0 w H) : St0 S w0 w (.row (.slice none 0 0) e size 0 [] :: H) :=
  h.addE ⟨by simp, .inl ⟨rfl, rfl⟩⟩ (fun k hk => by cases hk) (fun _ _ k hk => by cases hk)
theorem St0.cut (n : Nat) (h : St0 S w0 w H) : St0 S w0 w (H.take n) := h.sub (List.take_sublist n H)
theorem SlI.of_rd {α : Type} {e : α → List Value} {A : Option Addr} {c : Nat} {xs : List α} (k : xs.length ≤ c ∧ c ≤ maxLen) (h : Rd w A (encs e xs)) (hb : ∀ a, A = some a → a.block < w.heap.size) : SlI w e A c xs := ⟨k.1, k.2, h, hb⟩
theorem St0.blk0 {A : Option Addr} (h : St0 S w0 w H) (hb : ∀ a, A = some a → a.block < w0.heap.size) : ∀ a, A = some a → a.block < w.heap.size := fun a ha => Nat.lt_of_lt_of_le (hb a ha) h.size
theorem St0.row_blk {A : Option Addr} {n c e size : Nat} {xs : List Value} (h : St0 S w0 w H) (hH : Has H (.row (.slice A n c) e size n xs)) : ∀ a, A = some a → a.block < w.heap.size := fun a ha => (h.rng _ hH.mem a.block (by subst ha; rfl)).1
theorem St0.box_blk {b T : Nat} {cs : List Value} (h : St0 S w0 w H) (hH : Has H (.box b cs T)) : ∀ a, some (⟨b, 0, none⟩ : Addr) = some a → a.block < w.heap.size := fun a ha => by injection ha with ha; subst ha; exact (h.rng _ hH.mem b rfl).1
theorem SlI.k {α : Type} {e : α → List Value} {A : Option Addr} {c : Nat} {xs : List α} (h : SlI w e A c xs) : xs.length ≤ c ∧ c ≤ maxLen := ⟨h.le, h.cap⟩
theorem SlI.takeI {α : Type} {e : α → List Value} {k c : Nat} (he : ∀ x, (e x).length = k) {A : Option Addr} {xs r : List α} {i : Int} (s : SlI w e A c xs) (h : takeI xs i = some r) : SlI w e A c r := by
  obtain ⟨j, _, _, h1, h2⟩ := takeI_some h
  exact ⟨by have := s.le; omega, s.cap, Rd.takeI he s.rd h, s.blk⟩
theorem SlI.dropI {α : Type} {e : α → List Value} {k c : Nat} (he : ∀ x, (e x).length = k) {A : Option Addr} {xs r : List α} {i : Int} (s : SlI w e A c xs) (h : dropI xs i = some r) : SlI w e (cutA A c i.toNat k) (c - i.toNat) r := by
  obtain ⟨j, h0, _, h1, h2⟩ := dropI_some h
  exact ⟨by have := s.le; omega, by have := s.cap; omega, Rd.dropI he s.rd s.le h, cutA_blk s.blk⟩
theorem k_take {α : Type} {c : Nat} {xs r : List α} {i : Int} (k : xs.length ≤ c ∧ c ≤ maxLen) (h : takeI xs i = some r) : r.length ≤ c ∧ c ≤ maxLen := by obtain ⟨j, _, _, h1, h2⟩ := takeI_some h; exact ⟨by omega, k.2⟩
theorem k_drop {α : Type} {c : Nat} {xs r : List α} {i : Int} (k : xs.length ≤ c ∧ c ≤ maxLen) (h : dropI xs i = some r) : r.length ≤ c - i.toNat ∧ c - i.toNat ≤ maxLen := by obtain ⟨j, h0, _, h1, h2⟩ := dropI_some h; exact ⟨by omega, by omega⟩
variable {dn : Nat} {ty : TypeId} {pos : String} {af : Array Edge} {g : Option (Nat × Bool)} {rest : List Oper}
/-! ### append -/
theorem wpX_append {α : Type} {e : α → List Value} {t te size bytes c0 c : Nat} {z : Value} {s x : Operand} {A0 A : Option Addr} {xs ys zs : List α} {Hf : Value → List Ent} (he : ∀ x, (e x).length = size) (h1 : ∀ l : List α, ∀ u ∈ encs e l, u.oneCell' = true) (E : Elem P t te z size bytes) (hbz : bytes ≤ 100000)
    (hg : wantB ops L g = some true) (hN : Nat.ble (dn + 1) N.n = true) (hs : ev L s = some (.slice A0 xs.length c0)) (hx : ev L x = some (.slice A ys.length c)) (hS : St0 S w0 w H) (hH : ∀ v', Pos H (.row (.slice A0 xs.length c0) te size xs.length (encs e xs)) (Hf v') (.row v' te size zs.length (encs e zs)))
    (hr : Rd w A (encs e ys)) (hf : fewI (xs ++ ys) = some zs)
    (k : ∀ A' c' w', (zs.length ≤ c' ∧ c' ≤ maxLen) → St0 S w0 w' (Hf (.slice A' zs.length c')) → wpS P ops Q rest N ((dn, .slice A' zs.length c') :: L) w') :
    wpS P ops Q (⟨some dn, .call { callee := .builtin .append, args := #[s, x], argTypes := #[t, t] }, ty, pos, af, g⟩ :: rest) N L w := by
  obtain ⟨rfl, hl⟩ := fewI_some hf
  rw [List.length_append] at hl
  have hb : (xs.length + ys.length) * bytes ≤ 140737488355328 := Nat.le_trans (Nat.mul_le_mul hl hbz) (by omega)
  have hH' : ∀ v', Pos H (.row (.slice A0 xs.length c0) te size xs.length (encs e xs)) (Hf v') (.row v' te size (xs ++ ys).length (encs e xs ++ encs e ys)) := fun v' => by have := hH v'; rwa [encs_app] at this
  refine wpS_append (n' := (xs ++ ys).length) E hg hN hs hx hS hH' hr (encs_length he ys) (h1 ys) (List.length_append ..) (by rw [List.length_append]; unfold maxLen; omega) (by rw [List.length_append]; exact hb) (fun A' c' w' k1 k2 hS => k A' c' w' ⟨k1, k2⟩ hS)
theorem setI_len {α : Type} {l : List α} {i : Int} {a : α} {n : Nat} (h : l.length = n) : (setI l i a).length = n := by unfold setI; rw [List.length_set]; exact h
theorem k_set {α : Type} {l : List α} {i : Int} {a : α} {c : Nat} (h : l.length ≤ c ∧ c ≤ maxLen) : (setI l i a).length ≤ c ∧ c ≤ maxLen := by rw [setI_len rfl]; exact h
theorem he_enE : ∀ x, (enE x).length = 2 + 1 := fun _ => rfl
theorem he_enY : ∀ x, (enY x).length = 0 + 1 := fun _ => rfl
theorem oc_of {α : Type} {e : α → List Value} (h : ∀ x, (e x).all (·.oneCell') = true) (l : List α) : ∀ u ∈ encs e l, u.oneCell' = true := fun u hu => by
  obtain ⟨x, _, hx⟩ := List.mem_flatMap.1 hu
  exact List.all_eq_true.1 (h x) u hx
theorem oc_enE : ∀ l : List En, ∀ u ∈ encs enE l, u.oneCell' = true := oc_of fun _ => rfl
theorem oc_enY : ∀ l : List UInt8, ∀ u ∈ encs enY l, u.oneCell' = true := oc_of fun _ => rfl
end
end Go.Proofs.YtofheinbbefbcaaDoor
/- What layer 12's rows share. -/
namespace Go.Proofs.YtofheinbbefbcaaDoor
open Go Go.ChangeShapes Go.WideShapes Go.ChangeAt Go.RowKit
set_option maxRecDepth 100000
theorem own : ownKnob Tryd.prog.godebug = none := by kernel_rfl
theorem laidOut : laidOutB Tryd.prog = true := by kernel_rfl
/-- A slice that is an argument lies in the world. -/
theorem okWide_blk {P : Program} {W : World} {base : Nat} {t e : TypeId} {n c : Nat} {A : Option Addr} (ht : P.underlying t = some (.slice e)) (h : Value.okWide P W .any base t (.slice A n c)) : ∀ a, A = some a → a.block < W.heap.size := by
  intro a ha
  subst ha
  simp only [Value.okWide, ht, Cell.okWide, Cell.ok, World.has] at h
  obtain ⟨_, _, _, _, row, cells, hsh, _⟩ := h
  unfold World.shape? at hsh
  rcases Nat.lt_or_ge a.block W.heap.size with hlt | hge
  · exact hlt
  · rw [Array.getElem?_eq_none hge] at hsh
    simp at hsh
theorem Calls.pure0 {P : Program} {f : Nat} {args : Array Value} {w : World} {v : Value} (h : Calls P f args w fun e w' => e = .returned v ∧ St0 All w w' []) : Calls P f args w fun e w' => e = .returned v ∧ Below w.heap.size w w' := h.mono fun _ _ h => ⟨h.1, h.2.pure⟩
end Go.Proofs.YtofheinbbefbcaaDoor
/- Laws for walks that a program of mine prints, third part: stores into rows, make, arrays, loops gone through once. -/
namespace Go.Proofs.YtofheinbbefbcaaDoor
open Go Go.RowKit
set_option maxRecDepth 100000
def setAt : List Value → Nat → List Value → List Value
  | xs, _, [] => xs
  | xs, o, v :: vs => setAt (xs.set o v) (o + 1) vs
theorem setAt_cons (x : Value) : ∀ (vs xs : List Value) (o : Nat), setAt (x :: xs) (o + 1) vs = x :: setAt xs o vs
  | [], _, _ => rfl
  | v :: vs, xs, o => by simp only [setAt, List.set_cons_succ]; exact setAt_cons x vs _ _
theorem setAt_pre : ∀ (p xs : List Value) (o : Nat) (vs : List Value), setAt (p ++ xs) (p.length + o) vs = p ++ setAt xs o vs
  | [], xs, o, vs => by simp
  | x :: p, xs, o, vs => by
    rw [List.cons_append, List.length_cons, show p.length + 1 + o = (p.length + o) + 1 by omega, setAt_cons, setAt_pre p xs o vs]; rfl
theorem setAt_post : ∀ (vs xs q : List Value) (o : Nat), o + vs.length ≤ xs.length → setAt (xs ++ q) o vs = setAt xs o vs ++ q
  | [], _, _, _, _ => rfl
  | v :: vs, xs, q, o, h => by
    simp only [List.length_cons] at h
    simp only [setAt]
    rw [List.set_append_left _ _ (by omega), setAt_post vs (xs.set o v) q (o + 1) (by rw [List.length_set]; omega)]
theorem setAt_ovr {cs vs cs' : List Value} (h : Ovr cs vs cs') : setAt cs 0 vs = cs' := by
  induction h with
  | nil => rfl
  | @cons c v cs vs cs' h ih => simp only [setAt, List.set_cons_zero]; rw [setAt_cons, ih]
theorem setAt_setC {cs vs cs' : List Value} {o : Nat} (h : SetC cs o vs cs') : setAt cs o vs = cs' := by
  induction h with
  | here h => exact setAt_ovr h
  | succ h ih => rw [setAt_cons, ih]
theorem encs_set {α : Type} {e : α → List Value} {k : Nat} (he : ∀ x, (e x).length = k) {l : List α} {j f : Nat} {a a' : α} {vs : List Value} (ha : l[j]? = some a) (hc : SetC (e a) f vs (e a')) : setAt (encs e l) (j * k + f) vs = encs e (l.set j a') := by
  have hj := (List.getElem?_eq_some_iff.1 ha).1
  have h1 : l = l.take j ++ a :: l.drop (j + 1) := by
    conv => lhs; rw [← List.take_append_drop j l]
    rw [List.drop_eq_getElem_cons hj, (List.getElem?_eq_some_iff.1 ha).2]
  have h2 : l.set j a' = l.take j ++ a' :: l.drop (j + 1) := by
    conv => lhs; rw [h1]
    have hl : (l.take j).length = j := by rw [List.length_take]; omega
    rw [List.set_append_right _ _ (by omega), hl, Nat.sub_self]; rfl
  have hp : (encs e (l.take j)).length = j * k := by rw [encs_length he, List.length_take, Nat.min_eq_left (by omega)]
  have hlen : f + vs.length ≤ (e a).length := hc.spec.2.1
  rw [h2, encs_app, encs_cons]
  conv => lhs; rw [h1, encs_app, encs_cons, ← hp]
  rw [setAt_pre, setAt_post vs (e a) _ f hlen, setAt_setC hc]
theorem there_row {w : World} {g n cap e size : Nat} {xs : List Value} (h : w.ownsRow 0 e size (.slice (some ⟨g, 0, none⟩) n cap) n xs) {o m : Nat} (hm : o + m ≤ xs.length) : w.there g o m := fun j hj => by
  rcases h.2 with ⟨h', _⟩ | ⟨g', cap', cur, h', _, hg, hnc, _, hcs, htake⟩
  · simp at h'
  · simp only [Value.slice.injEq, Option.some.injEq, Addr.mk.injEq, and_true, true_and] at h'
    obtain ⟨rfl, rfl⟩ := h'
    have hl : xs.length ≤ cur.size := by rw [← htake, List.length_take]; simp; omega
    refine ⟨?_, by simp [World.frozen?, hg]⟩
    rw [cell_of_row w g (o + j) cur e (0, 0) hg]
    simp
    omega
theorem row_setCells (g e size n cap : Nat) : ∀ (vs : List Value) (o : Nat) (w : World) (xs : List Value), w.ownsRow 0 e size (.slice (some ⟨g, 0, none⟩) n cap) n xs → (w.setCells g o vs).ownsRow 0 e size (.slice (some ⟨g, 0, none⟩) n cap) n (setAt xs o vs)
  | [], _, _, _, h => h
  | v :: vs, o, w, xs, h => by
    rw [World.setCells]
    exact row_setCells g e size n cap vs (o + 1) _ _ (h.stored o v).1
section
variable {P : Program} {ro : Option Nat} {ops : Array Oper} {Q : Exit → Act → World → Prop} {rest : List Oper} {N : FS} {L : List (Nat × Value)} {w w0 : World} {S : Nat → Prop} {H H' : List Ent} {dn : Nat} {ty : TypeId} {pos : String} {af : Array Edge} {g : Option (Nat × Bool)} {R : World → Prop} {d : Option Nat}
/-- A store into an element of a row of one's own. -/
theorem wpX_storeR {α : Type} {e : α → List Value} {k te T j f n c : Nat} {x y : Operand} {A : Option Addr} {l zs : List α} {a a' : α} {i : Int} {v : Value} {vs : List Value} (he : ∀ x, (e x).length = k) (hg : wantB ops L g = some true) (hx : ev L x = some (.pointer (A.map (·.add (j * k + f))))) (hy : ev L y = some v) (hv : CellsOf v vs)
    (hS : St0 S w0 w H) (hH : Pos H (.row (.slice A n c) te k n (encs e l)) H' (.row (.slice A n c) te k n (encs e zs))) (hA : El w A (j * k) (e a)) (hij : i = (j : Int)) (ha : l[j]? = some a) (hz : zs = setI l i a') (hc : SetC (e a) f vs (e a')) (hi : (P.info? T).map (·.size) = some vs.length) (h1 : vs.all (·.oneCell') = true)
    (kk : ∀ w', St0 S w0 w' H' → wpS P ops Q rest N L w') : wpS P ops Q (⟨none, .store T x y, ty, pos, af, g⟩ :: rest) N L w := by
  obtain ⟨b, q, rfl⟩ := hA.adr
  obtain ⟨ix, hi1, hH'⟩ := hH.set
  have hown : w.ownsRow 0 te k (.slice (some ⟨b, q, none⟩) n c) n (encs e l) := hS.ok _ (List.mem_of_getElem? hi1)
  obtain rfl : q = 0 := by
    rcases hown.2 with ⟨h', _⟩ | ⟨g', cap', cur, h', _⟩
    · simp at h'
    · simp only [Value.slice.injEq, Option.some.injEq, Addr.mk.injEq, and_true, true_and] at h'; exact h'.1.2
  have hlen : f + vs.length ≤ (e a).length := hc.spec.2.1
  have hjl := (List.getElem?_eq_some_iff.1 ha).1
  have hfit : j * k + f + vs.length ≤ (encs e l).length := by
    rw [encs_length he]
    rw [he] at hlen
    have : (j + 1) * k ≤ l.length * k := Nat.mul_le_mul_right k hjl
    rw [Nat.succ_mul] at this
    omega
  have ht : w.there b (j * k + f) vs.length := there_row hown hfit
  have hzz := size_setCells b vs (j * k + f) w
  have hnew : (w.setCells b (j * k + f) vs).ownsRow 0 te k (.slice (some ⟨b, 0, none⟩) n c) n (encs e zs) := by
    have := row_setCells b te k n c vs (j * k + f) w _ hown
    rw [encs_set he ha hc] at this
    subst hij
    rw [hz]
    exact this
  simp only [Option.map_some, Addr.add_mid, Nat.zero_add] at hx
  rw [hH'] at kk
  refine wpS_run0 hg rfl (fun ρ hρ => ?_) (kk (w.setCells b (j * k + f) vs) (hS.change ix hi1 (by rw [hzz.1]; exact Nat.le_refl _) hzz.2 (fun k' hk _ => heap_setCells b vs _ w k' (fun h => hk (by subst h; rfl))) hnew (fun k' hk => .inl hk)))
  simp only [execOp, hρ x _ hx, hρ y _ hy, Sem.run_bind, store_run hv ht hi h1, Result.andThen_ok, Sem.run_pure]
end
end Go.Proofs.YtofheinbbefbcaaDoor
/- The walks of tuples: what may be. -/
namespace Go.Proofs.YtofheinbbefbcaaDoor
open Go Go.RowKit
set_option maxRecDepth 100000

end Go.Proofs.YtofheinbbefbcaaDoor
/- The walks of tuples: what is told of a panic. -/
namespace Go.Proofs.YtofheinbbefbcaaDoor
open Go Go.RowKit
set_option maxRecDepth 100000

end Go.Proofs.YtofheinbbefbcaaDoor
/- Slices of entries: copied, put together, compared. -/
namespace Go.Proofs.YtofheinbbefbcaaDoor
open Go Go.RowKit
set_option maxRecDepth 100000

-- @EQ eqEn eqSt
theorem eqEn (w : World) (a b : En) : (Op.equalIn 10000 40 (.agg #[.int .i64 a.term, .int .i64 a.kind, .int .i64 a.value]) (.agg #[.int .i64 b.term, .int .i64 b.kind, .int .i64 b.value])).run Tryd.prog w = .ok (decide (a = b)) w := run_eq_entry w a b
theorem eqSt (w : World) (a b : St) : (Op.equalIn 10000 124 (.agg #[.int .i64 a.index, .int .i64 a.term, .int .i64 a.sum, .int .i64 a.level, .bool a.final]) (.agg #[.int .i64 b.index, .int .i64 b.term, .int .i64 b.sum, .int .i64 b.level, .bool b.final])).run Tryd.prog w = .ok (decide (a = b)) w := run_eq_state w a b
section
variable {P : Program} {ops : Array Oper} {Q : Exit → Act → World → Prop} {rest : List Oper} {N : FS} {L : List (Nat × Value)} {w w0 : World} {S : Nat → Prop} {H : List Ent} {dn : Nat} {ty : TypeId} {pos : String} {af : Array Edge} {g : Option (Nat × Bool)}
end
end Go.Proofs.YtofheinbbefbcaaDoor
/- The walks of tuples: a copy, what may be, what is changed. -/
namespace Go.Proofs.YtofheinbbefbcaaDoor
open Go Go.RowKit
set_option maxRecDepth 100000

/-- A log as it lies in memory. -/
structure LI (w : World) (A : Option Addr) (n c : Nat) (l : List En) : Prop where
  len : l.length = n
  small : n ≤ 1000000
  le : n ≤ c
  cap : c ≤ maxLen
  rd : Rd w A (ens l)
theorem LI.below {w w' : World} {A : Option Addr} {n c : Nat} {l : List En} (h : LI w A n c l) (hb : Below w.heap.size w w') : LI w' A n c l := ⟨h.len, h.small, h.le, h.cap, h.rd.below hb⟩
theorem LI.keep {w w' : World} {S : Nat → Prop} {A : Option Addr} {n c : Nat} {l : List En} (h : LI w A n c l) (hk : KeepB S w w') (hs : ∀ a, A = some a → S a.block) : LI w' A n c l := ⟨h.len, h.small, h.le, h.cap, hk.rd h.rd hs⟩
end Go.Proofs.YtofheinbbefbcaaDoor
/- The walks of tuples: what changes one. -/
namespace Go.Proofs.YtofheinbbefbcaaDoor
open Go Go.RowKit
set_option maxRecDepth 100000

end Go.Proofs.YtofheinbbefbcaaDoor
/- The walks of tuples: Last, At. -/
namespace Go.Proofs.YtofheinbbefbcaaDoor
open Go Go.RowKit
set_option maxRecDepth 100000
end Go.Proofs.YtofheinbbefbcaaDoor
/- The walks of tuples: Append, Cut, Hard. -/
namespace Go.Proofs.YtofheinbbefbcaaDoor
open Go Go.RowKit
set_option maxRecDepth 100000

theorem Rd.blk {w : World} {A : Option Addr} {xs : List Value} (h : Rd w A xs) (hne : xs ≠ []) : ∀ a, A = some a → a.block < w.heap.size := fun a ha => by
  cases xs with
  | nil => exact (hne rfl).elim
  | cons v xs =>
    obtain ⟨b, o, hA, hb, _⟩ := h 0 v rfl
    rw [ha] at hA
    injection hA with hA
    subst hA
    exact hb
end Go.Proofs.YtofheinbbefbcaaDoor
/- The walks of tuples: TermAt, save, Save, Cut, Install, Hard. -/
namespace Go.Proofs.YtofheinbbefbcaaDoor
open Go Go.RowKit
set_option maxRecDepth 100000

end Go.Proofs.YtofheinbbefbcaaDoor
/- The walks of tuples: Save, Cut, Install, Hard. -/
namespace Go.Proofs.YtofheinbbefbcaaDoor
open Go Go.RowKit
set_option maxRecDepth 100000
set_option maxHeartbeats 1000000

end Go.Proofs.YtofheinbbefbcaaDoor
/- The walks of tuples: State, First. -/
namespace Go.Proofs.YtofheinbbefbcaaDoor
open Go Go.RowKit
set_option maxRecDepth 100000

end Go.Proofs.YtofheinbbefbcaaDoor
/- What the functions of entries and tuples compute that are walked by hand, in the form of the printed contracts. -/
namespace Go.Proofs.YtofheinbbefbcaaDoor
open Go Go.RowKit
set_option maxRecDepth 100000
theorem calls_st0 {P : Program} {f : Nat} {args : Array Value} {w : World} {v : Value} (h : Calls P f args w fun e w' => e = .returned v ∧ Below w.heap.size w w') : Calls P f args w fun e w' => e = .returned v ∧ St0 All w w' [] := h.mono fun _ _ h => ⟨h.1, (St0.start All w).below h.2⟩
def m_entry_Right (e : En) : Option Bool := some (rightB e)
theorem c_entry_Right (x0 : En) (w0 : World) {r : Bool} (H : m_entry_Right x0 = some r) : Calls Tryd.prog 51 #[.agg #[.int .i64 x0.term, .int .i64 x0.kind, .int .i64 x0.value]] w0 fun e w' => e = .returned (.bool r) ∧ St0 All w0 w' [] := by
  obtain rfl := Option.some.inj H
  exact calls_st0 (right_any x0 w0)
end Go.Proofs.YtofheinbbefbcaaDoor
/- Numbers as bytes: in plain Lean, no program in sight. -/
namespace Go.Proofs.YtofheinbbefbcaaDoor

/-- What is no number. -/
def badN (n : Int) : Bool := decide (n < 0) || decide (1073741824 < n)
def isN (l : List Int) : Bool := !(l.any badN)
theorem badN_false {n : Int} : badN n = false ↔ 0 ≤ n ∧ n ≤ 1073741824 := by simp [badN]
theorem badN_true {n : Int} : badN n = true ↔ n < 0 ∨ 1073741824 < n := by simp [badN]
theorem any_take_succ (l : List Int) (k : Nat) (x : Int) (h : l[k]? = some x) (h0 : (l.take k).any badN = false) (hx : badN x = false) : (l.take (k + 1)).any badN = false := by
  rw [List.take_add_one, h]; simp only [Option.toList_some, List.any_append, h0, List.any_cons, hx, List.any_nil]; rfl
theorem any_of_at (l : List Int) (k : Nat) (x : Int) (h : l[k]? = some x) (hx : badN x = true) : l.any badN = true :=
  List.any_eq_true.2 ⟨x, List.mem_of_getElem? h, hx⟩

/-- A number's digits to base B, so many below the highest one, the highest first. -/
def digs (B : Nat) : Nat → Nat → List Nat
  | 0, n => [n % B]
  | k + 1, n => n / B ^ (k + 1) % B :: digs B k n
def toB (l : List Nat) : List UInt8 := l.map UInt8.ofNat
def long1 (n : Nat) : List UInt8 := toB (digs 256 4 n)
def longL (l : List Int) : List UInt8 := l.flatMap fun n => long1 n.toNat
/-- What is told of numbers: bytes, and an error. -/
def errN (l : List Int) : Int := if isN l = true then 0 else 2
def longR (l : List Int) : List UInt8 := if isN l = true then longL l else []
/-- What is taken of long bytes: a number, what is behind, an error (0, 10 too short, 11 no form). -/
def tlN (l : List UInt8) : Int × List UInt8 × Int :=
  match l with
  | a :: b :: c :: d :: e :: m =>
    let n : Nat := (((a.toNat * 256 + b.toNat) * 256 + c.toNat) * 256 + d.toNat) * 256 + e.toNat
    if n ≤ 1073741824 then ((n : Int), m, 0) else (0, [], 11)
  | _ => (0, [], 10)
theorem tlN_short (l : List UInt8) (h : l.length < 5) : tlN l = (0, [], 10) := by
  match l, h with
  | [], _ => rfl
  | [_], _ => rfl
  | [_, _], _ => rfl
  | [_, _, _], _ => rfl
  | [_, _, _, _], _ => rfl
  | _ :: _ :: _ :: _ :: _ :: _, h => simp only [List.length_cons] at h; omega
theorem five_of (l : List UInt8) (h : 5 ≤ l.length) : ∃ a b c d e m, l = a :: b :: c :: d :: e :: m := by
  match l, h with
  | a :: b :: c :: d :: e :: m, _ => exact ⟨a, b, c, d, e, m, rfl⟩
  | [], h => simp at h
  | [_], h => simp at h
  | [_, _], h => simp at h
  | [_, _, _], h => simp at h
  | [_, _, _, _], h => simp at h
/-- Bytes' value, the highest one first. -/
def valN (l : List UInt8) : Nat := l.foldl (fun a c => a * 256 + c.toNat) 0
theorem valN_snoc (l : List UInt8) (c : UInt8) : valN (l ++ [c]) = valN l * 256 + c.toNat := by simp [valN]
theorem valN_lt (l : List UInt8) : ∀ n, l.length ≤ n → valN l < 256 ^ n := by
  have h : ∀ (m : List UInt8) (a n : Nat), a < 256 ^ n → m.foldl (fun a c => a * 256 + c.toNat) a < 256 ^ (n + m.length) := by
    intro m
    induction m with
    | nil => intro a n h; simpa using h
    | cons c m ih =>
      intro a n h
      have := ih (a * 256 + c.toNat) (n + 1) (by have := c.toNat_lt; rw [Nat.pow_succ]; omega)
      simpa [Nat.add_assoc, Nat.add_comm, Nat.add_left_comm] using this
  intro n hn
  have := h l 0 0 (by simp)
  rw [Nat.zero_add] at this
  exact Nat.lt_of_lt_of_le this (Nat.pow_le_pow_right (by omega) hn)
theorem tlN_long (l : List UInt8) (h : 5 ≤ l.length) : tlN l = if valN (l.take 5) ≤ 1073741824 then ((valN (l.take 5) : Int), l.drop 5, 0) else (0, [], 11) := by
  obtain ⟨a, b, c, d, e, m, rfl⟩ := five_of l h
  simp [tlN, valN]
theorem digs_length (B k n : Nat) : (digs B k n).length = k + 1 := by
  induction k with
  | zero => rfl
  | succ k ih => simp [digs, ih]
theorem digs_at (B k n i : Nat) (h : i ≤ k) : (digs B k n)[i]? = some (n / B ^ (k - i) % B) := by
  induction k generalizing i with
  | zero => obtain rfl : i = 0 := by omega
            simp [digs]
  | succ k ih =>
    cases i with
    | zero => simp [digs]
    | succ i => simpa [digs] using ih i (by omega)
theorem digs_lt (B k n : Nat) (hB : 0 < B) : ∀ d ∈ digs B k n, d < B := by
  induction k with
  | zero => simp only [digs, List.mem_singleton]; rintro d rfl; exact Nat.mod_lt _ hB
  | succ k ih =>
    simp only [digs, List.mem_cons]
    rintro d (rfl | hd)
    · exact Nat.mod_lt _ hB
    · exact ih d hd
end Go.Proofs.YtofheinbbefbcaaDoor
/- The walks of numbers: which are numbers. -/
namespace Go.Proofs.YtofheinbbefbcaaDoor
open Go Go.RowKit
set_option maxRecDepth 100000

theorem is1_any (n : Int) (w : World) : Calls Tryd.prog 108 #[.int .i64 n] w fun e w' => e = .returned (.bool (badN n)) ∧ w' = w := by
  rcases Int.lt_or_le n 0 with hx | hx
  · have H := Lib.hid (badN_true.2 (.inl hx))
    go_enter Tryd.func108, Tryd.ntmps108
    go_wp2
    go_ret
    exact ⟨ret_bool (by rw [H.out]), rfl⟩
  · rcases Int.lt_or_le 1073741824 n with hy | hy
    · have H := Lib.hid (badN_true.2 (.inr hy))
      go_enter Tryd.func108, Tryd.ntmps108
      go_wp2
      go_ret
      exact ⟨ret_bool (by rw [H.out]; try (simp; try omega)), rfl⟩
    · have H := Lib.hid (badN_false.2 ⟨hx, hy⟩)
      go_enter Tryd.func108, Tryd.ntmps108
      go_wp2
      go_ret
      exact ⟨ret_bool (by rw [H.out]; try (simp; try omega)), rfl⟩

set_option maxHeartbeats 1000000 in
theorem index_any (A : Option Addr) (c : Nat) (l : List Int) (hl : l.length ≤ 1099511627776) (w : World) (hA : Rd w A (ivs l)) :
    Calls Tryd.prog 112 #[.slice A l.length c, .func (.func 108) #[] #[]] w fun e w' => ∃ r : Int, e = .returned (.int .i64 r) ∧ (-1 ≤ r ∧ r ≤ l.length) ∧ decide (0 ≤ r) = l.any badN ∧ w' = w := by
  go_enter Tryd.func112, Tryd.ntmps112
  go_wp2
  go_loop [5, 8] (fun _ i => ∃ k : Nat, k ≤ l.length ∧ i = .int .i64 k ∧ (l.take k).any badN = false) (fun _ i => l.length - (intOf i).toNat)
  case atStart => exact ⟨0, by omega, rfl, rfl⟩
  case round =>
    obtain ⟨k, hk, rfl, h0⟩ := hrel
    by_cases hk4 : k < l.length
    · obtain ⟨b, o, x, rfl, hb, hc, hx⟩ := hA.int hk4
      by_cases hbx : badN x = true
      · have Hx := Lib.hid hbx
        clear hbx
        go_wp2_with (go_at_call 108; refine (is1_any x _).mono ?_; rintro e w1 ⟨rfl, rfl⟩; rw [Hx.out])
        go_ret
        exact ⟨_, rfl, by omega, by rw [any_of_at l k x hx Hx.out]; simp, rfl⟩
      · have Hx := Lib.hid (show badN x = false by simpa using hbx)
        clear hbx
        go_wp2_with (go_at_call 108; refine (is1_any x _).mono ?_; rintro e w1 ⟨rfl, rfl⟩; rw [Hx.out])
        go_round
        case rel => exact ⟨k + 1, by omega, by go_num, any_take_succ l k x hx h0 Hx.out⟩
        case measure => simp [intOf]; omega
    · obtain rfl : k = l.length := by omega
      rw [List.take_length] at h0
      have H0 := Lib.hid h0
      clear h0
      go_wp2
      go_ret
      exact ⟨_, rfl, by omega, by rw [H0.out]; simp, rfl⟩

theorem contains_any (A : Option Addr) (c : Nat) (l : List Int) (hl : l.length ≤ 1099511627776) (w : World) (hA : Rd w A (ivs l)) :
    Calls Tryd.prog 107 #[.slice A l.length c, .func (.func 108) #[] #[]] w fun e w' => e = .returned (.bool (l.any badN)) ∧ w' = w := by
  obtain ⟨res, hres⟩ : ∃ r, r = l.any badN := ⟨_, rfl⟩
  rw [← hres]
  have Hr := Lib.hid hres
  clear hres
  go_enter Tryd.func107, Tryd.ntmps107
  go_wp2_with (go_at_call 112; refine (index_any A c l hl _ hA).mono ?_; rintro e w1 ⟨r, rfl, hr, hd, rfl⟩; rw [← Hr.out] at hd; replace hd := Lib.hid hd)
  go_ret
  exact ⟨ret_bool (by rw [← hd.out]; try simp), rfl⟩

theorem is_any (A : Option Addr) (n c : Nat) (l : List Int) (hn : n = l.length) (hl : l.length ≤ 1099511627776) (w : World) (hA : Rd w A (ivs l)) :
    Calls Tryd.prog 88 #[.slice A n c] w fun e w' => e = .returned (.bool (isN l)) ∧ w' = w := by
  subst hn
  have H := Lib.hid (show isN l = !(l.any badN) from rfl)
  go_enter Tryd.func88, Tryd.ntmps88
  go_wp2_with (go_at_call 107; refine (contains_any A c l hl _ hA).mono ?_; rintro e w1 ⟨rfl, rfl⟩)
  go_ret
  exact ⟨ret_bool (by rw [H.out]), rfl⟩

end Go.Proofs.YtofheinbbefbcaaDoor
/- The walks of numbers: the iterator over digits. -/
namespace Go.Proofs.YtofheinbbefbcaaDoor
open Go Go.RowKit Go.Shelf
set_option maxRecDepth 100000
attribute [local go_sem] Oper.semAt_some

theorem elemB : Elem Tryd.prog 23 5 (.int .u8 0) 1 1 := ⟨Tryd.underlying23, by kernel_rfl, rfl, by omega⟩
set_option maxHeartbeats 400000 in
theorem nclone_any (A : Option Addr) (c : Nat) (l : List UInt8) (hl : l.length ≤ 1099511627776) (w : World) (hA : Rd w A (bvs l)) :
    Calls Tryd.prog 89 #[.slice A l.length c] w fun e w' => ∃ v, e = .returned v ∧ w'.ownsRow w.heap.size 5 1 v l.length (bvs l) ∧ Below w.heap.size w w' := by
  rcases A with _ | ad
  · obtain rfl : l = [] := hA.none_bytes
    have en := Lib.run_eql_slice_nil (P := Tryd.prog) w 23 5 none 0 c 0 0 Tryd.underlying23
    go_enter Tryd.func89, Tryd.ntmps89
    go_wp2
    go_returns
    exact ⟨_, rfl, World.ownsRow_nil _ _ _ _, Below.refl _ _⟩
  · have en := Lib.run_eql_slice_nil (P := Tryd.prog) w 23 5 (some ad) l.length c 0 0 Tryd.underlying23
    have hown0 := World.ownsRow_lit (base := w.heap.size) (e := 5) (size := 1) w #[] 0 (Nat.le_refl _) (by simp [maxLen]) rfl
    go_enter Tryd.func89, Tryd.ntmps89
    go_wp2_with (at_builtin; refine list_append_rd (news := bvs l) rfl (.tmp 5) (.tmp 6) rfl elemB rfl hown0 rfl (by rw [bvs_length]; omega) (hA.below ((Below.refl _ _).alloc (Nat.le_refl _) _)) (bvs_one l) (by unfold maxLen; omega) (by omega) (by simp) ?_; intro v' w1 hown hg _)
    go_returns
    refine ⟨v', rfl, by simpa using hown, bGrow ((Below.refl _ _).alloc (Nat.le_refl _) _) hg (by simp) hown0⟩

theorem digits_any (n b m : Int) (f : Bool) (w : World) :
    Calls Tryd.prog 81 #[.int .i64 n, .int .i64 b, .int .i64 m, .bool f] w fun e w' =>
      e = .returned (.func (.func 100) #[] #[.pointer (some ⟨w.heap.size + 2, 0, none⟩), .pointer (some ⟨w.heap.size, 0, none⟩), .pointer (some ⟨w.heap.size + 1, 0, none⟩), .pointer (some ⟨w.heap.size + 3, 0, none⟩)]) ∧
      w' = (((w.alloc (.cells #[.int .i64 n] 3)).alloc (.cells #[.int .i64 b] 3)).alloc (.cells #[.int .i64 m] 3)).alloc (.cells #[.bool f] 4) := by
  go_enter Tryd.func81, Tryd.ntmps81
  go_wp2
  go_ret
  exact ⟨by simp [Nat.add_assoc], rfl⟩
end Go.Proofs.YtofheinbbefbcaaDoor
/- The walks of numbers: the iterator over digits. (Printed by gen_digs.py.) -/
namespace Go.Proofs.YtofheinbbefbcaaDoor
open Go Go.RowKit Go.Shelf
set_option maxRecDepth 100000
attribute [local go_sem] Oper.semAt_some

theorem low_and (x : Int) (h0 : 0 ≤ x) (h1 : x < 1099511627776) (p : Nat) (hp : p ≤ 8) : bits BinOp.and IntKind.i64 x (2 ^ p - 1) = x % 2 ^ p :=
  bits_mask .i64 63 (by decide) (fun n h0 h1 => by rw [IntKind.wrap_i64]; omega) p (by omega) x h0 (by omega)
theorem low_and8 (x : Int) (h0 : 0 ≤ x) (h1 : x < 1099511627776) : bits BinOp.and IntKind.i64 x 255 = x % 256 := low_and x h0 h1 8 (by decide)

set_option maxHeartbeats 8000000 in
theorem long1_iter (n M : Nat) (hn : n ≤ 1073741824) (w : World) (hM4 : w.heap.size = M + 4)
    (h0 : Box w M (.int .i64 n)) (h1 : Box w (M + 1) (.int .i64 8)) (h2 : Box w (M + 2) (.int .i64 5)) (h3 : Box w (M + 3) (.bool false)) :
    Iter Tryd.prog 100 #[.pointer (some ⟨M + 2, 0, none⟩), .pointer (some ⟨M, 0, none⟩), .pointer (some ⟨M + 1, 0, none⟩), .pointer (some ⟨M + 3, 0, none⟩)] (fun d : Nat => #[.int .u8 d]) (digs 256 4 n) 0 M w := by
  intro lr J Jx W hB hJ hJx hY hJ0
  have HY := Lib.hid hY
  have HJ := Lib.hid hJ
  have HJx := Lib.hid hJx
  clear hY hJ hJx
  refine callsIn_of_wp Tryd.func100 rfl trivial ?_ rfl
  simp only [Tryd.ntmps100, List.size_toArray, List.length_cons, List.length_nil, Nat.reduceAdd, Nat.reduceSub, Array.replicate_succ, Array.replicate_zero, List.push_toArray, List.append_toArray, List.nil_append, List.cons_append]
  refine scope_goto 0 (fun a w' => ∃ k : Nat, k ≤ 4 ∧ (∃ u7 u8 u9 u10 u11 u12 u13 u14 u15 u16 u17 u18 u19 u20 u21 u22 u23 u24 u25 u26 u27 u28 u29 u30 u31 u32 u33 u34 u35 u36 u37 u38 u39 u40 : Value, a = ⟨#[.func (.yield lr) #[] #[], .pointer (some ⟨M + 2, 0, none⟩), .pointer (some ⟨M, 0, none⟩), .pointer (some ⟨M + 1, 0, none⟩), .pointer (some ⟨M + 3, 0, none⟩), undef, .int .i64 (k : Int), u7, u8, u9, u10, u11, u12, u13, u14, u15, u16, u17, u18, u19, u20, u21, u22, u23, u24, u25, u26, u27, u28, u29, u30, u31, u32, u33, u34, u35, u36, u37, u38, u39, u40], []⟩) ∧ J (4 - k) w' ∧ Box w' (M + 3) (.bool false) ∧ KeepB (fun b => M ≤ b ∧ b < M + 3) w w') (fun a _ => (intOf (a.tmps.getD 6 undef)).toNat) rfl ?pass ?first
  case first =>
    intro hX
    have HX := Lib.hid hX
    clear hX
    obtain ⟨c2, f2⟩ := h2.below hB (by omega)
    gi_wp2
    refine wpIn_label ?_
    rename_i hgo
    refine hgo _ _ ?_
    exact HX.out _ _ ⟨4, by omega, ⟨_, _, _, _, _, _, _, _, _, _, _, _, _, _, _, _, _, _, _, _, _, _, _, _, _, _, _, _, _, _, _, _, _, _, rfl⟩, hJ0, h3.below hB (by omega), KeepB.of_below hB (fun _ _ h => by omega)⟩
  case pass =>
    rintro a w' ⟨k, hk, ⟨u7, u8, u9, u10, u11, u12, u13, u14, u15, u16, u17, u18, u19, u20, u21, u22, u23, u24, u25, u26, u27, u28, u29, u30, u31, u32, u33, u34, u35, u36, u37, u38, u39, u40, rfl⟩, hJk, hF, hK⟩
    obtain ⟨cF, fF⟩ := hF
    obtain ⟨c0, f0⟩ := h0.keep hK (by omega)
    obtain ⟨c1, f1⟩ := h1.keep hK (by omega)
    have hKF : KeepB (fun b => b ≠ M + 3) w' (w'.setCell ⟨M + 3, 0, none⟩ (.bool false)) := (KeepB.refl _ _).setCell (by simp) _
    have hFB : Box (w'.setCell ⟨M + 3, 0, none⟩ (.bool false)) (M + 3) (.bool false) := Box.set ⟨cF, fF⟩ _
    have hFz := hKF.size
    have hdg := digs_at 256 4 n (4 - k) (by omega)
    have hk5 : k = 4 ∨ k = 3 ∨ k = 2 ∨ k = 1 ∨ k = 0 := by omega
    have hJ2 := HJ.out _ _ _ hJk (hKF.sub (fun b _ h => by omega))
    have hwz := hK.size
    rcases hk5 with rfl | rfl | rfl | rfl | rfl
    · have eD : ((n / 256 ^ (4 - (4 - 4)) % 256 : Nat) : Int) = 0 := by simp only [Nat.reducePow, Nat.reduceSub]; omega
      obtain ⟨fn, tmps, assign, body, hy, hR⟩ := HY.out _ _ _ hdg hJ2 (Nat.le_trans hK.size hKF.size)
      dsimp only at hy
      rw [eD] at hy
      have eL := low_and8 0 (by omega) (by omega)
      clear eD hdg
      gi_wp2
      refine hR.mono ?_
      rintro e W3 (⟨rfl, hJ3, hk3⟩ | ⟨rfl, hJx3, hk3⟩)
      · gi_wp2
        refine wpIn_goto ?_
        refine ⟨rfl, ⟨3, by omega, ⟨_, _, _, _, _, _, _, _, _, _, _, _, _, _, _, _, _, _, _, _, _, _, _, _, _, _, _, _, _, _, _, _, _, _, rfl⟩, hJ3, hFB.keep hk3 (by omega), (hK.trans (hKF.sub (fun b _ h => by omega))).trans (hk3.sub (fun b _ h => by omega))⟩, by simp [intOf]⟩
      · gi_wp2
        simp only [Exit.jump]
        refine bodyPost_ret (results_none rfl _ _ _) rfl ⟨⟨_, rfl⟩, .inr hJx3⟩
    · rcases Int.lt_or_le 0 ((n : Int) / 16777216) with hd | hd
      · have hd2 : ((n : Int) / 16777216 == 0) = false := by simp only [beq_eq_false_iff_ne]; omega
        have eD : ((n / 256 ^ (4 - (4 - 3)) % 256 : Nat) : Int) = (n : Int) / 16777216 % 256 := by simp only [Nat.reducePow, Nat.reduceSub]; omega
        obtain ⟨fn, tmps, assign, body, hy, hR⟩ := HY.out _ _ _ hdg hJ2 (Nat.le_trans hK.size hKF.size)
        dsimp only at hy
        rw [eD] at hy
        have eL := low_and8 ((n : Int) / 16777216) (by omega) (by omega)
        clear eD hdg
        gi_wp2
        refine hR.mono ?_
        rintro e W3 (⟨rfl, hJ3, hk3⟩ | ⟨rfl, hJx3, hk3⟩)
        · gi_wp2
          refine wpIn_goto ?_
          refine ⟨rfl, ⟨2, by omega, ⟨_, _, _, _, _, _, _, _, _, _, _, _, _, _, _, _, _, _, _, _, _, _, _, _, _, _, _, _, _, _, _, _, _, _, rfl⟩, hJ3, hFB.keep hk3 (by omega), (hK.trans (hKF.sub (fun b _ h => by omega))).trans (hk3.sub (fun b _ h => by omega))⟩, by simp [intOf]⟩
        · gi_wp2
          simp only [Exit.jump]
          refine bodyPost_ret (results_none rfl _ _ _) rfl ⟨⟨_, rfl⟩, .inr hJx3⟩
      · have hd2 : (n : Int) / 16777216 = 0 := by omega
        clear hd
        have eD : ((n / 256 ^ (4 - (4 - 3)) % 256 : Nat) : Int) = 0 := by simp only [Nat.reducePow, Nat.reduceSub]; omega
        obtain ⟨fn, tmps, assign, body, hy, hR⟩ := HY.out _ _ _ hdg hJ2 (Nat.le_trans hK.size hKF.size)
        dsimp only at hy
        rw [eD] at hy
        have eL := low_and8 0 (by omega) (by omega)
        clear eD hdg
        gi_wp2
        refine hR.mono ?_
        rintro e W3 (⟨rfl, hJ3, hk3⟩ | ⟨rfl, hJx3, hk3⟩)
        · gi_wp2
          refine wpIn_goto ?_
          refine ⟨rfl, ⟨2, by omega, ⟨_, _, _, _, _, _, _, _, _, _, _, _, _, _, _, _, _, _, _, _, _, _, _, _, _, _, _, _, _, _, _, _, _, _, rfl⟩, hJ3, hFB.keep hk3 (by omega), (hK.trans (hKF.sub (fun b _ h => by omega))).trans (hk3.sub (fun b _ h => by omega))⟩, by simp [intOf]⟩
        · gi_wp2
          simp only [Exit.jump]
          refine bodyPost_ret (results_none rfl _ _ _) rfl ⟨⟨_, rfl⟩, .inr hJx3⟩
    · rcases Int.lt_or_le 0 ((n : Int) / 65536) with hd | hd
      · have hd2 : ((n : Int) / 65536 == 0) = false := by simp only [beq_eq_false_iff_ne]; omega
        have eD : ((n / 256 ^ (4 - (4 - 2)) % 256 : Nat) : Int) = (n : Int) / 65536 % 256 := by simp only [Nat.reducePow, Nat.reduceSub]; omega
        obtain ⟨fn, tmps, assign, body, hy, hR⟩ := HY.out _ _ _ hdg hJ2 (Nat.le_trans hK.size hKF.size)
        dsimp only at hy
        rw [eD] at hy
        have eL := low_and8 ((n : Int) / 65536) (by omega) (by omega)
        clear eD hdg
        gi_wp2
        refine hR.mono ?_
        rintro e W3 (⟨rfl, hJ3, hk3⟩ | ⟨rfl, hJx3, hk3⟩)
        · gi_wp2
          refine wpIn_goto ?_
          refine ⟨rfl, ⟨1, by omega, ⟨_, _, _, _, _, _, _, _, _, _, _, _, _, _, _, _, _, _, _, _, _, _, _, _, _, _, _, _, _, _, _, _, _, _, rfl⟩, hJ3, hFB.keep hk3 (by omega), (hK.trans (hKF.sub (fun b _ h => by omega))).trans (hk3.sub (fun b _ h => by omega))⟩, by simp [intOf]⟩
        · gi_wp2
          simp only [Exit.jump]
          refine bodyPost_ret (results_none rfl _ _ _) rfl ⟨⟨_, rfl⟩, .inr hJx3⟩
      · have hd2 : (n : Int) / 65536 = 0 := by omega
        clear hd
        have eD : ((n / 256 ^ (4 - (4 - 2)) % 256 : Nat) : Int) = 0 := by simp only [Nat.reducePow, Nat.reduceSub]; omega
        obtain ⟨fn, tmps, assign, body, hy, hR⟩ := HY.out _ _ _ hdg hJ2 (Nat.le_trans hK.size hKF.size)
        dsimp only at hy
        rw [eD] at hy
        have eL := low_and8 0 (by omega) (by omega)
        clear eD hdg
        gi_wp2
        refine hR.mono ?_
        rintro e W3 (⟨rfl, hJ3, hk3⟩ | ⟨rfl, hJx3, hk3⟩)
        · gi_wp2
          refine wpIn_goto ?_
          refine ⟨rfl, ⟨1, by omega, ⟨_, _, _, _, _, _, _, _, _, _, _, _, _, _, _, _, _, _, _, _, _, _, _, _, _, _, _, _, _, _, _, _, _, _, rfl⟩, hJ3, hFB.keep hk3 (by omega), (hK.trans (hKF.sub (fun b _ h => by omega))).trans (hk3.sub (fun b _ h => by omega))⟩, by simp [intOf]⟩
        · gi_wp2
          simp only [Exit.jump]
          refine bodyPost_ret (results_none rfl _ _ _) rfl ⟨⟨_, rfl⟩, .inr hJx3⟩
    · rcases Int.lt_or_le 0 ((n : Int) / 256) with hd | hd
      · have hd2 : ((n : Int) / 256 == 0) = false := by simp only [beq_eq_false_iff_ne]; omega
        have eD : ((n / 256 ^ (4 - (4 - 1)) % 256 : Nat) : Int) = (n : Int) / 256 % 256 := by simp only [Nat.reducePow, Nat.reduceSub]; omega
        obtain ⟨fn, tmps, assign, body, hy, hR⟩ := HY.out _ _ _ hdg hJ2 (Nat.le_trans hK.size hKF.size)
        dsimp only at hy
        rw [eD] at hy
        have eL := low_and8 ((n : Int) / 256) (by omega) (by omega)
        clear eD hdg
        gi_wp2
        refine hR.mono ?_
        rintro e W3 (⟨rfl, hJ3, hk3⟩ | ⟨rfl, hJx3, hk3⟩)
        · gi_wp2
          refine wpIn_goto ?_
          refine ⟨rfl, ⟨0, by omega, ⟨_, _, _, _, _, _, _, _, _, _, _, _, _, _, _, _, _, _, _, _, _, _, _, _, _, _, _, _, _, _, _, _, _, _, rfl⟩, hJ3, hFB.keep hk3 (by omega), (hK.trans (hKF.sub (fun b _ h => by omega))).trans (hk3.sub (fun b _ h => by omega))⟩, by simp [intOf]⟩
        · gi_wp2
          simp only [Exit.jump]
          refine bodyPost_ret (results_none rfl _ _ _) rfl ⟨⟨_, rfl⟩, .inr hJx3⟩
      · have hd2 : (n : Int) / 256 = 0 := by omega
        clear hd
        have eD : ((n / 256 ^ (4 - (4 - 1)) % 256 : Nat) : Int) = 0 := by simp only [Nat.reducePow, Nat.reduceSub]; omega
        obtain ⟨fn, tmps, assign, body, hy, hR⟩ := HY.out _ _ _ hdg hJ2 (Nat.le_trans hK.size hKF.size)
        dsimp only at hy
        rw [eD] at hy
        have eL := low_and8 0 (by omega) (by omega)
        clear eD hdg
        gi_wp2
        refine hR.mono ?_
        rintro e W3 (⟨rfl, hJ3, hk3⟩ | ⟨rfl, hJx3, hk3⟩)
        · gi_wp2
          refine wpIn_goto ?_
          refine ⟨rfl, ⟨0, by omega, ⟨_, _, _, _, _, _, _, _, _, _, _, _, _, _, _, _, _, _, _, _, _, _, _, _, _, _, _, _, _, _, _, _, _, _, rfl⟩, hJ3, hFB.keep hk3 (by omega), (hK.trans (hKF.sub (fun b _ h => by omega))).trans (hk3.sub (fun b _ h => by omega))⟩, by simp [intOf]⟩
        · gi_wp2
          simp only [Exit.jump]
          refine bodyPost_ret (results_none rfl _ _ _) rfl ⟨⟨_, rfl⟩, .inr hJx3⟩
    · rcases Int.lt_or_le 0 ((n : Int)) with hd | hd
      · have hd2 : ((n : Int) == 0) = false := by simp only [beq_eq_false_iff_ne]; omega
        have eD : ((n / 256 ^ (4 - (4 - 0)) % 256 : Nat) : Int) = (n : Int) % 256 := by simp only [Nat.reducePow, Nat.reduceSub]; omega
        obtain ⟨fn, tmps, assign, body, hy, hR⟩ := HY.out _ _ _ hdg hJ2 (Nat.le_trans hK.size hKF.size)
        dsimp only at hy
        rw [eD] at hy
        have eL := low_and8 (n : Int) (by omega) (by omega)
        clear eD hdg
        gi_wp2
        refine hR.mono ?_
        rintro e W3 (⟨rfl, hJ3, hk3⟩ | ⟨rfl, hJx3, hk3⟩)
        · gi_wp2
          simp only [Exit.jump]
          refine bodyPost_ret (results_none rfl _ _ _) rfl ⟨⟨_, rfl⟩, .inl ?_⟩
          rw [digs_length]
          exact hJ3
        · gi_wp2
          simp only [Exit.jump]
          refine bodyPost_ret (results_none rfl _ _ _) rfl ⟨⟨_, rfl⟩, .inr hJx3⟩
      · have hd2 : (n : Int) = 0 := by omega
        clear hd
        obtain rfl : n = 0 := by omega
        have eD : ((0 / 256 ^ (4 - (4 - 0)) % 256 : Nat) : Int) = 0 := by simp only [Nat.reducePow, Nat.reduceSub]; omega
        obtain ⟨fn, tmps, assign, body, hy, hR⟩ := HY.out _ _ _ hdg hJ2 (Nat.le_trans hK.size hKF.size)
        dsimp only at hy
        rw [eD] at hy
        have eL := low_and8 0 (by omega) (by omega)
        clear eD hdg
        gi_wp2
        refine hR.mono ?_
        rintro e W3 (⟨rfl, hJ3, hk3⟩ | ⟨rfl, hJx3, hk3⟩)
        · gi_wp2
          simp only [Exit.jump]
          refine bodyPost_ret (results_none rfl _ _ _) rfl ⟨⟨_, rfl⟩, .inl ?_⟩
          rw [digs_length]
          exact hJ3
        · gi_wp2
          simp only [Exit.jump]
          refine bodyPost_ret (results_none rfl _ _ _) rfl ⟨⟨_, rfl⟩, .inr hJx3⟩

end Go.Proofs.YtofheinbbefbcaaDoor
/- The walks of numbers: a number's long bytes, put behind others. -/
namespace Go.Proofs.YtofheinbbefbcaaDoor
open Go Go.RowKit Go.Shelf
set_option maxRecDepth 100000
attribute [local go_sem] Oper.semAt_some

theorem ownsRow_keepO {S : Nat → Prop} {w w' : World} {base : Nat} {e : TypeId} {size : Nat} {v : Value} {n : Nat} {xs : List Value} (h : w.ownsRow base e size v n xs) (hk : KeepB S w w') (hs : ∀ b, v.ownBlock = some b → S b) : w'.ownsRow base e size v n xs := by
  obtain ⟨hl, h2⟩ := h
  refine ⟨hl, ?_⟩
  rcases h2 with h2 | ⟨g, cap, cur, rfl, h3, h4, h5, h6, h7⟩
  · exact .inl h2
  · exact .inr ⟨g, cap, cur, rfl, h3, hk.heap (hs g rfl) h4, h5, h6, h7⟩
theorem nkeepT {w w' : World} (h : Below w.heap.size w w') : KeepB (fun _ => True) w w' := KeepB.of_below h (fun _ hk _ => hk)
theorem ownsRow_keep' {w w' : World} {base : Nat} {e : TypeId} {size : Nat} {v : Value} {n : Nat} {xs : List Value} (h : w.ownsRow base e size v n xs) (hk : KeepB (fun _ => True) w w') : w'.ownsRow base e size v n xs := ownsRow_keepO h hk (fun _ _ => trivial)
/-- The row's block is either below a or from b on. -/
def Off (v : Value) (a b : Nat) : Prop := ∀ g, v.ownBlock = some g → g < a ∨ b ≤ g
theorem Off.out {v : Value} {a : Nat} (h : Off v a (a + 7)) {x : Nat} (hx : v.ownBlock = some x) (hh : x = a ∨ (a + 1 ≤ x ∧ x < a + 7)) : False := by
  have := h x hx; omega
theorem Off.loc {v v' : Value} {a b s : Nat} (h : Off v a b) (hl : v'.ownBlock = v.ownBlock ∨ v'.ownBlock = some s) (hs : b ≤ s) : Off v' a b := fun g hg => by
  rcases hl with hl | hl
  · exact h g (hl.symm.trans hg)
  · obtain rfl : s = g := Option.some.inj (hl.symm.trans hg)
    exact .inr hs

theorem toB_bv (d : Nat) (h : d < 256) : bv (UInt8.ofNat d) = .int .u8 (d : Int) := by
  simp only [bv, UInt8.toNat_ofNat', Nat.reducePow]
  rw [Nat.mod_eq_of_lt h]

set_option maxHeartbeats 4000000 in
theorem longOne_any (n : Nat) (hn : n ≤ 1073741824) (B : Nat) (v : Value) (l : List UInt8) (hl : l.length ≤ 1099511627000) (w : World) (hBw : B ≤ w.heap.size) (hown : w.ownsRow B 5 1 v l.length (bvs l)) :
    Calls Tryd.prog 80 #[v, .int .i64 n] w fun e w' => ∃ v', e = .returned v' ∧ w'.ownsRow B 5 1 v' (l.length + 5) (bvs (l ++ long1 n)) ∧ Below B w w' := by
  have hlt0 : ∀ g, v.ownBlock = some g → g < w.heap.size := fun g hg => (hown.lt g hg).2
  obtain ⟨Av, cv, rfl, hlc, hcm⟩ := own_slice hown
  have hb0 := Box.new w (.slice Av l.length cv) 23
  have hown0 := hown.alloc (.cells #[.slice Av l.length cv] 23)
  have hB0 : Below w.heap.size w (w.alloc (.cells #[.slice Av l.length cv] 23)) := (Below.refl _ _).alloc (Nat.le_refl _) _
  have hs0 : (w.alloc (.cells #[.slice Av l.length cv] 23)).heap.size = w.heap.size + 1 := by simp
  refine (callsIn_wide (n := 9)).1 (callsIn_of_wp_marks Tryd.func80 rfl trivial ?_ rfl)
  simp only [Tryd.ntmps80, List.size_toArray, List.length_cons, List.length_nil, Nat.reduceAdd, Nat.reduceSub, Array.replicate_succ, Array.replicate_zero, List.push_toArray, List.append_toArray, List.nil_append, List.cons_append]
  gi_wp2_with fail
  generalize w.alloc (.cells #[.slice Av l.length cv] 23) = W0 at *
  refine ⟨trivial, ?_⟩
  refine (callsIn_wide.2 (digits_any (n : Int) 8 5 false _)).mono ?_
  rintro e w' ⟨rfl, rfl⟩
  rw [hs0]
  have hN := Box.new W0 (.int .i64 n) 3
  have hD := Box.new ((W0.alloc (.cells #[.int .i64 n] 3)).alloc (.cells #[.int .i64 8] 3)) (.int .i64 5) 3
  have hE := Box.new (W0.alloc (.cells #[.int .i64 n] 3)) (.int .i64 8) 3
  have hF := Box.new (((W0.alloc (.cells #[.int .i64 n] 3)).alloc (.cells #[.int .i64 8] 3)).alloc (.cells #[.int .i64 5] 3)) (.bool false) 4
  replace hN := ((hN.alloc (.cells #[.int .i64 8] 3)).alloc (.cells #[.int .i64 5] 3)).alloc (.cells #[.bool false] 4)
  replace hE := (hE.alloc (.cells #[.int .i64 5] 3)).alloc (.cells #[.bool false] 4)
  replace hD := hD.alloc (.cells #[.bool false] 4)
  have hB1 : Below W0.heap.size W0 ((((W0.alloc (.cells #[.int .i64 n] 3)).alloc (.cells #[.int .i64 8] 3)).alloc (.cells #[.int .i64 5] 3)).alloc (.cells #[.bool false] 4)) :=
    ((((Below.refl _ _).alloc (Nat.le_refl _) _).alloc (by simp) _).alloc (by simp; omega) _).alloc (by simp; omega) _
  have hs1 : ((((W0.alloc (.cells #[.int .i64 n] 3)).alloc (.cells #[.int .i64 8] 3)).alloc (.cells #[.int .i64 5] 3)).alloc (.cells #[.bool false] 4)).heap.size = w.heap.size + 1 + 4 := by simp [hs0]
  simp only [World.size_alloc, hs0] at hN hE hD hF
  generalize (((W0.alloc (.cells #[.int .i64 n] 3)).alloc (.cells #[.int .i64 8] 3)).alloc (.cells #[.int .i64 5] 3)).alloc (.cells #[.bool false] 4) = W1 at *
  have hV := hb0.keep (nkeepT hB1) trivial
  have hown1 := ownsRow_keep' hown0 (nkeepT hB1)
  have hBB := bTr hB0 (hB1.mono (by omega))
  clear hb0 hown0 hB0 hB1
  gi_wp2
  refine range_law (n₀ := 0) (M := w.heap.size + 1) (xs := digs 256 4 n) (encs := fun d : Nat => #[.int .u8 d]) rfl (enters_of Tryd.func100 (by kernel_rfl) rfl)
    (long1_iter n (w.heap.size + 1) hn W1 hs1 hN hE hD hF) (by omega) (by omega) (fun _ => rfl)
    (fun k W => (∃ v, Box W w.heap.size v ∧ W.ownsRow B 5 1 v (l.length + k) (bvs (l ++ toB ((digs 256 4 n).take k))) ∧ Off v w.heap.size (w.heap.size + 7)) ∧ Below B w W ∧ w.heap.size ≤ W.heap.size) (fun _ _ => False)
    (fun k A B' h hk => ⟨h.1.imp fun v hv => ⟨hv.1.keep hk (by omega), ownsRow_keepO hv.2.1 hk (fun b hb => by have := hv.2.2 b hb; omega), hv.2.2⟩, below_keep h.2.1 hk (Nat.le_trans hBw h.2.2) (fun _ _ => by omega), Nat.le_trans h.2.2 hk.size⟩) (fun _ _ _ h _ => h) ⟨⟨_, hV, by simpa [toB] using hown1, fun g hg => .inl (hlt0 g hg)⟩, hBB.mono hBw, by omega⟩ ?round ?done (fun _ _ h _ => h.elim)
  case round =>
    intro lr k y A1 hy hI hsz
    have hy5 := digs_lt 256 4 n (by omega) y (List.mem_of_getElem? hy)
    have hkl : k < 5 := by have := (List.getElem?_eq_some_iff.1 hy).1; rwa [digs_length] at this
    have htk : toB ((digs 256 4 n).take (k + 1)) = toB ((digs 256 4 n).take k) ++ [UInt8.ofNat y] := by
      rw [List.take_add_one]; simp [toB, hy]
    have Hy := Lib.hid htk
    have Hb := Lib.hid (toB_bv y hy5)
    clear htk hy hI
    gi_wp2
    refine ⟨KeepB.refl _ _, fun A2 hk2 hI2 => ?_⟩
    obtain ⟨⟨v, hV, hown, hoff⟩, hB, hzz⟩ := hI2
    have hz2 := hk2.size
    have hVl := hV.lt
    obtain ⟨cV, fV⟩ := hV
    have hA3 : Rd (A2.alloc (.cells #[.int .u8 y] 5)) (some ⟨A2.heap.size, 0, none⟩) (bvs [UInt8.ofNat y]) := by
      have := Rd.new A2 [.int .u8 (y : Int)] 5
      rw [← Hb.out] at this ⊢
      exact this
    obtain ⟨Av, cv, rfl, _⟩ := own_slice hown
    gi_wp2_with (refine listIn_append_rd (news := bvs [UInt8.ofNat y]) rfl (.tmp 9) (.tmp 11) rfl elemB rfl (hown.alloc _) rfl rfl hA3 (bvs_one _) (by unfold maxLen; omega) (by omega) (by simp; omega) ?_; intro v' w' hown' hg hloc; obtain ⟨A', c', rfl, _⟩ := own_slice hown'; have hkb : KeepB (fun b => b = w.heap.size ∨ (w.heap.size + 1 ≤ b ∧ b < w.heap.size + 7)) A2 w' := ((KeepB.refl _ A2).alloc _).grown hg fun x hx _ hh => Off.out hoff hx hh; have hoff' := Off.loc hoff hloc (by simp; omega); have hB' := Below.grown (hB.alloc (Nat.le_trans hBw hzz) _) hg (Nat.le_trans hBw (by simp; omega)) (fun k hk => (hown.lt k hk).1); clear hloc hg; have cV' := hkb.cell (p := ⟨w.heap.size, 0, none⟩) (.inl rfl) cV; have fV' := (hkb.frozen (p := ⟨w.heap.size, 0, none⟩) hVl (.inl rfl)).trans fV)
    have hk3 : KeepB (fun b => b ≠ w.heap.size) w' (w'.setCell ⟨w.heap.size, 0, none⟩ (.slice A' (l.length + k + 1) c')) := (KeepB.refl _ _).setCell (by simp) _
    refine ⟨(hkb.sub fun _ _ _ => by omega).trans (hk3.sub fun _ _ _ => by omega), ⟨_, Box.set ⟨cV', fV'⟩ _, ?_, hoff'⟩, ?_, ?_⟩
    · rw [Hy.out, ← List.append_assoc, bvs_append]
      refine ownsRow_keepO hown' hk3 fun b hb => ?_
      have := hoff' b hb
      omega
    · exact below_keep hB' hk3 (by have := hkb.size; omega) (fun _ _ => by omega)
    · have := hkb.size; have := hk3.size; omega
  case done =>
    intro A1 hI hD
    rw [digs_length] at hI
    obtain ⟨⟨v, ⟨cV, fV⟩, hown, hoff⟩, hB, hzz⟩ := hI
    obtain ⟨Av, cv, rfl, _⟩ := own_slice hown
    gi_wp2
    rw [hs1] at hD ⊢
    refine ⟨by simp, .inl ⟨_, _, rfl, run_takeDeferred hD, ?_⟩⟩
    have hk3 : KeepB (fun k => k ≠ w.heap.size + 1 + 4) A1 (A1.putObj (w.heap.size + 1 + 4) (Obj.deferred none)) := (KeepB.refl _ _).putObj _ _ (by simp)
    refine ⟨_, results_tmp rfl _ _ _, _, rfl, ?_, ?_⟩
    · have e1 : toB ((digs 256 4 n).take (4 + 1)) = long1 n := by rw [List.take_of_length_le (by rw [digs_length]; omega)]; rfl
      rw [e1] at hown
      exact ownsRow_keepO hown hk3 fun b hb => by have := hoff b hb; omega
    · exact below_keep hB hk3 (by omega) (fun _ _ => by omega)
end Go.Proofs.YtofheinbbefbcaaDoor
/- The walks of numbers: a number's short bytes, put behind others. -/
namespace Go.Proofs.YtofheinbbefbcaaDoor
open Go Go.RowKit Go.Shelf
set_option maxRecDepth 100000
attribute [local go_sem] Oper.semAt_some

end Go.Proofs.YtofheinbbefbcaaDoor
/- The walks of numbers: put, Long, Short. -/
namespace Go.Proofs.YtofheinbbefbcaaDoor
open Go Go.RowKit
set_option maxRecDepth 100000

theorem perL_succ (per : Nat → List UInt8) (l : List Int) (k : Nat) (x : Int) (h : l[k]? = some x) : (l.take (k + 1)).flatMap (fun n => per n.toNat) = (l.take k).flatMap (fun n => per n.toNat) ++ per x.toNat := by
  rw [List.take_add_one, h]; simp
theorem perL_le (per : Nat → List UInt8) (hp : ∀ n, (per n).length ≤ 5) (l : List Int) (k : Nat) : ((l.take k).flatMap (fun n => per n.toNat)).length ≤ 5 * k := by
  rw [List.length_flatMap]
  have : ∀ m : List Int, (m.map fun n => (per n.toNat).length).sum ≤ 5 * m.length := by
    intro m
    induction m with
    | nil => simp
    | cons a m ih => have := hp a.toNat; simp only [List.map_cons, List.sum_cons, List.length_cons]; omega
  have h2 := this (l.take k)
  have h3 := List.length_take_le k l
  omega
theorem isN_at {l : List Int} (h : isN l = true) {k : Nat} {x : Int} (hx : l[k]? = some x) : 0 ≤ x ∧ x ≤ 1073741824 := by
  have h1 : l.any badN = false := by simpa [isN] using h
  have := List.any_eq_false.1 h1 x (List.mem_of_getElem? hx)
  exact badN_false.1 (by simpa using this)
theorem long1_len (n : Nat) : (long1 n).length = 5 := by simp [long1, toB, digs_length]
theorem long1_le (n : Nat) : (long1 n).length ≤ 5 := by rw [long1_len]; omega
theorem oneLong_any (x : Int) (n : Nat) (hx : x = n) (hn : n ≤ 1073741824) (B : Nat) (v : Value) (l : List UInt8) (hl : l.length ≤ 1099511627000) (w : World) (hBw : B ≤ w.heap.size) (hown : w.ownsRow B 5 1 v l.length (bvs l)) :
    Calls Tryd.prog 80 #[v, .int .i64 x] w fun e w' => ∃ v', e = .returned v' ∧ w'.ownsRow B 5 1 v' (l ++ long1 n).length (bvs (l ++ long1 n)) ∧ Below B w w' := by
  subst hx
  have := longOne_any n hn B v l hl w hBw hown
  rw [List.length_append, long1_len]
  exact this

set_option maxHeartbeats 1000000 in
theorem putLong_any (A : Option Addr) (n c : Nat) (l : List Int) (hn : n = l.length) (hl : l.length ≤ 1000000) (w : World) (hA : Rd w A (ivs l)) :
    Calls Tryd.prog 79 #[.slice A n c, .func (.func 80) #[] #[]] w fun e w' => ∃ v, e = .returned (.tuple #[v, .int .i64 (errN l)]) ∧
      w'.ownsRow w.heap.size 5 1 v (longR l).length (bvs (longR l)) ∧ Below w.heap.size w w' := by
  subst hn
  by_cases hN : isN l = true
  · rw [show longR l = longL l from if_pos hN, show errN l = 0 from if_pos hN]
    have HN := Lib.hid hN
    clear hN
    go_enter Tryd.func79, Tryd.ntmps79
    go_wp2_with (go_at_call 88; refine (is_any A _ c l rfl (by omega) _ hA).mono ?_; rintro e w1 ⟨rfl, rfl⟩; rw [HN.out])
    go_loopw [4, 13] (fun t i wr => ∃ k : Nat, k ≤ l.length ∧ i = .int .i64 k ∧ wr.ownsRow w1.heap.size 5 1 t ((l.take k).flatMap fun n => long1 n.toNat).length (bvs ((l.take k).flatMap fun n => long1 n.toNat)) ∧ Below w1.heap.size w1 wr) (fun _ i _ => l.length - (intOf i).toNat)
    case atStart => exact ⟨0, by omega, rfl, World.ownsRow_nil _ _ _ _, Below.refl _ _⟩
    case round =>
      obtain ⟨k, hk, rfl, hown, hB⟩ := hrel
      have hle := perL_le long1 long1_le l k
      by_cases hk4 : k < l.length
      · obtain ⟨b, o, x, rfl, hb, hc, hx⟩ := (hA.below hB).int hk4
        have hxn := isN_at HN.out hx
        have Hs := Lib.hid (perL_succ long1 l k x hx)
        have hBz := hB.size
        clear hx
        obtain ⟨rw, hrw⟩ : ∃ r, r = (l.take k).flatMap fun n => long1 n.toNat := ⟨_, rfl⟩
        rw [← hrw] at hown hle Hs
        clear hrw
        go_wp2_with (go_at_call 80; refine (oneLong_any x x.toNat (by omega) (by omega) w1.heap.size _ rw (by omega) _ (by simpa using hBz) hown).mono ?_; rintro e w2 ⟨v2, rfl, hown2, hB2⟩)
        go_roundw
        case rel => exact ⟨k + 1, by omega, by go_num, by rw [Hs.out]; exact hown2, hB.trans hB2⟩
        case measure => simp [intOf]; omega
      · obtain rfl : k = l.length := by omega
        rw [List.take_length] at hown
        go_wp2
        go_returns
        exact ⟨_, rfl, hown, hB⟩
  · rw [show longR l = [] from if_neg hN, show errN l = 2 from if_neg hN]
    have HN := Lib.hid (show isN l = false by simpa using hN)
    clear hN
    go_enter Tryd.func79, Tryd.ntmps79
    go_wp2_with (go_at_call 88; refine (is_any A _ c l rfl (by omega) _ hA).mono ?_; rintro e w1 ⟨rfl, rfl⟩; rw [HN.out])
    go_returns
    exact ⟨_, rfl, World.ownsRow_nil _ _ _ _, Below.refl _ _⟩

end Go.Proofs.YtofheinbbefbcaaDoor
/- The walks of numbers: Long, Short. -/
namespace Go.Proofs.YtofheinbbefbcaaDoor
open Go Go.RowKit
set_option maxRecDepth 100000

set_option maxHeartbeats 200000 in
theorem long_any (A : Option Addr) (n c : Nat) (l : List Int) (hn : n = l.length) (hl : l.length ≤ 1000000) (w : World) (hA : Rd w A (ivs l)) :
    Calls Tryd.prog 49 #[.slice A n c] w fun e w' => ∃ v, e = .returned (.tuple #[v, .int .i64 (errN l)]) ∧
      w'.ownsRow w.heap.size 5 1 v (longR l).length (bvs (longR l)) ∧ Below w.heap.size w w' := by
  subst hn
  go_enter Tryd.func49, Tryd.ntmps49
  go_wp2_with (go_at_call 79; refine (putLong_any A _ c l rfl hl _ hA).mono ?_; rintro e w1 ⟨v1, rfl, hown1, hB1⟩)
  go_returns
  exact ⟨_, rfl, hown1, hB1⟩

theorem Rd.byte {w : World} {A : Option Addr} {l : List UInt8} (h : Rd w A (bvs l)) {k : Nat} (hk : k < l.length) :
    ∃ b o c, A = some ⟨b, o, none⟩ ∧ b < w.heap.size ∧ w.cell? ⟨b, o + k, none⟩ = some (.int .u8 ((UInt8.toNat c : Nat) : Int)) ∧ c.toNat < 256 ∧ l[k]? = some c := by
  have hu : (bvs l)[k]? = some (bv l[k]) := by simp [bvs, hk]
  obtain ⟨b, o, e, hb, hc⟩ := h k _ hu
  exact ⟨b, o, l[k], e, hb, hc, l[k].toNat_lt, by simp [hk]⟩
theorem Rd.cutF {w : World} {A : Option Addr} {xs : List Value} (h : Rd w A xs) {k c : Nat} (hc : xs.length ≤ c) : Rd w (if c = k then A else Option.map (fun x => (⟨x.block, x.off + k, none⟩ : Addr)) A) (xs.drop k) := by
  split
  · rw [List.drop_eq_nil_of_le (by omega)]; exact Rd.nil _ _
  · intro j u hj
    rw [List.getElem?_drop] at hj
    obtain ⟨b, o, rfl, hb, hc⟩ := h _ u hj
    exact ⟨b, o + k, rfl, hb, by rw [Nat.add_assoc]; exact hc⟩
theorem i64_or_nat (a b : Nat) (ha : a < 9223372036854775808) (hb : b < 9223372036854775808) : bits .or .i64 (a : Int) (b : Int) = ((a ||| b : Nat) : Int) := by
  have hx : a ||| b < 2 ^ 63 := Nat.or_lt_two_pow (by omega) (by omega)
  show IntKind.i64.wrap ((BitVec.ofInt 64 (a : Int) ||| BitVec.ofInt 64 (b : Int)).toNat : Int) = _
  rw [BitVec.toNat_or, ofInt_u64 a (by omega), ofInt_u64 b (by omega), IntKind.wrap_i64]
  omega
theorem or_low (x z : Nat) (hx : x < 4294967296) (hz : z < 256) : bits BinOp.or IntKind.i64 ((x : Int) * 256) (z : Int) = (x : Int) * 256 + z := by
  have := i64_or_nat (x * 256) z (by omega) (by omega)
  rw [nat_join 8 (x * 256) z (by omega) (by omega)] at this
  simpa using this
set_option maxHeartbeats 300000 in
theorem takeLong_any (A : Option Addr) (c : Nat) (l : List UInt8) (hl : l.length ≤ 1000000) (w : World) (hA : Rd w A (bvs l)) (hlc : l.length ≤ c) (hcm : c ≤ maxLen) :
    Calls Tryd.prog 54 #[.slice A l.length c] w fun e w' => ∃ v, e = .returned (.tuple #[.int .i64 (tlN l).1, v, .int .i64 (tlN l).2.2]) ∧
      w'.ownsRow w.heap.size 5 1 v (tlN l).2.1.length (bvs (tlN l).2.1) ∧ Below w.heap.size w w' := by
  by_cases h5 : l.length < 5
  · have H := Lib.hid (tlN_short l h5)
    go_enter Tryd.func54, Tryd.ntmps54
    go_wp2
    go_returns
    rw [H.out]
    exact ⟨_, rfl, World.ownsRow_nil _ _ _ _, Below.refl _ _⟩
  · have h5' : 5 ≤ l.length := by omega
    have H := Lib.hid (tlN_long l h5')
    clear h5
    go_enter Tryd.func54, Tryd.ntmps54
    go_wp2
    go_loopw [2, 13] (fun t i wr => ∃ k : Nat, k ≤ 5 ∧ i = .int .i64 k ∧ t = .int .i64 (valN (l.take k) : Nat) ∧ Below w.heap.size w wr) (fun _ i _ => 5 - (intOf i).toNat)
    case atStart => exact ⟨0, by omega, rfl, rfl, Below.refl _ _⟩
    case round =>
      obtain ⟨k, hk, rfl, rfl, hB⟩ := hrel
      have hlt := valN_lt (l.take k) k (List.length_take_le _ _)
      by_cases hk4 : k < 5
      · obtain ⟨b, o, ch, rfl, hb, hc, hch, hlk⟩ := (hA.below hB).byte (k := k) (by omega)
        have Hs := Lib.hid (show valN (l.take (k + 1)) = valN (l.take k) * 256 + ch.toNat from by rw [List.take_add_one, hlk]; exact valN_snoc _ _)
        have hx : valN (l.take k) < 4294967296 := Nat.lt_of_lt_of_le hlt (Nat.le_trans (Nat.pow_le_pow_right (by omega) (show k ≤ 4 by omega)) (by decide))
        clear hlt hlk
        generalize valN (l.take k) = x at *
        generalize ch.toNat = z at *
        have eO := or_low x z hx hch
        go_wp2
        exact ⟨⟨k + 1, by omega, by go_num, by rw [Hs.out]; simp, hB⟩, by simp [intOf]; omega⟩
      · obtain rfl : k = 5 := by omega
        have hx : valN (l.take 5) < 1099511627776 := Nat.lt_of_lt_of_le hlt (by decide)
        clear hlt
        generalize valN (l.take 5) = x at *
        have hrx : Rd (wr.alloc (.cells #[.int .i64 x] 3)) (some ⟨wr.heap.size, 0, none⟩) (ivs [(x : Int)]) := Rd.new wr _ _
        have hB1 : Below w.heap.size w (wr.alloc (.cells #[.int .i64 x] 3)) := hB.alloc hB.size _
        have hA5 := (hA.below hB1).cutF (k := 5) (c := c) (by rw [bvs_length]; exact hlc)
        rw [← bvs_drop] at hA5
        have hcl := nclone_any _ (c - 5) (l.drop 5) (by rw [List.length_drop]; omega) _ hA5
        rw [List.length_drop] at hcl
        by_cases hx2 : x ≤ 1073741824
        · have HN := Lib.hid (show isN [(x : Int)] = true by simp [isN, badN]; omega)
          rw [if_pos hx2] at H
          clear hA5 hlc hcm
          have Hl := Lib.hid (show (l.drop 5).length = l.length - 5 from List.length_drop)
          go_wp2_with (first | (go_at_call 88; refine (is_any _ 1 1 [(x : Int)] rfl (by simp) _ hrx).mono ?_; rintro e w1 ⟨rfl, rfl⟩; rw [HN.out]) | (go_at_call 89; refine hcl.mono ?_; rintro e w2 ⟨v2, rfl, hown2, hB2⟩))
          all_goals
            go_returns
            rw [H.out]
            refine ⟨_, rfl, ?_, hB1.trans (hB2.mono hB1.size)⟩
            dsimp only
            rw [Hl.out]
            exact own_base hown2 hB1.size
        · have HN := Lib.hid (show isN [(x : Int)] = false by simp [isN, badN]; omega)
          clear hA5 hB1 hlc hcm hA hcl
          rw [if_neg hx2] at H
          go_wp2_with (go_at_call 88; refine (is_any _ 1 1 [(x : Int)] rfl (by simp) _ hrx).mono ?_; rintro e w1 ⟨rfl, rfl⟩; rw [HN.out])
          go_returns
          rw [H.out]
          exact ⟨_, rfl, World.ownsRow_nil _ _ _ _, hB.alloc hB.size _⟩
end Go.Proofs.YtofheinbbefbcaaDoor
/- What is taken of short bytes: in plain Lean. -/
namespace Go.Proofs.YtofheinbbefbcaaDoor

end Go.Proofs.YtofheinbbefbcaaDoor
/- The walks of numbers: Take. -/
namespace Go.Proofs.YtofheinbbefbcaaDoor
open Go Go.RowKit Go.Shelf
set_option maxRecDepth 100000
attribute [local go_sem] Oper.semAt_some

end Go.Proofs.YtofheinbbefbcaaDoor
/- What is taken of short bytes, many at once: in plain Lean. -/
namespace Go.Proofs.YtofheinbbefbcaaDoor

end Go.Proofs.YtofheinbbefbcaaDoor
/- The walks of numbers: Takes. -/
namespace Go.Proofs.YtofheinbbefbcaaDoor
open Go Go.RowKit Go.Shelf
set_option maxRecDepth 100000

end Go.Proofs.YtofheinbbefbcaaDoor
/- The walks of numbers: rows of numbers held against each other. -/
namespace Go.Proofs.YtofheinbbefbcaaDoor
open Go Go.RowKit
set_option maxRecDepth 100000

end Go.Proofs.YtofheinbbefbcaaDoor
/- The walks of numbers: rows of numbers held against each other, and what wakes. -/
namespace Go.Proofs.YtofheinbbefbcaaDoor
open Go Go.RowKit
set_option maxRecDepth 100000

end Go.Proofs.YtofheinbbefbcaaDoor
/- The walks of the reference's numbers: Take, TakeLong, Takes. -/
namespace Go.Proofs.YtofheinbbefbcaaDoor
open Go Go.RowKit Go.Shelf
set_option maxRecDepth 100000

end Go.Proofs.YtofheinbbefbcaaDoor
/- The walks of the reference's numbers: TakeLong, Takes. -/
namespace Go.Proofs.YtofheinbbefbcaaDoor
open Go Go.RowKit Go.Shelf
set_option maxRecDepth 100000

end Go.Proofs.YtofheinbbefbcaaDoor
/- What is put in short bytes is taken; long bytes stand in order: in plain Lean. -/
namespace Go.Proofs.YtofheinbbefbcaaDoor
open Go
set_option maxRecDepth 100000

theorem ofN (d : Nat) (h : d < 256) : (UInt8.ofNat d).toNat = d := by simp [UInt8.toNat_ofNat', Nat.mod_eq_of_lt h]
end Go.Proofs.YtofheinbbefbcaaDoor
/- What is taken is put as the bytes that were there: in plain Lean. -/
namespace Go.Proofs.YtofheinbbefbcaaDoor
open Go
set_option maxRecDepth 100000

theorem ofNat_toNat' (c : UInt8) : UInt8.ofNat c.toNat = c := by simp
theorem tl_inv (l : List UInt8) (x : Int) (r : List UInt8) (h : tlN l = (x, r, 0)) : ∃ X : Nat, x = X ∧ X ≤ 1073741824 ∧ l = long1 X ++ r := by
  by_cases h5 : l.length < 5
  · rw [tlN_short l h5] at h
    injection h with _ h4; injection h4 with _ h5; cases h5
  · obtain ⟨a, b, c, d, e, m, rfl⟩ := five_of l (by omega)
    have ha := a.toNat_lt
    have hb := b.toNat_lt
    have hc := c.toNat_lt
    have hd := d.toNat_lt
    have he := e.toNat_lt
    simp only [tlN] at h
    split at h
    · rename_i hn
      injection h with h3 h4
      injection h4 with h4 _
      subst h4
      refine ⟨_, h3.symm, hn, ?_⟩
      have e0 : ((((a.toNat * 256 + b.toNat) * 256 + c.toNat) * 256 + d.toNat) * 256 + e.toNat) / 4294967296 % 256 = a.toNat := by omega
      have e1 : ((((a.toNat * 256 + b.toNat) * 256 + c.toNat) * 256 + d.toNat) * 256 + e.toNat) / 16777216 % 256 = b.toNat := by omega
      have e2 : ((((a.toNat * 256 + b.toNat) * 256 + c.toNat) * 256 + d.toNat) * 256 + e.toNat) / 65536 % 256 = c.toNat := by omega
      have e3 : ((((a.toNat * 256 + b.toNat) * 256 + c.toNat) * 256 + d.toNat) * 256 + e.toNat) / 256 % 256 = d.toNat := by omega
      have e4 : ((((a.toNat * 256 + b.toNat) * 256 + c.toNat) * 256 + d.toNat) * 256 + e.toNat) % 256 = e.toNat := by omega
      simp only [long1, digs, toB, List.map_cons, List.map_nil, Nat.reducePow, Nat.reduceAdd, e0, e1, e2, e3, e4, ofNat_toNat']
      rfl
    · injection h with _ h4; injection h4 with _ h5; cases h5
theorem tl_long (n : Nat) (h : n ≤ 1073741824) (r : List UInt8) : tlN (long1 n ++ r) = ((n : Int), r, 0) := by
  have hb : ∀ x : Nat, (UInt8.ofNat (x % 256)).toNat = x % 256 := fun x => ofN _ (Nat.mod_lt _ (by omega))
  simp only [long1, digs, toB, List.map_cons, List.map_nil, List.cons_append, List.nil_append, tlN, hb, Nat.reducePow, Nat.reduceAdd]
  have e : (((n / 4294967296 % 256 * 256 + n / 16777216 % 256) * 256 + n / 65536 % 256) * 256 + n / 256 % 256) * 256 + n % 256 = n := by omega
  rw [e, if_pos h]
end Go.Proofs.YtofheinbbefbcaaDoor
/- The walks of the reference's numbers: Long, Short. -/
namespace Go.Proofs.YtofheinbbefbcaaDoor
open Go Go.RowKit Go.Shelf
set_option maxRecDepth 100000

end Go.Proofs.YtofheinbbefbcaaDoor
/- Plain law of the sum of bytes: steps, sums, their linearity; no program in sight. -/
namespace Go.Proofs.YtofheinbbefbcaaDoor

def tabL : List Nat := [0x00000000, 0x105ec76f, 0x20bd8ede, 0x30e349b1, 0x417b1dbc, 0x5125dad3, 0x61c69362, 0x7198540d, 0x82f63b78, 0x92a8fc17, 0xa24bb5a6, 0xb21572c9, 0xc38d26c4, 0xd3d3e1ab, 0xe330a81a, 0xf36e6f75]
def tab (i : Nat) : Nat := tabL.getD i 0
def stepN (s h : Nat) : Nat := tab ((s ^^^ h) &&& 15) ^^^ (s / 16)
def inv32 (s : Nat) : Nat := 4294967295 - s

theorem tab_lt (i : Nat) : tab i < 4294967296 := by
  unfold tab
  rcases Nat.lt_or_ge i 16 with h | h
  · have : ∀ j, j < 16 → tabL.getD j 0 < 4294967296 := by decide
    exact this i h
  · rw [List.getD_eq_getElem?_getD, List.getElem?_eq_none (by simpa [tabL] using h)]
    decide

theorem stepN_lt (s h : Nat) (hs : s < 4294967296) : stepN s h < 4294967296 :=
  Nat.xor_lt_two_pow (n := 32) (tab_lt _) (by omega)

/-- One bit's step, as the reference has it. -/
def bitN (s : Nat) : Nat := if s % 2 = 1 then (s / 2) ^^^ 0x82f63b78 else s / 2

theorem xor_div2 (a b : Nat) : (a ^^^ b) / 2 = (a / 2) ^^^ (b / 2) := Nat.xor_div_two
theorem xor_mod2 (a b : Nat) : (a ^^^ b) % 2 = (a % 2) ^^^ (b % 2) := by
  have := @Nat.xor_mod_two_pow a b 1
  simpa using this
theorem xor_mod_two_cases (a b : Nat) : (a ^^^ b) % 2 = (a % 2 + b % 2) % 2 := by
  rw [xor_mod2]
  rcases Nat.mod_two_eq_zero_or_one a with h | h <;> rcases Nat.mod_two_eq_zero_or_one b with h' | h' <;> rw [h, h'] <;> rfl

theorem bitN_xor (a b : Nat) : bitN (a ^^^ b) = bitN a ^^^ bitN b := by
  unfold bitN
  rw [xor_mod_two_cases, xor_div2]
  rcases Nat.mod_two_eq_zero_or_one a with h | h <;> rcases Nat.mod_two_eq_zero_or_one b with h' | h' <;> rw [h, h'] <;> simp
  · simp [Nat.xor_assoc]
  · ac_rfl
  · rw [show a / 2 ^^^ 2197175160 ^^^ (b / 2 ^^^ 2197175160) = (a / 2 ^^^ b / 2) ^^^ (2197175160 ^^^ 2197175160) from by ac_rfl, Nat.xor_self, Nat.xor_zero]

def bit4 (s : Nat) : Nat := bitN (bitN (bitN (bitN s)))
theorem bit4_xor (a b : Nat) : bit4 (a ^^^ b) = bit4 a ^^^ bit4 b := by simp only [bit4, bitN_xor]
theorem bit4_mul (q : Nat) : bit4 (16 * q) = q := by
  have h1 : bitN (16 * q) = 8 * q := by unfold bitN; rw [if_neg (by omega)]; omega
  have h2 : bitN (8 * q) = 4 * q := by unfold bitN; rw [if_neg (by omega)]; omega
  have h3 : bitN (4 * q) = 2 * q := by unfold bitN; rw [if_neg (by omega)]; omega
  have h4 : bitN (2 * q) = q := by unfold bitN; rw [if_neg (by omega)]; omega
  simp only [bit4, h1, h2, h3, h4]
theorem bit4_low : ∀ r, r < 16 → bit4 r = tab r := by decide

theorem split16 (x : Nat) : x = (16 * (x / 16)) ^^^ (x % 16) := by
  have h := Nat.two_pow_add_eq_or_of_lt (i := 4) (b := x % 16) (by omega) (x / 16)
  have h2 : 2 ^ 4 * (x / 16) + x % 16 = x := by omega
  rw [h2] at h
  apply Nat.eq_of_testBit_eq
  intro i
  rw [Nat.testBit_xor]
  have h16 : (16 * (x / 16)) = 2 ^ 4 * (x / 16) := by omega
  rw [h16, Nat.testBit_two_pow_mul]
  have : x % 16 = x % 2 ^ 4 := rfl
  rw [this, Nat.testBit_mod_two_pow]
  by_cases hi : i < 4
  · simp [hi, Nat.not_le.2 hi]
  · have hi' : 4 ≤ i := by omega
    simp only [hi', decide_true, Bool.true_and, hi, decide_false, Bool.false_and, Bool.xor_false]
    rw [show x / 16 = x / 2 ^ 4 from rfl, Nat.testBit_div_two_pow]
    congr 1; omega

theorem and15 (x : Nat) : x &&& 15 = x % 16 := Nat.and_two_pow_sub_one_eq_mod x 4
theorem xor_div16 (a b : Nat) : (a ^^^ b) / 16 = (a / 16) ^^^ (b / 16) := by
  have := @Nat.xor_div_two_pow a b 4
  simpa using this
theorem xor_mod16 (a b : Nat) : (a ^^^ b) % 16 = (a % 16) ^^^ (b % 16) := by
  have := @Nat.xor_mod_two_pow a b 4
  simpa using this

/-- A step of a sum is a step of what it is with the half put to it. -/
theorem stepN_eq (s h : Nat) : stepN s h = bit4 (s ^^^ (h % 16)) := by
  rw [split16 (s ^^^ (h % 16)), bit4_xor, bit4_mul, bit4_low _ (Nat.mod_lt _ (by omega))]
  unfold stepN
  rw [and15, xor_div16, Nat.div_eq_of_lt (Nat.mod_lt h (by omega : 16 > 0)), Nat.xor_zero, Nat.xor_comm, xor_mod16, xor_mod16 s (h % 16), Nat.mod_mod]

def byteN (s : Nat) (c : UInt8) : Nat := stepN (stepN s (c.toNat % 16)) (c.toNat / 16)
def runN (s : Nat) (l : List UInt8) : Nat := l.foldl byteN s
def nextN (s : Nat) (l : List UInt8) : Nat := inv32 (runN (inv32 s) l)
def sumN (ls : List (List UInt8)) : Nat := ls.foldl nextN 0
def fourN (s : Nat) : List UInt8 := [UInt8.ofNat s, UInt8.ofNat (s / 256), UInt8.ofNat (s / 65536), UInt8.ofNat (s / 16777216)]
def putN (l : List UInt8) : List UInt8 := l ++ fourN (nextN 0 l)
/-- What is taken: the bytes ahead of the sum, if it is theirs. -/
def takeN (l : List UInt8) : Option (List UInt8) :=
  if l.length < 4 then none
  else if fourN (nextN 0 (l.take (l.length - 4))) = l.drop (l.length - 4) then some (l.take (l.length - 4)) else none

theorem byteN_lt (s : Nat) (c : UInt8) (h : s < 4294967296) : byteN s c < 4294967296 := stepN_lt _ _ (stepN_lt _ _ h)
theorem runN_lt (l : List UInt8) : ∀ s, s < 4294967296 → runN s l < 4294967296 := by
  induction l with
  | nil => intro s h; exact h
  | cons c l ih => intro s h; exact ih _ (byteN_lt s c h)
theorem inv32_lt (s : Nat) : inv32 s < 4294967296 := by unfold inv32; omega
theorem nextN_lt (s : Nat) (l : List UInt8) : nextN s l < 4294967296 := inv32_lt _
theorem sumN_lt (ls : List (List UInt8)) : sumN ls < 4294967296 := by
  unfold sumN
  suffices ∀ s, s < 4294967296 → ls.foldl nextN s < 4294967296 from this 0 (by decide)
  induction ls with
  | nil => intro s h; exact h
  | cons l ls ih => intro s h; exact ih _ (nextN_lt _ _)
theorem runN_append (s : Nat) (l m : List UInt8) : runN s (l ++ m) = runN (runN s l) m := by simp [runN]
end Go.Proofs.YtofheinbbefbcaaDoor
/- The walks of the sum of bytes. -/
namespace Go.Proofs.YtofheinbbefbcaaDoor
open Go Go.RowKit
set_option maxRecDepth 100000

/-- The table as it lies in memory. -/
def RowsOK (w : World) : Prop := ∀ i, i < 16 → w.cell? ⟨0, i, none⟩ = some (.int .u32 (tab i : Nat))

set_option maxHeartbeats 400000 in
theorem step_any (s h : Nat) (h1 : s < 4294967296) (h3 : h < 256) (w : World) (hr : RowsOK w) :
    Calls Tryd.prog 111 #[.int .u32 s, .int .u8 h] w fun e w' => e = .returned (.int .u32 (stepN s h : Nat)) ∧ w = w' := by
  have e1 : bits BinOp.xor IntKind.u32 (s : Int) (h : Int) = ((s ^^^ h : Nat) : Int) := u32_xor_nat s h h1 (by omega)
  have hx : s ^^^ h < 2 ^ 32 := Nat.xor_lt_two_pow (by omega) (by omega)
  have e2 : bits BinOp.and IntKind.u32 ((s ^^^ h : Nat) : Int) 15 = (((s ^^^ h) &&& 15 : Nat) : Int) := u32_and_nat (s ^^^ h) 15 (by omega) (by omega)
  have hy : (s ^^^ h) &&& 15 < 16 := by rw [nat_mask4]; omega
  have hc := hr _ hy
  have e3 := Lib.hid (show bits BinOp.xor IntKind.u32 ((tab ((s ^^^ h) &&& 15) : Nat) : Int) ((s / 16 : Nat) : Int) = ((tab ((s ^^^ h) &&& 15) ^^^ (s / 16) : Nat) : Int) from u32_xor_nat _ _ (tab_lt _) (by omega))
  go_enter Tryd.func111, Tryd.ntmps111
  go_wp2
  go_ret
  exact ⟨ret_int e3.out, rfl⟩

theorem step_i (s h : Int) (a b : Nat) (hs : s = a) (hh : h = b) (h1 : a < 4294967296) (h3 : b < 256) (w : World) (hr : RowsOK w) :
    Calls Tryd.prog 111 #[.int .u32 s, .int .u8 h] w fun e w' => e = .returned (.int .u32 (stepN a b : Nat)) ∧ w' = w := by
  subst hs; subst hh
  exact (step_any a b h1 h3 w hr).mono fun _ _ ⟨h, h'⟩ => ⟨h, h'.symm⟩
end Go.Proofs.YtofheinbbefbcaaDoor
/- The walks of the sum of bytes: the reference's Next and Sum. -/
namespace Go.Proofs.YtofheinbbefbcaaDoor
open Go Go.RowKit
set_option maxRecDepth 100000

theorem take_snoc {α : Type} (l : List α) (k : Nat) (u : α) (h : l[k]? = some u) : l.take (k + 1) = l.take k ++ [u] := by
  rw [List.take_add_one, h]; rfl

theorem Rd.cbyte {w : World} {A : Option Addr} {l : List UInt8} (h : Rd w A (bvs l)) {k : Nat} (hk : k < l.length) :
    ∃ b o c, A = some ⟨b, o, none⟩ ∧ b < w.heap.size ∧ w.cell? ⟨b, o + k, none⟩ = some (.int .u8 ((UInt8.toNat c : Nat) : Int)) ∧ c.toNat < 256 ∧ l[k]? = some c := by
  have hu : (bvs l)[k]? = some (bv l[k]) := by simp [bvs, hk]
  obtain ⟨b, o, e, hb, hc⟩ := h k _ hu
  exact ⟨b, o, l[k], e, hb, hc, l[k].toNat_lt, by simp [hk]⟩

theorem inv_bits (s : Nat) (h : s < 4294967296) : bits BinOp.xor IntKind.u32 IntKind.u32.max (s : Int) = ((inv32 s : Nat) : Int) := by
  have e : IntKind.u32.max = ((4294967295 : Nat) : Int) := by decide
  rw [e, u32_xor_nat _ _ (by decide) h]
  have h1 : (4294967295 : Nat) ^^^ s = (BitVec.allOnes 32 ^^^ BitVec.ofNat 32 s).toNat := by
    rw [BitVec.toNat_xor, BitVec.toNat_allOnes, BitVec.toNat_ofNat, Nat.mod_eq_of_lt h]
  rw [h1, BitVec.allOnes_xor, BitVec.toNat_not, BitVec.toNat_ofNat, Nat.mod_eq_of_lt h]
  rfl

end Go.Proofs.YtofheinbbefbcaaDoor
/- The walks of the sum of bytes: the program's Next, over its iterator. -/
namespace Go.Proofs.YtofheinbbefbcaaDoor
open Go Go.RowKit Go.Shelf
set_option maxRecDepth 100000
attribute [local go_sem] Oper.semAt_some

/-- A row's halves, the lower one of each byte first. -/
def halvesN (l : List UInt8) : List Nat := l.flatMap fun c => [c.toNat % 16, c.toNat / 16]
theorem halvesN_length (l : List UInt8) : (halvesN l).length = 2 * l.length := by
  induction l with
  | nil => rfl
  | cons c l ih => simp only [halvesN, List.flatMap_cons, List.length_append, List.length_cons, List.length_nil] at ih ⊢; omega
theorem halvesN_even (l : List UInt8) (k : Nat) (c : UInt8) (h : l[k]? = some c) : (halvesN l)[2 * k]? = some (c.toNat % 16) ∧ (halvesN l)[2 * k + 1]? = some (c.toNat / 16) := by
  induction l generalizing k with
  | nil => simp at h
  | cons d l ih =>
    cases k with
    | zero => simp at h; subst h; simp [halvesN]
    | succ k =>
      have := ih k (by simpa using h)
      have e : 2 * (k + 1) = 2 * k + 1 + 1 := by omega
      rw [e]
      simpa [halvesN] using this

theorem bit0 (k : Nat) (h : k % 2 = 0) (hk : k < 9223372036854775808) : bits BinOp.and IntKind.i64 (k : Int) 1 = 0 := by
  have := bits_mask .i64 63 (by decide) (fun n h0 h1 => by rw [IntKind.wrap_i64]; omega) 1 (by decide) k (by omega) (by omega)
  simp only [Int.pow_one] at this
  rw [show (1 : Int) = 2 - 1 from rfl, this]; omega
theorem bit1 (k : Nat) (h : k % 2 = 1) (hk : k < 9223372036854775808) : bits BinOp.and IntKind.i64 (k : Int) 1 = 1 := by
  have := bits_mask .i64 63 (by decide) (fun n h0 h1 => by rw [IntKind.wrap_i64]; omega) 1 (by decide) k (by omega) (by omega)
  simp only [Int.pow_one] at this
  rw [show (1 : Int) = 2 - 1 from rfl, this]; omega
theorem halvesN_at0 (l : List UInt8) (k : Nat) (c : UInt8) (h : l[k / 2]? = some c) (h2 : k % 2 = 0) : (halvesN l)[k]? = some (c.toNat % 16) := by
  have := (halvesN_even l _ c h).1
  rwa [show 2 * (k / 2) = k from by omega] at this
theorem halvesN_at1 (l : List UInt8) (k : Nat) (c : UInt8) (h : l[k / 2]? = some c) (h2 : k % 2 = 1) : (halvesN l)[k]? = some (c.toNat / 16) := by
  have := (halvesN_even l _ c h).2
  rwa [show 2 * (k / 2) + 1 = k from by omega] at this

set_option maxHeartbeats 1000000 in
theorem halves1_iter (b : Nat) (A : Option Addr) (c : Nat) (l : List UInt8) (hl : l.length ≤ 1099511627776) (w0 : World) (M : Nat) (w : World) (hA : Rd w0 A (bvs l)) (hB0 : Below w0.heap.size w0 w) (hn : w0.heap.size ≤ M) (hM : M ≤ b)
    (hb : b < w.heap.size) (hc : w.cell? ⟨b, 0, none⟩ = some (.slice A l.length c)) :
    Iter Tryd.prog 114 #[.pointer (some ⟨b, 0, none⟩)] (fun h : Nat => #[.int .u8 h]) (halvesN l) w0.heap.size M w := by
  intro lr J Jx W hB hJ hJx hY h0
  have HY := Lib.hid hY
  have HJ := Lib.hid hJ
  have HJx := Lib.hid hJx
  clear hY hJ hJx
  refine callsIn_of_wp Tryd.func114 rfl trivial ?_ rfl
  simp only [Tryd.ntmps114, List.size_toArray, List.length_cons, List.length_nil, Nat.reduceAdd, Nat.reduceSub, Array.replicate_succ, Array.replicate_zero, List.push_toArray, List.append_toArray, List.nil_append, List.cons_append]
  refine scope_goto 0 (fun a w' => ∃ k : Nat, k ≤ 2 * l.length ∧ (∃ u4 u5 u6 u7 u8 u9 u10 u11 u12 u13 u14 u15 u16 u17 u18 u19 u20 u21 u22 u23 u24 : Value, a = ⟨#[.func (.yield lr) #[] #[], .pointer (some ⟨b, 0, none⟩), undef, .int .i64 (k : Int), u4, u5, u6, u7, u8, u9, u10, u11, u12, u13, u14, u15, u16, u17, u18, u19, u20, u21, u22, u23, u24], []⟩) ∧ J k w' ∧ KeepB (fun b => b < w0.heap.size ∨ (M ≤ b ∧ b < w.heap.size)) w w') (fun a _ => 2 * l.length - (intOf (a.tmps.getD 3 undef)).toNat) rfl ?pass ?first
  case first =>
    intro hX
    have HX := Lib.hid hX
    clear hX
    gi_wp2
    refine wpIn_label ?_
    rename_i hgo
    refine hgo _ _ ?_
    exact HX.out _ _ ⟨0, by omega, ⟨_, _, _, _, _, _, _, _, _, _, _, _, _, _, _, _, _, _, _, _, _, rfl⟩, h0, KeepB.of_below hB (fun _ h _ => h)⟩
  case pass =>
    rintro a w' ⟨k, hk, ⟨u4, u5, u6, u7, u8, u9, u10, u11, u12, u13, u14, u15, u16, u17, u18, u19, u20, u21, u22, u23, u24, rfl⟩, hJk, hK⟩
    have hc' := hK.cell (p := ⟨b, 0, none⟩) (by right; exact ⟨hM, hb⟩) hc
    by_cases hlt : k < 2 * l.length
    · have hk2 : k / 2 < l.length := by omega
      obtain ⟨b', o, ch, rfl, hb', hcell, hch, hlk⟩ := (hA.below (below_keep hB0 hK hB0.size (fun _ h => .inl h))).cbyte hk2
      rcases Nat.mod_two_eq_zero_or_one k with h2 | h2
      · have e1 : bits BinOp.and IntKind.i64 (k : Int) 1 = 0 := bit0 k h2 (by omega)
        obtain ⟨fn, tmps, assign, body, hy, hR⟩ := HY.out k _ w' (halvesN_at0 l k ch hlk h2) hJk hK.size
        have e2 : ((ch.toNat % 16 : Nat) : Int) = (ch.toNat : Int) % 16 := by omega
        dsimp only at hy
        rw [e2] at hy
        clear h2 hlk e2
        gi_wp2
        refine hR.mono ?_
        rintro e W3 (⟨rfl, hJ3, hk3⟩ | ⟨rfl, hJx3, hk3⟩)
        · gi_wp2
          refine wpIn_goto ?_
          exact ⟨rfl, ⟨k + 1, by omega, ⟨_, _, _, _, _, _, _, _, _, _, _, _, _, _, _, _, _, _, _, _, _, rfl⟩, hJ3, hK.trans (hk3.sub (fun b _ h => h))⟩, by simp [intOf]; omega⟩
        · gi_wp2
          simp only [Exit.jump]
          refine bodyPost_end (results_none rfl _ _ _) rfl ⟨⟨_, rfl⟩, .inr hJx3⟩
      · have e1 : bits BinOp.and IntKind.i64 (k : Int) 1 = 1 := bit1 k h2 (by omega)
        obtain ⟨fn, tmps, assign, body, hy, hR⟩ := HY.out k _ w' (halvesN_at1 l k ch hlk h2) hJk hK.size
        have e2 : ((ch.toNat / 16 : Nat) : Int) = (ch.toNat : Int) / 16 % 16 := by omega
        dsimp only at hy
        rw [e2] at hy
        clear h2 hlk e2
        gi_wp2
        refine hR.mono ?_
        rintro e W3 (⟨rfl, hJ3, hk3⟩ | ⟨rfl, hJx3, hk3⟩)
        · gi_wp2
          refine wpIn_goto ?_
          exact ⟨rfl, ⟨k + 1, by omega, ⟨_, _, _, _, _, _, _, _, _, _, _, _, _, _, _, _, _, _, _, _, _, rfl⟩, hJ3, hK.trans (hk3.sub (fun b _ h => h))⟩, by simp [intOf]; omega⟩
        · gi_wp2
          simp only [Exit.jump]
          refine bodyPost_end (results_none rfl _ _ _) rfl ⟨⟨_, rfl⟩, .inr hJx3⟩
    · have hd : decide ((k : Int) < 2 * (l.length : Int)) = false := by simp; omega
      gi_wp2
      refine ⟨fun _ h => (by cases h), ?_⟩
      gi_wp2
      obtain rfl : k = 2 * l.length := by omega
      simp only [Exit.jump]
      refine bodyPost_end (results_none rfl _ _ _) rfl ⟨⟨_, rfl⟩, .inl ?_⟩
      rw [halvesN_length]
      exact hJk
end Go.Proofs.YtofheinbbefbcaaDoor
/- The walks of the sum of bytes: the program's Next. -/
namespace Go.Proofs.YtofheinbbefbcaaDoor
open Go Go.RowKit Go.Shelf
set_option maxRecDepth 100000
attribute [local go_sem] Oper.semAt_some

theorem runN_halves (l : List UInt8) : ∀ s, runN s l = (halvesN l).foldl stepN s := by
  induction l with
  | nil => intro s; rfl
  | cons c l ih => intro s; rw [halvesN, List.flatMap_cons, List.foldl_append, ← halvesN, ← ih]; rfl
def halfRun (s : Nat) (l : List UInt8) (k : Nat) : Nat := ((halvesN l).take k).foldl stepN s
theorem halfRun_lt (s : Nat) (l : List UInt8) (h : s < 4294967296) (k : Nat) : halfRun s l k < 4294967296 := by
  unfold halfRun
  generalize (halvesN l).take k = xs
  induction xs generalizing s with
  | nil => exact h
  | cons x xs ih => exact ih _ (stepN_lt _ _ h)
theorem halfRun_succ (s : Nat) (l : List UInt8) (k x : Nat) (h : (halvesN l)[k]? = some x) : halfRun s l (k + 1) = stepN (halfRun s l k) x := by
  unfold halfRun
  rw [take_snoc _ k x h, List.foldl_append]; rfl
theorem halvesN_lt (l : List UInt8) (k x : Nat) (h : (halvesN l)[k]? = some x) : x < 16 := by
  have := List.mem_of_getElem? h
  unfold halvesN at this
  rw [List.mem_flatMap] at this
  obtain ⟨c, _, hc⟩ := this
  have := c.toNat_lt
  simp at hc
  omega

theorem RowsOK.below {w w' : World} (h : RowsOK w) (hb : Below w.heap.size w w') : RowsOK w' := fun i hi => by
  have := h i hi
  exact (hb.cell (p := ⟨0, i, none⟩) (World.block_lt_of_cell? w _ this)).trans this
theorem RowsOK.pos {w : World} (h : RowsOK w) : 0 < w.heap.size := World.block_lt_of_cell? w _ (h 0 (by omega))

set_option maxHeartbeats 400000 in
theorem halves_any (A : Option Addr) (n c : Nat) (w : World) :
    Calls Tryd.prog 110 #[.slice A n c] w fun e w' => e = .returned (.func (.func 114) #[] #[.pointer (some ⟨w.heap.size, 0, none⟩)]) ∧ w' = w.alloc (.cells #[.slice A n c] 23) := by
  go_enter Tryd.func110, Tryd.ntmps110
  go_wp2
  go_ret
  exact ⟨rfl, rfl⟩

set_option maxHeartbeats 1000000 in
theorem cnext_any (s : Nat) (h1 : s < 4294967296) (A : Option Addr) (c : Nat) (l : List UInt8) (hl : l.length ≤ 1099511627776) (w : World) (hA : Rd w A (bvs l)) (hr : RowsOK w) :
    Calls Tryd.prog 106 #[.int .u32 s, .slice A l.length c] w fun e w' => e = .returned (.int .u32 (nextN s l : Nat)) ∧ Below w.heap.size w w' := by
  have e1 := inv_bits s h1
  have hi := inv32_lt s
  have Hfin := Lib.hid (show nextN s l = inv32 (runN (inv32 s) l) from rfl)
  obtain ⟨x, hx⟩ : ∃ x, x = inv32 s := ⟨_, rfl⟩
  rw [← hx] at hi Hfin e1
  clear hx
  refine (callsIn_wide (n := 9)).1 (callsIn_of_wp_marks Tryd.func106 rfl trivial ?_ rfl)
  simp only [Tryd.ntmps106, List.size_toArray, List.length_cons, List.length_nil, Nat.reduceAdd, Nat.reduceSub, Array.replicate_succ, Array.replicate_zero, List.push_toArray, List.append_toArray, List.nil_append, List.cons_append]
  gi_wp2_with (refine ⟨trivial, ?_⟩; gi_at_call 110; refine (callsIn_wide.2 (halves_any A l.length c _)).mono ?_; rintro e w' ⟨rfl, rfl⟩)
  have hB0 : Below w.heap.size w ((w.alloc (.cells #[.int .u32 x] 115)).alloc (.cells #[.slice A l.length c] 23)) := ((Below.refl _ _).alloc (Nat.le_refl _) _).alloc (by simp) _
  have hb1 : Box ((w.alloc (.cells #[.int .u32 x] 115)).alloc (.cells #[.slice A l.length c] 23)) w.heap.size (.int .u32 x) := (Box.new _ _ _).alloc _
  have hb2 : Box ((w.alloc (.cells #[.int .u32 x] 115)).alloc (.cells #[.slice A l.length c] 23)) (w.heap.size + 1) (.slice A l.length c) := by have := Box.new (w.alloc (.cells #[.int .u32 x] 115)) (.slice A l.length c) 23; simpa using this
  have hs0 : ((w.alloc (.cells #[.int .u32 x] 115)).alloc (.cells #[.slice A l.length c] 23)).heap.size = w.heap.size + 2 := by simp
  generalize (w.alloc (.cells #[.int .u32 x] 115)).alloc (.cells #[.slice A l.length c] 23) = W0 at *
  refine range_law (n₀ := w.heap.size) (M := w.heap.size + 1) (xs := halvesN l) (encs := fun h : Nat => #[.int .u8 h]) rfl (enters_of Tryd.func114 (by kernel_rfl) rfl)
    (halves1_iter _ A c l hl w _ W0 hA hB0 (by omega) (by omega) hb2.lt hb2.1) (by omega) (by omega) (fun _ => rfl)
    (fun k W => Box W w.heap.size (.int .u32 (halfRun x l k : Nat)) ∧ Below w.heap.size w W) (fun _ _ => False)
    (fun k A B h hk => ⟨h.1.keep hk (by omega), below_keep h.2 hk h.2.size (fun _ _ => by omega)⟩) (fun _ _ _ h _ => h) ⟨hb1, hB0⟩ ?round ?done (fun _ _ h _ => h.elim)
  case round =>
    intro lr k y A1 hy hI hsz
    gi_wp2
    refine ⟨KeepB.refl _ _, fun A2 _ hI2 => ?_⟩
    obtain ⟨⟨hc, hf⟩, hB⟩ := hI2
    have hlt := halfRun_lt x l hi k
    have hy16 := halvesN_lt l k y hy
    have Hs := Lib.hid (halfRun_succ x l k y hy)
    have hr2 := hr.below hB
    have hBn := hB.size
    clear hy
    gi_wp2_with (refine ⟨trivial, ?_⟩; gi_at_call 111; refine (CallsIn.inRound lr (callsIn_wide.2 (step_i _ _ (halfRun x l k) y rfl rfl hlt (by omega) _ hr2))).mono ?_; rintro e w' ⟨rfl, rfl⟩)
    exact ⟨(KeepB.refl _ _).setCell (by simp; (try (intros; omega))) _, by rw [Hs.out]; exact Box.set ⟨hc, hf⟩ _, hB.setCell (Nat.le_refl _) _⟩
  case done =>
    intro A1 hI hD
    obtain ⟨⟨hc, hf⟩, hB⟩ := hI
    have hlt := halfRun_lt x l hi (halvesN l).length
    have e4 := inv_bits _ hlt
    have Hl := Lib.hid (show halfRun x l (halvesN l).length = runN x l from by unfold halfRun; rw [List.take_length, runN_halves])
    gi_wp2
    refine ⟨by simp, .inl ⟨_, _, rfl, run_takeDeferred hD, ?_⟩⟩
    refine ⟨_, results_tmp rfl _ _ _, ?_, ?_⟩
    · rw [Hfin.out, ← Hl.out]; rfl
    · exact below_keep hB ((KeepB.refl (fun k => k ≠ W0.heap.size) _).putObj _ _ (by simp)) hB.size (fun _ _ => by omega)
end Go.Proofs.YtofheinbbefbcaaDoor
/- The walks of the sum of bytes: a sum's bytes. -/
namespace Go.Proofs.YtofheinbbefbcaaDoor
open Go Go.RowKit
set_option maxRecDepth 100000

def fourV (s : Nat) : Value := .agg #[.int .u8 ((s % 256 : Nat) : Int), .int .u8 ((s / 256 % 256 : Nat) : Int), .int .u8 ((s / 65536 % 256 : Nat) : Int), .int .u8 ((s / 16777216 : Nat) : Int)]

set_option maxHeartbeats 400000 in
theorem four_any (s : Nat) (h1 : s < 4294967296) (w : World) :
    Calls Tryd.prog 85 #[.int .u32 s] w fun e w' => e = .returned (fourV s) ∧ Below w.heap.size w w' := by
  go_enter Tryd.func85, Tryd.ntmps85
  go_wp2
  go_rounds 5
  go_returns
  exact ⟨rfl, (Below.refl _ _).alloc (Nat.le_refl _) _⟩

set_option maxHeartbeats 400000 in
theorem equal_any (A B : Option Addr) (c d : Nat) (l m : List UInt8) (w : World) (hA : Rd w A (bvs l)) (hB : Rd w B (bvs m)) :
    Calls Tryd.prog 69 #[.slice A l.length c, .slice B m.length d] w fun e w' => e = .returned (.bool (decide (l = m))) ∧ w' = w := by
  have e1 := run_str hA c 23 5 Tryd.underlying23 Tryd.underlying5
  have e2 := run_str hB d 23 5 Tryd.underlying23 Tryd.underlying5
  go_enter Tryd.func69, Tryd.ntmps69
  go_wp2
  go_returns
  exact ⟨ret_bool (bstr_beq l m), rfl⟩

def sumTo (ls : List (List UInt8)) (k : Nat) : Nat := (ls.take k).foldl nextN 0
theorem sumTo_lt (ls : List (List UInt8)) (k : Nat) : sumTo ls k < 4294967296 := sumN_lt _
theorem sumTo_succ (ls : List (List UInt8)) (k : Nat) (l : List UInt8) (h : ls[k]? = some l) : sumTo ls (k + 1) = nextN (sumTo ls k) l := by
  unfold sumTo
  rw [take_snoc _ k l h, List.foldl_append]; rfl

set_option maxHeartbeats 400000 in
theorem sum_any (A : Option Addr) (c : Nat) (ls : List (List UInt8)) (hl : ls.length ≤ 1099511627776) (w : World) (hA : IsRows w A ls) (hr : RowsOK w) :
    Calls Tryd.prog 86 #[.slice A ls.length c] w fun e w' => e = .returned (.int .u32 (sumN ls : Nat)) ∧ Below w.heap.size w w' := by
  have hfin := Lib.hid (show sumTo ls ls.length = sumN ls from by unfold sumTo; rw [List.take_length]; rfl)
  go_enter Tryd.func86, Tryd.ntmps86
  go_wp2
  go_loopw [2, 4, 7] (fun t _ i wr => ∃ k : Nat, k ≤ ls.length ∧ i = .int .i64 k ∧ t = .int .u32 (sumTo ls k : Nat) ∧ Below w.heap.size w wr) (fun _ _ i _ => ls.length - (intOf i).toNat)
  case atStart => exact ⟨0, by omega, rfl, rfl, Below.refl _ _⟩
  case round =>
    obtain ⟨k, hk, rfl, rfl, hB⟩ := hrel
    by_cases hk4 : k < ls.length
    · obtain ⟨b, o, A', c', l, rfl, hb, hc, ⟨hll, hlc, hcm⟩, hrd, hlk⟩ := (hA.below hB).at_ hk4
      have Hs := Lib.hid (sumTo_succ ls k l hlk)
      have hlt := sumTo_lt ls k
      have hr2 := hr.below hB
      clear hlk
      go_wp2_with (go_at_call 106; refine (cnext_any _ hlt _ _ _ hll _ hrd hr2).mono ?_; rintro e w' ⟨rfl, hB2⟩)
      go_roundw
      case rel => exact ⟨k + 1, by omega, by go_num, by rw [Hs.out], bTr hB hB2⟩
      case measure => simp [intOf]; omega
    · obtain rfl : k = ls.length := by omega
      go_wp2
      go_ret
      exact ⟨ret_int (by rw [hfin.out]), hB⟩

end Go.Proofs.YtofheinbbefbcaaDoor
/- The walks of the sum of bytes: sums put and taken. -/
namespace Go.Proofs.YtofheinbbefbcaaDoor
open Go Go.RowKit
set_option maxRecDepth 100000

theorem celemB : Elem Tryd.prog 23 5 (.int .u8 0) 1 1 := ⟨Tryd.underlying23, by kernel_rfl, rfl, by omega⟩

set_option maxHeartbeats 400000 in
theorem cclone_any (A : Option Addr) (c : Nat) (l : List UInt8) (hl : l.length ≤ 1099511627776) (w : World) (hA : Rd w A (bvs l)) :
    Calls Tryd.prog 87 #[.slice A l.length c] w fun e w' => ∃ v, e = .returned v ∧ w'.ownsRow w.heap.size 5 1 v l.length (bvs l) ∧ Below w.heap.size w w' := by
  rcases A with _ | ad
  · obtain rfl : l = [] := hA.none_bytes
    have en := Lib.run_eql_slice_nil (P := Tryd.prog) w 23 5 none 0 c 0 0 Tryd.underlying23
    go_enter Tryd.func87, Tryd.ntmps87
    go_wp2
    go_returns
    exact ⟨_, rfl, World.ownsRow_nil _ _ _ _, Below.refl _ _⟩
  · have en := Lib.run_eql_slice_nil (P := Tryd.prog) w 23 5 (some ad) l.length c 0 0 Tryd.underlying23
    have hown0 := World.ownsRow_lit (base := w.heap.size) (e := 5) (size := 1) w #[] 0 (Nat.le_refl _) (by simp [maxLen]) rfl
    go_enter Tryd.func87, Tryd.ntmps87
    go_wp2_with (at_builtin; refine list_append_rd (news := bvs l) rfl (.tmp 5) (.tmp 6) rfl celemB rfl hown0 rfl (by rw [bvs_length]; omega) (hA.below ((Below.refl _ _).alloc (Nat.le_refl _) _)) (bvs_one l) (by unfold maxLen; omega) (by omega) (by simp) ?_; intro v' w1 hown hg _)
    go_returns
    refine ⟨v', rfl, by simpa using hown, bGrow ((Below.refl _ _).alloc (Nat.le_refl _) _) hg (by simp) hown0⟩

theorem fourN_cells (s : Nat) (h : s < 4294967296) : bvs (fourN s) = [.int .u8 ((s % 256 : Nat) : Int), .int .u8 ((s / 256 % 256 : Nat) : Int), .int .u8 ((s / 65536 % 256 : Nat) : Int), .int .u8 ((s / 16777216 : Nat) : Int)] := by
  simp only [bvs, fourN, List.map_cons, List.map_nil, bv]
  have e (n : Nat) : (UInt8.ofNat n).toNat = n % 256 := by simp
  rw [e, e, e, e, Nat.mod_eq_of_lt (show s / 16777216 < 256 by omega)]
theorem IsRows.one {w : World} {A : Option Addr} {l : List UInt8} (b : Nat) (c : Nat) (hl : l.length ≤ 1099511627776 ∧ l.length ≤ c ∧ c ≤ maxLen) (hb : b < w.heap.size) (hc : w.cell? ⟨b, 0, none⟩ = some (.slice A l.length c)) (hA : Rd w A (bvs l)) : IsRows w (some ⟨b, 0, none⟩) [l] := by
  refine ⟨[.slice A l.length c], rfl, fun j u hj => ?_, fun i v l' h1 h2 => ?_⟩
  · cases j with
    | zero => simp at hj; subst hj; exact ⟨b, 0, rfl, hb, hc⟩
    | succ j => simp at hj
  · cases i with
    | zero => simp at h1 h2; subst h1; subst h2; exact ⟨A, c, rfl, hl, hA⟩
    | succ i => simp at h1

theorem sum_one (A : Option Addr) (c : Nat) (l : List UInt8) (w : World) (hA : IsRows w A [l]) (hr : RowsOK w) :
    Calls Tryd.prog 86 #[.slice A 1 c] w fun e w' => e = .returned (.int .u32 (nextN 0 l : Nat)) ∧ Below w.heap.size w w' := sum_any A c [l] (by simp) w hA hr
set_option maxHeartbeats 1000000 in
theorem put_any (A : Option Addr) (c : Nat) (l : List UInt8) (hl : l.length ≤ 1099511627770) (hlc : l.length ≤ c) (hcm : c ≤ maxLen) (w : World) (hA : Rd w A (bvs l)) (hr : RowsOK w) :
    Calls Tryd.prog 52 #[.slice A l.length c] w fun e w' => ∃ v, e = .returned v ∧ w'.ownsRow w.heap.size 5 1 v (l.length + 4) (bvs (putN l)) ∧ Below w.heap.size w w' := by
  have hb1 : Below w.heap.size w (w.alloc (.cells #[.slice A l.length c] 23)) := (Below.refl _ _).alloc (Nat.le_refl _) _
  have hrows : IsRows (w.alloc (.cells #[.slice A l.length c] 23)) (some ⟨w.heap.size, 0, none⟩) [l] := IsRows.one _ c ⟨by omega, hlc, hcm⟩ (by simp) (by simp) (hA.below hb1)
  have hr1 := hr.below hb1
  have hlt := nextN_lt 0 l
  have Hf := Lib.hid (fourN_cells _ hlt)
  have Hp := Lib.hid (show putN l = l ++ fourN (nextN 0 l) from rfl)
  go_enter Tryd.func52, Tryd.ntmps52
  go_wp2_with (first | (go_at_call 86; refine (sum_one _ _ l _ hrows hr1).mono ?_; rintro e w1 ⟨rfl, hB1⟩) | (go_at_call 85; refine (four_any _ hlt _).mono ?_; rintro e w2 ⟨rfl, hB2⟩; simp only [fourV]))
  have hB := bTr hb1 (bTr hB1 hB2)
  obtain ⟨w3, hw3⟩ : ∃ w3, w3 = w2.alloc (.cells #[.int .u8 ((nextN 0 l : Nat) % 256 : Int), .int .u8 ((nextN 0 l : Nat) / 256 % 256 : Int), .int .u8 ((nextN 0 l : Nat) / 65536 % 256 : Int), .int .u8 ((nextN 0 l : Nat) / 16777216 : Int)] 113) := ⟨_, rfl⟩
  rw [← hw3]
  have hB3 : Below w.heap.size w w3 := by rw [hw3]; exact hB.alloc hB.size _
  have hrd3 : Rd w3 (some ⟨w2.heap.size, 0, none⟩) (bvs (fourN (nextN 0 l))) := by
    rw [Hf.out, hw3]; exact Rd.new w2 _ _
  have hA3 := hA.below hB3
  clear hw3
  go_region_held3 (fun W => Below w3.heap.size w3 W) (first | exact (Below.refl _ _).drew | exact hS4 | exact hS5)
    (first
      | (go_simp; go_at_call 87; refine (cclone_any A c l (by omega) w3.drew hA3).mono ?_; rintro e w4 ⟨v4, rfl, hown4, hB4⟩; have hS4 : Below w3.heap.size w3 w4 := (Below.refl _ _).drew.trans hB4)
      | (refine step_append_rd (v := v4) (w := w4) (news := bvs (fourN (nextN 0 l))) rfl (.tmp 9) (.tmp 10) rfl celemB rfl hown4 rfl rfl (hrd3.below hS4) (bvs_one _) ?_ ?_ ?_ ?_; (unfold maxLen; omega); omega; exact hS4.size; intro v5 w5 hown5 hg5 _; have hS5 : Below w3.heap.size w3 w5 := bGrow hS4 hg5 hS4.size hown4))
  go_wp2
  go_returns
  refine ⟨v5, rfl, ?_, bStep hB3 hB3.size hS5⟩
  rw [Hp.out, bvs_append]
  exact own_base hown5 hB3.size

end Go.Proofs.YtofheinbbefbcaaDoor
/- The walks of the sum of bytes: sums taken. -/
namespace Go.Proofs.YtofheinbbefbcaaDoor
open Go Go.RowKit
set_option maxRecDepth 100000

theorem equal_n (A B : Option Addr) (n k c d : Nat) (l m : List UInt8) (hn : l.length = n) (hk : m.length = k) (w : World) (hA : Rd w A (bvs l)) (hB : Rd w B (bvs m)) :
    Calls Tryd.prog 69 #[.slice A n c, .slice B k d] w fun e w' => e = .returned (.bool (decide (l = m))) ∧ w' = w := by
  subst hn; subst hk
  exact equal_any A B c d l m w hA hB

set_option maxHeartbeats 1000000 in
theorem ctake_any (A : Option Addr) (c : Nat) (l : List UInt8) (hl : l.length ≤ 1099511627770) (hlc : l.length ≤ c) (hcm : c ≤ maxLen) (w : World) (hA : Rd w A (bvs l)) (hr : RowsOK w) :
    Calls Tryd.prog 66 #[.slice A l.length c] w fun e w' => ∃ v, e = .returned (.tuple #[v, .bool (takeN l).isSome]) ∧ w'.ownsRow w.heap.size 5 1 v ((takeN l).getD []).length (bvs ((takeN l).getD [])) ∧ Below w.heap.size w w' := by
  unfold maxLen at hcm
  by_cases h4 : l.length < 4
  · have Ht := Lib.hid (show takeN l = none from by unfold takeN; rw [if_pos h4])
    go_enter Tryd.func66, Tryd.ntmps66
    go_wp2
    go_returns
    rw [Ht.out]
    exact ⟨_, rfl, World.ownsRow_nil _ _ _ _, Below.refl _ _⟩
  · obtain ⟨m, hm⟩ : ∃ m, l.length = m + 4 := ⟨l.length - 4, by omega⟩
    have hp : (l.take m).length = m := by rw [List.length_take]; omega
    have hq : (l.drop m).length = 4 := by rw [List.length_drop]; omega
    have hAp : Rd w A (bvs (l.take m)) := by rw [bvs_take]; exact hA.take m
    have hAq : Rd w (A.map (·.add m)) (bvs (l.drop m)) := by rw [bvs_drop]; exact hA.drop m
    have Ht := Lib.hid (show takeN l = if fourN (nextN 0 (l.take m)) = l.drop m then some (l.take m) else none from by unfold takeN; rw [if_neg h4, hm]; rfl)
    rw [hm] at hl hlc ⊢
    clear hm h4 hA
    generalize l.take m = p at *
    generalize l.drop m = q at *
    have hb1 : Below w.heap.size w (w.alloc (.cells #[.slice A m c] 23)) := (Below.refl _ _).alloc (Nat.le_refl _) _
    have hrows : IsRows (w.alloc (.cells #[.slice A m c] 23)) (some ⟨w.heap.size, 0, none⟩) [p] := IsRows.one _ c ⟨by omega, by omega, hcm⟩ (by simp) (by rw [hp]; simp) (hAp.below hb1)
    have hr1 := hr.below hb1
    have hlt := nextN_lt 0 p
    have Hf := Lib.hid (fourN_cells _ hlt)
    have HP := Lib.hid hp
    have HQ := Lib.hid hq
    clear hp hq
    go_enter Tryd.func66, Tryd.ntmps66
    go_wp2_with (first | (go_at_call 86; refine (sum_one _ _ p _ hrows hr1).mono ?_; rintro e w1 ⟨rfl, hB1⟩) | (go_at_call 85; refine (four_any _ hlt _).mono ?_; rintro e w2 ⟨rfl, hB2⟩; simp only [fourV]))
    have hB := bTr hb1 (bTr hB1 hB2)
    obtain ⟨w3, hw3⟩ : ∃ w3, w3 = w2.alloc (.cells #[.int .u8 ((nextN 0 p : Nat) % 256 : Int), .int .u8 ((nextN 0 p : Nat) / 256 % 256 : Int), .int .u8 ((nextN 0 p : Nat) / 65536 % 256 : Int), .int .u8 ((nextN 0 p : Nat) / 16777216 : Int)] 113) := ⟨_, rfl⟩
    rw [← hw3]
    have hB3 : Below w.heap.size w w3 := by rw [hw3]; exact hB.alloc hB.size _
    have hrd3 : Rd w3 (some ⟨w2.heap.size, 0, none⟩) (bvs (fourN (nextN 0 p))) := by
      rw [Hf.out, hw3]; exact Rd.new w2 _ _
    have hAp3 := hAp.below hB3
    have hAq3 := hAq.below hB3
    clear hw3
    by_cases heq : fourN (nextN 0 p) = q
    · have hd : decide (fourN (nextN 0 p) = q) = true := by simp [heq]
      have Ht2 := Lib.hid (show takeN l = some p from by rw [Ht.out, if_pos heq])
      have Hpm := HP.out
      subst Hpm
      clear heq
      go_quiet ((go_at_call 69; exact Calls.quiet_of_same (equal_n _ _ _ _ _ _ (fourN (nextN 0 p)) q rfl HQ.out _ (hrd3.drewN _) (hAq3.drewN _))))
      go_wp2_with (go_at_call 87; refine (cclone_any A c p (by omega) _ (hAp3.drewN _)).mono ?_; rintro e w4 ⟨v4, rfl, hown4, hB4⟩)
      go_returns
      rw [Ht2.out]
      exact ⟨v4, rfl, own_base hown4 hB3.size, bStep (bDrewN hB3 _) hB3.size hB4⟩
    · have hd : decide (fourN (nextN 0 p) = q) = false := by simp [heq]
      have Ht2 := Lib.hid (show takeN l = none from by rw [Ht.out, if_neg heq])
      clear heq
      go_quiet ((go_at_call 69; exact Calls.quiet_of_same (equal_n _ _ _ _ _ _ (fourN (nextN 0 p)) q rfl HQ.out _ (hrd3.drewN _) (hAq3.drewN _))))
      go_wp2
      go_returns
      rw [Ht2.out]
      exact ⟨_, rfl, World.ownsRow_nil _ _ _ _, bDrewN hB3 _⟩

end Go.Proofs.YtofheinbbefbcaaDoor
/- What the functions of numbers and of sums compute that are walked by hand, in the form of the printed contracts. -/
namespace Go.Proofs.YtofheinbbefbcaaDoor
open Go Go.RowKit
set_option maxRecDepth 100000
theorem ivs_encsN (l : List Int) : ivs l = encs enI l := by
  induction l with
  | nil => rfl
  | cons x l ih => rw [encs_cons, ← ih]; rfl
theorem bvs_encs (l : List UInt8) : bvs l = encs enY l := by
  induction l with
  | nil => rfl
  | cons x l ih => rw [encs_cons, ← ih]; rfl
/-- A row of one's own that a call gives back. -/
theorem own_st0 {w w' : World} {e k n : Nat} {v : Value} {xs : List Value} (h : w'.ownsRow w.heap.size e k v n xs) (hB : Below w.heap.size w w') : ∃ A c, v = .slice A n c ∧ (n ≤ c ∧ c ≤ maxLen) ∧ St0 All w w' [.row (.slice A n c) e k n xs] := by
  have h0 : w'.ownsRow 0 e k v n xs := ⟨h.1, h.2.imp id fun ⟨g, cap, cur, h1, h2, h3⟩ => ⟨g, cap, cur, h1, Nat.zero_le _, h3⟩⟩
  rcases h.2 with ⟨rfl, rfl⟩ | ⟨g, cap, cur, rfl, h1, h2, h3, h4, h5, h6⟩
  · exact ⟨none, 0, rfl, ⟨Nat.le_refl _, Nat.zero_le _⟩, (St0.start All w).add hB h0 (fun k hk => by cases hk)⟩
  · exact ⟨_, cap, rfl, ⟨h3, h4⟩, (St0.start All w).add hB h0 (fun k hk => by injection hk with hk; subst hk; exact ⟨h1, (Array.getElem?_eq_some_iff.1 h2).1⟩)⟩
def m_num_Long (l : List Int) : Option (List UInt8 × Int) := cond (decide (l.length ≤ 100000)) (some (longR l, errN l)) none
theorem c_num_Long (x0 : List Int) (A0 : Option Addr) (c0 : Nat) (w0 : World) (s0 : SlI w0 enI A0 c0 x0) {r : List UInt8 × Int} (H : m_num_Long x0 = some r) : Calls Tryd.prog 49 #[.slice A0 x0.length c0] w0 fun e w' => ∃ (A0 : Option Addr) (c0 : Nat), e = .returned (.tuple #[.slice A0 r.1.length c0, .int .i64 r.2]) ∧ (r.1.length ≤ c0 ∧ c0 ≤ maxLen) ∧ St0 All w0 w' [.row (.slice A0 r.1.length c0) 5 1 r.1.length (encs enY r.1)] := by
  unfold m_num_Long at H
  by_cases h : x0.length ≤ 100000
  · rw [decide_eq_true h] at H
    obtain rfl := Option.some.inj H
    refine (long_any A0 x0.length c0 x0 rfl (by omega) w0 (by rw [ivs_encsN]; exact s0.rd)).mono ?_
    rintro e w' ⟨v, rfl, ho, hB⟩
    obtain ⟨A, c, rfl, hk, hS⟩ := own_st0 ho hB
    exact ⟨A, c, rfl, hk, by rw [← bvs_encs]; exact hS⟩
  · rw [decide_eq_false h] at H; cases H
def m_ref01_Long (l : List Int) : Option (List UInt8 × Int) := cond (decide (l.length ≤ 100000)) (some (longR l, errN l)) none
def m_num_TakeLong (l : List UInt8) : Option (Int × List UInt8 × Int) := cond (decide (l.length ≤ 100000)) (some (tlN l)) none
theorem c_num_TakeLong (x0 : List UInt8) (A0 : Option Addr) (c0 : Nat) (w0 : World) (s0 : SlI w0 enY A0 c0 x0) {r : Int × List UInt8 × Int} (H : m_num_TakeLong x0 = some r) : Calls Tryd.prog 54 #[.slice A0 x0.length c0] w0 fun e w' => ∃ (A0 : Option Addr) (c0 : Nat), e = .returned (.tuple #[.int .i64 r.1, .slice A0 r.2.1.length c0, .int .i64 r.2.2]) ∧ (r.2.1.length ≤ c0 ∧ c0 ≤ maxLen) ∧ St0 All w0 w' [.row (.slice A0 r.2.1.length c0) 5 1 r.2.1.length (encs enY r.2.1)] := by
  unfold m_num_TakeLong at H
  by_cases h : x0.length ≤ 100000
  · rw [decide_eq_true h] at H
    obtain rfl := Option.some.inj H
    refine (takeLong_any A0 c0 x0 (by omega) w0 (by rw [bvs_encs]; exact s0.rd) s0.le s0.cap).mono ?_
    rintro e w' ⟨v, rfl, ho, hB⟩
    obtain ⟨A, c, rfl, hk, hS⟩ := own_st0 ho hB
    exact ⟨A, c, rfl, hk, by rw [← bvs_encs]; exact hS⟩
  · rw [decide_eq_false h] at H; cases H
def enU (n : Nat) : List Value := [.int .u32 (n : Int)]
def tabU : List Nat := (List.range 16).map tab
theorem rows_of {w : World} (h : SlI w enU (some ⟨0, 0, none⟩) 16 tabU) : RowsOK w := fun i hi => by
  have he : (encs enU tabU)[i]? = some (.int .u32 (tab i : Nat)) := by
    have : ∀ i, i < 16 → (encs enU tabU)[i]? = some (.int .u32 (tab i : Nat)) := by
      intro i hi
      have e : encs enU tabU = ((List.range 16).map fun i => (.int .u32 (tab i : Nat) : Value)) := by
        unfold encs tabU enU
        rw [List.flatMap_map]
        rfl
      rw [e, List.getElem?_map, List.getElem?_range hi]; rfl
    exact this i hi
  obtain ⟨b, o, hA, _, hc⟩ := h.rd i _ he
  cases hA
  rw [Nat.zero_add] at hc
  exact hc
theorem sl_of_rows {w : World} (h : RowsOK w) (hs : 0 < w.heap.size) : SlI w enU (some ⟨0, 0, none⟩) 16 tabU := by
  have e : encs enU tabU = ((List.range 16).map fun i => (.int .u32 (tab i : Nat) : Value)) := by
    unfold encs tabU enU
    rw [List.flatMap_map]
    rfl
  refine ⟨by simp [tabU], by unfold maxLen; decide, fun j u hj => ?_, fun a ha => by cases ha; exact hs⟩
  rw [e, List.getElem?_map] at hj
  have hj16 : j < 16 := by
    rcases Nat.lt_or_ge j 16 with h | h
    · exact h
    · rw [List.getElem?_eq_none (by simpa using h)] at hj; cases hj
  rw [List.getElem?_range hj16] at hj
  cases hj
  exact ⟨0, 0, rfl, hs, by rw [Nat.zero_add]; exact h j hj16⟩
def m_crc_Put (l : List UInt8) : Option (List UInt8) := cond (decide (l.length ≤ 100000)) (some (putN l)) none
theorem putN_len (l : List UInt8) : (putN l).length = l.length + 4 := by unfold putN; rw [List.length_append]; rfl
theorem c_crc_Put (x0 : List UInt8) (A0 : Option Addr) (c0 : Nat) (w0 : World) (s0 : SlI w0 enY A0 c0 x0) (hT : SlI w0 enU (some ⟨0, 0, none⟩) 16 tabU) {r : List UInt8} (H : m_crc_Put x0 = some r) : Calls Tryd.prog 52 #[.slice A0 x0.length c0] w0 fun e w' => ∃ (A0 : Option Addr) (c0 : Nat), e = .returned (.slice A0 r.length c0) ∧ (r.length ≤ c0 ∧ c0 ≤ maxLen) ∧ St0 All w0 w' [.row (.slice A0 r.length c0) 5 1 r.length (encs enY r)] := by
  unfold m_crc_Put at H
  by_cases h : x0.length ≤ 100000
  · rw [decide_eq_true h] at H
    obtain rfl := Option.some.inj H
    refine (put_any A0 c0 x0 (by omega) s0.le s0.cap w0 (by rw [bvs_encs]; exact s0.rd) (rows_of hT)).mono ?_
    rintro e w' ⟨v, rfl, ho, hB⟩
    rw [← putN_len] at ho
    obtain ⟨A, c, rfl, hk, hS⟩ := own_st0 ho hB
    exact ⟨A, c, rfl, hk, by rw [← bvs_encs]; exact hS⟩
  · rw [decide_eq_false h] at H; cases H
def m_crc_Take (l : List UInt8) : Option (List UInt8 × Bool) := cond (decide (l.length ≤ 100000)) (some ((takeN l).getD [], (takeN l).isSome)) none
theorem c_crc_Take (x0 : List UInt8) (A0 : Option Addr) (c0 : Nat) (w0 : World) (s0 : SlI w0 enY A0 c0 x0) (hT : SlI w0 enU (some ⟨0, 0, none⟩) 16 tabU) {r : List UInt8 × Bool} (H : m_crc_Take x0 = some r) : Calls Tryd.prog 66 #[.slice A0 x0.length c0] w0 fun e w' => ∃ (A0 : Option Addr) (c0 : Nat), e = .returned (.tuple #[.slice A0 r.1.length c0, .bool r.2]) ∧ (r.1.length ≤ c0 ∧ c0 ≤ maxLen) ∧ St0 All w0 w' [.row (.slice A0 r.1.length c0) 5 1 r.1.length (encs enY r.1)] := by
  unfold m_crc_Take at H
  by_cases h : x0.length ≤ 100000
  · rw [decide_eq_true h] at H
    obtain rfl := Option.some.inj H
    refine (ctake_any A0 c0 x0 (by omega) s0.le s0.cap w0 (by rw [bvs_encs]; exact s0.rd) (rows_of hT)).mono ?_
    rintro e w' ⟨v, rfl, ho, hB⟩
    obtain ⟨A, c, rfl, hk, hS⟩ := own_st0 ho hB
    exact ⟨A, c, rfl, hk, by rw [← bvs_encs]; exact hS⟩
  · rw [decide_eq_false h] at H; cases H
theorem same7_any (A B : Option Addr) (c d : Nat) (l m : List UInt8) (w : World) (hA : Rd w A (bvs l)) (hB : Rd w B (bvs m)) :
    Calls Tryd.prog 18 #[.slice A l.length c, .slice B m.length d] w fun e w' => e = .returned (.bool (decide (l = m))) ∧ w' = w := by
  have e1 := run_str hA c 23 5 Tryd.underlying23 Tryd.underlying5
  have e2 := run_str hB d 23 5 Tryd.underlying23 Tryd.underlying5
  go_enter Tryd.func18, Tryd.ntmps18
  go_wp2
  go_returns
  exact ⟨ret_bool (bstr_beq l m), rfl⟩
def m_law07_same (l m : List UInt8) : Option Bool := some (decide (l = m))
theorem c_law07_same (x0 x1 : List UInt8) (A0 : Option Addr) (c0 : Nat) (A1 : Option Addr) (c1 : Nat) (w0 : World) (s0 : SlI w0 enY A0 c0 x0) (s1 : SlI w0 enY A1 c1 x1) {r : Bool} (H : m_law07_same x0 x1 = some r) : Calls Tryd.prog 18 #[.slice A0 x0.length c0, .slice A1 x1.length c1] w0 fun e w' => e = .returned (.bool r) ∧ St0 All w0 w' [] := by
  obtain rfl := Option.some.inj H
  refine (same7_any A0 A1 c0 c1 x0 x1 w0 (by rw [bvs_encs]; exact s0.rd) (by rw [bvs_encs]; exact s1.rd)).mono ?_
  rintro e w' ⟨rfl, rfl⟩
  exact ⟨rfl, St0.start All _⟩
end Go.Proofs.YtofheinbbefbcaaDoor
/- The door of the laws of layers 7 and 11: the table as it is laid. -/
namespace Go.Proofs.YtofheinbbefbcaaDoor
open Go Go.ChangeShapes Go.WideShapes Go.ChangeAt Go.RowKit
set_option maxRecDepth 100000
def tabZ : List Int := tabL.map fun (n : Nat) => (n : Int)
theorem rows_of_laid {W : World} (h : laidMetH Tryd.prog [("moult/crc.rows", Rows.laid_moult_crc_rows)] W) : RowsOK W := by
  have h' : laidMet Tryd.prog [("moult/crc.rows", Lib.tabData .u32 tabZ)] W := h
  have hg : Tryd.prog.globalNamed "moult/crc.rows" = some 0 := by kernel_rfl
  have ht := Lib.tabIs_of_head hg (t := 131) (e := 115) (n := 16) (by kernel_rfl) Tryd.underlying131 Tryd.underlying115 (by kernel_rfl) (by kernel_rfl) h'
  intro i hi
  have := ht.cell hg i hi
  rw [this]
  have e : ∀ j, j < 16 → tabZ.getD j 0 = (tab j : Nat) := by decide
  rw [← e i hi]
theorem pos_of_rows {W : World} (h : RowsOK W) : 0 < W.heap.size := by
  have := h 0 (by decide)
  rcases Nat.eq_zero_or_pos W.heap.size with h0 | h0
  · exfalso
    have hn : W.heap[0]? = none := Array.getElem?_eq_none (by omega)
    simp [World.cell?, hn] at this
  · exact h0
theorem table_of_laid {W : World} (h : laidMetH Tryd.prog [("moult/crc.rows", Rows.laid_moult_crc_rows)] W) : SlI W enU (some ⟨0, 0, none⟩) 16 tabU := sl_of_rows (rows_of_laid h) (pos_of_rows (rows_of_laid h))
theorem door_met (os : Os) (args : Array Value) : laidMetH Tryd.prog [("moult/crc.rows", Rows.laid_moult_crc_rows)] ((World.doorLaid Tryd.prog 17 os).forCall (fun _ _ => 0) ⟨#[], args, []⟩).memory :=
  laidMetH_of_parts3 (fuel := 8) (laidMet_of_run' 8 (by kernel_rfl) (by kernel_rfl)) (by kernel_rfl) (by kernel_rfl)
end Go.Proofs.YtofheinbbefbcaaDoor
/- Laws for walks that a program of mine prints, fourth part: runs of steps that need no world, at once. -/
namespace Go.Proofs.YtofheinbbefbcaaDoor
open Go Go.RowKit
set_option maxRecDepth 100000
/-- Steps that are skipped, or only move what is there: so many, from these slots. -/
def quick (ops : Array Oper) (M : Nat) : Nat → List Oper → List (Nat × Value) → Option (List Oper × List (Nat × Value))
  | 0, l, L => some (l, L)
  | n + 1, o :: l, L =>
    match wantB ops L o.guard with
    | some false => match o.dst with
      | some d => bif Nat.ble (d + 1) M then quick ops M n l ((d, undef) :: L) else none
      | none => quick ops M n l L
    | some true => match o.dst with
      | some d => bif Nat.ble (d + 1) M then
          match o.op with
          | .move x => match ev L x with
            | some v => quick ops M n l ((d, v) :: L)
            | none => none
          | .assign x => match ev L x with
            | some v => quick ops M n l ((d, v) :: L)
            | none => none
          | .pick c x y => match ev L c with
            | some (.bool true) => match ev L x with
              | some v => quick ops M n l ((d, v) :: L)
              | none => none
            | some (.bool false) => match ev L y with
              | some v => quick ops M n l ((d, v) :: L)
              | none => none
            | _ => none
          | _ => none
        else none
      | none => none
    | none => none
  | _ + 1, [], _ => none
section
variable {P : Program} {ops : Array Oper} {Q : Exit → Act → World → Prop} {N : FS} {w : World}
theorem wpS_quick : ∀ (n : Nat) {l l' : List Oper} {L L' : List (Nat × Value)}, quick ops N.n n l L = some (l', L') → wpS P ops Q l' N L' w → wpS P ops Q l N L w
  | 0, l, l', L, L', h, k => by
    simp only [quick, Option.some.injEq, Prod.mk.injEq] at h
    obtain ⟨rfl, rfl⟩ := h
    exact k
  | n + 1, [], l', L, L', h, k => by cases h
  | n + 1, ⟨dst, op, ty, pos, af, g⟩ :: l, l', L, L', h, k => by
    unfold quick at h
    split at h
    · rename_i hg
      split at h
      · rename_i d hd
        cases hb : Nat.ble (d + 1) N.n with
        | false => rw [hb] at h; cases h
        | true =>
          rw [hb] at h
          exact wpS_skip hg hd hb (wpS_quick n h k)
      · rename_i hd
        exact wpS_skip0 hg hd (wpS_quick n h k)
    · rename_i hg
      split at h
      · rename_i d hd
        cases hb : Nat.ble (d + 1) N.n with
        | false => rw [hb] at h; cases h
        | true =>
          rw [hb] at h
          dsimp only [cond_true] at h
          split at h
          · rename_i x
            split at h
            · rename_i v hv
              exact wpS_put hg hd hb (yv_move hv) (wpS_quick n h k)
            · cases h
          · rename_i x
            split at h
            · rename_i v hv
              exact wpS_put hg hd hb (yv_assign hv) (wpS_quick n h k)
            · cases h
          · rename_i c x y
            split at h
            · rename_i hc
              split at h
              · rename_i v hv
                exact wpS_put hg hd hb (yv_pick_t hc rfl hv) (wpS_quick n h k)
              · cases h
            · rename_i hc
              split at h
              · rename_i v hv
                exact wpS_put hg hd hb (yv_pick_f hc rfl hv) (wpS_quick n h k)
              · cases h
            · cases h
          · cases h
      · cases h
    · cases h
end
end Go.Proofs.YtofheinbbefbcaaDoor
/- Laws for walks that a program of mine prints, fifth part: new variables that may come up at any time beside a region's calls. -/
namespace Go.Proofs.YtofheinbbefbcaaDoor
open Go Go.RowKit
set_option maxRecDepth 100000
/-- A new variable: its operation's number, its slot, its type, the cells. -/
structure FlI where
  i : Nat
  d : Nat
  T : Nat
  zs : List Value
section
variable {P : Program} {md : Region.Mode} {ops : Array Oper} {G : Nat → Nat → Prop} {sl : List Nat} {Q : Exit → Act → World → Prop} {N : FS} {w w0 : World} {S : Nat → Prop} {H : List Ent} {L : List (Nat × Value)} {fl : List FlI}
/-- The new variables are as the operations have them. -/
structure FlOk (P : Program) (ops : Array Oper) (N : FS) (sl : List Nat) (fl : List FlI) : Prop where
  op : ∀ f ∈ fl, ∃ ty pos af, ops[f.i]? = some ⟨some f.d, .alloc f.T, ty, pos, af, none⟩
  zc : ∀ f ∈ fl, ZcC P f.T f.zs
  le : ∀ f ∈ fl, Nat.ble (f.d + 1) N.n = true
  off : ∀ f ∈ fl, f.i ∉ sl
  inj : fl.Pairwise (fun f g => f.i ≠ g.i ∧ f.d ≠ g.d)
theorem FlOk.nil : FlOk P ops N sl [] := ⟨fun _ h => (by cases h), fun _ h => (by cases h), fun _ h => (by cases h), fun _ h => (by cases h), List.Pairwise.nil⟩
theorem FlOk.cons {i d T : Nat} {zs : List Value} {ty : TypeId} {pos : String} {af : Array Edge} (hop : ops[i]? = some ⟨some d, .alloc T, ty, pos, af, none⟩) (hz : ZcC P T zs) (hle : Nat.ble (d + 1) N.n = true) (hoff : sl.contains i = false) (hinj : (fl.all fun g => !(Nat.beq g.i i) && !(Nat.beq g.d d)) = true) (h : FlOk P ops N sl fl) : FlOk P ops N sl (⟨i, d, T, zs⟩ :: fl) := by
  refine ⟨fun f hf => ?_, fun f hf => ?_, fun f hf => ?_, fun f hf => ?_, List.pairwise_cons.2 ⟨fun g hg => ?_, h.inj⟩⟩
  · rcases List.mem_cons.1 hf with rfl | hf
    · exact ⟨_, _, _, hop⟩
    · exact h.op f hf
  · rcases List.mem_cons.1 hf with rfl | hf
    · exact hz
    · exact h.zc f hf
  · rcases List.mem_cons.1 hf with rfl | hf
    · exact hle
    · exact h.le f hf
  · rcases List.mem_cons.1 hf with rfl | hf
    · simpa using hoff
    · exact h.off f hf
  · have := List.all_eq_true.1 hinj g hg
    simp only [Bool.and_eq_true, Bool.not_eq_true'] at this
    refine ⟨fun h0 => ?_, fun h0 => ?_⟩
    · have h1 := this.1; rw [← h0] at h1; simp at h1
    · have h1 := this.2; rw [← h0] at h1; simp at h1
end
end Go.Proofs.YtofheinbbefbcaaDoor
/- Laws for walks that a program of mine prints, sixth part: jumps ahead, arrays, clear, stores in drawn regions, ranges over functions. -/
namespace Go.Proofs.YtofheinbbefbcaaDoor
open Go Go.RowKit
set_option maxRecDepth 100000
section
variable {P : Program} {ro : Option Nat} {ops : Array Oper} {Q : Exit → Act → World → Prop} {rest : List Oper} {N : FS} {L : List (Nat × Value)} {w w0 : World} {S : Nat → Prop} {H H' : List Ent} {dn : Nat} {ty : TypeId} {pos : String} {af : Array Edge} {g : Option (Nat × Bool)} {R : World → Prop} {d : Option Nat} {md : Region.Mode} {G : Nat → Nat → Prop} {sl : List Nat}
/-! ### Jumps ahead -/
/-- What is asked of a jump ahead. -/
structure Ahd (P : Program) (rest : Code) (l : Nat) (Q : Exit → Act → World → Prop) (a : Act) (w : World) : Prop where
  go : wpo P none rest (Exit.jump l (fun _ _ => False) Q) a w
theorem wpC_scope1 (l : Nat) {c rest : Code} (hf : findLabel c l = some rest) (k : wpC P none c (Exit.jump l (Ahd P rest l Q) Q) N L w) : wpC P none (.scope c) Q N L w := .mk fun a hF => by
  refine wpo_scope l (Ahd P rest l Q) (fun _ _ => 0) hf (k.go a hF) fun a w h => wpo_mono h.go fun e a' w' he => ?_
  cases e with
  | goto l' => exact he.2.elim
  | _ => exact he
theorem QH_ahead {l : Nat} {rest : Code} (k : wpC P none rest (Exit.jump l (fun _ _ => False) Q) N L w) : QH (Exit.jump l (Ahd P rest l Q) Q) (.goto l) N L w := ⟨fun a hF => ⟨rfl, ⟨k.go a hF⟩⟩⟩
/-! ### Arrays -/
theorem KeepB.setCells (b : Nat) : ∀ (vs : List Value) (o : Nat) (w : World), KeepB (fun k => k ≠ b) w (w.setCells b o vs) := fun vs o w => by
  have hz := size_setCells b vs o w
  exact ⟨hz.2.1, hz.2.2.1, hz.2.2.2, by rw [hz.1]; exact Nat.le_refl _, fun k _ hk => heap_setCells b vs o w k hk⟩
end
end Go.Proofs.YtofheinbbefbcaaDoor
/- Laws for walks that a program of mine prints, seventh part: rounds of a range over a function. -/
namespace Go.Proofs.YtofheinbbefbcaaDoor
open Go Go.RowKit
set_option maxRecDepth 100000
section
variable {w w0 A2 : World} {H : List Ent} {M E : Nat}
theorem drop_of_get {α : Type} {l : List α} {k : Nat} {x : α} (h : l[k]? = some x) : l.drop k = x :: l.drop (k + 1) := by
  have hk := (List.getElem?_eq_some_iff.1 h).1
  rw [List.drop_eq_getElem_cons hk, (List.getElem?_eq_some_iff.1 h).2]
/-- What an iterator captured: its box. -/
theorem St0.cap {wM : World} {b T : Nat} {cs : List Value} (h : St0 All wM w (.box b cs T :: H)) : w.heap[b]? = some (.cells cs.toArray T) ∧ wM.heap.size ≤ b ∧ b < w.heap.size := by
  have h1 := h.rng _ (List.mem_cons_self ..) b rfl
  exact ⟨h.ok _ (List.mem_cons_self ..), Nat.le_of_not_lt fun hlt => h1.2 hlt trivial, h1.1⟩
end
end Go.Proofs.YtofheinbbefbcaaDoor
/- Small laws of places, printed. -/
namespace Go.Proofs.YtofheinbbefbcaaDoor
open Go Go.RowKit
set_option maxRecDepth 100000
theorem em_22 : Elem Tryd.prog 22 40 (.agg #[.int .i64 0, .int .i64 0, .int .i64 0]) 3 24 := ⟨by kernel_rfl, by kernel_rfl, rfl, by omega⟩
theorem em_23 : Elem Tryd.prog 23 5 (.int .u8 0) 1 1 := ⟨by kernel_rfl, by kernel_rfl, rfl, by omega⟩
theorem hs0 {a0 : Ent} {H : List Ent} : Has (a0 :: H) a0 := .head
theorem hs1 {a0 a1 : Ent} {H : List Ent} : Has (a0 :: a1 :: H) a1 := .tail (.head)
theorem hs2 {a0 a1 a2 : Ent} {H : List Ent} : Has (a0 :: a1 :: a2 :: H) a2 := .tail (.tail (.head))
theorem hs3 {a0 a1 a2 a3 : Ent} {H : List Ent} : Has (a0 :: a1 :: a2 :: a3 :: H) a3 := .tail (.tail (.tail (.head)))
theorem hs4 {a0 a1 a2 a3 a4 : Ent} {H : List Ent} : Has (a0 :: a1 :: a2 :: a3 :: a4 :: H) a4 := .tail (.tail (.tail (.tail (.head))))
theorem ps0 {a0 b : Ent} {H : List Ent} : Pos (a0 :: H) a0 (b :: H) b := .head
theorem ps1 {a0 a1 b : Ent} {H : List Ent} : Pos (a0 :: a1 :: H) a1 (a0 :: b :: H) b := .tail (.head)
theorem ps2 {a0 a1 a2 b : Ent} {H : List Ent} : Pos (a0 :: a1 :: a2 :: H) a2 (a0 :: a1 :: b :: H) b := .tail (.tail (.head))
theorem ps3 {a0 a1 a2 a3 b : Ent} {H : List Ent} : Pos (a0 :: a1 :: a2 :: a3 :: H) a3 (a0 :: a1 :: a2 :: b :: H) b := .tail (.tail (.tail (.head)))
theorem ps4 {a0 a1 a2 a3 a4 b : Ent} {H : List Ent} : Pos (a0 :: a1 :: a2 :: a3 :: a4 :: H) a4 (a0 :: a1 :: a2 :: a3 :: b :: H) b := .tail (.tail (.tail (.tail (.head))))
theorem ps7 {a0 a1 a2 a3 a4 a5 a6 a7 b : Ent} {H : List Ent} : Pos (a0 :: a1 :: a2 :: a3 :: a4 :: a5 :: a6 :: a7 :: H) a7 (a0 :: a1 :: a2 :: a3 :: a4 :: a5 :: a6 :: b :: H) b := .tail (.tail (.tail (.tail (.tail (.tail (.tail (.head)))))))
theorem sg0_1 {a0 : Value} {H : List Value} : Seg (a0 :: H) 0 1 [a0] := .here (.succ (.zero))
theorem sg0_3 {a0 a1 a2 : Value} {H : List Value} : Seg (a0 :: a1 :: a2 :: H) 0 3 [a0, a1, a2] := .here (.succ (.succ (.succ (.zero))))
theorem sg1_1 {a0 a1 : Value} {H : List Value} : Seg (a0 :: a1 :: H) 1 1 [a1] := .succ (.here (.succ (.zero)))
theorem sg2_1 {a0 a1 a2 : Value} {H : List Value} : Seg (a0 :: a1 :: a2 :: H) 2 1 [a2] := .succ (.succ (.here (.succ (.zero))))
theorem st0_1 {a0 b0 : Value} {H : List Value} : SetC (a0 :: H) 0 [b0] (b0 :: H) := .here (.cons (.nil))
theorem st0_3 {a0 a1 a2 b0 b1 b2 : Value} {H : List Value} : SetC (a0 :: a1 :: a2 :: H) 0 [b0, b1, b2] (b0 :: b1 :: b2 :: H) := .here (.cons (.cons (.cons (.nil))))
theorem st1_1 {a0 a1 b0 : Value} {H : List Value} : SetC (a0 :: a1 :: H) 1 [b0] (a0 :: b0 :: H) := .succ (.here (.cons (.nil)))
theorem st2_1 {a0 a1 a2 b0 : Value} {H : List Value} : SetC (a0 :: a1 :: a2 :: H) 2 [b0] (a0 :: a1 :: b0 :: H) := .succ (.succ (.here (.cons (.nil))))
theorem eqT_40 (a0 : Int) (a1 : Int) (a2 : Int) (b0 : Int) (b1 : Int) (b2 : Int) (w : World) : (Op.equalIn 10000 40 (.agg #[.int .i64 a0, .int .i64 a1, .int .i64 a2]) (.agg #[.int .i64 b0, .int .i64 b1, .int .i64 b2])).run Tryd.prog w = .ok (decide (a0 = b0) && (decide (a1 = b1) && (decide (a2 = b2)))) w := by
  by_cases h0 : a0 = b0 <;> by_cases h1 : a1 = b1 <;> by_cases h2 : a2 = b2 <;> go_simp
end Go.Proofs.YtofheinbbefbcaaDoor
/- Two ways that meet again: what comes behind is walked once. -/
namespace Go.Proofs.YtofheinbbefbcaaDoor
open Go Go.RowKit
set_option maxRecDepth 100000
section
variable {P : Program} {N : FS} {L : List (Nat × Value)} {w : World} {Q : Exit → Act → World → Prop}
end
end Go.Proofs.YtofheinbbefbcaaDoor
/- Arrays of integers held against each other. -/
namespace Go.Proofs.YtofheinbbefbcaaDoor
open Go Go.RowKit
set_option maxRecDepth 100000

variable {P : Program} {w : World} {t e : TypeId} {k : IntKind}

end Go.Proofs.YtofheinbbefbcaaDoor
/- Laws for walks that a program of mine prints, ninth part: many ready at once, copy, bits. -/
namespace Go.Proofs.YtofheinbbefbcaaDoor
open Go Go.RowKit
set_option maxRecDepth 100000
/-! ### Many at once -/
section
variable {P : Program} {md : Region.Mode} {G : Nat → Nat → Prop} {sl : List Nat} {Q : Exit → Act → World → Prop} {N : FS} {L : List (Nat × Value)} {w : World}
end
/-! ### Bits -/
section
variable {P : Program} {L : List (Nat × Value)} {R : World → Prop} {d : Option Nat} {ty : TypeId} {pos : String} {af : Array Edge} {g : Option (Nat × Bool)} {w : World}
end
/-! ### Slices laid out, as rows -/
theorem Weak.boxRow {w : World} {b e size n : Nat} {cs : List Value} (h : cs.length = n * size) (hn : n ≤ maxLen) : Weak w (.box b cs e) (.row (.slice (some ⟨b, 0, none⟩) n n) e size n cs) :=
  ⟨fun hb => ⟨h, .inr ⟨b, n, cs.toArray, rfl, Nat.zero_le _, hb, Nat.le_refl _, hn, by simp [h], by rw [← h]; simp⟩⟩, fun k hk => by
    have : (Value.slice (some ⟨b, 0, none⟩) n n).ownBlock = some k := hk
    simp only [Value.ownBlock, Option.some.injEq] at this
    exact this.symm⟩
/-! ### copy -/
section
variable {P : Program} {ops : Array Oper} {Q : Exit → Act → World → Prop} {rest : List Oper} {N : FS} {L : List (Nat × Value)} {w w0 : World} {S : Nat → Prop} {H H' : List Ent} {dn : Nat} {ty : TypeId} {pos : String} {af : Array Edge} {g : Option (Nat × Bool)}
end
end Go.Proofs.YtofheinbbefbcaaDoor
/- Bytes: conversions, exclusive or. -/
namespace Go.Proofs.YtofheinbbefbcaaDoor
open Go Go.RowKit
set_option maxRecDepth 100000
/-- A number's lowest byte. -/
def byI (n : Int) : UInt8 := UInt8.ofNat (n % 256).toNat
theorem byI_wrap (n : Int) : IntKind.wrap .u8 n = ((byI n).toNat : Int) := by
  have h : (byI n).toNat = (n % 256).toNat := by
    unfold byI
    rw [UInt8.toNat_ofNat']
    have : (n % 256).toNat < 256 := by omega
    omega
  rw [h]
  have e : IntKind.wrap .u8 n = n % 256 := rfl
  rw [e]
  omega
section
variable {P : Program} {L : List (Nat × Value)} {R : World → Prop} {d : Option Nat} {ty : TypeId} {pos : String} {af : Array Edge} {g : Option (Nat × Bool)}
theorem yx_conv8 {x : Operand} {s t : TypeId} {k : IntKind} {n : Int} (hs : (P.underlying s).isSome = true) (ht : P.underlying t = some (.int .u8)) (hx : ev L x = some (.int k n)) : Yv P L R ⟨d, .convert s t x, ty, pos, af, g⟩ (.int .u8 ((byI n).toNat : Int)) := by
  rw [← byI_wrap]; exact yx_conv hs ht hx
theorem yx_xor8 {x y : Operand} {t t' : TypeId} {a b : UInt8} (hx : ev L x = some (.int .u8 (a.toNat : Int))) (hy : ev L y = some (.int .u8 (b.toNat : Int))) : Yv P L R ⟨d, .binOp .xor t x y t', ty, pos, af, g⟩ (.int .u8 ((a ^^^ b).toNat : Int)) := by
  have e : bits .xor .u8 (a.toNat : Int) (b.toNat : Int) = ((a ^^^ b).toNat : Int) := by
    rw [u8_xor_nat _ _ a.toNat_lt b.toNat_lt, UInt8.toNat_xor]
  rw [← e]
  exact Yv.mk fun w1 _ ρ hρ => by
    simp only [execOp, hρ x _ hx, hρ y _ hy, eqGuard]
    simp [binOp, Op.intBits]
    rfl
end
end Go.Proofs.YtofheinbbefbcaaDoor
/- Structures, and arguments of their types opened; printed. -/
namespace Go.Proofs.YtofheinbbefbcaaDoor
open Go Go.ChangeShapes Go.WideShapes Go.ChangeAt Go.RowKit
set_option maxRecDepth 100000
structure Rf where
  seq : Int
  fmt : Int
deriving DecidableEq
structure Sg where
  seq : Int
  fmt : Int
  first : Int
  count : Int
deriving DecidableEq
structure Id where
  kind : Int
  seq : Int
  fmt : Int
deriving DecidableEq
structure Sc where
  first : Int
  log : List En
  used : Int
deriving DecidableEq
structure Mf where
  next : Int
  term : Int
  vote : Int
  snap : Rf
  segs : List Sg
deriving DecidableEq
instance : Inhabited Rf := ⟨⟨0, 0⟩⟩
instance : Inhabited Sg := ⟨⟨0, 0, 0, 0⟩⟩
instance : Inhabited Id := ⟨⟨0, 0, 0⟩⟩
def Rf.ok (x : Rf) : Prop := I64 x.seq ∧ I64 x.fmt
def Sg.ok (x : Sg) : Prop := I64 x.seq ∧ I64 x.fmt ∧ I64 x.first ∧ I64 x.count
def Id.ok (x : Id) : Prop := (0 ≤ x.kind ∧ x.kind ≤ 255) ∧ I64 x.seq ∧ I64 x.fmt
def Sc.ok (x : Sc) : Prop := I64 x.first ∧ (∀ e ∈ x.log, e.ok) ∧ I64 x.used
def Mf.ok (x : Mf) : Prop := I64 x.next ∧ I64 x.term ∧ I64 x.vote ∧ x.snap.ok ∧ (∀ e ∈ x.segs, e.ok)
section
variable {H : Type} {enc : TypeId × Value → H} {W : World} {base0 : Nat} {sp : Nat → Bool} {held : Bool} {base : Nat}
end
end Go.Proofs.YtofheinbbefbcaaDoor
/- What functions compute, in plain terms; printed. -/
namespace Go.Proofs.YtofheinbbefbcaaDoor
open Go Go.RowKit
set_option maxRecDepth 100000
def m_one_Head (x0 : Int) : Option (List UInt8 × Int) :=
  (m_num_Long ([x0] : List Int)).bind fun r5 =>
  cond (decide (r5.2 ≠ 0))
   (
    some ([], 2))
   (
    cond (decide (x0 = 0))
     (
      some ([], 2))
     (
      (fewI (([1] : List UInt8) ++ r5.1)).bind fun l22 =>
      some (l22, 0)))
def m_one_Put_l1 (x0 : List En) : Nat → List UInt8 → Int → Int → Option (List UInt8 × Int)
  | 0, _, _, _ => none
  | n + 1, v4, v9, v10 =>
      cond (decide (v10 < (x0.length : Int)))
       (
        (idx x0 v10).bind fun e16 =>
        (m_entry_Right e16).bind fun r23 =>
        cond (!r23)
         (
          some ([], 2))
         (
          (m_num_Long ([e16.term] : List Int)).bind fun r31 =>
          (m_num_Long ([e16.value] : List Int)).bind fun r40 =>
          (fewI (r31.1 ++ ([(byI e16.kind)] : List UInt8))).bind fun l48 =>
          (fewI (l48 ++ r40.1)).bind fun l53 =>
          (m_crc_Put l53).bind fun r58 =>
          (fewI (v4 ++ r58)).bind fun l64 =>
          m_one_Put_l1 x0 n l64 v9 (IntKind.wrap .i64 (v10 + 1))))
       (
        some (v4, 0))
def m_one_Put (x0 : List En) : Option (List UInt8 × Int) :=
  m_one_Put_l1 x0 fuelN [] 0 0
def m_one_File (x0 : Int) (x1 : List En) : Option (List UInt8 × Int) :=
  (m_one_Head x0).bind fun r3 =>
  cond (decide (r3.2 ≠ 0))
   (
    some ([], r3.2))
   (
    (m_one_Put x1).bind fun r15 =>
    cond (decide (r15.2 ≠ 0))
     (
      some ([], r15.2))
     (
      (fewI (r3.1 ++ r15.1)).bind fun l27 =>
      some (l27, 0)))
def m_one_take (x0 : List UInt8) : Option (En × Bool) :=
  (m_crc_Take x0).bind fun r7 =>
  cond (!r7.2)
   (
    some ((⟨0, 0, 0⟩ : En), false))
   (
    (m_num_TakeLong r7.1).bind fun r21 =>
    cond (decide (r21.2.2 ≠ 0))
     (
      some ((⟨0, 0, 0⟩ : En), false))
     (
      (idx r21.2.1 0).bind fun e33 =>
      (dropI r21.2.1 1).bind fun l38 =>
      (m_num_TakeLong l38).bind fun r40 =>
      cond (decide (r40.2.2 ≠ 0))
       (
        some ((⟨0, 0, 0⟩ : En), false))
       (
        (m_entry_Right (⟨r21.1, (IntKind.wrap .i64 (e33.toNat : Int)), r40.1⟩ : En)).bind fun r51 =>
        cond (!r51)
         (
          some ((⟨0, 0, 0⟩ : En), false))
         (
          some ((⟨r21.1, (IntKind.wrap .i64 (e33.toNat : Int)), r40.1⟩ : En), true)))))
def m_one_Size (x0 : Int) : Option (Int) :=
  some (IntKind.wrap .i64 (6 + (IntKind.wrap .i64 (15 * (min (max x0 0) 1073741824)))))
def m_ref06_number (x0 : Int) : Option (Bool) :=
  cond (decide (0 ≤ x0))
   (
    some (decide (x0 ≤ 1073741824)))
   (
    some false)
def m_ref06_Right (x0 : En) : Option (Bool) :=
  cond (decide (1 ≤ x0.term))
   (
    (m_ref06_number x0.term).bind fun r6 =>
    cond r6
     (
      cond (decide (0 ≤ x0.kind))
       (
        cond (decide (x0.kind < 5))
         (
          (m_ref06_number x0.value).bind fun r11 =>
          cond r11
           (
            cond (decide (x0.kind = 1))
             (
              some true)
             (
              some (decide (x0.value = 0))))
           (
            some false))
         (
          some false))
       (
        some false))
     (
      some false))
   (
    some false)
def m_ref07_Entries_l1 (x0 : List En) (x1 : List En) : Nat → Bool → Int → Option (Bool)
  | 0, _, _ => none
  | n + 1, v9, v10 =>
      cond (decide (v10 < (x0.length : Int)))
       (
        (idx x0 v10).bind fun e16 =>
        (idx x1 v10).bind fun e19 =>
        cond (!(decide (e16.term = e19.term) && (decide (e16.kind = e19.kind) && (decide (e16.value = e19.value)))))
         (
          some false)
         (
          m_ref07_Entries_l1 x0 x1 n v9 (IntKind.wrap .i64 (v10 + 1))))
       (
        some true)
def m_ref07_Entries (x0 : List En) (x1 : List En) : Option (Bool) :=
  cond (decide ((x0.length : Int) ≠ (x1.length : Int)))
   (
    some false)
   (
    m_ref07_Entries_l1 x0 x1 fuelN false 0)
end Go.Proofs.YtofheinbbefbcaaDoor
/- What functions compute, in plain terms, and that they do; printed. -/
namespace Go.Proofs.YtofheinbbefbcaaDoor
open Go Go.RowKit
set_option maxRecDepth 100000
set_option maxHeartbeats 4000000
theorem c_one_Head (x0 : Int) (w0 : World) {r : List UInt8 × Int} (H : m_one_Head x0 = some r) : Calls Tryd.prog 14 #[.int .i64 x0] w0 fun e w' => ∃ (A0 : Option Addr) (c0 : Nat), e = .returned (.tuple #[.slice A0 r.1.length c0, .int .i64 r.2]) ∧ (r.1.length ≤ c0 ∧ c0 ≤ maxLen) ∧ St0 All w0 w' [.row (.slice A0 r.1.length c0) 5 1 r.1.length (encs enY r.1)] := by
  unfold m_one_Head at H
  refine gw_enter1 Tryd.func14 rfl Tryd.ntmps14 rfl ?_
  have hS := St0.start All w0
  refine wpC_seq_k (fun K hK1 => ?_)
  refine wpC_region ?_
  refine wpS_quick 2 rfl ?_
  refine wpS_nil ?_
  refine QH_seq_k hK1 ?_
  refine wpC_seq_k (fun K hK2 => ?_)
  refine wpC_region ?_
  refine wpS_quick 1 rfl ?_
  refine wpS_sliceM (ps := [(0, .tmp 7)]) [.int .i64 x0] el_90 zc_3 rfl rfl rfl rfl rfl (by kernel_rfl) hS (fun b3 w hS hB => ?_)
  obtain ⟨r5, hm6, H⟩ := bind_some H
  refine wpS_call rfl rfl rfl rfl (by kernel_rfl) rfl (c_num_Long ([x0] : List Int) (some ⟨b3, 0, none⟩) 1 _ (SlI.of_rd ⟨Nat.le_refl 1, by decide⟩ (hS.box_rd hs0) (hS.box_blk hs0)) hm6) ?_
  rintro e w ⟨A7, c8, rfl, k9, hN⟩; refine ⟨_, rfl, ?_⟩; have hB := hN.pure; have hS := hS.join hN; clear hN
  refine wpS_quick 1 rfl ?_
  refine wpS_put rfl rfl rfl (yv_extract rfl rfl) ?_
  refine wpS_put rfl rfl rfl (yv_extract rfl rfl) ?_
  refine wpS_quick 2 rfl ?_
  refine wpS_nil ?_
  refine QH_seq_k hK2 ?_
  refine wpC_seq_k (fun K hK11 => ?_)
  refine wpC_seq_k (fun K hK12 => ?_)
  refine wpC_region ?_
  refine wpS_quick 1 rfl ?_
  refine wpS_put rfl rfl rfl (yv_neq rfl rfl) ?_
  refine wpS_quick 1 rfl ?_
  refine wpS_case 14 rfl (fun hb => ?_) (fun hb => ?_)
  · replace H := cond_t H hb
    refine wpS_quick 3 rfl ?_
    refine wpS_nil ?_
    refine QH_seq_k hK12 ?_
    refine wpC_cond_t rfl rfl ?_
    refine wpC_seq_k (fun K hK14 => ?_)
    refine wpC_region ?_
    refine wpS_quick 2 rfl ?_
    refine wpS_nil ?_
    refine QH_seq_k hK14 ?_
    refine wpC_ret ?_
    refine QH_then_ret ?_
    refine QH_ret rfl (RV.tmp rfl (RV.tmp rfl RV.nil)) rfl ?_
    obtain rfl := Option.some.inj H
    have hS := hS.nilRow 5 1
    replace hS := hS.cut 1
    exact ⟨none, 0, rfl, ⟨Nat.le_refl _, Nat.zero_le _⟩, hS⟩
  replace H := cond_f H hb
  refine wpS_quick 1 rfl ?_
  refine wpS_put rfl rfl rfl (yv_eql rfl rfl) ?_
  refine wpS_quick 1 rfl ?_
  refine wpS_nil ?_
  refine QH_seq_k hK12 ?_
  refine wpC_cond rfl (fun hb => ?_) (fun hb => ?_)
  · replace H := cond_t H hb
    refine wpC_seq_k (fun K hK17 => ?_)
    refine wpC_region ?_
    refine wpS_quick 2 rfl ?_
    refine wpS_nil ?_
    refine QH_seq_k hK17 ?_
    refine wpC_ret ?_
    refine QH_then_ret ?_
    refine QH_ret rfl (RV.tmp rfl (RV.tmp rfl RV.nil)) rfl ?_
    obtain rfl := Option.some.inj H
    have hS := hS.nilRow 5 1
    replace hS := hS.cut 1
    exact ⟨none, 0, rfl, ⟨Nat.le_refl _, Nat.zero_le _⟩, hS⟩
  replace H := cond_f H hb
  refine wpC_skip ?_
  refine QH_seq_k hK11 ?_
  refine wpC_seq_k (fun K hK19 => ?_)
  refine wpC_region ?_
  refine wpS_sliceM (ps := [(0, .const (.int .u8 1))]) [.int .u8 1] el_23 zc_5 rfl rfl rfl rfl rfl (by kernel_rfl) hS (fun b20 w hS hB => ?_)
  refine wpS_quick 1 rfl ?_
  replace hS := hS.front 0 rfl
  replace hS := hS.weak (Weak.boxRow (cs := encs enY ([1] : List UInt8)) (n := 1) (size := 1) rfl (by decide))
  obtain ⟨l22, hf23, H⟩ := bind_some H
  refine wpX_append (ys := r5.1) he_enY oc_enY em_23 (by decide) rfl rfl rfl rfl hS (fun _ => ps0) (hS.row_rd hs1) hf23 (fun A24 c25 w k26 hS => ?_)
  refine wpS_quick 2 rfl ?_
  refine wpS_nil ?_
  refine QH_seq_k hK19 ?_
  refine wpC_ret ?_
  refine QH_ret rfl (RV.tmp rfl (RV.tmp rfl RV.nil)) rfl ?_
  obtain rfl := Option.some.inj H
  have hS := hS.front 0 rfl
  replace hS := hS.cut 1
  exact ⟨A24, c25, rfl, k26, hS⟩
theorem c_one_Put (x0 : List En) (A0_ : Option Addr) (c0_ : Nat) (w0 : World) (s0_ : SlI w0 enE A0_ c0_ x0) (hT_ : SlI w0 enU (some ⟨0, 0, none⟩) 16 tabU) {r : List UInt8 × Int} (H : m_one_Put x0 = some r) : Calls Tryd.prog 16 #[.slice A0_ x0.length c0_] w0 fun e w' => ∃ (A0 : Option Addr) (c0 : Nat), e = .returned (.tuple #[.slice A0 r.1.length c0, .int .i64 r.2]) ∧ (r.1.length ≤ c0 ∧ c0 ≤ maxLen) ∧ St0 All w0 w' [.row (.slice A0 r.1.length c0) 5 1 r.1.length (encs enY r.1)] := by
  unfold m_one_Put at H
  refine gw_enter1 Tryd.func16 rfl Tryd.ntmps16 rfl ?_
  have hS := St0.start All w0
  refine wpC_seq_k (fun K hK1 => ?_)
  refine wpC_region ?_
  refine wpS_quick 2 rfl ?_
  refine wpS_nil ?_
  refine QH_seq_k hK1 ?_
  refine wpC_seq_k (fun K hK2 => ?_)
  refine wpC_seq_k (fun K hK3 => ?_)
  refine wpC_region ?_
  refine wpS_quick 1 rfl ?_
  refine wpS_put rfl rfl rfl (yv_len el_22 rfl) ?_
  refine wpS_quick 1 rfl ?_
  refine wpS_nil ?_
  refine QH_seq_k hK3 ?_
  refine wpC_block ?_
  replace hS := hS.nilRow 5 1
  refine wpC_loop (X := Nat × List UInt8 × Option Addr × Nat × Int × Int) (fun x => (2, .slice x.2.2.1 x.2.1.length x.2.2.2.1) :: (3, .int .i64 x.2.2.2.2.1) :: (10, .slice A0_ x0.length c0_) :: (11, .int .i64 (x0.length : Int)) :: (12, .int .i64 x.2.2.2.2.2) :: []) (fun x w => St0 All w0 w (.row (.slice x.2.2.1 x.2.1.length x.2.2.2.1) 5 1 x.2.1.length (encs enY x.2.1) :: []) ∧ (x.2.1.length ≤ x.2.2.2.1 ∧ x.2.2.2.1 ≤ maxLen) ∧ m_one_Put_l1 x0 x.1 x.2.1 x.2.2.2.2.1 x.2.2.2.2.2 = some r) (fun x => x.1) (fuelN, [], none, 0, 0, 0) (by repeat (first | exact Sub.nil | refine Sub.cons rfl ?_)) ⟨hS, ⟨Nat.le_refl _, Nat.zero_le _⟩, H⟩ ?_
  rintro ⟨n, v4, A5, c6, v9, v10⟩ w ⟨hS, k7, H⟩
  dsimp only at hS k7 H ⊢
  obtain _ | n := n
  · have H0 : none = some r := H
    cases H0
  rw [m_one_Put_l1] at H
  refine wpC_seq_k (fun K hK11 => ?_)
  refine wpC_region ?_
  refine wpS_put rfl rfl rfl (yv_lss rfl rfl) ?_
  refine wpS_nil ?_
  refine QH_seq_k hK11 ?_
  refine wpC_seq_k (fun K hK12 => ?_)
  refine wpC_cond rfl (fun hb => ?_) (fun hb => ?_)
  rotate_left
  · replace H := cond_f H hb
    refine wpC_exit ?_
    refine QH_then_exit ?_
    refine QH_then_exit ?_
    refine QH_block_hit ?_
    refine QH_seq_k hK2 ?_
    refine wpC_seq_k (fun K hK70 => ?_)
    refine wpC_region ?_
    refine wpS_quick 3 rfl ?_
    refine wpS_nil ?_
    refine QH_seq_k hK70 ?_
    refine wpC_ret ?_
    refine QH_ret rfl (RV.tmp rfl (RV.tmp rfl RV.nil)) rfl ?_
    obtain rfl := Option.some.inj H
    have hS := hS.front 0 rfl
    replace hS := hS.cut 1
    exact ⟨A5, c6, rfl, k7, hS⟩
  replace H := cond_t H hb
  refine wpC_skip ?_
  refine QH_seq_k hK12 ?_
  refine wpC_seq_k (fun K hK14 => ?_)
  refine wpC_block ?_
  refine wpC_seq_k (fun K hK15 => ?_)
  refine wpC_region ?_
  obtain ⟨e16, hi18, H⟩ := bind_some H
  obtain ⟨j17, hi18a, hi18b, hi18c⟩ := idx_some hi18
  refine wpS_put rfl rfl rfl (yx_idx el_22 rfl rfl hi18a hi18c (Rd.el (hS.rd0 s0_.rd) he_enE hi18b)) ?_
  refine wpS_put rfl rfl rfl (yx_ldA0 ag_40 rfl (RW.here _) (Rd.el (hS.rd0 s0_.rd) he_enE hi18b) sg0_3) ?_
  refine wpS_alloc rfl rfl zc_40 hS (fun b19 w hS hB => ?_)
  refine wpS_store rfl rfl rfl CellsOf.agg hS ps0 st0_3 (by kernel_rfl) rfl (fun w hS hB => ?_)
  refine wpS_nil ?_
  refine QH_seq_k hK15 ?_
  refine wpC_seq_k (fun K hK21 => ?_)
  refine wpC_seq_k (fun K hK22 => ?_)
  refine wpC_region ?_
  refine wpS_put rfl rfl rfl (yv_load_boxA ag_40 rfl (RW.here _) hS hs0 trivial sg0_3) ?_
  obtain ⟨r23, hm24, H⟩ := bind_some H
  refine wpS_call rfl rfl rfl rfl (by kernel_rfl) rfl (c_entry_Right e16 _ hm24) ?_
  rintro e w ⟨rfl, hN⟩; refine ⟨_, rfl, ?_⟩; have hB := hN.pure; have hS := hS.join hN; clear hN
  refine wpS_put rfl rfl rfl (yv_not rfl) ?_
  refine wpS_nil ?_
  refine QH_seq_k hK22 ?_
  refine wpC_cond rfl (fun hb => ?_) (fun hb => ?_)
  · replace H := cond_t H hb
    refine wpC_seq_k (fun K hK26 => ?_)
    refine wpC_region ?_
    refine wpS_quick 2 rfl ?_
    refine wpS_nil ?_
    refine QH_seq_k hK26 ?_
    refine wpC_ret ?_
    refine QH_then_ret ?_
    refine QH_block_ret ?_
    refine QH_then_ret ?_
    refine QH_then_ret ?_
    refine QH_block_ret ?_
    refine QH_then_ret ?_
    refine QH_ret rfl (RV.tmp rfl (RV.tmp rfl RV.nil)) rfl ?_
    obtain rfl := Option.some.inj H
    have hS := hS.nilRow 5 1
    replace hS := hS.cut 1
    exact ⟨none, 0, rfl, ⟨Nat.le_refl _, Nat.zero_le _⟩, hS⟩
  replace H := cond_f H hb
  refine wpC_skip ?_
  refine QH_seq_k hK21 ?_
  refine wpC_seq_k (fun K hK28 => ?_)
  refine wpC_region ?_
  refine wpS_put rfl rfl rfl (yv_fieldAddr fo_40_0 rfl) ?_
  refine wpS_put rfl rfl rfl (yv_load_box sc_3 rfl (RW.here _) hS hs0 trivial sg0_1) ?_
  refine wpS_sliceM (ps := [(0, .tmp 21)]) [.int .i64 e16.term] el_90 zc_3 rfl rfl rfl rfl rfl (by kernel_rfl) hS (fun b29 w hS hB => ?_)
  obtain ⟨r31, hm32, H⟩ := bind_some H
  refine wpS_call rfl rfl rfl rfl (by kernel_rfl) rfl (c_num_Long ([e16.term] : List Int) (some ⟨b29, 0, none⟩) 1 _ (SlI.of_rd ⟨Nat.le_refl 1, by decide⟩ (hS.box_rd hs0) (hS.box_blk hs0)) hm32) ?_
  rintro e w ⟨A33, c34, rfl, k35, hN⟩; refine ⟨_, rfl, ?_⟩; have hB := hN.pure; have hS := hS.join hN; clear hN
  refine wpS_quick 1 rfl ?_
  refine wpS_put rfl rfl rfl (yv_extract rfl rfl) ?_
  refine wpS_put rfl rfl rfl (yv_extract rfl rfl) ?_
  refine wpS_quick 2 rfl ?_
  refine wpS_nil ?_
  refine QH_seq_k hK28 ?_
  refine wpC_seq_k (fun K hK37 => ?_)
  refine wpC_region ?_
  refine wpS_put rfl rfl rfl (yv_fieldAddr fo_40_2 rfl) ?_
  refine wpS_put rfl rfl rfl (yv_load_box sc_3 rfl (RW.here _) hS hs2 trivial sg2_1) ?_
  refine wpS_sliceM (ps := [(0, .tmp 28)]) [.int .i64 e16.value] el_90 zc_3 rfl rfl rfl rfl rfl (by kernel_rfl) hS (fun b38 w hS hB => ?_)
  obtain ⟨r40, hm41, H⟩ := bind_some H
  refine wpS_call rfl rfl rfl rfl (by kernel_rfl) rfl (c_num_Long ([e16.value] : List Int) (some ⟨b38, 0, none⟩) 1 _ (SlI.of_rd ⟨Nat.le_refl 1, by decide⟩ (hS.box_rd hs0) (hS.box_blk hs0)) hm41) ?_
  rintro e w ⟨A42, c43, rfl, k44, hN⟩; refine ⟨_, rfl, ?_⟩; have hB := hN.pure; have hS := hS.join hN; clear hN
  refine wpS_quick 1 rfl ?_
  refine wpS_put rfl rfl rfl (yv_extract rfl rfl) ?_
  refine wpS_put rfl rfl rfl (yv_extract rfl rfl) ?_
  refine wpS_quick 2 rfl ?_
  refine wpS_nil ?_
  refine QH_seq_k hK37 ?_
  refine wpC_region ?_
  refine wpS_quick 2 rfl ?_
  refine wpS_put rfl rfl rfl (yv_fieldAddr fo_40_1 rfl) ?_
  refine wpS_put rfl rfl rfl (yv_load_box sc_3 rfl (RW.here _) hS hs4 trivial sg1_1) ?_
  refine wpS_put rfl rfl rfl (yx_conv8 (by kernel_rfl) (by kernel_rfl) rfl) ?_
  refine wpS_sliceM (ps := [(0, .tmp 37)]) [.int .u8 ((byI e16.kind).toNat : Int)] el_23 zc_5 rfl rfl rfl rfl rfl (by kernel_rfl) hS (fun b46 w hS hB => ?_)
  obtain ⟨l48, hf49, H⟩ := bind_some H
  refine wpX_append (ys := ([(byI e16.kind)] : List UInt8)) he_enY oc_enY em_23 (by decide) rfl rfl rfl rfl hS (fun _ => ps3) (hS.box_rd hs0) hf49 (fun A50 c51 w k52 hS => ?_)
  refine wpS_quick 1 rfl ?_
  obtain ⟨l53, hf54, H⟩ := bind_some H
  refine wpX_append (ys := r40.1) he_enY oc_enY em_23 (by decide) rfl rfl rfl rfl hS (fun _ => ps3) (hS.row_rd hs1) hf54 (fun A55 c56 w k57 hS => ?_)
  obtain ⟨r58, hm59, H⟩ := bind_some H
  refine wpS_call rfl rfl rfl rfl (by kernel_rfl) rfl (c_crc_Put l53 A55 c56 _ (SlI.of_rd k57 (hS.row_rd hs3) (hS.row_blk hs3)) (SlI.of_rd hT_.k (hS.rd0 hT_.rd) (hS.blk0 hT_.blk)) hm59) ?_
  rintro e w ⟨A60, c61, rfl, k62, hN⟩; refine ⟨_, rfl, ?_⟩; have hB := hN.pure; have hS := hS.join hN; clear hN
  obtain ⟨l64, hf65, H⟩ := bind_some H
  refine wpX_append (ys := r58) he_enY oc_enY em_23 (by decide) rfl rfl rfl rfl hS (fun _ => ps7) (hS.row_rd hs0) hf65 (fun A66 c67 w k68 hS => ?_)
  refine wpS_quick 1 rfl ?_
  refine wpS_nil ?_
  refine QH_block_normal ?_
  refine QH_seq_k hK14 ?_
  refine wpC_region ?_
  refine wpS_put rfl rfl rfl (yx_add rfl rfl) ?_
  refine wpS_quick 1 rfl ?_
  refine wpS_nil ?_
  exact QH_again (n, l64, A66, c67, v9, (IntKind.wrap .i64 (v10 + 1))) (by repeat (first | exact Sub.nil | refine Sub.cons rfl ?_)) ⟨(hS.sub (List.Sublist.cons _ (List.Sublist.cons _ (List.Sublist.cons _ (List.Sublist.cons _ (List.Sublist.cons _ (List.Sublist.cons _ (List.Sublist.cons _ (List.Sublist.cons_cons _ List.Sublist.slnil))))))))), k68, H⟩ (Nat.lt_succ_self _)
theorem c_one_File (x0 : Int) (x1 : List En) (A0_ : Option Addr) (c0_ : Nat) (w0 : World) (s0_ : SlI w0 enE A0_ c0_ x1) (hT_ : SlI w0 enU (some ⟨0, 0, none⟩) 16 tabU) {r : List UInt8 × Int} (H : m_one_File x0 x1 = some r) : Calls Tryd.prog 21 #[.int .i64 x0, .slice A0_ x1.length c0_] w0 fun e w' => ∃ (A0 : Option Addr) (c0 : Nat), e = .returned (.tuple #[.slice A0 r.1.length c0, .int .i64 r.2]) ∧ (r.1.length ≤ c0 ∧ c0 ≤ maxLen) ∧ St0 All w0 w' [.row (.slice A0 r.1.length c0) 5 1 r.1.length (encs enY r.1)] := by
  unfold m_one_File at H
  refine gw_enter2 Tryd.func21 rfl Tryd.ntmps21 rfl ?_
  have hS := St0.start All w0
  refine wpC_seq_k (fun K hK1 => ?_)
  refine wpC_region ?_
  refine wpS_quick 2 rfl ?_
  refine wpS_nil ?_
  refine QH_seq_k hK1 ?_
  refine wpC_seq_k (fun K hK2 => ?_)
  refine wpC_region ?_
  refine wpS_quick 1 rfl ?_
  obtain ⟨r3, hm4, H⟩ := bind_some H
  refine wpS_call rfl rfl rfl rfl (by kernel_rfl) rfl (c_one_Head x0 _ hm4) ?_
  rintro e w ⟨A5, c6, rfl, k7, hN⟩; refine ⟨_, rfl, ?_⟩; have hB := hN.pure; have hS := hS.join hN; clear hN
  refine wpS_quick 1 rfl ?_
  refine wpS_put rfl rfl rfl (yv_extract rfl rfl) ?_
  refine wpS_put rfl rfl rfl (yv_extract rfl rfl) ?_
  refine wpS_quick 2 rfl ?_
  refine wpS_nil ?_
  refine QH_seq_k hK2 ?_
  refine wpC_seq_k (fun K hK9 => ?_)
  refine wpC_seq_k (fun K hK10 => ?_)
  refine wpC_region ?_
  refine wpS_quick 1 rfl ?_
  refine wpS_put rfl rfl rfl (yv_neq rfl rfl) ?_
  refine wpS_nil ?_
  refine QH_seq_k hK10 ?_
  refine wpC_cond rfl (fun hb => ?_) (fun hb => ?_)
  · replace H := cond_t H hb
    refine wpC_seq_k (fun K hK12 => ?_)
    refine wpC_region ?_
    refine wpS_quick 3 rfl ?_
    refine wpS_nil ?_
    refine QH_seq_k hK12 ?_
    refine wpC_ret ?_
    refine QH_then_ret ?_
    refine QH_ret rfl (RV.tmp rfl (RV.tmp rfl RV.nil)) rfl ?_
    obtain rfl := Option.some.inj H
    have hS := hS.nilRow 5 1
    replace hS := hS.cut 1
    exact ⟨none, 0, rfl, ⟨Nat.le_refl _, Nat.zero_le _⟩, hS⟩
  replace H := cond_f H hb
  refine wpC_skip ?_
  refine QH_seq_k hK9 ?_
  refine wpC_seq_k (fun K hK14 => ?_)
  refine wpC_region ?_
  refine wpS_quick 1 rfl ?_
  obtain ⟨r15, hm16, H⟩ := bind_some H
  refine wpS_call rfl rfl rfl rfl (by kernel_rfl) rfl (c_one_Put x1 A0_ c0_ _ (SlI.of_rd s0_.k (hS.rd0 s0_.rd) (hS.blk0 s0_.blk)) (SlI.of_rd hT_.k (hS.rd0 hT_.rd) (hS.blk0 hT_.blk)) hm16) ?_
  rintro e w ⟨A17, c18, rfl, k19, hN⟩; refine ⟨_, rfl, ?_⟩; have hB := hN.pure; have hS := hS.join hN; clear hN
  refine wpS_quick 1 rfl ?_
  refine wpS_put rfl rfl rfl (yv_extract rfl rfl) ?_
  refine wpS_put rfl rfl rfl (yv_extract rfl rfl) ?_
  refine wpS_quick 2 rfl ?_
  refine wpS_nil ?_
  refine QH_seq_k hK14 ?_
  refine wpC_seq_k (fun K hK21 => ?_)
  refine wpC_seq_k (fun K hK22 => ?_)
  refine wpC_region ?_
  refine wpS_quick 1 rfl ?_
  refine wpS_put rfl rfl rfl (yv_neq rfl rfl) ?_
  refine wpS_nil ?_
  refine QH_seq_k hK22 ?_
  refine wpC_cond rfl (fun hb => ?_) (fun hb => ?_)
  · replace H := cond_t H hb
    refine wpC_seq_k (fun K hK24 => ?_)
    refine wpC_region ?_
    refine wpS_quick 3 rfl ?_
    refine wpS_nil ?_
    refine QH_seq_k hK24 ?_
    refine wpC_ret ?_
    refine QH_then_ret ?_
    refine QH_ret rfl (RV.tmp rfl (RV.tmp rfl RV.nil)) rfl ?_
    obtain rfl := Option.some.inj H
    have hS := hS.nilRow 5 1
    replace hS := hS.cut 1
    exact ⟨none, 0, rfl, ⟨Nat.le_refl _, Nat.zero_le _⟩, hS⟩
  replace H := cond_f H hb
  refine wpC_skip ?_
  refine QH_seq_k hK21 ?_
  refine wpC_seq_k (fun K hK26 => ?_)
  refine wpC_region ?_
  refine wpS_quick 2 rfl ?_
  obtain ⟨l27, hf28, H⟩ := bind_some H
  refine wpX_append (ys := r15.1) he_enY oc_enY em_23 (by decide) rfl rfl rfl rfl hS (fun _ => ps1) (hS.row_rd hs0) hf28 (fun A29 c30 w k31 hS => ?_)
  refine wpS_quick 2 rfl ?_
  refine wpS_nil ?_
  refine QH_seq_k hK26 ?_
  refine wpC_ret ?_
  refine QH_ret rfl (RV.tmp rfl (RV.tmp rfl RV.nil)) rfl ?_
  obtain rfl := Option.some.inj H
  have hS := hS.front 1 rfl
  replace hS := hS.cut 1
  exact ⟨A29, c30, rfl, k31, hS⟩
theorem c_one_take (x0 : List UInt8) (A0_ : Option Addr) (c0_ : Nat) (w0 : World) (s0_ : SlI w0 enY A0_ c0_ x0) (hT_ : SlI w0 enU (some ⟨0, 0, none⟩) 16 tabU) {r : En × Bool} (H : m_one_take x0 = some r) : Calls Tryd.prog 91 #[.slice A0_ x0.length c0_] w0 fun e w' => e = .returned (.tuple #[.agg #[.int .i64 r.1.term, .int .i64 r.1.kind, .int .i64 r.1.value], .bool r.2]) ∧ St0 All w0 w' [] := by
  unfold m_one_take at H
  refine gw_enter1 Tryd.func91 rfl Tryd.ntmps91 rfl ?_
  have hS := St0.start All w0
  refine wpC_seq_k (fun K hK1 => ?_)
  refine wpC_region ?_
  refine wpS_alloc rfl rfl zc_40 hS (fun b2 w hS hB => ?_)
  refine wpS_quick 1 rfl ?_
  refine wpS_nil ?_
  refine QH_seq_k hK1 ?_
  refine wpC_scope1 0 rfl ?_
  refine wpC_seq_k (fun K hK4 => ?_)
  refine wpC_region ?_
  refine wpS_quick 1 rfl ?_
  refine wpS_nil ?_
  refine QH_seq_k hK4 ?_
  refine wpC_seq_k (fun K hK5 => ?_)
  refine wpC_region ?_
  refine wpS_quick 1 rfl ?_
  refine wpS_nil ?_
  refine QH_seq_k hK5 ?_
  refine wpC_seq_k (fun K hK6 => ?_)
  refine wpC_region ?_
  refine wpS_quick 1 rfl ?_
  obtain ⟨r7, hm8, H⟩ := bind_some H
  refine wpS_call rfl rfl rfl rfl (by kernel_rfl) rfl (c_crc_Take x0 A0_ c0_ _ (SlI.of_rd s0_.k (hS.rd0 s0_.rd) (hS.blk0 s0_.blk)) (SlI.of_rd hT_.k (hS.rd0 hT_.rd) (hS.blk0 hT_.blk)) hm8) ?_
  rintro e w ⟨A9, c10, rfl, k11, hN⟩; refine ⟨_, rfl, ?_⟩; have hB := hN.pure; have hS := hS.join hN; clear hN
  refine wpS_quick 1 rfl ?_
  refine wpS_put rfl rfl rfl (yv_extract rfl rfl) ?_
  refine wpS_put rfl rfl rfl (yv_extract rfl rfl) ?_
  refine wpS_quick 2 rfl ?_
  refine wpS_nil ?_
  refine QH_seq_k hK6 ?_
  refine wpC_seq_k (fun K hK13 => ?_)
  refine wpC_seq_k (fun K hK14 => ?_)
  refine wpC_region ?_
  refine wpS_quick 1 rfl ?_
  refine wpS_put rfl rfl rfl (yv_not rfl) ?_
  refine wpS_nil ?_
  refine QH_seq_k hK14 ?_
  refine wpC_cond rfl (fun hb => ?_) (fun hb => ?_)
  · replace H := cond_t H hb
    refine wpC_goto ?_
    refine QH_then_goto ?_
    refine QH_ahead ?_
    refine wpC_seq_k (fun K hK16 => ?_)
    refine wpC_skip ?_
    refine QH_seq_k hK16 ?_
    refine wpC_seq_k (fun K hK17 => ?_)
    refine wpC_region ?_
    refine wpS_put rfl rfl rfl (yv_build (cells := [.int .i64 0, .int .i64 0, .int .i64 0]) rfl (by kernel_rfl)) ?_
    refine wpS_store rfl rfl rfl CellsOf.agg hS ps1 st0_3 (by kernel_rfl) rfl (fun w hS hB => ?_)
    refine wpS_quick 1 rfl ?_
    refine wpS_nil ?_
    refine QH_seq_k hK17 ?_
    refine wpC_ret ?_
    refine QH_jmp_ret ?_
    refine QH_ret rfl (RV.cell rfl (load_boxA ag_40 hS hs1 sg0_3) (RV.tmp rfl RV.nil)) rfl ?_
    obtain rfl := Option.some.inj H
    replace hS := hS.cut 0
    exact ⟨rfl, hS⟩
  replace H := cond_f H hb
  refine wpC_skip ?_
  refine QH_seq_k hK13 ?_
  refine wpC_seq_k (fun K hK19 => ?_)
  refine wpC_seq_k (fun K hK20 => ?_)
  refine wpC_region ?_
  refine wpS_quick 1 rfl ?_
  obtain ⟨r21, hm22, H⟩ := bind_some H
  refine wpS_call rfl rfl rfl rfl (by kernel_rfl) rfl (c_num_TakeLong r7.1 A9 c10 _ (SlI.of_rd k11 (hS.row_rd hs0) (hS.row_blk hs0)) hm22) ?_
  rintro e w ⟨A23, c24, rfl, k25, hN⟩; refine ⟨_, rfl, ?_⟩; have hB := hN.pure; have hS := hS.join hN; clear hN
  refine wpS_quick 1 rfl ?_
  refine wpS_put rfl rfl rfl (yv_extract rfl rfl) ?_
  refine wpS_put rfl rfl rfl (yv_extract rfl rfl) ?_
  refine wpS_put rfl rfl rfl (yv_extract rfl rfl) ?_
  refine wpS_put rfl rfl rfl (yv_fieldAddr fo_40_0 rfl) ?_
  refine wpS_store rfl rfl rfl CellsOf.int hS ps2 st0_1 (by kernel_rfl) rfl (fun w hS hB => ?_)
  refine wpS_quick 2 rfl ?_
  refine wpS_nil ?_
  refine QH_seq_k hK20 ?_
  refine wpC_seq_k (fun K hK27 => ?_)
  refine wpC_region ?_
  refine wpS_quick 1 rfl ?_
  refine wpS_put rfl rfl rfl (yv_neq rfl rfl) ?_
  refine wpS_nil ?_
  refine QH_seq_k hK27 ?_
  refine wpC_cond rfl (fun hb => ?_) (fun hb => ?_)
  · replace H := cond_t H hb
    refine wpC_goto ?_
    refine QH_then_goto ?_
    refine QH_ahead ?_
    refine wpC_seq_k (fun K hK29 => ?_)
    refine wpC_skip ?_
    refine QH_seq_k hK29 ?_
    refine wpC_seq_k (fun K hK30 => ?_)
    refine wpC_region ?_
    refine wpS_put rfl rfl rfl (yv_build (cells := [.int .i64 0, .int .i64 0, .int .i64 0]) rfl (by kernel_rfl)) ?_
    refine wpS_store rfl rfl rfl CellsOf.agg hS ps2 st0_3 (by kernel_rfl) rfl (fun w hS hB => ?_)
    refine wpS_quick 1 rfl ?_
    refine wpS_nil ?_
    refine QH_seq_k hK30 ?_
    refine wpC_ret ?_
    refine QH_jmp_ret ?_
    refine QH_ret rfl (RV.cell rfl (load_boxA ag_40 hS hs2 sg0_3) (RV.tmp rfl RV.nil)) rfl ?_
    obtain rfl := Option.some.inj H
    replace hS := hS.cut 0
    exact ⟨rfl, hS⟩
  replace H := cond_f H hb
  refine wpC_skip ?_
  refine QH_seq_k hK19 ?_
  refine wpC_seq_k (fun K hK32 => ?_)
  refine wpC_region ?_
  refine wpS_quick 1 rfl ?_
  obtain ⟨e33, hi35, H⟩ := bind_some H
  obtain ⟨j34, hi35a, hi35b, hi35c⟩ := idx_some hi35
  refine wpS_put rfl rfl rfl (yx_idx el_23 rfl rfl hi35a hi35c (Rd.el (hS.row_rd hs0) he_enY hi35b)) ?_
  refine wpS_put rfl rfl rfl (yx_ld0 sc_5 rfl (RW.here _) (Rd.el (hS.row_rd hs0) he_enY hi35b) rfl) ?_
  refine wpS_put rfl rfl rfl (yx_conv (k' := .i64) (by kernel_rfl) (by kernel_rfl) rfl) ?_
  refine wpS_put rfl rfl rfl (yv_fieldAddr fo_40_1 rfl) ?_
  refine wpS_store rfl rfl rfl CellsOf.int hS ps2 st1_1 (by kernel_rfl) rfl (fun w hS hB => ?_)
  refine wpS_nil ?_
  refine QH_seq_k hK32 ?_
  refine wpC_seq_k (fun K hK36 => ?_)
  refine wpC_seq_k (fun K hK37 => ?_)
  refine wpC_region ?_
  refine wpS_quick 1 rfl ?_
  obtain ⟨l38, hd39, H⟩ := bind_some H
  refine wpS_put rfl rfl rfl (yx_slice_l el_23 rfl rfl hd39) ?_
  obtain ⟨r40, hm41, H⟩ := bind_some H
  refine wpS_call rfl rfl rfl rfl (by kernel_rfl) rfl (c_num_TakeLong l38 (cutA A23 c24 (Int.toNat 1) 1) (c24 - Int.toNat 1) _ (SlI.of_rd (k_drop k25 hd39) (Rd.dropI he_enY (hS.row_rd hs0) k25.1 hd39) (cutA_blk (hS.row_blk hs0))) hm41) ?_
  rintro e w ⟨A42, c43, rfl, k44, hN⟩; refine ⟨_, rfl, ?_⟩; have hB := hN.pure; have hS := hS.join hN; clear hN
  refine wpS_quick 1 rfl ?_
  refine wpS_put rfl rfl rfl (yv_extract rfl rfl) ?_
  refine wpS_put rfl rfl rfl (yv_extract rfl rfl) ?_
  refine wpS_put rfl rfl rfl (yv_extract rfl rfl) ?_
  refine wpS_put rfl rfl rfl (yv_fieldAddr fo_40_2 rfl) ?_
  refine wpS_store rfl rfl rfl CellsOf.int hS ps3 st2_1 (by kernel_rfl) rfl (fun w hS hB => ?_)
  refine wpS_quick 1 rfl ?_
  refine wpS_nil ?_
  refine QH_seq_k hK37 ?_
  refine wpC_seq_k (fun K hK46 => ?_)
  refine wpC_region ?_
  refine wpS_quick 1 rfl ?_
  refine wpS_put rfl rfl rfl (yv_neq rfl rfl) ?_
  refine wpS_quick 1 rfl ?_
  refine wpS_case 39 rfl (fun hb => ?_) (fun hb => ?_)
  · replace H := cond_t H hb
    refine wpS_quick 4 rfl ?_
    refine wpS_nil ?_
    refine QH_seq_k hK46 ?_
    refine wpC_cond_t rfl rfl ?_
    refine wpC_goto ?_
    refine QH_then_goto ?_
    refine QH_ahead ?_
    refine wpC_seq_k (fun K hK48 => ?_)
    refine wpC_skip ?_
    refine QH_seq_k hK48 ?_
    refine wpC_seq_k (fun K hK49 => ?_)
    refine wpC_region ?_
    refine wpS_put rfl rfl rfl (yv_build (cells := [.int .i64 0, .int .i64 0, .int .i64 0]) rfl (by kernel_rfl)) ?_
    refine wpS_store rfl rfl rfl CellsOf.agg hS ps3 st0_3 (by kernel_rfl) rfl (fun w hS hB => ?_)
    refine wpS_quick 1 rfl ?_
    refine wpS_nil ?_
    refine QH_seq_k hK49 ?_
    refine wpC_ret ?_
    refine QH_jmp_ret ?_
    refine QH_ret rfl (RV.cell rfl (load_boxA ag_40 hS hs3 sg0_3) (RV.tmp rfl RV.nil)) rfl ?_
    obtain rfl := Option.some.inj H
    replace hS := hS.cut 0
    exact ⟨rfl, hS⟩
  replace H := cond_f H hb
  refine wpS_put rfl rfl rfl (yv_load_boxA ag_40 rfl (RW.here _) hS hs3 trivial sg0_3) ?_
  obtain ⟨r51, hm52, H⟩ := bind_some H
  refine wpS_call rfl rfl rfl rfl (by kernel_rfl) rfl (c_entry_Right (⟨r21.1, (IntKind.wrap .i64 (e33.toNat : Int)), r40.1⟩ : En) _ hm52) ?_
  rintro e w ⟨rfl, hN⟩; refine ⟨_, rfl, ?_⟩; have hB := hN.pure; have hS := hS.join hN; clear hN
  refine wpS_put rfl rfl rfl (yv_not rfl) ?_
  refine wpS_quick 1 rfl ?_
  refine wpS_nil ?_
  refine QH_seq_k hK46 ?_
  refine wpC_cond rfl (fun hb => ?_) (fun hb => ?_)
  rotate_left
  · replace H := cond_f H hb
    refine wpC_skip ?_
    refine QH_seq_k hK36 ?_
    refine wpC_seq_k (fun K hK57 => ?_)
    refine wpC_seq_k (fun K hK58 => ?_)
    refine wpC_region ?_
    refine wpS_put rfl rfl rfl (yv_load_boxA ag_40 rfl (RW.here _) hS hs3 trivial sg0_3) ?_
    refine wpS_store rfl rfl rfl CellsOf.agg hS ps3 st0_3 (by kernel_rfl) rfl (fun w hS hB => ?_)
    refine wpS_quick 1 rfl ?_
    refine wpS_nil ?_
    refine QH_seq_k hK58 ?_
    refine wpC_ret ?_
    refine QH_then_ret ?_
    refine QH_jmp_ret ?_
    refine QH_ret rfl (RV.cell rfl (load_boxA ag_40 hS hs3 sg0_3) (RV.tmp rfl RV.nil)) rfl ?_
    obtain rfl := Option.some.inj H
    replace hS := hS.cut 0
    exact ⟨rfl, hS⟩
  replace H := cond_t H hb
  refine wpC_goto ?_
  refine QH_then_goto ?_
  refine QH_ahead ?_
  refine wpC_seq_k (fun K hK54 => ?_)
  refine wpC_skip ?_
  refine QH_seq_k hK54 ?_
  refine wpC_seq_k (fun K hK55 => ?_)
  refine wpC_region ?_
  refine wpS_put rfl rfl rfl (yv_build (cells := [.int .i64 0, .int .i64 0, .int .i64 0]) rfl (by kernel_rfl)) ?_
  refine wpS_store rfl rfl rfl CellsOf.agg hS ps3 st0_3 (by kernel_rfl) rfl (fun w hS hB => ?_)
  refine wpS_quick 1 rfl ?_
  refine wpS_nil ?_
  refine QH_seq_k hK55 ?_
  refine wpC_ret ?_
  refine QH_jmp_ret ?_
  refine QH_ret rfl (RV.cell rfl (load_boxA ag_40 hS hs3 sg0_3) (RV.tmp rfl RV.nil)) rfl ?_
  obtain rfl := Option.some.inj H
  replace hS := hS.cut 0
  exact ⟨rfl, hS⟩
theorem c_one_Size (x0 : Int) (w0 : World) {r : Int} (H : m_one_Size x0 = some r) : Calls Tryd.prog 19 #[.int .i64 x0] w0 fun e w' => e = .returned (.int .i64 r) ∧ St0 All w0 w' [] := by
  unfold m_one_Size at H
  refine gw_enter1 Tryd.func19 rfl Tryd.ntmps19 rfl ?_
  have hS := St0.start All w0
  refine wpC_seq_k (fun K hK1 => ?_)
  refine wpC_region ?_
  refine wpS_quick 1 rfl ?_
  refine wpS_nil ?_
  refine QH_seq_k hK1 ?_
  refine wpC_seq_k (fun K hK2 => ?_)
  refine wpC_region ?_
  refine wpS_quick 1 rfl ?_
  refine wpS_put rfl rfl rfl (yv_max rfl rfl) ?_
  refine wpS_put rfl rfl rfl (yv_min rfl rfl) ?_
  refine wpS_put rfl rfl rfl (yx_mul rfl rfl) ?_
  refine wpS_put rfl rfl rfl (yx_add rfl rfl) ?_
  refine wpS_quick 1 rfl ?_
  refine wpS_nil ?_
  refine QH_seq_k hK2 ?_
  refine wpC_ret ?_
  refine QH_ret rfl (RV.tmp rfl RV.nil) rfl ?_
  obtain rfl := Option.some.inj H
  replace hS := hS.cut 0
  exact ⟨rfl, hS⟩
theorem c_ref06_number (x0 : Int) (w0 : World) {r : Bool} (H : m_ref06_number x0 = some r) : Calls Tryd.prog 58 #[.int .i64 x0] w0 fun e w' => e = .returned (.bool r) ∧ St0 All w0 w' [] := by
  unfold m_ref06_number at H
  refine gw_enter1 Tryd.func58 rfl Tryd.ntmps58 rfl ?_
  have hS := St0.start All w0
  refine wpC_seq_k (fun K hK1 => ?_)
  refine wpC_region ?_
  refine wpS_quick 1 rfl ?_
  refine wpS_nil ?_
  refine QH_seq_k hK1 ?_
  refine wpC_seq_k (fun K hK2 => ?_)
  refine wpC_region ?_
  refine wpS_quick 1 rfl ?_
  refine wpS_put rfl rfl rfl (yv_geq rfl rfl) ?_
  refine wpS_quick 1 rfl ?_
  refine wpS_case 5 rfl (fun hb => ?_) (fun hb => ?_)
  rotate_left
  · replace H := cond_f H hb
    refine wpS_quick 4 rfl ?_
    refine wpS_nil ?_
    refine QH_seq_k hK2 ?_
    refine wpC_ret ?_
    refine QH_ret rfl (RV.tmp rfl RV.nil) rfl ?_
    obtain rfl := Option.some.inj H
    replace hS := hS.cut 0
    exact ⟨rfl, hS⟩
  replace H := cond_t H hb
  refine wpS_quick 1 rfl ?_
  refine wpS_put rfl rfl rfl (yv_leq rfl rfl) ?_
  refine wpS_quick 2 rfl ?_
  refine wpS_nil ?_
  refine QH_seq_k hK2 ?_
  refine wpC_ret ?_
  refine QH_ret rfl (RV.tmp rfl RV.nil) rfl ?_
  obtain rfl := Option.some.inj H
  replace hS := hS.cut 0
  exact ⟨rfl, hS⟩
theorem c_ref06_Right (x0 : En) (w0 : World) {r : Bool} (H : m_ref06_Right x0 = some r) : Calls Tryd.prog 26 #[.agg #[.int .i64 x0.term, .int .i64 x0.kind, .int .i64 x0.value]] w0 fun e w' => e = .returned (.bool r) ∧ St0 All w0 w' [] := by
  unfold m_ref06_Right at H
  refine gw_enter1 Tryd.func26 rfl Tryd.ntmps26 rfl ?_
  have hS := St0.start All w0
  refine wpC_seq_k (fun K hK1 => ?_)
  refine wpC_region ?_
  refine wpS_box rfl rfl rfl CellsOf.agg hS (fun b2 w hS hB => ?_)
  refine wpS_quick 1 rfl ?_
  refine wpS_nil ?_
  refine QH_seq_k hK1 ?_
  refine wpC_seq_k (fun K hK4 => ?_)
  refine wpC_region ?_
  refine wpS_put rfl rfl rfl (yv_fieldAddr fo_40_0 rfl) ?_
  refine wpS_put rfl rfl rfl (yv_load_box sc_3 rfl (RW.here _) hS hs0 trivial sg0_1) ?_
  refine wpS_put rfl rfl rfl (yv_geq rfl rfl) ?_
  refine wpS_quick 1 rfl ?_
  refine wpS_case 6 rfl (fun hb => ?_) (fun hb => ?_)
  rotate_left
  · replace H := cond_f H hb
    refine wpS_quick 30 rfl ?_
    refine wpS_nil ?_
    refine QH_seq_k hK4 ?_
    refine wpC_ret ?_
    refine QH_ret rfl (RV.tmp rfl RV.nil) rfl ?_
    obtain rfl := Option.some.inj H
    replace hS := hS.cut 0
    exact ⟨rfl, hS⟩
  replace H := cond_t H hb
  refine wpS_put rfl rfl rfl (yv_fieldAddr fo_40_0 rfl) ?_
  refine wpS_put rfl rfl rfl (yv_load_box sc_3 rfl (RW.here _) hS hs0 trivial sg0_1) ?_
  obtain ⟨r6, hm7, H⟩ := bind_some H
  refine wpS_call rfl rfl rfl rfl (by kernel_rfl) rfl (c_ref06_number x0.term _ hm7) ?_
  rintro e w ⟨rfl, hN⟩; refine ⟨_, rfl, ?_⟩; have hB := hN.pure; have hS := hS.join hN; clear hN
  refine wpS_quick 2 rfl ?_
  refine wpS_case 11 rfl (fun hb => ?_) (fun hb => ?_)
  rotate_left
  · replace H := cond_f H hb
    refine wpS_quick 25 rfl ?_
    refine wpS_nil ?_
    refine QH_seq_k hK4 ?_
    refine wpC_ret ?_
    refine QH_ret rfl (RV.tmp rfl RV.nil) rfl ?_
    obtain rfl := Option.some.inj H
    replace hS := hS.cut 0
    exact ⟨rfl, hS⟩
  replace H := cond_t H hb
  refine wpS_put rfl rfl rfl (yv_fieldAddr fo_40_1 rfl) ?_
  refine wpS_put rfl rfl rfl (yv_load_box sc_3 rfl (RW.here _) hS hs0 trivial sg1_1) ?_
  refine wpS_put rfl rfl rfl (yv_geq rfl rfl) ?_
  refine wpS_quick 2 rfl ?_
  refine wpS_case 16 rfl (fun hb => ?_) (fun hb => ?_)
  rotate_left
  · replace H := cond_f H hb
    refine wpS_quick 20 rfl ?_
    refine wpS_nil ?_
    refine QH_seq_k hK4 ?_
    refine wpC_ret ?_
    refine QH_ret rfl (RV.tmp rfl RV.nil) rfl ?_
    obtain rfl := Option.some.inj H
    replace hS := hS.cut 0
    exact ⟨rfl, hS⟩
  replace H := cond_t H hb
  refine wpS_put rfl rfl rfl (yv_fieldAddr fo_40_1 rfl) ?_
  refine wpS_put rfl rfl rfl (yv_load_box sc_3 rfl (RW.here _) hS hs0 trivial sg1_1) ?_
  refine wpS_put rfl rfl rfl (yv_lss rfl rfl) ?_
  refine wpS_quick 2 rfl ?_
  refine wpS_case 21 rfl (fun hb => ?_) (fun hb => ?_)
  rotate_left
  · replace H := cond_f H hb
    refine wpS_quick 15 rfl ?_
    refine wpS_nil ?_
    refine QH_seq_k hK4 ?_
    refine wpC_ret ?_
    refine QH_ret rfl (RV.tmp rfl RV.nil) rfl ?_
    obtain rfl := Option.some.inj H
    replace hS := hS.cut 0
    exact ⟨rfl, hS⟩
  replace H := cond_t H hb
  refine wpS_put rfl rfl rfl (yv_fieldAddr fo_40_2 rfl) ?_
  refine wpS_put rfl rfl rfl (yv_load_box sc_3 rfl (RW.here _) hS hs0 trivial sg2_1) ?_
  obtain ⟨r11, hm12, H⟩ := bind_some H
  refine wpS_call rfl rfl rfl rfl (by kernel_rfl) rfl (c_ref06_number x0.value _ hm12) ?_
  rintro e w ⟨rfl, hN⟩; refine ⟨_, rfl, ?_⟩; have hB := hN.pure; have hS := hS.join hN; clear hN
  refine wpS_quick 2 rfl ?_
  refine wpS_case 26 rfl (fun hb => ?_) (fun hb => ?_)
  rotate_left
  · replace H := cond_f H hb
    refine wpS_quick 10 rfl ?_
    refine wpS_nil ?_
    refine QH_seq_k hK4 ?_
    refine wpC_ret ?_
    refine QH_ret rfl (RV.tmp rfl RV.nil) rfl ?_
    obtain rfl := Option.some.inj H
    replace hS := hS.cut 0
    exact ⟨rfl, hS⟩
  replace H := cond_t H hb
  refine wpS_put rfl rfl rfl (yv_fieldAddr fo_40_1 rfl) ?_
  refine wpS_put rfl rfl rfl (yv_load_box sc_3 rfl (RW.here _) hS hs0 trivial sg1_1) ?_
  refine wpS_put rfl rfl rfl (yv_eql rfl rfl) ?_
  refine wpS_quick 1 rfl ?_
  refine wpS_case 30 rfl (fun hb => ?_) (fun hb => ?_)
  · replace H := cond_t H hb
    refine wpS_quick 6 rfl ?_
    refine wpS_nil ?_
    refine QH_seq_k hK4 ?_
    refine wpC_ret ?_
    refine QH_ret rfl (RV.tmp rfl RV.nil) rfl ?_
    obtain rfl := Option.some.inj H
    replace hS := hS.cut 0
    exact ⟨rfl, hS⟩
  replace H := cond_f H hb
  refine wpS_put rfl rfl rfl (yv_fieldAddr fo_40_2 rfl) ?_
  refine wpS_put rfl rfl rfl (yv_load_box sc_3 rfl (RW.here _) hS hs0 trivial sg2_1) ?_
  refine wpS_put rfl rfl rfl (yv_eql rfl rfl) ?_
  refine wpS_quick 3 rfl ?_
  refine wpS_nil ?_
  refine QH_seq_k hK4 ?_
  refine wpC_ret ?_
  refine QH_ret rfl (RV.tmp rfl RV.nil) rfl ?_
  obtain rfl := Option.some.inj H
  replace hS := hS.cut 0
  exact ⟨rfl, hS⟩
theorem c_ref07_Entries (x0 : List En) (x1 : List En) (A0_ : Option Addr) (c0_ : Nat) (A1_ : Option Addr) (c1_ : Nat) (w0 : World) (s0_ : SlI w0 enE A0_ c0_ x0) (s1_ : SlI w0 enE A1_ c1_ x1) {r : Bool} (H : m_ref07_Entries x0 x1 = some r) : Calls Tryd.prog 27 #[.slice A0_ x0.length c0_, .slice A1_ x1.length c1_] w0 fun e w' => e = .returned (.bool r) ∧ St0 All w0 w' [] := by
  unfold m_ref07_Entries at H
  refine gw_enter2 Tryd.func27 rfl Tryd.ntmps27 rfl ?_
  have hS := St0.start All w0
  refine wpC_seq_k (fun K hK1 => ?_)
  refine wpC_region ?_
  refine wpS_quick 1 rfl ?_
  refine wpS_nil ?_
  refine QH_seq_k hK1 ?_
  refine wpC_seq_k (fun K hK2 => ?_)
  refine wpC_seq_k (fun K hK3 => ?_)
  refine wpC_region ?_
  refine wpS_quick 1 rfl ?_
  refine wpS_put rfl rfl rfl (yv_len el_22 rfl) ?_
  refine wpS_quick 1 rfl ?_
  refine wpS_put rfl rfl rfl (yv_len el_22 rfl) ?_
  refine wpS_put rfl rfl rfl (yv_neq rfl rfl) ?_
  refine wpS_nil ?_
  refine QH_seq_k hK3 ?_
  refine wpC_cond rfl (fun hb => ?_) (fun hb => ?_)
  · replace H := cond_t H hb
    refine wpC_seq_k (fun K hK5 => ?_)
    refine wpC_region ?_
    refine wpS_quick 1 rfl ?_
    refine wpS_nil ?_
    refine QH_seq_k hK5 ?_
    refine wpC_ret ?_
    refine QH_then_ret ?_
    refine QH_ret rfl (RV.tmp rfl RV.nil) rfl ?_
    obtain rfl := Option.some.inj H
    replace hS := hS.cut 0
    exact ⟨rfl, hS⟩
  replace H := cond_f H hb
  refine wpC_skip ?_
  refine QH_seq_k hK2 ?_
  refine wpC_seq_k (fun K hK7 => ?_)
  refine wpC_seq_k (fun K hK8 => ?_)
  refine wpC_region ?_
  refine wpS_quick 1 rfl ?_
  refine wpS_nil ?_
  refine QH_seq_k hK8 ?_
  refine wpC_block ?_
  refine wpC_loop (X := Nat × Bool × Int) (fun x => (0, .slice A0_ x0.length c0_) :: (1, .slice A1_ x1.length c1_) :: (4, .bool x.2.1) :: (5, .int .i64 x.2.2) :: []) (fun x w => St0 All w0 w ([]) ∧ m_ref07_Entries_l1 x0 x1 x.1 x.2.1 x.2.2 = some r) (fun x => x.1) (fuelN, false, 0) (by repeat (first | exact Sub.nil | refine Sub.cons rfl ?_)) ⟨hS, H⟩ ?_
  rintro ⟨n, v9, v10⟩ w ⟨hS, H⟩
  dsimp only at hS H ⊢
  obtain _ | n := n
  · have H0 : none = some r := H
    cases H0
  rw [m_ref07_Entries_l1] at H
  refine wpC_seq_k (fun K hK11 => ?_)
  refine wpC_seq_k (fun K hK12 => ?_)
  refine wpC_region ?_
  refine wpS_quick 2 rfl ?_
  refine wpS_put rfl rfl rfl (yv_len el_22 rfl) ?_
  refine wpS_put rfl rfl rfl (yv_lss rfl rfl) ?_
  refine wpS_nil ?_
  refine QH_seq_k hK12 ?_
  refine wpC_cond rfl (fun hb => ?_) (fun hb => ?_)
  rotate_left
  · replace H := cond_f H hb
    refine wpC_exit ?_
    refine QH_then_exit ?_
    refine QH_then_exit ?_
    refine QH_block_hit ?_
    refine QH_seq_k hK7 ?_
    refine wpC_seq_k (fun K hK26 => ?_)
    refine wpC_region ?_
    refine wpS_quick 1 rfl ?_
    refine wpS_nil ?_
    refine QH_seq_k hK26 ?_
    refine wpC_ret ?_
    refine QH_ret rfl (RV.tmp rfl RV.nil) rfl ?_
    obtain rfl := Option.some.inj H
    replace hS := hS.cut 0
    exact ⟨rfl, hS⟩
  replace H := cond_t H hb
  refine wpC_skip ?_
  refine QH_seq_k hK11 ?_
  refine wpC_seq_k (fun K hK14 => ?_)
  refine wpC_block ?_
  refine wpC_seq_k (fun K hK15 => ?_)
  refine wpC_draw 9 [] (fun _ _ => True) ⟨by kernel_rfl, by kernel_rfl⟩ hS (fun w hS hB => ?_)
  refine wpR_batch [true, true, true, true, true, true, true, true, true] (by decide +kernel) (by repeat (first | exact PF.body | exact PF.round | apply PF.then | apply PF.inBlock | apply PF.jump)) ?_
  refine LtK.put rfl rfl rfl (yv_move rfl) ?_
  refine LtK.put rfl rfl rfl (yv_move rfl) ?_
  obtain ⟨e16, hi18, H⟩ := bind_some H
  obtain ⟨j17, hi18a, hi18b, hi18c⟩ := idx_some hi18
  refine LtK.put rfl rfl rfl (yx_idx el_22 rfl rfl hi18a hi18c (Rd.el (hS.rd0 s0_.rd) he_enE hi18b)) ?_
  refine LtK.put rfl rfl rfl (yx_ldA0 ag_40 rfl (RW.below _) (Rd.el (hS.rd0 s0_.rd) he_enE hi18b) sg0_3) ?_
  refine LtK.put rfl rfl rfl (yv_move rfl) ?_
  refine LtK.put rfl rfl rfl (yv_move rfl) ?_
  obtain ⟨e19, hi21, H⟩ := bind_some H
  obtain ⟨j20, hi21a, hi21b, hi21c⟩ := idx_some hi21
  refine LtK.put rfl rfl rfl (yx_idx el_22 rfl rfl hi21a hi21c (Rd.el (hS.rd0 s1_.rd) he_enE hi21b)) ?_
  refine LtK.put rfl rfl rfl (yx_ldA0 ag_40 rfl (RW.below _) (Rd.el (hS.rd0 s1_.rd) he_enE hi21b) sg0_3) ?_
  refine LtK.put rfl rfl rfl (yv_neqS (by kernel_rfl) rfl rfl (eqT_40 _ _ _ _ _ _)) ?_
  refine LtK.nil ?_
  refine wpR_end (by kernel_rfl) ?_
  refine QH_seq_k hK15 ?_
  refine wpC_cond rfl (fun hb => ?_) (fun hb => ?_)
  rotate_left
  · replace H := cond_f H hb
    refine wpC_skip ?_
    refine QH_block_normal ?_
    refine QH_seq_k hK14 ?_
    refine wpC_region ?_
    refine wpS_quick 1 rfl ?_
    refine wpS_put rfl rfl rfl (yx_add rfl rfl) ?_
    refine wpS_quick 1 rfl ?_
    refine wpS_nil ?_
    exact QH_again (n, v9, (IntKind.wrap .i64 (v10 + 1))) (by repeat (first | exact Sub.nil | refine Sub.cons rfl ?_)) ⟨hS, H⟩ (Nat.lt_succ_self _)
  replace H := cond_t H hb
  refine wpC_seq_k (fun K hK23 => ?_)
  refine wpC_region ?_
  refine wpS_quick 1 rfl ?_
  refine wpS_nil ?_
  refine QH_seq_k hK23 ?_
  refine wpC_ret ?_
  refine QH_block_ret ?_
  refine QH_then_ret ?_
  refine QH_then_ret ?_
  refine QH_block_ret ?_
  refine QH_then_ret ?_
  refine QH_ret rfl (RV.tmp rfl RV.nil) rfl ?_
  obtain rfl := Option.some.inj H
  replace hS := hS.cut 0
  exact ⟨rfl, hS⟩
end Go.Proofs.YtofheinbbefbcaaDoor
/- Plain laws of what printed functions compute: small numbers, places of lists. -/
namespace Go.Proofs.YtofheinbbefbcaaDoor
open Go Go.RowKit
set_option maxRecDepth 100000
theorem w64i {n : Int} (h : -9223372036854775808 ≤ n ∧ n ≤ 9223372036854775807) : IntKind.wrap .i64 n = n := i64_in' h
theorem idx_nat {α : Type} (l : List α) (k : Nat) : idx l (k : Int) = l[k]? := by unfold idx; simp
theorem takeI_nat {α : Type} (l : List α) (k : Nat) (h : k ≤ l.length) : takeI l (k : Int) = some (l.take k) := by unfold takeI; rw [if_pos (by omega)]; simp
theorem dropI_nat {α : Type} (l : List α) (k : Nat) (h : k ≤ l.length) : dropI l (k : Int) = some (l.drop k) := by unfold dropI; rw [if_pos (by omega)]; simp
theorem fewI_ok {α : Type} (l : List α) (h : l.length ≤ 1000000000) : fewI l = some l := if_pos h
theorem remI_ok (m n : Int) (h : n ≠ 0) : remI m n = some (m.tmod n) := if_pos h
theorem drop_step {α : Type} {l : List α} {k : Nat} (h : k < l.length) : ∃ e, l[k]? = some e ∧ l.drop k = e :: l.drop (k + 1) := ⟨l[k], List.getElem?_eq_getElem h, List.drop_eq_getElem_cons h⟩
/-- An index that is made to be one of so many. -/
theorem rem_two (a : Int) (n : Nat) (hn : n ≤ 1000000000) : ∃ k : Nat, k ≤ n ∧ (remI a (IntKind.wrap .i64 ((n : Int) + 1))).bind (fun _ => remI (IntKind.wrap .i64 ((Int.tmod a (IntKind.wrap .i64 ((n : Int) + 1))) + (IntKind.wrap .i64 ((n : Int) + 1)))) (IntKind.wrap .i64 ((n : Int) + 1))) = some (k : Int) ∧
    Int.tmod (IntKind.wrap .i64 ((Int.tmod a (IntKind.wrap .i64 ((n : Int) + 1))) + (IntKind.wrap .i64 ((n : Int) + 1)))) (IntKind.wrap .i64 ((n : Int) + 1)) = (k : Int) := by
  have hp : (0 : Int) < (n : Int) + 1 := by omega
  have h1 := Int.tmod_lt_of_pos a hp
  have h2 := Int.tmod_lt_of_pos (-a) hp
  rw [Int.neg_tmod] at h2
  rw [w64i (n := (n : Int) + 1) (by omega)]
  rw [w64i (n := a.tmod ((n : Int) + 1) + ((n : Int) + 1)) (by omega)]
  have h3 : 0 ≤ a.tmod ((n : Int) + 1) + ((n : Int) + 1) := by omega
  have h4 := Int.emod_nonneg (a.tmod ((n : Int) + 1) + ((n : Int) + 1)) (by omega : ((n : Int) + 1) ≠ 0)
  have h5 := Int.emod_lt_of_pos (a.tmod ((n : Int) + 1) + ((n : Int) + 1)) hp
  have h6 : Int.tmod (a.tmod ((n : Int) + 1) + ((n : Int) + 1)) ((n : Int) + 1) = (((a.tmod ((n : Int) + 1) + ((n : Int) + 1)) % ((n : Int) + 1)).toNat : Int) := by
    rw [Int.tmod_eq_emod_of_nonneg h3]; omega
  refine ⟨((a.tmod ((n : Int) + 1) + ((n : Int) + 1)) % ((n : Int) + 1)).toNat, by omega, ?_, h6⟩
  rw [remI_ok _ _ (by omega), Option.bind_some, remI_ok _ _ (by omega), h6]
theorem en_eq (a b : En) : (decide (a.term = b.term) && (decide (a.kind = b.kind) && decide (a.value = b.value))) = decide (a = b) := by
  obtain ⟨a1, a2, a3⟩ := a; obtain ⟨b1, b2, b3⟩ := b
  rw [Bool.eq_iff_iff]; simp
end Go.Proofs.YtofheinbbefbcaaDoor
/- Iterators: records that stand behind a head. -/
namespace Go.Proofs.YtofheinbbefbcaaDoor
open Go Go.RowKit
set_option maxRecDepth 100000
def recsI (b : List UInt8) : Nat → Nat → Option (List (Int × En))
  | 0, _ => some []
  | q + 1, k => if k + 15 ≤ b.length then (m_one_take ((b.take (k + 15)).drop k)).bind fun r => if r.2 = true then (recsI b q (k + 15)).bind fun l => some ((((k + 15 : Nat) : Int), r.1) :: l) else some [] else some []
def m_it_records (b : List UInt8) : Option (List (Int × En)) := if b.length ≤ 100000 then recsI b (b.length + 1) 6 else none
theorem SlI.belowR {α : Type} {e : α → List Value} {A : Option Addr} {c : Nat} {l : List α} {w w' : World} (h : SlI w e A c l) (hB : Below w.heap.size w w') : SlI w' e A c l := ⟨h.le, h.cap, h.rd.below hB, fun p hp => Nat.lt_of_lt_of_le (h.blk p hp) hB.size⟩
theorem SlI.keepR {α : Type} {S : Nat → Prop} {e : α → List Value} {A : Option Addr} {c : Nat} {l : List α} {w w' : World} (h : SlI w e A c l) (hk : KeepB S w w') (hs : ∀ p, A = some p → S p.block) : SlI w' e A c l := ⟨h.le, h.cap, hk.rd h.rd hs, fun p hp => Nat.lt_of_lt_of_le (h.blk p hp) hk.size⟩
set_option maxHeartbeats 1000000 in
theorem it_records (x0 : List UInt8) {A0 : Option Addr} {c0 : Nat} (wB wM w : World) (s0 : SlI wB enY A0 c0 x0) (hT : SlI wB enU (some ⟨0, 0, none⟩) 16 tabU) (hB0 : Below wB.heap.size wB wM) (b : Nat) (hN : St0 All wM w [.box b [.slice A0 x0.length c0] 23]) {xs : List (Int × En)} (H : m_it_records x0 = some xs) :
    IterP Tryd.prog 90 #[.pointer (some ⟨b, 0, none⟩)] (fun p : Int × En => [Value.int .i64 p.1, .agg #[.int .i64 p.2.term, .int .i64 p.2.kind, .int .i64 p.2.value]].toArray) xs wB.heap.size wM.heap.size w := by
  unfold m_it_records at H
  split at H
  case isFalse => cases H
  rename_i hl9
  obtain ⟨hb, hbM, hbl⟩ := hN.cap
  have hBs := hB0.size
  have n0 := s0.blk
  have nT := hT.blk
  have hA := (s0.belowR hB0).belowR hN.pure
  have hTw := (hT.belowR hB0).belowR hN.pure
  have hk0 := s0.k
  intro lo J Jx Jp W hW hJ hJx hJp hy h0
  have hbW : W.heap[b]? = some (.cells #[.slice A0 x0.length c0] 23) := (hW.block b hbl).trans hb
  show Calls _ _ #[_, _] _ _
  refine gw_enter2 Tryd.func90 rfl Tryd.ntmps90 rfl ?_
  have hS := St0.start All W
  repeat (first | apply wpS_nil | (apply QH_seq_k; assumption) | (apply wpC_seq_k; intro K hK) | apply wpC_region | (apply wpS_g; refine wpS_put rfl rfl rfl (by first | exact yv_assign rfl) ?_) | apply wpC_block)
  refine wpC_loop (X := Nat × List (Int × En)) (fun z => [(3, .int .i64 z.1), (1, .pointer (some ⟨b, 0, none⟩)), (0, .func (.yield lo) #[] #[])])
    (fun z B => (∃ q rest, recsI x0 q z.1 = some rest ∧ xs = z.2 ++ rest ∧ x0.length < z.1 + 15 * q) ∧ z.1 ≤ 100006 ∧ J z.2.length B ∧ SlI B enY A0 c0 x0 ∧ SlI B enU (some ⟨0, 0, none⟩) 16 tabU ∧ B.heap[b]? = some (.cells #[.slice A0 x0.length c0] 23) ∧ w.heap.size ≤ B.heap.size) (fun z => 100100 - z.1) (6, []) (by repeat (first | exact Sub.nil | refine Sub.cons rfl ?_)) ⟨⟨_, xs, H, rfl, by dsimp only; omega⟩, by dsimp only; omega, h0, hA.belowR hW, hTw.belowR hW, hbW, hW.size⟩ ?_
  rintro ⟨k, done⟩ B ⟨⟨q, rest, hrest, hxs, hq⟩, hk, hJk, hAB, hTB, hbB, hz⟩
  dsimp only at hrest hxs hq hk hJk
  dsimp only
  clear hbW hS h0
  have hS := St0.start All B
  rcases Nat.lt_or_ge x0.length (k + 15) with hge | hlt
  · have hr0 : rest = [] := by
      cases q with
      | zero => exact (Option.some.inj hrest).symm
      | succ q => rw [recsI, if_neg (by omega)] at hrest; exact (Option.some.inj hrest).symm
    rw [hr0, List.append_nil] at hxs
    repeat (first | apply wpS_nil | (apply QH_seq_k; assumption) | (apply wpC_seq_k; intro K hK) | apply wpC_region | (apply wpS_g; refine wpS_put rfl rfl rfl (by first | exact yv_move rfl | (apply yv_g_load; first | exact yv_load_ob (by first | exact sc_23) rfl (RW.here _) hS (by first | trivial) (by first | trivial) (by assumption) (by repeat (first | exact Seg.here (Pre.succ Pre.zero)))) | (apply yv_g_bin; first | exact yv_leq_f rfl rfl (by omega) | exact yv_add rfl rfl (by omega)) | (apply yv_g_bi; first | exact yv_len (by first | exact el_23) rfl)) ?_) | apply wpC_cond_f rfl rfl | apply wpC_exit | apply QH_then_exit | apply QH_block_hit)
    refine QH_end rfl (by first | exact RV.nil) rfl ?_
    refine .inl ⟨⟨_, rfl⟩, .inl ?_⟩
    rw [hxs]
    exact hJ _ _ _ hJk (hS.base.sub fun _ _ _ => trivial)
  · obtain ⟨q, rfl⟩ : ∃ q', q = q' + 1 := ⟨q - 1, by omega⟩
    rw [recsI, if_pos hlt] at hrest
    obtain ⟨⟨x, ok⟩, htake, hrest⟩ := bind_some hrest
    have ht : takeI x0 ((k : Int) + 15) = some (x0.take (k + 15)) := takeI_nat x0 (k + 15) hlt
    have hd : dropI (x0.take (k + 15)) (k : Int) = some ((x0.take (k + 15)).drop k) := dropI_nat _ _ (by rw [List.length_take]; omega)
    generalize x0.take (k + 15) = u at ht hd htake
    generalize u.drop k = l at hd htake
    repeat (first | (apply wpC_seq_k; intro K hK))
    apply wpC_region
    repeat (first | apply wpS_nil | (apply QH_seq_k; assumption) | (apply wpC_seq_k; intro K hK) | (apply wpS_g; refine wpS_put rfl rfl rfl (by first | exact yv_move rfl | (apply yv_g_load; first | exact yv_load_ob (by first | exact sc_23) rfl (RW.here _) hS (by first | trivial) (by first | trivial) (by assumption) (by repeat (first | exact Seg.here (Pre.succ Pre.zero)))) | (apply yv_g_bin; first | exact yv_leq_t rfl rfl (by omega) | exact yv_add rfl rfl (by omega)) | (apply yv_g_bi; first | exact yv_len (by first | exact el_23) rfl)) ?_) | apply wpC_cond_t rfl rfl | apply wpC_skip | apply wpC_block)
    apply wpC_region
    repeat (first | (apply wpS_g; refine wpS_put rfl rfl rfl (by first | exact yx_slice_lh (by first | exact el_22 | exact el_23) rfl rfl rfl hk0.1 ht hd | exact yv_move rfl | (apply yv_g_load; first | exact yv_load_ob (by first | exact sc_23) rfl (RW.here _) hS (by first | trivial) (by first | trivial) (by assumption) (by repeat (first | exact Seg.here (Pre.succ Pre.zero)))) | (apply yv_g_bin; first | exact yv_add rfl rfl (by omega))) ?_))
    have hsl := SlI.of_rd (k_drop (k_take hk0 ht) hd) (Rd.dropI he_enY (Rd.takeI he_enY hAB.rd ht) (k_take hk0 ht).1 hd) (cutA_blk hAB.blk)
    refine wpS_call rfl rfl rfl rfl (by kernel_rfl) rfl (c_one_take l (cutA A0 c0 (Int.toNat (k : Int)) 1) (c0 - Int.toNat (k : Int)) _ hsl hTB htake) ?_
    rintro e w1 ⟨rfl, hN1⟩
    refine ⟨_, rfl, ?_⟩
    have hBl := hN1.pure
    have hk1 : KeepB All B w1 := KeepB.of_below hBl (fun _ h _ => h)
    have hS := St0.start All w1
    dsimp only
    repeat (first | (apply wpS_g; refine wpS_put rfl rfl rfl (by first | exact yv_move rfl | exact yv_extract rfl rfl) ?_))
    first | (apply wpS_g_alloc; refine wpS_alloc rfl rfl (by first | exact zc_40) hS (fun b4 w hS hB => ?_))
    repeat (first | apply wpS_nil | (apply QH_seq_k; assumption) | (apply wpC_seq_k; intro K hK) | (apply wpS_g_store; refine wpS_store rfl rfl rfl (by first | exact CellsOf.agg) hS (by repeat (first | exact Pos.head)) (by repeat (first | exact SetC.here (by repeat (first | exact Ovr.nil | apply Ovr.cons)))) (by kernel_rfl) rfl (fun w hS hB => ?_)) | (apply wpS_g; refine wpS_put rfl rfl rfl (by first | exact yv_assign rfl) ?_))
    have hzw := hBl.size
    cases ok with
    | true =>
      rw [if_pos rfl] at hrest
      obtain ⟨l2, hl2, hrest⟩ := bind_some hrest
      obtain rfl := Option.some.inj hrest
      refine wpC_regionY 7 (by repeat (first | exact NL.body (by intro _ h; simp at h) | apply NL.then | apply NL.inBlock)) (by kernel_rfl) ?_
      dsimp only [List.take, List.drop]
      repeat (first | apply wpS_nil | (apply wpS_g; refine wpS_put rfl rfl rfl (by first | exact yv_move rfl | (apply yv_g_load; first | exact yv_load_boxA (by first | exact ag_40) rfl (RW.here _) hS (by repeat (first | exact Has.head)) (by first | trivial) (by repeat (first | exact Seg.here (by repeat (first | exact Pre.zero | apply Pre.succ))))) | (apply yv_g_bin; first | exact yv_add rfl rfl (by omega)) | exact yv_not rfl) ?_))
      refine QH_Y ?_
      have hk2 := hk1.trans hS.base
      have hx2 : xs[done.length]? = some (((k + 15 : Nat) : Int), x) := by rw [hxs]; simp
      have hz1 := Nat.le_trans hz hk2.size
      have hy1 := hy _ _ _ hx2 (hJ _ _ _ hJk (hk2.sub fun _ _ _ => trivial)) hz1
      refine wpSI_yield rfl rfl rfl rfl hy1 ?_
      have hbB2 := (hk2.block b (Nat.lt_of_lt_of_le hbl hz) trivial).trans hbB
      have hAB2 := hAB.keepR hk2 (fun _ _ => trivial)
      have hTB2 := hTB.keepR hk2 (fun _ _ => trivial)
      rintro ex w2 (⟨rfl, hJ2, hk3⟩ | ⟨rfl, hJ2, hk3⟩ | ⟨ch, rfl, hJ2⟩)
      · refine .inl ⟨_, rfl, wpSI_rest (by repeat (first | exact NL.body (by intro _ h; simp at h) | apply NL.then | apply NL.inBlock)) (by kernel_rfl) ?_⟩
        have hS := St0.start All w2
        repeat (first | apply wpS_nil | (apply QH_seq_k; assumption) | apply wpC_region | (apply wpS_g; refine wpS_put rfl rfl rfl (by first | exact yv_move rfl | exact yv_assign rfl | (apply yv_g_bin; first | exact yv_add rfl rfl (by omega)) | (apply yv_g_pick; first | exact yv_pick_f rfl rfl rfl) | exact yv_not rfl) ?_) | apply wpC_cond_f rfl rfl | apply wpC_skip | apply QH_block_normal)
        refine QH_again (k + 15, done ++ [(((k + 15 : Nat) : Int), x)]) (by repeat (first | exact Sub.nil | refine Sub.cons rfl ?_)) ⟨⟨q, l2, hl2, by dsimp only; rw [hxs]; simp, by dsimp only; omega⟩, by dsimp only; omega, ?_, ?_, ?_, ?_, Nat.le_trans hz1 hk3.size⟩ (by dsimp only; omega)
        · dsimp only; rw [List.length_append]; exact hJ2
        · exact hAB2.keepR hk3 (fun p hp => .inl (n0 p hp))
        · exact hTB2.keepR hk3 (fun p hp => .inl (nT p hp))
        · exact (hk3.block b (Nat.lt_of_lt_of_le hbl hz1) (.inr ⟨hbM, hbl⟩)).trans hbB2
      · refine .inl ⟨_, rfl, wpSI_rest (by repeat (first | exact NL.body (by intro _ h; simp at h) | apply NL.then | apply NL.inBlock)) (by kernel_rfl) ?_⟩
        have hS := St0.start All w2
        repeat (first | apply wpS_nil | (apply QH_seq_k; assumption) | (apply wpS_g; refine wpS_put rfl rfl rfl (by first | (apply yv_g_pick; first | exact yv_pick_f rfl rfl rfl) | exact yv_not rfl) ?_) | apply wpC_cond_t rfl rfl | apply wpC_ret | apply QH_then_ret | apply QH_block_ret)
        refine QH_ret rfl (by first | exact RV.nil) rfl ?_
        exact .inl ⟨⟨_, rfl⟩, .inr hJ2⟩
      · refine .inr ⟨ch, rfl, ?_⟩
        repeat (first | apply QH_then_panic | apply QH_block_panic)
        exact QH_panic rfl (.inr ⟨ch, rfl, hJ2⟩)
    | false =>
      rw [if_neg (fun h => by cases h)] at hrest
      obtain rfl := Option.some.inj hrest
      rw [List.append_nil] at hxs
      repeat (first | apply wpS_nil | (apply QH_seq_k; assumption) | apply wpC_region | (apply wpS_g; refine wpS_skip rfl rfl rfl ?_) | (apply wpS_g; refine wpS_put rfl rfl rfl (by first | exact yv_move rfl | (apply yv_g_pick; first | exact yv_pick_t rfl rfl rfl) | exact yv_not rfl) ?_) | apply wpC_cond_t rfl rfl | apply wpC_ret | apply QH_then_ret | apply QH_block_ret)
      refine QH_ret rfl (by first | exact RV.nil) rfl ?_
      refine .inl ⟨⟨_, rfl⟩, .inl ?_⟩
      rw [hxs]
      exact hJ _ _ _ hJk ((hk1.trans hS.base).sub fun _ _ _ => trivial)
end Go.Proofs.YtofheinbbefbcaaDoor
/- Small laws of places, printed. -/
namespace Go.Proofs.YtofheinbbefbcaaDoor
open Go Go.RowKit
set_option maxRecDepth 100000
theorem hs13 {a0 a1 a2 a3 a4 a5 a6 a7 a8 a9 a10 a11 a12 a13 : Ent} {H : List Ent} : Has (a0 :: a1 :: a2 :: a3 :: a4 :: a5 :: a6 :: a7 :: a8 :: a9 :: a10 :: a11 :: a12 :: a13 :: H) a13 := .tail (.tail (.tail (.tail (.tail (.tail (.tail (.tail (.tail (.tail (.tail (.tail (.tail (.head)))))))))))))
theorem hs5 {a0 a1 a2 a3 a4 a5 : Ent} {H : List Ent} : Has (a0 :: a1 :: a2 :: a3 :: a4 :: a5 :: H) a5 := .tail (.tail (.tail (.tail (.tail (.head)))))
theorem hs7 {a0 a1 a2 a3 a4 a5 a6 a7 : Ent} {H : List Ent} : Has (a0 :: a1 :: a2 :: a3 :: a4 :: a5 :: a6 :: a7 :: H) a7 := .tail (.tail (.tail (.tail (.tail (.tail (.tail (.head)))))))
theorem hs8 {a0 a1 a2 a3 a4 a5 a6 a7 a8 : Ent} {H : List Ent} : Has (a0 :: a1 :: a2 :: a3 :: a4 :: a5 :: a6 :: a7 :: a8 :: H) a8 := .tail (.tail (.tail (.tail (.tail (.tail (.tail (.tail (.head))))))))
end Go.Proofs.YtofheinbbefbcaaDoor
/- Laws for walks that a program of mine prints, ninth part: stores into rows beside loads. -/
namespace Go.Proofs.YtofheinbbefbcaaDoor
open Go Go.RowKit
set_option maxRecDepth 100000
section
variable {P : Program} {ro : Option Nat} {ops : Array Oper} {Q : Exit → Act → World → Prop} {rest : List Oper} {N : FS} {L : List (Nat × Value)} {w w0 : World} {S : Nat → Prop} {H H' : List Ent} {dn : Nat} {ty : TypeId} {pos : String} {af : Array Edge} {g : Option (Nat × Bool)} {R : World → Prop} {d : Option Nat} {md : Region.Mode} {G : Nat → Nat → Prop} {sl : List Nat}
end
end Go.Proofs.YtofheinbbefbcaaDoor
/- Laws for walks that a program of mine prints, tenth part: pointers to elements, maps with truth values as keys. -/
namespace Go.Proofs.YtofheinbbefbcaaDoor
open Go Go.RowKit Go.MapKept
set_option maxRecDepth 100000
theorem setI_at {α : Type} {l : List α} {i : Int} {j : Nat} {e a : α} (hi : i = (j : Int)) (h : l[j]? = some e) : (setI l i a)[j]? = some a := by
  subst hi
  unfold setI
  rw [Int.toNat_natCast]
  exact List.getElem?_set_self (List.getElem?_eq_some_iff.1 h).1
section
variable {P : Program} {ro : Option Nat} {ops : Array Oper} {Q : Exit → Act → World → Prop} {rest : List Oper} {N : FS} {L : List (Nat × Value)} {w w0 : World} {S : Nat → Prop} {H H' : List Ent} {dn : Nat} {ty : TypeId} {pos : String} {af : Array Edge} {g : Option (Nat × Bool)} {R : World → Prop} {d : Option Nat}
end
end Go.Proofs.YtofheinbbefbcaaDoor
/- What functions compute, in plain terms; printed. -/
namespace Go.Proofs.YtofheinbbefbcaaDoor
open Go Go.RowKit
set_option maxRecDepth 100000

def m_one_Scan_r1 (r20 : Int × List UInt8 × Int) : List (Int × En) → List En → Int → Option (Sc × Int)
  | [], v42, v47 =>
      some ((⟨r20.1, v42, v47⟩ : Sc), 0)
  | e41 :: l0, v42, v47 =>
      (fewI (v42 ++ ([e41.2] : List En))).bind fun l55 =>
      m_one_Scan_r1 r20 l0 l55 e41.1
def m_one_Scan (x0 : List UInt8) : Option (Sc × Int) :=
  cond (decide ((x0.length : Int) < 6))
   (
    some ((⟨0, [], 0⟩ : Sc), 11))
   (
    (idx x0 0).bind fun e9 =>
    cond (decide ((e9.toNat : Int) ≠ 1))
     (
      some ((⟨0, [], 0⟩ : Sc), 11))
     (
      (takeI x0 6).bind fun l16 =>
      (dropI l16 1).bind fun l18 =>
      (m_num_TakeLong l18).bind fun r20 =>
      cond (decide (r20.2.2 ≠ 0))
       (
        some ((⟨0, [], 0⟩ : Sc), 11))
       (
        cond (decide (r20.1 = 0))
         (
          some ((⟨0, [], 0⟩ : Sc), 11))
         (
          (m_it_records x0).bind fun xs48 =>
          m_one_Scan_r1 r20 xs48 [] 6))))
def m_law07_wakes : Option (Bool) :=
  (m_one_Head 5).bind fun r3 =>
  (m_one_File 5 ([(⟨1, 1, 7⟩ : En)] : List En)).bind fun r12 =>
  (fewI ([] ++ r12.1)).bind fun l21 =>
  (fewI (l21 ++ ([9] : List UInt8))).bind fun l28 =>
  (m_one_Scan l28).bind fun r33 =>
  (m_one_Head 0).bind fun r42 =>
  (m_one_Put ([(⟨0, 0, 0⟩ : En)] : List En)).bind fun r51 =>
  (m_one_Scan ([2, 0, 0, 0, 0, 5] : List UInt8)).bind fun r60 =>
  (m_law07_same r3.1 ([1, 0, 0, 0, 0, 5] : List UInt8)).bind fun r71 =>
  cond r71
   (
    cond (decide (r3.2 = 0))
     (
      cond (decide (r12.2 = 0))
       (
        cond (decide ((r12.1.length : Int) = 21))
         (
          (m_one_Size 1).bind fun r77 =>
          cond (decide (r77 = 21))
           (
            cond (decide (r33.2 = 0))
             (
              cond (decide (r33.1.first = 5))
               (
                cond (decide ((r33.1.log.length : Int) = 1))
                 (
                  (idx r33.1.log 0).bind fun e83 =>
                  cond (decide (e83.value = 7))
                   (
                    cond (decide (r33.1.used = 21))
                     (
                      cond (decide (r42.2 = 2))
                       (
                        cond (decide (r51.2 = 2))
                         (
                          some (decide (r60.2 = 11)))
                         (
                          some false))
                       (
                        some false))
                     (
                      some false))
                   (
                    some false))
                 (
                  some false))
               (
                some false))
             (
              some false))
           (
            some false))
         (
          some false))
       (
        some false))
     (
      some false))
   (
    some false)
def m_law07_OneBack_l1 (x0 : Int) (x1 : List En) (x2 : Int) (x3 : Int) (x4 : UInt8) : Nat → Bool → Int → Option (Bool)
  | 0, _, _ => none
  | n + 1, v13, v14 =>
      cond (decide (v14 < (x1.length : Int)))
       (
        cond v13
         (
          (idx x1 v14).bind fun e20 =>
          (m_ref06_Right e20).bind fun r23 =>
          m_law07_OneBack_l1 x0 x1 x2 x3 x4 n r23 (IntKind.wrap .i64 (v14 + 1)))
         (
          m_law07_OneBack_l1 x0 x1 x2 x3 x4 n false (IntKind.wrap .i64 (v14 + 1))))
       (
        (m_one_File x0 x1).bind fun r28 =>
        cond (!v13)
         (
          cond (decide (r28.2 = 2))
           (
            cond (decide ((r28.1.length : Int) = 0))
             (
              (m_law07_wakes).bind fun r40 =>
              some r40)
             (
              some false))
           (
            some false))
         (
          (m_one_Scan r28.1).bind fun r46 =>
          cond (decide (r28.2 ≠ 0))
           (
            some false)
           (
            cond (decide (r46.2 ≠ 0))
             (
              some false)
             (
              cond (decide (r46.1.first ≠ x0))
               (
                some false)
               (
                cond (decide (r46.1.used ≠ (r28.1.length : Int)))
                 (
                  some false)
                 (
                  (m_ref07_Entries r46.1.log x1).bind fun r68 =>
                  cond (!r68)
                   (
                    some false)
                   (
                    (m_one_Size (x1.length : Int)).bind fun r73 =>
                    cond (decide ((r28.1.length : Int) ≠ r73))
                     (
                      some false)
                     (
                      cond (decide ((r28.1.length : Int) < 6))
                       (
                        some false)
                       (
                        (remI x2 (IntKind.wrap .i64 ((r28.1.length : Int) + 1))).bind fun q82 =>
                        (remI (IntKind.wrap .i64 ((IntKind.wrap .i64 ((Int.tmod x2 (IntKind.wrap .i64 ((r28.1.length : Int) + 1))) + (r28.1.length : Int))) + 1)) (IntKind.wrap .i64 ((r28.1.length : Int) + 1))).bind fun q84 =>
                        (takeI r28.1 (Int.tmod (IntKind.wrap .i64 ((IntKind.wrap .i64 ((Int.tmod x2 (IntKind.wrap .i64 ((r28.1.length : Int) + 1))) + (r28.1.length : Int))) + 1)) (IntKind.wrap .i64 ((r28.1.length : Int) + 1)))).bind fun l87 =>
                        (m_one_Scan l87).bind fun r89 =>
                        cond (decide ((Int.tmod (IntKind.wrap .i64 ((IntKind.wrap .i64 ((Int.tmod x2 (IntKind.wrap .i64 ((r28.1.length : Int) + 1))) + (r28.1.length : Int))) + 1)) (IntKind.wrap .i64 ((r28.1.length : Int) + 1))) < 6))
                         (
                          cond (decide (r89.2 ≠ 11))
                           (
                            some false)
                           (
                            cond (decide ((r89.1.log.length : Int) ≠ 0))
                             (
                              some false)
                             (
                              cond (decide ((x1.length : Int) = 0))
                               (
                                (m_law07_wakes).bind fun r111 =>
                                some r111)
                               (
                                cond (decide ((x4.toNat : Int) = 0))
                                 (
                                  (m_law07_wakes).bind fun r116 =>
                                  some r116)
                                 (
                                  (remI x3 (IntKind.wrap .i64 ((r28.1.length : Int) - 6))).bind fun q121 =>
                                  (remI (IntKind.wrap .i64 ((Int.tmod x3 (IntKind.wrap .i64 ((r28.1.length : Int) - 6))) + (IntKind.wrap .i64 ((r28.1.length : Int) - 6)))) (IntKind.wrap .i64 ((r28.1.length : Int) - 6))).bind fun q123 =>
                                  (fewI ([] ++ r28.1)).bind fun l128 =>
                                  (idx l128 (IntKind.wrap .i64 (6 + (Int.tmod (IntKind.wrap .i64 ((Int.tmod x3 (IntKind.wrap .i64 ((r28.1.length : Int) - 6))) + (IntKind.wrap .i64 ((r28.1.length : Int) - 6)))) (IntKind.wrap .i64 ((r28.1.length : Int) - 6)))))).bind fun e134 =>
                                  (idx l128 (IntKind.wrap .i64 (6 + (Int.tmod (IntKind.wrap .i64 ((Int.tmod x3 (IntKind.wrap .i64 ((r28.1.length : Int) - 6))) + (IntKind.wrap .i64 ((r28.1.length : Int) - 6)))) (IntKind.wrap .i64 ((r28.1.length : Int) - 6)))))).bind fun e137 =>
                                  (m_one_Scan (setI l128 (IntKind.wrap .i64 (6 + (Int.tmod (IntKind.wrap .i64 ((Int.tmod x3 (IntKind.wrap .i64 ((r28.1.length : Int) - 6))) + (IntKind.wrap .i64 ((r28.1.length : Int) - 6)))) (IntKind.wrap .i64 ((r28.1.length : Int) - 6))))) (e134 ^^^ x4))).bind fun r142 =>
                                  cond (decide (r142.2 = 0))
                                   (
                                    (takeI x1 (IntKind.wrap .i64 (Int.tdiv (Int.tmod (IntKind.wrap .i64 ((Int.tmod x3 (IntKind.wrap .i64 ((r28.1.length : Int) - 6))) + (IntKind.wrap .i64 ((r28.1.length : Int) - 6)))) (IntKind.wrap .i64 ((r28.1.length : Int) - 6))) 15))).bind fun l152 =>
                                    (m_ref07_Entries r142.1.log l152).bind fun r154 =>
                                    cond r154
                                     (
                                      cond (decide (r142.1.used = (IntKind.wrap .i64 (6 + (IntKind.wrap .i64 ((IntKind.wrap .i64 (Int.tdiv (Int.tmod (IntKind.wrap .i64 ((Int.tmod x3 (IntKind.wrap .i64 ((r28.1.length : Int) - 6))) + (IntKind.wrap .i64 ((r28.1.length : Int) - 6)))) (IntKind.wrap .i64 ((r28.1.length : Int) - 6))) 15)) * 15))))))
                                       (
                                        (m_law07_wakes).bind fun r158 =>
                                        some r158)
                                       (
                                        some false))
                                     (
                                      some false))
                                   (
                                    some false))))))
                         (
                          cond (decide (r89.2 ≠ 0))
                           (
                            some false)
                           (
                            (takeI x1 (IntKind.wrap .i64 (Int.tdiv (IntKind.wrap .i64 ((Int.tmod (IntKind.wrap .i64 ((IntKind.wrap .i64 ((Int.tmod x2 (IntKind.wrap .i64 ((r28.1.length : Int) + 1))) + (r28.1.length : Int))) + 1)) (IntKind.wrap .i64 ((r28.1.length : Int) + 1))) - 6)) 15))).bind fun l169 =>
                            (m_ref07_Entries r89.1.log l169).bind fun r171 =>
                            cond (!r171)
                             (
                              some false)
                             (
                              cond (decide (r89.1.used ≠ (IntKind.wrap .i64 (6 + (IntKind.wrap .i64 (15 * (IntKind.wrap .i64 (Int.tdiv (IntKind.wrap .i64 ((Int.tmod (IntKind.wrap .i64 ((IntKind.wrap .i64 ((Int.tmod x2 (IntKind.wrap .i64 ((r28.1.length : Int) + 1))) + (r28.1.length : Int))) + 1)) (IntKind.wrap .i64 ((r28.1.length : Int) + 1))) - 6)) 15))))))))
                               (
                                some false)
                               (
                                cond (decide ((x1.length : Int) = 0))
                                 (
                                  (m_law07_wakes).bind fun r183 =>
                                  some r183)
                                 (
                                  cond (decide ((x4.toNat : Int) = 0))
                                   (
                                    (m_law07_wakes).bind fun r188 =>
                                    some r188)
                                   (
                                    (remI x3 (IntKind.wrap .i64 ((r28.1.length : Int) - 6))).bind fun q193 =>
                                    (remI (IntKind.wrap .i64 ((Int.tmod x3 (IntKind.wrap .i64 ((r28.1.length : Int) - 6))) + (IntKind.wrap .i64 ((r28.1.length : Int) - 6)))) (IntKind.wrap .i64 ((r28.1.length : Int) - 6))).bind fun q195 =>
                                    (fewI ([] ++ r28.1)).bind fun l200 =>
                                    (idx l200 (IntKind.wrap .i64 (6 + (Int.tmod (IntKind.wrap .i64 ((Int.tmod x3 (IntKind.wrap .i64 ((r28.1.length : Int) - 6))) + (IntKind.wrap .i64 ((r28.1.length : Int) - 6)))) (IntKind.wrap .i64 ((r28.1.length : Int) - 6)))))).bind fun e206 =>
                                    (idx l200 (IntKind.wrap .i64 (6 + (Int.tmod (IntKind.wrap .i64 ((Int.tmod x3 (IntKind.wrap .i64 ((r28.1.length : Int) - 6))) + (IntKind.wrap .i64 ((r28.1.length : Int) - 6)))) (IntKind.wrap .i64 ((r28.1.length : Int) - 6)))))).bind fun e209 =>
                                    (m_one_Scan (setI l200 (IntKind.wrap .i64 (6 + (Int.tmod (IntKind.wrap .i64 ((Int.tmod x3 (IntKind.wrap .i64 ((r28.1.length : Int) - 6))) + (IntKind.wrap .i64 ((r28.1.length : Int) - 6)))) (IntKind.wrap .i64 ((r28.1.length : Int) - 6))))) (e206 ^^^ x4))).bind fun r214 =>
                                    cond (decide (r214.2 = 0))
                                     (
                                      (takeI x1 (IntKind.wrap .i64 (Int.tdiv (Int.tmod (IntKind.wrap .i64 ((Int.tmod x3 (IntKind.wrap .i64 ((r28.1.length : Int) - 6))) + (IntKind.wrap .i64 ((r28.1.length : Int) - 6)))) (IntKind.wrap .i64 ((r28.1.length : Int) - 6))) 15))).bind fun l224 =>
                                      (m_ref07_Entries r214.1.log l224).bind fun r226 =>
                                      cond r226
                                       (
                                        cond (decide (r214.1.used = (IntKind.wrap .i64 (6 + (IntKind.wrap .i64 ((IntKind.wrap .i64 (Int.tdiv (Int.tmod (IntKind.wrap .i64 ((Int.tmod x3 (IntKind.wrap .i64 ((r28.1.length : Int) - 6))) + (IntKind.wrap .i64 ((r28.1.length : Int) - 6)))) (IntKind.wrap .i64 ((r28.1.length : Int) - 6))) 15)) * 15))))))
                                         (
                                          (m_law07_wakes).bind fun r230 =>
                                          some r230)
                                         (
                                          some false))
                                       (
                                        some false))
                                     (
                                      some false))))))))))))))))
def m_law07_OneBack_l2 (x0 : Int) (x1 : List En) (x2 : Int) (x3 : Int) (x4 : UInt8) : Nat → Bool → Int → Option (Bool)
  | 0, _, _ => none
  | n + 1, v238, v239 =>
      cond (decide (v239 < (x1.length : Int)))
       (
        cond v238
         (
          (idx x1 v239).bind fun e245 =>
          (m_ref06_Right e245).bind fun r248 =>
          m_law07_OneBack_l2 x0 x1 x2 x3 x4 n r248 (IntKind.wrap .i64 (v239 + 1)))
         (
          m_law07_OneBack_l2 x0 x1 x2 x3 x4 n false (IntKind.wrap .i64 (v239 + 1))))
       (
        (m_one_File x0 x1).bind fun r253 =>
        cond (!v238)
         (
          cond (decide (r253.2 = 2))
           (
            cond (decide ((r253.1.length : Int) = 0))
             (
              (m_law07_wakes).bind fun r265 =>
              some r265)
             (
              some false))
           (
            some false))
         (
          (m_one_Scan r253.1).bind fun r271 =>
          cond (decide (r253.2 ≠ 0))
           (
            some false)
           (
            cond (decide (r271.2 ≠ 0))
             (
              some false)
             (
              cond (decide (r271.1.first ≠ x0))
               (
                some false)
               (
                cond (decide (r271.1.used ≠ (r253.1.length : Int)))
                 (
                  some false)
                 (
                  (m_ref07_Entries r271.1.log x1).bind fun r293 =>
                  cond (!r293)
                   (
                    some false)
                   (
                    (m_one_Size (x1.length : Int)).bind fun r298 =>
                    cond (decide ((r253.1.length : Int) ≠ r298))
                     (
                      some false)
                     (
                      cond (decide ((r253.1.length : Int) < 6))
                       (
                        some false)
                       (
                        (remI x2 (IntKind.wrap .i64 ((r253.1.length : Int) + 1))).bind fun q307 =>
                        (remI (IntKind.wrap .i64 ((IntKind.wrap .i64 ((Int.tmod x2 (IntKind.wrap .i64 ((r253.1.length : Int) + 1))) + (r253.1.length : Int))) + 1)) (IntKind.wrap .i64 ((r253.1.length : Int) + 1))).bind fun q309 =>
                        (takeI r253.1 (Int.tmod (IntKind.wrap .i64 ((IntKind.wrap .i64 ((Int.tmod x2 (IntKind.wrap .i64 ((r253.1.length : Int) + 1))) + (r253.1.length : Int))) + 1)) (IntKind.wrap .i64 ((r253.1.length : Int) + 1)))).bind fun l312 =>
                        (m_one_Scan l312).bind fun r314 =>
                        cond (decide ((Int.tmod (IntKind.wrap .i64 ((IntKind.wrap .i64 ((Int.tmod x2 (IntKind.wrap .i64 ((r253.1.length : Int) + 1))) + (r253.1.length : Int))) + 1)) (IntKind.wrap .i64 ((r253.1.length : Int) + 1))) < 6))
                         (
                          cond (decide (r314.2 ≠ 11))
                           (
                            some false)
                           (
                            cond (decide ((r314.1.log.length : Int) ≠ 0))
                             (
                              some false)
                             (
                              cond (decide ((x1.length : Int) = 0))
                               (
                                (m_law07_wakes).bind fun r336 =>
                                some r336)
                               (
                                cond (decide ((x4.toNat : Int) = 0))
                                 (
                                  (m_law07_wakes).bind fun r341 =>
                                  some r341)
                                 (
                                  (remI x3 (IntKind.wrap .i64 ((r253.1.length : Int) - 6))).bind fun q346 =>
                                  (remI (IntKind.wrap .i64 ((Int.tmod x3 (IntKind.wrap .i64 ((r253.1.length : Int) - 6))) + (IntKind.wrap .i64 ((r253.1.length : Int) - 6)))) (IntKind.wrap .i64 ((r253.1.length : Int) - 6))).bind fun q348 =>
                                  (fewI ([] ++ r253.1)).bind fun l353 =>
                                  (idx l353 (IntKind.wrap .i64 (6 + (Int.tmod (IntKind.wrap .i64 ((Int.tmod x3 (IntKind.wrap .i64 ((r253.1.length : Int) - 6))) + (IntKind.wrap .i64 ((r253.1.length : Int) - 6)))) (IntKind.wrap .i64 ((r253.1.length : Int) - 6)))))).bind fun e359 =>
                                  (idx l353 (IntKind.wrap .i64 (6 + (Int.tmod (IntKind.wrap .i64 ((Int.tmod x3 (IntKind.wrap .i64 ((r253.1.length : Int) - 6))) + (IntKind.wrap .i64 ((r253.1.length : Int) - 6)))) (IntKind.wrap .i64 ((r253.1.length : Int) - 6)))))).bind fun e362 =>
                                  (m_one_Scan (setI l353 (IntKind.wrap .i64 (6 + (Int.tmod (IntKind.wrap .i64 ((Int.tmod x3 (IntKind.wrap .i64 ((r253.1.length : Int) - 6))) + (IntKind.wrap .i64 ((r253.1.length : Int) - 6)))) (IntKind.wrap .i64 ((r253.1.length : Int) - 6))))) (e359 ^^^ x4))).bind fun r367 =>
                                  cond (decide (r367.2 = 0))
                                   (
                                    (takeI x1 (IntKind.wrap .i64 (Int.tdiv (Int.tmod (IntKind.wrap .i64 ((Int.tmod x3 (IntKind.wrap .i64 ((r253.1.length : Int) - 6))) + (IntKind.wrap .i64 ((r253.1.length : Int) - 6)))) (IntKind.wrap .i64 ((r253.1.length : Int) - 6))) 15))).bind fun l377 =>
                                    (m_ref07_Entries r367.1.log l377).bind fun r379 =>
                                    cond r379
                                     (
                                      cond (decide (r367.1.used = (IntKind.wrap .i64 (6 + (IntKind.wrap .i64 ((IntKind.wrap .i64 (Int.tdiv (Int.tmod (IntKind.wrap .i64 ((Int.tmod x3 (IntKind.wrap .i64 ((r253.1.length : Int) - 6))) + (IntKind.wrap .i64 ((r253.1.length : Int) - 6)))) (IntKind.wrap .i64 ((r253.1.length : Int) - 6))) 15)) * 15))))))
                                       (
                                        (m_law07_wakes).bind fun r383 =>
                                        some r383)
                                       (
                                        some false))
                                     (
                                      some false))
                                   (
                                    some false))))))
                         (
                          cond (decide (r314.2 ≠ 0))
                           (
                            some false)
                           (
                            (takeI x1 (IntKind.wrap .i64 (Int.tdiv (IntKind.wrap .i64 ((Int.tmod (IntKind.wrap .i64 ((IntKind.wrap .i64 ((Int.tmod x2 (IntKind.wrap .i64 ((r253.1.length : Int) + 1))) + (r253.1.length : Int))) + 1)) (IntKind.wrap .i64 ((r253.1.length : Int) + 1))) - 6)) 15))).bind fun l394 =>
                            (m_ref07_Entries r314.1.log l394).bind fun r396 =>
                            cond (!r396)
                             (
                              some false)
                             (
                              cond (decide (r314.1.used ≠ (IntKind.wrap .i64 (6 + (IntKind.wrap .i64 (15 * (IntKind.wrap .i64 (Int.tdiv (IntKind.wrap .i64 ((Int.tmod (IntKind.wrap .i64 ((IntKind.wrap .i64 ((Int.tmod x2 (IntKind.wrap .i64 ((r253.1.length : Int) + 1))) + (r253.1.length : Int))) + 1)) (IntKind.wrap .i64 ((r253.1.length : Int) + 1))) - 6)) 15))))))))
                               (
                                some false)
                               (
                                cond (decide ((x1.length : Int) = 0))
                                 (
                                  (m_law07_wakes).bind fun r408 =>
                                  some r408)
                                 (
                                  cond (decide ((x4.toNat : Int) = 0))
                                   (
                                    (m_law07_wakes).bind fun r413 =>
                                    some r413)
                                   (
                                    (remI x3 (IntKind.wrap .i64 ((r253.1.length : Int) - 6))).bind fun q418 =>
                                    (remI (IntKind.wrap .i64 ((Int.tmod x3 (IntKind.wrap .i64 ((r253.1.length : Int) - 6))) + (IntKind.wrap .i64 ((r253.1.length : Int) - 6)))) (IntKind.wrap .i64 ((r253.1.length : Int) - 6))).bind fun q420 =>
                                    (fewI ([] ++ r253.1)).bind fun l425 =>
                                    (idx l425 (IntKind.wrap .i64 (6 + (Int.tmod (IntKind.wrap .i64 ((Int.tmod x3 (IntKind.wrap .i64 ((r253.1.length : Int) - 6))) + (IntKind.wrap .i64 ((r253.1.length : Int) - 6)))) (IntKind.wrap .i64 ((r253.1.length : Int) - 6)))))).bind fun e431 =>
                                    (idx l425 (IntKind.wrap .i64 (6 + (Int.tmod (IntKind.wrap .i64 ((Int.tmod x3 (IntKind.wrap .i64 ((r253.1.length : Int) - 6))) + (IntKind.wrap .i64 ((r253.1.length : Int) - 6)))) (IntKind.wrap .i64 ((r253.1.length : Int) - 6)))))).bind fun e434 =>
                                    (m_one_Scan (setI l425 (IntKind.wrap .i64 (6 + (Int.tmod (IntKind.wrap .i64 ((Int.tmod x3 (IntKind.wrap .i64 ((r253.1.length : Int) - 6))) + (IntKind.wrap .i64 ((r253.1.length : Int) - 6)))) (IntKind.wrap .i64 ((r253.1.length : Int) - 6))))) (e431 ^^^ x4))).bind fun r439 =>
                                    cond (decide (r439.2 = 0))
                                     (
                                      (takeI x1 (IntKind.wrap .i64 (Int.tdiv (Int.tmod (IntKind.wrap .i64 ((Int.tmod x3 (IntKind.wrap .i64 ((r253.1.length : Int) - 6))) + (IntKind.wrap .i64 ((r253.1.length : Int) - 6)))) (IntKind.wrap .i64 ((r253.1.length : Int) - 6))) 15))).bind fun l449 =>
                                      (m_ref07_Entries r439.1.log l449).bind fun r451 =>
                                      cond r451
                                       (
                                        cond (decide (r439.1.used = (IntKind.wrap .i64 (6 + (IntKind.wrap .i64 ((IntKind.wrap .i64 (Int.tdiv (Int.tmod (IntKind.wrap .i64 ((Int.tmod x3 (IntKind.wrap .i64 ((r253.1.length : Int) - 6))) + (IntKind.wrap .i64 ((r253.1.length : Int) - 6)))) (IntKind.wrap .i64 ((r253.1.length : Int) - 6))) 15)) * 15))))))
                                         (
                                          (m_law07_wakes).bind fun r455 =>
                                          some r455)
                                         (
                                          some false))
                                       (
                                        some false))
                                     (
                                      some false))))))))))))))))
def m_law07_OneBack (x0 : Int) (x1 : List En) (x2 : Int) (x3 : Int) (x4 : UInt8) : Option (Bool) :=
  cond (decide (40 < (x1.length : Int)))
   (
    (m_law07_wakes).bind fun r6 =>
    some r6)
   (
    cond (decide (1 ≤ x0))
     (
      m_law07_OneBack_l1 x0 x1 x2 x3 x4 fuelN (decide (x0 ≤ 1073741824)) 0)
     (
      m_law07_OneBack_l2 x0 x1 x2 x3 x4 fuelN false 0))
end Go.Proofs.YtofheinbbefbcaaDoor
/- What functions compute, in plain terms, and that they do; printed. -/
namespace Go.Proofs.YtofheinbbefbcaaDoor
open Go Go.RowKit
set_option maxRecDepth 100000
set_option maxHeartbeats 4000000
theorem c_one_records (x0 : List UInt8) (A0_ : Option Addr) (c0_ : Nat) (w0 : World) (s0_ : SlI w0 enY A0_ c0_ x0) : Calls Tryd.prog 55 #[.slice A0_ x0.length c0_] w0 fun e w' => ∃ (b0_ : Nat), e = .returned (.func (.func 90) #[] #[.pointer (some ⟨b0_, 0, none⟩)]) ∧ St0 All w0 w' [.box b0_ [.slice A0_ x0.length c0_] 23] := by
  refine gw_enter1 Tryd.func55 rfl Tryd.ntmps55 rfl ?_
  have hS := St0.start All w0
  refine wpC_seq_k (fun K hK1 => ?_)
  refine wpC_region ?_
  refine wpS_box rfl rfl rfl CellsOf.slice hS (fun b2 w hS hB => ?_)
  refine wpS_quick 1 rfl ?_
  refine wpS_nil ?_
  refine QH_seq_k hK1 ?_
  refine wpC_seq_k (fun K hK4 => ?_)
  refine wpC_region ?_
  refine wpS_put rfl rfl rfl (yv_makeFunc rfl rfl) ?_
  refine wpS_quick 1 rfl ?_
  refine wpS_nil ?_
  refine QH_seq_k hK4 ?_
  refine wpC_ret ?_
  refine QH_ret rfl (RV.tmp rfl RV.nil) rfl ?_
  exact ⟨b2, rfl, hS.sub (List.Sublist.cons_cons _ List.Sublist.slnil)⟩
theorem c_one_Scan (x0 : List UInt8) (A0_ : Option Addr) (c0_ : Nat) (w0 : World) (s0_ : SlI w0 enY A0_ c0_ x0) (hT_ : SlI w0 enU (some ⟨0, 0, none⟩) 16 tabU) {r : Sc × Int} (H : m_one_Scan x0 = some r) : Calls Tryd.prog 23 #[.slice A0_ x0.length c0_] w0 fun e w' => ∃ (A0 : Option Addr) (c0 : Nat), e = .returned (.tuple #[.agg #[.int .i64 r.1.first, .slice A0 r.1.log.length c0, .int .i64 r.1.used], .int .i64 r.2]) ∧ (r.1.log.length ≤ c0 ∧ c0 ≤ maxLen) ∧ St0 All w0 w' [.row (.slice A0 r.1.log.length c0) 40 3 r.1.log.length (encs enE r.1.log)] := by
  unfold m_one_Scan at H
  refine gw_enter1 Tryd.func23 rfl Tryd.ntmps23 rfl ?_
  have hS := St0.start All w0
  refine wpC_seq_k (fun K hK1 => ?_)
  refine wpC_region ?_
  refine wpS_alloc rfl rfl zc_33 hS (fun b2 w hS hB => ?_)
  refine wpS_quick 1 rfl ?_
  refine wpS_nil ?_
  refine QH_seq_k hK1 ?_
  refine wpC_seq_k (fun K hK4 => ?_)
  refine wpC_seq_k (fun K hK5 => ?_)
  refine wpC_region ?_
  refine wpS_quick 1 rfl ?_
  refine wpS_put rfl rfl rfl (yv_len el_23 rfl) ?_
  refine wpS_put rfl rfl rfl (yv_lss rfl rfl) ?_
  refine wpS_quick 1 rfl ?_
  refine wpS_case 11 rfl (fun hb => ?_) (fun hb => ?_)
  · replace H := cond_t H hb
    refine wpS_quick 5 rfl ?_
    refine wpS_nil ?_
    refine QH_seq_k hK5 ?_
    refine wpC_cond_t rfl rfl ?_
    refine wpC_seq_k (fun K hK7 => ?_)
    refine wpC_region ?_
    refine wpS_put rfl rfl rfl (yv_load_boxA ag_33 rfl (RW.here _) hS hs0 trivial sg0_3) ?_
    refine wpS_store rfl rfl rfl CellsOf.agg hS ps0 st0_3 (by kernel_rfl) rfl (fun w hS hB => ?_)
    refine wpS_quick 1 rfl ?_
    refine wpS_nil ?_
    refine QH_seq_k hK7 ?_
    refine wpC_ret ?_
    refine QH_then_ret ?_
    refine QH_ret rfl (RV.cell rfl (load_boxA ag_33 hS hs0 sg0_3) (RV.tmp rfl RV.nil)) rfl ?_
    obtain rfl := Option.some.inj H
    have hS := hS.nilRow 40 3
    replace hS := hS.cut 1
    exact ⟨none, 0, rfl, ⟨Nat.le_refl _, Nat.zero_le _⟩, hS⟩
  replace H := cond_f H hb
  refine wpS_quick 1 rfl ?_
  obtain ⟨e9, hi11, H⟩ := bind_some H
  obtain ⟨j10, hi11a, hi11b, hi11c⟩ := idx_some hi11
  refine wpS_put rfl rfl rfl (yx_idx el_23 rfl rfl hi11a hi11c (Rd.el (hS.rd0 s0_.rd) he_enY hi11b)) ?_
  refine wpS_put rfl rfl rfl (yx_ld0 sc_5 rfl (RW.here _) (Rd.el (hS.rd0 s0_.rd) he_enY hi11b) rfl) ?_
  refine wpS_put rfl rfl rfl (yv_neq rfl rfl) ?_
  refine wpS_quick 1 rfl ?_
  refine wpS_nil ?_
  refine QH_seq_k hK5 ?_
  refine wpC_cond rfl (fun hb => ?_) (fun hb => ?_)
  · replace H := cond_t H hb
    refine wpC_seq_k (fun K hK13 => ?_)
    refine wpC_region ?_
    refine wpS_put rfl rfl rfl (yv_load_boxA ag_33 rfl (RW.here _) hS hs0 trivial sg0_3) ?_
    refine wpS_store rfl rfl rfl CellsOf.agg hS ps0 st0_3 (by kernel_rfl) rfl (fun w hS hB => ?_)
    refine wpS_quick 1 rfl ?_
    refine wpS_nil ?_
    refine QH_seq_k hK13 ?_
    refine wpC_ret ?_
    refine QH_then_ret ?_
    refine QH_ret rfl (RV.cell rfl (load_boxA ag_33 hS hs0 sg0_3) (RV.tmp rfl RV.nil)) rfl ?_
    obtain rfl := Option.some.inj H
    have hS := hS.nilRow 40 3
    replace hS := hS.cut 1
    exact ⟨none, 0, rfl, ⟨Nat.le_refl _, Nat.zero_le _⟩, hS⟩
  replace H := cond_f H hb
  refine wpC_skip ?_
  refine QH_seq_k hK4 ?_
  refine wpC_seq_k (fun K hK15 => ?_)
  refine wpC_region ?_
  refine wpS_quick 1 rfl ?_
  obtain ⟨l16, ht17, H⟩ := bind_some H
  obtain ⟨l18, hd19, H⟩ := bind_some H
  refine wpS_put rfl rfl rfl (yx_slice_lh el_23 rfl rfl rfl s0_.k.1 ht17 hd19) ?_
  obtain ⟨r20, hm21, H⟩ := bind_some H
  refine wpS_call rfl rfl rfl rfl (by kernel_rfl) rfl (c_num_TakeLong l18 (cutA A0_ c0_ (Int.toNat 1) 1) (c0_ - Int.toNat 1) _ (SlI.of_rd (k_drop (k_take s0_.k ht17) hd19) (Rd.dropI he_enY (Rd.takeI he_enY (hS.rd0 s0_.rd) ht17) (k_take s0_.k ht17).1 hd19) (cutA_blk (hS.blk0 s0_.blk))) hm21) ?_
  rintro e w ⟨A22, c23, rfl, k24, hN⟩; refine ⟨_, rfl, ?_⟩; have hB := hN.pure; have hS := hS.join hN; clear hN
  refine wpS_quick 1 rfl ?_
  refine wpS_put rfl rfl rfl (yv_extract rfl rfl) ?_
  refine wpS_put rfl rfl rfl (yv_extract rfl rfl) ?_
  refine wpS_put rfl rfl rfl (yv_extract rfl rfl) ?_
  refine wpS_quick 3 rfl ?_
  refine wpS_nil ?_
  refine QH_seq_k hK15 ?_
  refine wpC_seq_k (fun K hK26 => ?_)
  refine wpC_seq_k (fun K hK27 => ?_)
  refine wpC_region ?_
  refine wpS_quick 1 rfl ?_
  refine wpS_put rfl rfl rfl (yv_neq rfl rfl) ?_
  refine wpS_quick 1 rfl ?_
  refine wpS_case 27 rfl (fun hb => ?_) (fun hb => ?_)
  · replace H := cond_t H hb
    refine wpS_quick 3 rfl ?_
    refine wpS_nil ?_
    refine QH_seq_k hK27 ?_
    refine wpC_cond_t rfl rfl ?_
    refine wpC_seq_k (fun K hK29 => ?_)
    refine wpC_region ?_
    refine wpS_put rfl rfl rfl (yv_load_boxA ag_33 rfl (RW.here _) hS hs1 trivial sg0_3) ?_
    refine wpS_store rfl rfl rfl CellsOf.agg hS ps1 st0_3 (by kernel_rfl) rfl (fun w hS hB => ?_)
    refine wpS_quick 1 rfl ?_
    refine wpS_nil ?_
    refine QH_seq_k hK29 ?_
    refine wpC_ret ?_
    refine QH_then_ret ?_
    refine QH_ret rfl (RV.cell rfl (load_boxA ag_33 hS hs1 sg0_3) (RV.tmp rfl RV.nil)) rfl ?_
    obtain rfl := Option.some.inj H
    have hS := hS.nilRow 40 3
    replace hS := hS.cut 1
    exact ⟨none, 0, rfl, ⟨Nat.le_refl _, Nat.zero_le _⟩, hS⟩
  replace H := cond_f H hb
  refine wpS_quick 1 rfl ?_
  refine wpS_put rfl rfl rfl (yv_eql rfl rfl) ?_
  refine wpS_quick 1 rfl ?_
  refine wpS_nil ?_
  refine QH_seq_k hK27 ?_
  refine wpC_cond rfl (fun hb => ?_) (fun hb => ?_)
  · replace H := cond_t H hb
    refine wpC_seq_k (fun K hK32 => ?_)
    refine wpC_region ?_
    refine wpS_put rfl rfl rfl (yv_load_boxA ag_33 rfl (RW.here _) hS hs1 trivial sg0_3) ?_
    refine wpS_store rfl rfl rfl CellsOf.agg hS ps1 st0_3 (by kernel_rfl) rfl (fun w hS hB => ?_)
    refine wpS_quick 1 rfl ?_
    refine wpS_nil ?_
    refine QH_seq_k hK32 ?_
    refine wpC_ret ?_
    refine QH_then_ret ?_
    refine QH_ret rfl (RV.cell rfl (load_boxA ag_33 hS hs1 sg0_3) (RV.tmp rfl RV.nil)) rfl ?_
    obtain rfl := Option.some.inj H
    have hS := hS.nilRow 40 3
    replace hS := hS.cut 1
    exact ⟨none, 0, rfl, ⟨Nat.le_refl _, Nat.zero_le _⟩, hS⟩
  replace H := cond_f H hb
  refine wpC_skip ?_
  refine QH_seq_k hK26 ?_
  refine wpC_seq_k (fun K hK34 => ?_)
  refine wpC_region ?_
  refine wpS_quick 1 rfl ?_
  refine wpS_put rfl rfl rfl (yv_build (cells := [.int .i64 r20.1, .slice none 0 0, .int .i64 6]) rfl (by kernel_rfl)) ?_
  refine wpS_store rfl rfl rfl CellsOf.agg hS ps1 st0_3 (by kernel_rfl) rfl (fun w hS hB => ?_)
  refine wpS_nil ?_
  refine QH_seq_k hK34 ?_
  refine wpC_seq_k (fun K hK35 => ?_)
  refine wpC_seq_k (fun K hK36 => ?_)
  refine wpC_region ?_
  refine wpS_quick 1 rfl ?_
  have hM37 := hS
  refine wpS_call rfl rfl rfl rfl (by kernel_rfl) rfl (c_one_records x0 A0_ c0_ _ (SlI.of_rd s0_.k (hS.rd0 s0_.rd) (hS.blk0 s0_.blk))) ?_
  rintro e w ⟨b39, rfl, hN38⟩; refine ⟨_, rfl, ?_⟩; have hB := hN38.pure; have hS := hS.join hN38
  refine wpS_nil ?_
  refine QH_seq_k hK36 ?_
  refine wpC_block ?_
  replace hS := hS.nilRow 40 3
  replace hM37 := hM37.nilRow 40 3
  obtain ⟨xs48, hx49, H⟩ := bind_some H
  refine wpC_range (w0 := w0) (X := List En × Option Addr × Nat × Int) rfl (by kernel_rfl) (it_records x0 _ _ _ s0_ hT_ hM37.pure b39 hN38 hx49) ⟨hM37.size, hN38.size⟩ (fun _ => rfl) (by kernel_rfl) (fun k x => .row (.slice x.2.1 x.1.length x.2.2.1) 40 3 x.1.length (encs enE x.1) :: .row (.slice A22 r20.2.1.length c23) 5 1 r20.2.1.length (encs enY r20.2.1) :: .box b2 [.int .i64 r20.1, .slice x.2.1 x.1.length x.2.2.1, .int .i64 x.2.2.2] 33 :: []) (fun k x => (x.1.length ≤ x.2.2.1 ∧ x.2.2.1 ≤ maxLen) ∧ m_one_Scan_r1 r20 (xs48.drop k) x.1 x.2.2.2 = some r) (fun _ _ => []) (fun _ _ => False) (fun _ => False) ([], none, 0, 6) ⟨hS.sub (List.Sublist.cons_cons _ (List.Sublist.cons _ (List.Sublist.cons_cons _ (List.Sublist.cons_cons _ List.Sublist.slnil)))), fun e he k hk => .inl (hM37.rng e he k hk).1⟩ ⟨⟨Nat.le_refl _, Nat.zero_le _⟩, H⟩ ?_ ?_ (fun _ _ _ h _ => h.elim) (fun _ _ h _ => h.elim)
  · rintro lo k e41 ⟨v42, A43, c44, v47⟩ A hke ⟨k45, H⟩ hzB hRB hS
    dsimp only at hRB k45 H ⊢
    rw [drop_of_get hke, m_one_Scan_r1] at H
    dsimp only [List.zip, List.zipWith, List.foldl]
    refine wpC_seq_k (fun K hK50 => ?_)
    refine wpC_regionR (by repeat (first | exact NL.round | exact NL.false | exact NL.body (by intro _ h; simp at h) | apply NL.then | apply NL.inBlock | apply NL.jump)) (by kernel_rfl) ?_
    refine wpS_quick 1 rfl ?_
    refine wpS_nil ?_
    refine QH_seq_k hK50 ?_
    refine wpC_regionR (by repeat (first | exact NL.round | exact NL.false | exact NL.body (by intro _ h; simp at h) | apply NL.then | apply NL.inBlock | apply NL.jump)) (by kernel_rfl) ?_
    refine wpS_alloc rfl rfl zc_40 hS (fun b51 w hS hB => ?_)
    refine wpS_store rfl rfl rfl CellsOf.agg hS ps0 st0_3 (by kernel_rfl) rfl (fun w hS hB => ?_)
    refine wpS_nil ?_
    refine QH_asg hS ?_
    rintro A2 hS hBase hE
    dsimp only [List.cons_append, List.nil_append] at hS
    refine wpC_block ?_
    refine wpC_regionR (by repeat (first | exact NL.round | exact NL.false | exact NL.body (by intro _ h; simp at h) | apply NL.then | apply NL.inBlock | apply NL.jump)) (by kernel_rfl) ?_
    refine wpS_put rfl rfl rfl (yv_fieldAddr fo_33_1 rfl) ?_
    refine wpS_put rfl rfl rfl (yv_load_box sc_22 rfl (RW.here _) hS hs3 trivial sg1_1) ?_
    refine wpS_put rfl rfl rfl (yv_load_boxA ag_40 rfl (RW.here _) hS hs0 trivial sg0_3) ?_
    refine wpS_sliceM (ps := [(0, .tmp 40)]) [.int .i64 e41.2.term, .int .i64 e41.2.kind, .int .i64 e41.2.value] el_22 zc_40 rfl rfl rfl rfl rfl (by kernel_rfl) hS (fun b53 w hS hB => ?_)
    obtain ⟨l55, hf56, H⟩ := bind_some H
    refine wpX_append (ys := ([e41.2] : List En)) he_enE oc_enE em_22 (by decide) rfl rfl rfl rfl hS (fun _ => ps2) (hS.box_rd hs0) hf56 (fun A57 c58 w k59 hS => ?_)
    refine wpS_quick 1 rfl ?_
    refine wpS_put rfl rfl rfl (yv_fieldAddr fo_33_1 rfl) ?_
    refine wpS_store rfl rfl rfl CellsOf.slice hS ps4 st1_1 (by kernel_rfl) rfl (fun w hS hB => ?_)
    refine wpS_put rfl rfl rfl (yv_fieldAddr fo_33_2 rfl) ?_
    refine wpS_store rfl rfl rfl CellsOf.int hS ps4 st2_1 (by kernel_rfl) rfl (fun w hS hB => ?_)
    refine wpS_nil ?_
    refine QH_block_normal ?_
    exact QH_round hBase hE hS (l55, A57, c58, e41.1) (List.Sublist.cons _ (List.Sublist.cons _ (List.Sublist.cons_cons _ (List.Sublist.cons_cons _ (List.Sublist.cons_cons _ List.Sublist.slnil))))) ⟨k59, H⟩
  · rintro ⟨v42, A43, c44, v47⟩ A ⟨k45, H⟩ hS
    dsimp only at hS k45 H ⊢
    rw [List.drop_length, m_one_Scan_r1] at H
    refine QH_block_normal ?_
    refine QH_seq_k hK35 ?_
    refine wpC_seq_k (fun K hK61 => ?_)
    refine wpC_region ?_
    refine wpS_put rfl rfl rfl (yv_load_boxA ag_33 rfl (RW.here _) hS hs3 trivial sg0_3) ?_
    refine wpS_store rfl rfl rfl CellsOf.agg hS ps3 st0_3 (by kernel_rfl) rfl (fun w hS hB => ?_)
    refine wpS_quick 1 rfl ?_
    refine wpS_nil ?_
    refine QH_seq_k hK61 ?_
    refine wpC_ret ?_
    refine QH_shut (.inl rfl) hS ps0 (fun w hS => ?_)
    replace hS := hS.sub (List.Sublist.cons _ (List.Sublist.cons_cons _ (List.Sublist.cons_cons _ (List.Sublist.cons_cons _ List.Sublist.slnil))))
    refine QH_ret rfl (RV.cell rfl (load_boxA ag_33 hS hs2 sg0_3) (RV.tmp rfl RV.nil)) rfl ?_
    obtain rfl := Option.some.inj H
    have hS := hS.front 0 rfl
    replace hS := hS.cut 1
    exact ⟨A43, c44, rfl, k45, hS⟩
theorem c_law07_wakes (w0 : World) (hT_ : SlI w0 enU (some ⟨0, 0, none⟩) 16 tabU) {r : Bool} (H : m_law07_wakes = some r) : Calls Tryd.prog 13 #[] w0 fun e w' => e = .returned (.bool r) ∧ St0 All w0 w' [] := by
  unfold m_law07_wakes at H
  refine gw_enter0 Tryd.func13 rfl Tryd.ntmps13 rfl ?_
  have hS := St0.start All w0
  refine wpC_seq_k (fun K hK1 => ?_)
  refine wpC_region ?_
  refine wpS_quick 1 rfl ?_
  refine wpS_nil ?_
  refine QH_seq_k hK1 ?_
  refine wpC_seq_k (fun K hK2 => ?_)
  refine wpC_region ?_
  obtain ⟨r3, hm4, H⟩ := bind_some H
  refine wpS_call rfl rfl rfl rfl (by kernel_rfl) rfl (c_one_Head 5 _ hm4) ?_
  rintro e w ⟨A5, c6, rfl, k7, hN⟩; refine ⟨_, rfl, ?_⟩; have hB := hN.pure; have hS := hS.join hN; clear hN
  refine wpS_quick 1 rfl ?_
  refine wpS_put rfl rfl rfl (yv_extract rfl rfl) ?_
  refine wpS_put rfl rfl rfl (yv_extract rfl rfl) ?_
  refine wpS_quick 2 rfl ?_
  refine wpS_nil ?_
  refine QH_seq_k hK2 ?_
  refine wpC_seq_k (fun K hK9 => ?_)
  refine wpC_region ?_
  refine wpS_put rfl rfl rfl (yv_build (cells := [.int .i64 1, .int .i64 1, .int .i64 7]) rfl (by kernel_rfl)) ?_
  refine wpS_sliceM (ps := [(0, .tmp 18)]) [.int .i64 1, .int .i64 1, .int .i64 7] el_22 zc_40 rfl rfl rfl rfl rfl (by kernel_rfl) hS (fun b10 w hS hB => ?_)
  obtain ⟨r12, hm13, H⟩ := bind_some H
  refine wpS_call rfl rfl rfl rfl (by kernel_rfl) rfl (c_one_File 5 ([(⟨1, 1, 7⟩ : En)] : List En) (some ⟨b10, 0, none⟩) 1 _ (SlI.of_rd ⟨Nat.le_refl 1, by decide⟩ (hS.box_rd hs0) (hS.box_blk hs0)) (SlI.of_rd hT_.k (hS.rd0 hT_.rd) (hS.blk0 hT_.blk)) hm13) ?_
  rintro e w ⟨A14, c15, rfl, k16, hN⟩; refine ⟨_, rfl, ?_⟩; have hB := hN.pure; have hS := hS.join hN; clear hN
  refine wpS_quick 1 rfl ?_
  refine wpS_put rfl rfl rfl (yv_extract rfl rfl) ?_
  refine wpS_put rfl rfl rfl (yv_extract rfl rfl) ?_
  refine wpS_quick 2 rfl ?_
  refine wpS_nil ?_
  refine QH_seq_k hK9 ?_
  refine wpC_seq_k (fun K hK18 => ?_)
  refine wpC_region ?_
  refine wpS_slice0 el_23 rfl rfl hS (fun b19 w hS hB => ?_)
  refine wpS_quick 1 rfl ?_
  obtain ⟨l21, hf22, H⟩ := bind_some H
  refine wpX_append (ys := r12.1) he_enY oc_enY em_23 (by decide) rfl rfl rfl rfl hS (fun _ => ps0) (hS.row_rd hs1) hf22 (fun A23 c24 w k25 hS => ?_)
  refine wpS_sliceM (ps := [(0, .const (.int .u8 9))]) [.int .u8 9] el_23 zc_5 rfl rfl rfl rfl rfl (by kernel_rfl) hS (fun b26 w hS hB => ?_)
  obtain ⟨l28, hf29, H⟩ := bind_some H
  refine wpX_append (ys := ([9] : List UInt8)) he_enY oc_enY em_23 (by decide) rfl rfl rfl rfl hS (fun _ => ps1) (hS.box_rd hs0) hf29 (fun A30 c31 w k32 hS => ?_)
  obtain ⟨r33, hm34, H⟩ := bind_some H
  refine wpS_call rfl rfl rfl rfl (by kernel_rfl) rfl (c_one_Scan l28 A30 c31 _ (SlI.of_rd k32 (hS.row_rd hs1) (hS.row_blk hs1)) (SlI.of_rd hT_.k (hS.rd0 hT_.rd) (hS.blk0 hT_.blk)) hm34) ?_
  rintro e w ⟨A35, c36, rfl, k37, hN⟩; refine ⟨_, rfl, ?_⟩; have hB := hN.pure; have hS := hS.join hN; clear hN
  refine wpS_quick 1 rfl ?_
  refine wpS_put rfl rfl rfl (yv_extract rfl rfl) ?_
  refine wpS_put rfl rfl rfl (yv_extract rfl rfl) ?_
  refine wpS_alloc rfl rfl zc_33 hS (fun b39 w hS hB => ?_)
  refine wpS_store rfl rfl rfl CellsOf.agg hS ps0 st0_3 (by kernel_rfl) rfl (fun w hS hB => ?_)
  refine wpS_quick 1 rfl ?_
  refine wpS_nil ?_
  refine QH_seq_k hK18 ?_
  refine wpC_seq_k (fun K hK41 => ?_)
  refine wpC_region ?_
  obtain ⟨r42, hm43, H⟩ := bind_some H
  refine wpS_call rfl rfl rfl rfl (by kernel_rfl) rfl (c_one_Head 0 _ hm43) ?_
  rintro e w ⟨A44, c45, rfl, k46, hN⟩; refine ⟨_, rfl, ?_⟩; have hB := hN.pure; have hS := hS.join hN; clear hN
  refine wpS_quick 1 rfl ?_
  refine wpS_put rfl rfl rfl (yv_extract rfl rfl) ?_
  refine wpS_put rfl rfl rfl (yv_extract rfl rfl) ?_
  refine wpS_quick 2 rfl ?_
  refine wpS_nil ?_
  refine QH_seq_k hK41 ?_
  refine wpC_seq_k (fun K hK48 => ?_)
  refine wpC_region ?_
  refine wpS_put rfl rfl rfl (yv_build (cells := [.int .i64 0, .int .i64 0, .int .i64 0]) rfl (by kernel_rfl)) ?_
  refine wpS_sliceM (ps := [(0, .tmp 37)]) [.int .i64 0, .int .i64 0, .int .i64 0] el_22 zc_40 rfl rfl rfl rfl rfl (by kernel_rfl) hS (fun b49 w hS hB => ?_)
  obtain ⟨r51, hm52, H⟩ := bind_some H
  refine wpS_call rfl rfl rfl rfl (by kernel_rfl) rfl (c_one_Put ([(⟨0, 0, 0⟩ : En)] : List En) (some ⟨b49, 0, none⟩) 1 _ (SlI.of_rd ⟨Nat.le_refl 1, by decide⟩ (hS.box_rd hs0) (hS.box_blk hs0)) (SlI.of_rd hT_.k (hS.rd0 hT_.rd) (hS.blk0 hT_.blk)) hm52) ?_
  rintro e w ⟨A53, c54, rfl, k55, hN⟩; refine ⟨_, rfl, ?_⟩; have hB := hN.pure; have hS := hS.join hN; clear hN
  refine wpS_quick 1 rfl ?_
  refine wpS_put rfl rfl rfl (yv_extract rfl rfl) ?_
  refine wpS_put rfl rfl rfl (yv_extract rfl rfl) ?_
  refine wpS_quick 2 rfl ?_
  refine wpS_nil ?_
  refine QH_seq_k hK48 ?_
  refine wpC_seq_k (fun K hK57 => ?_)
  refine wpC_region ?_
  refine wpS_sliceM (ps := [(0, .const (.int .u8 2)), (1, .const (.int .u8 0)), (2, .const (.int .u8 0)), (3, .const (.int .u8 0)), (4, .const (.int .u8 0)), (5, .const (.int .u8 5))]) [.int .u8 2, .int .u8 0, .int .u8 0, .int .u8 0, .int .u8 0, .int .u8 5] el_23 zc_5 rfl rfl rfl rfl rfl (by kernel_rfl) hS (fun b58 w hS hB => ?_)
  obtain ⟨r60, hm61, H⟩ := bind_some H
  refine wpS_call rfl rfl rfl rfl (by kernel_rfl) rfl (c_one_Scan ([2, 0, 0, 0, 0, 5] : List UInt8) (some ⟨b58, 0, none⟩) 6 _ (SlI.of_rd ⟨Nat.le_refl 6, by decide⟩ (hS.box_rd hs0) (hS.box_blk hs0)) (SlI.of_rd hT_.k (hS.rd0 hT_.rd) (hS.blk0 hT_.blk)) hm61) ?_
  rintro e w ⟨A62, c63, rfl, k64, hN⟩; refine ⟨_, rfl, ?_⟩; have hB := hN.pure; have hS := hS.join hN; clear hN
  refine wpS_quick 1 rfl ?_
  refine wpS_put rfl rfl rfl (yv_extract rfl rfl) ?_
  refine wpS_put rfl rfl rfl (yv_extract rfl rfl) ?_
  refine wpS_alloc rfl rfl zc_33 hS (fun b66 w hS hB => ?_)
  refine wpS_store rfl rfl rfl CellsOf.agg hS ps0 st0_3 (by kernel_rfl) rfl (fun w hS hB => ?_)
  refine wpS_quick 1 rfl ?_
  refine wpS_nil ?_
  refine QH_seq_k hK57 ?_
  refine wpC_seq_k (fun K hK68 => ?_)
  refine wpC_region ?_
  refine wpS_quick 1 rfl ?_
  refine wpS_sliceM (ps := [(0, .const (.int .u8 1)), (1, .const (.int .u8 0)), (2, .const (.int .u8 0)), (3, .const (.int .u8 0)), (4, .const (.int .u8 0)), (5, .const (.int .u8 5))]) [.int .u8 1, .int .u8 0, .int .u8 0, .int .u8 0, .int .u8 0, .int .u8 5] el_23 zc_5 rfl rfl rfl rfl rfl (by kernel_rfl) hS (fun b69 w hS hB => ?_)
  obtain ⟨r71, hm72, H⟩ := bind_some H
  refine wpS_call rfl rfl rfl rfl (by kernel_rfl) rfl (c_law07_same r3.1 ([1, 0, 0, 0, 0, 5] : List UInt8) A5 c6 (some ⟨b69, 0, none⟩) 6 _ (SlI.of_rd k7 (hS.row_rd hs13) (hS.row_blk hs13)) (SlI.of_rd ⟨Nat.le_refl 6, by decide⟩ (hS.box_rd hs0) (hS.box_blk hs0)) hm72) ?_
  rintro e w ⟨rfl, hN⟩; refine ⟨_, rfl, ?_⟩; have hB := hN.pure; have hS := hS.join hN; clear hN
  refine wpS_quick 1 rfl ?_
  refine wpS_case 50 rfl (fun hb => ?_) (fun hb => ?_)
  rotate_left
  · replace H := cond_f H hb
    refine wpS_quick 57 rfl ?_
    refine wpS_nil ?_
    refine QH_seq_k hK68 ?_
    refine wpC_ret ?_
    refine QH_ret rfl (RV.tmp rfl RV.nil) rfl ?_
    obtain rfl := Option.some.inj H
    replace hS := hS.cut 0
    exact ⟨rfl, hS⟩
  replace H := cond_t H hb
  refine wpS_quick 1 rfl ?_
  refine wpS_put rfl rfl rfl (yv_eql rfl rfl) ?_
  refine wpS_quick 2 rfl ?_
  refine wpS_case 54 rfl (fun hb => ?_) (fun hb => ?_)
  rotate_left
  · replace H := cond_f H hb
    refine wpS_quick 53 rfl ?_
    refine wpS_nil ?_
    refine QH_seq_k hK68 ?_
    refine wpC_ret ?_
    refine QH_ret rfl (RV.tmp rfl RV.nil) rfl ?_
    obtain rfl := Option.some.inj H
    replace hS := hS.cut 0
    exact ⟨rfl, hS⟩
  replace H := cond_t H hb
  refine wpS_quick 1 rfl ?_
  refine wpS_put rfl rfl rfl (yv_eql rfl rfl) ?_
  refine wpS_quick 2 rfl ?_
  refine wpS_case 58 rfl (fun hb => ?_) (fun hb => ?_)
  rotate_left
  · replace H := cond_f H hb
    refine wpS_quick 49 rfl ?_
    refine wpS_nil ?_
    refine QH_seq_k hK68 ?_
    refine wpC_ret ?_
    refine QH_ret rfl (RV.tmp rfl RV.nil) rfl ?_
    obtain rfl := Option.some.inj H
    replace hS := hS.cut 0
    exact ⟨rfl, hS⟩
  replace H := cond_t H hb
  refine wpS_quick 1 rfl ?_
  refine wpS_put rfl rfl rfl (yv_len el_23 rfl) ?_
  refine wpS_put rfl rfl rfl (yv_eql rfl rfl) ?_
  refine wpS_quick 2 rfl ?_
  refine wpS_case 63 rfl (fun hb => ?_) (fun hb => ?_)
  rotate_left
  · replace H := cond_f H hb
    refine wpS_quick 44 rfl ?_
    refine wpS_nil ?_
    refine QH_seq_k hK68 ?_
    refine wpC_ret ?_
    refine QH_ret rfl (RV.tmp rfl RV.nil) rfl ?_
    obtain rfl := Option.some.inj H
    replace hS := hS.cut 0
    exact ⟨rfl, hS⟩
  replace H := cond_t H hb
  obtain ⟨r77, hm78, H⟩ := bind_some H
  refine wpS_call rfl rfl rfl rfl (by kernel_rfl) rfl (c_one_Size 1 _ hm78) ?_
  rintro e w ⟨rfl, hN⟩; refine ⟨_, rfl, ?_⟩; have hB := hN.pure; have hS := hS.join hN; clear hN
  refine wpS_put rfl rfl rfl (yv_eql rfl rfl) ?_
  refine wpS_quick 2 rfl ?_
  refine wpS_case 67 rfl (fun hb => ?_) (fun hb => ?_)
  rotate_left
  · replace H := cond_f H hb
    refine wpS_quick 40 rfl ?_
    refine wpS_nil ?_
    refine QH_seq_k hK68 ?_
    refine wpC_ret ?_
    refine QH_ret rfl (RV.tmp rfl RV.nil) rfl ?_
    obtain rfl := Option.some.inj H
    replace hS := hS.cut 0
    exact ⟨rfl, hS⟩
  replace H := cond_t H hb
  refine wpS_quick 1 rfl ?_
  refine wpS_put rfl rfl rfl (yv_eql rfl rfl) ?_
  refine wpS_quick 2 rfl ?_
  refine wpS_case 71 rfl (fun hb => ?_) (fun hb => ?_)
  rotate_left
  · replace H := cond_f H hb
    refine wpS_quick 36 rfl ?_
    refine wpS_nil ?_
    refine QH_seq_k hK68 ?_
    refine wpC_ret ?_
    refine QH_ret rfl (RV.tmp rfl RV.nil) rfl ?_
    obtain rfl := Option.some.inj H
    replace hS := hS.cut 0
    exact ⟨rfl, hS⟩
  replace H := cond_t H hb
  refine wpS_put rfl rfl rfl (yv_fieldAddr fo_33_0 rfl) ?_
  refine wpS_put rfl rfl rfl (yv_load_box sc_3 rfl (RW.here _) hS hs7 trivial sg0_1) ?_
  refine wpS_put rfl rfl rfl (yv_eql rfl rfl) ?_
  refine wpS_quick 2 rfl ?_
  refine wpS_case 76 rfl (fun hb => ?_) (fun hb => ?_)
  rotate_left
  · replace H := cond_f H hb
    refine wpS_quick 31 rfl ?_
    refine wpS_nil ?_
    refine QH_seq_k hK68 ?_
    refine wpC_ret ?_
    refine QH_ret rfl (RV.tmp rfl RV.nil) rfl ?_
    obtain rfl := Option.some.inj H
    replace hS := hS.cut 0
    exact ⟨rfl, hS⟩
  replace H := cond_t H hb
  refine wpS_put rfl rfl rfl (yv_fieldAddr fo_33_1 rfl) ?_
  refine wpS_put rfl rfl rfl (yv_load_box sc_22 rfl (RW.here _) hS hs7 trivial sg1_1) ?_
  refine wpS_put rfl rfl rfl (yv_len el_22 rfl) ?_
  refine wpS_put rfl rfl rfl (yv_eql rfl rfl) ?_
  refine wpS_quick 2 rfl ?_
  refine wpS_case 82 rfl (fun hb => ?_) (fun hb => ?_)
  rotate_left
  · replace H := cond_f H hb
    refine wpS_quick 25 rfl ?_
    refine wpS_nil ?_
    refine QH_seq_k hK68 ?_
    refine wpC_ret ?_
    refine QH_ret rfl (RV.tmp rfl RV.nil) rfl ?_
    obtain rfl := Option.some.inj H
    replace hS := hS.cut 0
    exact ⟨rfl, hS⟩
  replace H := cond_t H hb
  refine wpS_put rfl rfl rfl (yv_fieldAddr fo_33_1 rfl) ?_
  refine wpS_put rfl rfl rfl (yv_load_box sc_22 rfl (RW.here _) hS hs7 trivial sg1_1) ?_
  obtain ⟨e83, hi85, H⟩ := bind_some H
  obtain ⟨j84, hi85a, hi85b, hi85c⟩ := idx_some hi85
  refine wpS_put rfl rfl rfl (yx_idx el_22 rfl rfl hi85a hi85c (Rd.el (hS.row_rd hs8) he_enE hi85b)) ?_
  refine wpS_put rfl rfl rfl (yx_fieldAddr fo_40_2 rfl (Rd.el (hS.row_rd hs8) he_enE hi85b)) ?_
  refine wpS_put rfl rfl rfl (yx_ld sc_3 rfl (RW.here _) (Rd.el (hS.row_rd hs8) he_enE hi85b) rfl) ?_
  refine wpS_put rfl rfl rfl (yv_eql rfl rfl) ?_
  refine wpS_quick 2 rfl ?_
  refine wpS_case 90 rfl (fun hb => ?_) (fun hb => ?_)
  rotate_left
  · replace H := cond_f H hb
    refine wpS_quick 17 rfl ?_
    refine wpS_nil ?_
    refine QH_seq_k hK68 ?_
    refine wpC_ret ?_
    refine QH_ret rfl (RV.tmp rfl RV.nil) rfl ?_
    obtain rfl := Option.some.inj H
    replace hS := hS.cut 0
    exact ⟨rfl, hS⟩
  replace H := cond_t H hb
  refine wpS_put rfl rfl rfl (yv_fieldAddr fo_33_2 rfl) ?_
  refine wpS_put rfl rfl rfl (yv_load_box sc_3 rfl (RW.here _) hS hs7 trivial sg2_1) ?_
  refine wpS_put rfl rfl rfl (yv_eql rfl rfl) ?_
  refine wpS_quick 2 rfl ?_
  refine wpS_case 95 rfl (fun hb => ?_) (fun hb => ?_)
  rotate_left
  · replace H := cond_f H hb
    refine wpS_quick 12 rfl ?_
    refine wpS_nil ?_
    refine QH_seq_k hK68 ?_
    refine wpC_ret ?_
    refine QH_ret rfl (RV.tmp rfl RV.nil) rfl ?_
    obtain rfl := Option.some.inj H
    replace hS := hS.cut 0
    exact ⟨rfl, hS⟩
  replace H := cond_t H hb
  refine wpS_quick 1 rfl ?_
  refine wpS_put rfl rfl rfl (yv_eql rfl rfl) ?_
  refine wpS_quick 2 rfl ?_
  refine wpS_case 99 rfl (fun hb => ?_) (fun hb => ?_)
  rotate_left
  · replace H := cond_f H hb
    refine wpS_quick 8 rfl ?_
    refine wpS_nil ?_
    refine QH_seq_k hK68 ?_
    refine wpC_ret ?_
    refine QH_ret rfl (RV.tmp rfl RV.nil) rfl ?_
    obtain rfl := Option.some.inj H
    replace hS := hS.cut 0
    exact ⟨rfl, hS⟩
  replace H := cond_t H hb
  refine wpS_quick 1 rfl ?_
  refine wpS_put rfl rfl rfl (yv_eql rfl rfl) ?_
  refine wpS_quick 2 rfl ?_
  refine wpS_case 103 rfl (fun hb => ?_) (fun hb => ?_)
  rotate_left
  · replace H := cond_f H hb
    refine wpS_quick 4 rfl ?_
    refine wpS_nil ?_
    refine QH_seq_k hK68 ?_
    refine wpC_ret ?_
    refine QH_ret rfl (RV.tmp rfl RV.nil) rfl ?_
    obtain rfl := Option.some.inj H
    replace hS := hS.cut 0
    exact ⟨rfl, hS⟩
  replace H := cond_t H hb
  refine wpS_quick 1 rfl ?_
  refine wpS_put rfl rfl rfl (yv_eql rfl rfl) ?_
  refine wpS_quick 2 rfl ?_
  refine wpS_nil ?_
  refine QH_seq_k hK68 ?_
  refine wpC_ret ?_
  refine QH_ret rfl (RV.tmp rfl RV.nil) rfl ?_
  obtain rfl := Option.some.inj H
  replace hS := hS.cut 0
  exact ⟨rfl, hS⟩
end Go.Proofs.YtofheinbbefbcaaDoor
