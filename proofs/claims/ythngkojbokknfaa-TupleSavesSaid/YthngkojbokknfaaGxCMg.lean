/- Laws for walks that a program of mine prints, third part: stores into rows, make, arrays, loops gone through once. -/
import Derived.Test.YthngkojbokknfaaMg1
import Derived.Laws.OwnMore
namespace Go.Proofs.Ythngkojbokknfaa
open Go Go.RowKit
/-- make([]T, n). -/
def makeI {α : Type} (z : α) (n : Int) : Option (List α) := if 0 ≤ n ∧ n ≤ 1000000000 then some (List.replicate n.toNat z) else none
theorem makeI_some {α : Type} {z : α} {n : Int} {l : List α} (h : makeI z n = some l) : ∃ k : Nat, n = (k : Int) ∧ k ≤ 1000000000 ∧ l = List.replicate k z ∧ l.length = k := by
  unfold makeI at h
  split at h
  · rename_i h0
    injection h with h
    exact ⟨n.toNat, by omega, by omega, h.symm, by rw [← h]; simp⟩
  · cases h
def setAt : List Value → Nat → List Value → List Value
  | xs, _, [] => xs
  | xs, o, v :: vs => setAt (xs.set o v) (o + 1) vs
theorem setAt_cons (x : Value) : ∀ (vs xs : List Value) (o : Nat), setAt (x :: xs) (o + 1) vs = x :: setAt xs o vs
  | [], _, _ => rfl
  | v :: vs, xs, o => by simp only [setAt, List.set_cons_succ]; exact setAt_cons x vs _ _
theorem setAt_pre : ∀ (p xs : List Value) (o : Nat) (vs : List Value), setAt (p ++ xs) (p.length + o) vs = p ++ setAt xs o vs
  | [], xs, o, vs => by simp
  | x :: p, xs, o, vs => by
    rw [List.cons_append, List.length_cons, show p.length + 1 + o = (p.length + o) + 1 by omega, setAt_cons, setAt_pre p xs o vs]; rfl
theorem setAt_post : ∀ (vs xs q : List Value) (o : Nat), o + vs.length ≤ xs.length → setAt (xs ++ q) o vs = setAt xs o vs ++ q
  | [], _, _, _, _ => rfl
  | v :: vs, xs, q, o, h => by
    simp only [List.length_cons] at h
    simp only [setAt]
    rw [List.set_append_left _ _ (by omega), setAt_post vs (xs.set o v) q (o + 1) (by rw [List.length_set]; omega)]
theorem setAt_ovr {cs vs cs' : List Value} (h : Ovr cs vs cs') : setAt cs 0 vs = cs' := by
  induction h with
  | nil => rfl
  | @cons c v cs vs cs' h ih => simp only [setAt, List.set_cons_zero]; rw [setAt_cons, ih]
theorem setAt_setC {cs vs cs' : List Value} {o : Nat} (h : SetC cs o vs cs') : setAt cs o vs = cs' := by
  induction h with
  | here h => exact setAt_ovr h
  | succ h ih => rw [setAt_cons, ih]
theorem encs_set {α : Type} {e : α → List Value} {k : Nat} (he : ∀ x, (e x).length = k) {l : List α} {j f : Nat} {a a' : α} {vs : List Value} (ha : l[j]? = some a) (hc : SetC (e a) f vs (e a')) : setAt (encs e l) (j * k + f) vs = encs e (l.set j a') := by
  have hj := (List.getElem?_eq_some_iff.1 ha).1
  have h1 : l = l.take j ++ a :: l.drop (j + 1) := by
    conv => lhs; rw [← List.take_append_drop j l]
    rw [List.drop_eq_getElem_cons hj, (List.getElem?_eq_some_iff.1 ha).2]
  have h2 : l.set j a' = l.take j ++ a' :: l.drop (j + 1) := by
    conv => lhs; rw [h1]
    have hl : (l.take j).length = j := by rw [List.length_take]; omega
    rw [List.set_append_right _ _ (by omega), hl, Nat.sub_self]; rfl
  have hp : (encs e (l.take j)).length = j * k := by rw [encs_length he, List.length_take, Nat.min_eq_left (by omega)]
  have hlen : f + vs.length ≤ (e a).length := hc.spec.2.1
  rw [h2, encs_app, encs_cons]
  conv => lhs; rw [h1, encs_app, encs_cons, ← hp]
  rw [setAt_pre, setAt_post vs (e a) _ f hlen, setAt_setC hc]
theorem there_row {w : World} {g n cap e size : Nat} {xs : List Value} (h : w.ownsRow 0 e size (.slice (some ⟨g, 0, none⟩) n cap) n xs) {o m : Nat} (hm : o + m ≤ xs.length) : w.there g o m := fun j hj => by
  rcases h.2 with ⟨h', _⟩ | ⟨g', cap', cur, h', _, hg, hnc, _, hcs, htake⟩
  · simp at h'
  · simp only [Value.slice.injEq, Option.some.injEq, Addr.mk.injEq, and_true, true_and] at h'
    obtain ⟨rfl, rfl⟩ := h'
    have hl : xs.length ≤ cur.size := by rw [← htake, List.length_take]; simp; omega
    refine ⟨?_, by simp [World.frozen?, hg]⟩
    rw [cell_of_row w g (o + j) cur e (0, 0) hg]
    simp
    omega
theorem row_setCells (g e size n cap : Nat) : ∀ (vs : List Value) (o : Nat) (w : World) (xs : List Value), w.ownsRow 0 e size (.slice (some ⟨g, 0, none⟩) n cap) n xs → (w.setCells g o vs).ownsRow 0 e size (.slice (some ⟨g, 0, none⟩) n cap) n (setAt xs o vs)
  | [], _, _, _, h => h
  | v :: vs, o, w, xs, h => by
    rw [World.setCells]
    exact row_setCells g e size n cap vs (o + 1) _ _ (h.stored o v).1
section
variable {P : Program} {ro : Option Nat} {ops : Array Oper} {Q : Exit → Act → World → Prop} {rest : List Oper} {N : FS} {L : List (Nat × Value)} {w w0 : World} {S : Nat → Prop} {H H' : List Ent} {dn : Nat} {ty : TypeId} {pos : String} {af : Array Edge} {g : Option (Nat × Bool)} {R : World → Prop} {d : Option Nat}
/-- A store into an element of a row of one's own. -/
theorem wpX_storeR {α : Type} {e : α → List Value} {k te T j f n c : Nat} {x y : Operand} {A : Option Addr} {l zs : List α} {a a' : α} {i : Int} {v : Value} {vs : List Value} (he : ∀ x, (e x).length = k) (hg : wantB ops L g = some true) (hx : ev L x = some (.pointer (A.map (·.add (j * k + f))))) (hy : ev L y = some v) (hv : CellsOf v vs)
    (hS : St0 S w0 w H) (hH : Pos H (.row (.slice A n c) te k n (encs e l)) H' (.row (.slice A n c) te k n (encs e zs))) (hA : El w A (j * k) (e a)) (hij : i = (j : Int)) (ha : l[j]? = some a) (hz : zs = setI l i a') (hc : SetC (e a) f vs (e a')) (hi : (P.info? T).map (·.size) = some vs.length) (h1 : vs.all (·.oneCell') = true)
    (kk : ∀ w', St0 S w0 w' H' → wpS P ops Q rest N L w') : wpS P ops Q (⟨none, .store T x y, ty, pos, af, g⟩ :: rest) N L w := by
  obtain ⟨b, q, rfl⟩ := hA.adr
  obtain ⟨ix, hi1, hH'⟩ := hH.set
  have hown : w.ownsRow 0 te k (.slice (some ⟨b, q, none⟩) n c) n (encs e l) := hS.ok _ (List.mem_of_getElem? hi1)
  obtain rfl : q = 0 := by
    rcases hown.2 with ⟨h', _⟩ | ⟨g', cap', cur, h', _⟩
    · simp at h'
    · simp only [Value.slice.injEq, Option.some.injEq, Addr.mk.injEq, and_true, true_and] at h'; exact h'.1.2
  have hlen : f + vs.length ≤ (e a).length := hc.spec.2.1
  have hjl := (List.getElem?_eq_some_iff.1 ha).1
  have hfit : j * k + f + vs.length ≤ (encs e l).length := by
    rw [encs_length he]
    rw [he] at hlen
    have : (j + 1) * k ≤ l.length * k := Nat.mul_le_mul_right k hjl
    rw [Nat.succ_mul] at this
    omega
  have ht : w.there b (j * k + f) vs.length := there_row hown hfit
  have hzz := size_setCells b vs (j * k + f) w
  have hnew : (w.setCells b (j * k + f) vs).ownsRow 0 te k (.slice (some ⟨b, 0, none⟩) n c) n (encs e zs) := by
    have := row_setCells b te k n c vs (j * k + f) w _ hown
    rw [encs_set he ha hc] at this
    subst hij
    rw [hz]
    exact this
  simp only [Option.map_some, Addr.add_mid, Nat.zero_add] at hx
  rw [hH'] at kk
  refine wpS_run0 hg rfl (fun ρ hρ => ?_) (kk (w.setCells b (j * k + f) vs) (hS.change ix hi1 (by rw [hzz.1]; exact Nat.le_refl _) hzz.2 (fun k' hk _ => heap_setCells b vs _ w k' (fun h => hk (by subst h; rfl))) hnew (fun k' hk => .inl hk)))
  simp only [execOp, hρ x _ hx, hρ y _ hy, Sem.run_bind, store_run hv ht hi h1, Result.andThen_ok, Sem.run_pure]
/-- make([]T, n). -/
theorem wpX_make {α : Type} {e : α → List Value} {t te size bytes : Nat} {z : Value} {x y : Operand} {z0 : α} {l : List α} {kl kc : IntKind} {i : Int} (he : ∀ x, (e x).length = size) (E : Elem P t te z size bytes) (hz : z.cells.toList = e z0) (hbz : bytes ≤ 100000) (hg : wantB ops L g = some true) (hN : Nat.ble (dn + 1) N.n = true)
    (hx : ev L x = some (.int kl i)) (hy : ev L y = some (.int kc i)) (hS : St0 S w0 w H) (hm : makeI z0 i = some l)
    (k : ∀ A c w', (l.length ≤ c ∧ c ≤ maxLen) → St0 S w0 w' (.row (.slice A l.length c) te size l.length (encs e l) :: H) → Below w.heap.size w w' → wpS P ops Q rest N ((dn, .slice A l.length c) :: L) w') :
    wpS P ops Q (⟨some dn, .makeSlice t x y, ty, pos, af, g⟩ :: rest) N L w := by
  obtain ⟨n, rfl, hn, rfl, hl⟩ := makeI_some hm
  obtain ⟨inf, hi, hzr, hsz, hby⟩ := info_parts E.info
  obtain ⟨w', hrun, hown, hgr⟩ := run_make_full (P := P) w w.heap.size t te inf z size E.under hi hzr hsz kl kc n (by rw [hby]; have := Nat.mul_le_mul hbz hn; omega) (by unfold maxLen; omega) (Nat.le_refl _)
  have hb : Below w.heap.size w w' := (Below.refl _ _).grown hgr (Nat.le_refl _) (fun k hk => by cases hk)
  have hcells : (madeCells z.cells (n * size)).toList = encs e (List.replicate n z0) := by
    have hs0 : z.cells.size = size := E.cells
    have hp : 0 < size := E.pos
    apply List.ext_getElem?
    intro j
    by_cases hj : j < n * size
    · have hq : j / size < n := Nat.div_lt_of_lt_mul (by rw [Nat.mul_comm]; exact hj)
      have hr : j % size < size := Nat.mod_lt _ hp
      have h1 := encs_at he (l := List.replicate n z0) (j := j / size) (x := z0) (by simp [hq]) (j % size) hr
      rw [Nat.mul_comm, Nat.div_add_mod] at h1
      rw [h1, ← hz]
      have h2 : j % z.cells.size < z.cells.size := by rw [hs0]; exact hr
      simp [madeCells, hj, hs0, hr]
    · rw [List.getElem?_eq_none (by simp [madeCells]; omega), List.getElem?_eq_none (by rw [encs_length he]; simp; omega)]
  rw [hcells] at hown
  have hown' : w'.ownsRow w.heap.size te size (.slice (some ⟨w.heap.size, 0, none⟩) (List.replicate n z0).length n) (List.replicate n z0).length (encs e (List.replicate n z0)) := by rw [hl]; exact hown
  refine wpS_run hg rfl hN (fun ρ hρ => ?_) (k (some ⟨w.heap.size, 0, none⟩) n w' ⟨by simp, by unfold maxLen; omega⟩ (hS.add hb (own_base hown' (Nat.zero_le _)) (fun k hk => ?_)) hb)
  · simp only [execOp, hρ x _ hx, hρ y _ hy, hrun, Sem.run_bind, Result.andThen_ok, Sem.run_pure]
    rw [hl]
  · exact ⟨(hown'.lt k hk).1, (hown'.lt k hk).2⟩
/-! ### Arrays -/
def elemOfArray (P : Program) (t : TypeId) : Option (Nat × Nat) :=
  match P.underlying t with
  | some (.array n e) => match P.info? e with
    | some i => some (n, i.size)
    | none => none
  | _ => none
structure ArC (P : Program) (t n k : Nat) : Prop where
  h : elemOfArray P t = some (n, k)
theorem yx_idxA {x y : Operand} {t n k b o j : Nat} {q : IntKind} {i : Int} (ht0 : ArC P t n k) (hx : ev L x = some (.pointer (some ⟨b, o, none⟩))) (hy : ev L y = some (.int q i)) (hi : i = (j : Int)) (hj : j < n) : Yv P L R ⟨d, .indexAddr t x y, ty, pos, af, g⟩ (.pointer (some ⟨b, o + j * k, none⟩)) := Yv.mk fun w1 _ ρ hρ => by
  have ht := ht0.h
  subst hi
  unfold elemOfArray at ht
  split at ht
  · rename_i m e' hu
    split at ht
    · rename_i i hi
      simp only [Option.some.injEq, Prod.mk.injEq] at ht
      obtain ⟨rfl, rfl⟩ := ht
      have h2 : (j : Int) < m := by omega
      simp [execOp, hρ x _ hx, hρ y _ hy, Instr.indexAt, Instr.sureAddr, asIntOf, run_underlying hu, h2, sizeOf, typeInfo, hi, Addr.add_mid]
      intro h9; omega
    · cases ht
  · cases ht
/-- A loop gone through some times, each round walked. -/
def Rn (P : Program) (ro : Option Nat) (c : Code) (Q : Exit → Act → World → Prop) : Nat → Act → World → Prop
  | 0, _, _ => False
  | n + 1, a, w => wpo P ro c (Exit.then (Rn P ro c Q n) Q) a w
theorem wpo_rounds {c : Code} (n : Nat) {a : Act} (h : Rn P ro c Q n a w) : wpo P ro (.loop c) Q a w := by
  classical
  have hmin : ∀ a w, (∃ n, Rn P ro c Q n a w) → ∃ m, Rn P ro c Q m a w ∧ ∀ k, Rn P ro c Q k a w → m ≤ k := fun a w ⟨n, hn⟩ => by
    induction n using Nat.strongRecOn with
    | _ n ih =>
      by_cases h : ∃ k, k < n ∧ Rn P ro c Q k a w
      · obtain ⟨k, hk, hp⟩ := h; exact ih k hk hp
      · exact ⟨n, hn, fun k hk => Nat.le_of_not_lt fun hlt => h ⟨k, hlt, hk⟩⟩
  let M : Act → World → Nat := fun a w => if h : ∃ n, Rn P ro c Q n a w then (hmin a w h).choose else 0
  refine wpo_loop (fun a w => ∃ n, Rn P ro c Q n a w) M ⟨n, h⟩ fun a w hex => ?_
  obtain ⟨hm, _⟩ := (hmin a w hex).choose_spec
  have hMa : M a w = (hmin a w hex).choose := by simp only [M, dif_pos hex]
  rw [hMa]
  generalize (hmin a w hex).choose = m at hm
  cases m with
  | zero => exact hm.elim
  | succ m =>
    refine wpo_mono hm fun e a' w' he => ?_
    cases e with
    | normal =>
      have hex' : ∃ n, Rn P ro c Q n a' w' := ⟨m, he⟩
      refine ⟨hex', ?_⟩
      have := (hmin a' w' hex').choose_spec.2 m he
      have hMa' : M a' w' = (hmin a' w' hex').choose := by simp only [M, dif_pos hex']
      omega
    | _ => exact he
theorem wpC_rounds (n : Nat) {c : Code} (k : wpC P ro c (Exit.then (Rn P ro c Q n) Q) N L w) : wpC P ro (.loop c) Q N L w := .mk fun a hF => wpo_rounds (n + 1) (k.go a hF)
theorem QH_more {n : Nat} {c : Code} {Q' : Exit → Act → World → Prop} (k : wpC P ro c (Exit.then (Rn P ro c Q n) Q) N L w) : QH (Exit.then (Rn P ro c Q (n + 1)) Q') .normal N L w := .mk k.go
end
end Go.Proofs.Ythngkojbokknfaa
