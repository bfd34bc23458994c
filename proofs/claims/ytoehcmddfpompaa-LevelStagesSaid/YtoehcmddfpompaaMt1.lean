/- Texts of one claim put together: what its walks share. -/
import Derived.Test.YtoehcmddfpompaaMt0
import Derived.Recover
import Derived.WalkSmall
import Derived.Laws.Pointers
import Derived.Laws.Cover3
import Derived.Deep.DeepCutAuto
/- Laws for walks that a program of mine prints, fifth part: new variables that may come up at any time beside a region's calls. -/
namespace Go.Proofs.Ytoehcmddfpompaa
open Go Go.RowKit
set_option maxRecDepth 100000
/-- A new variable: its operation's number, its slot, its type, the cells. -/
structure FlI where
  i : Nat
  d : Nat
  T : Nat
  zs : List Value
def subs {α : Type} : List α → List (List α)
  | [] => [[]]
  | x :: l => subs l ++ (subs l).map (x :: ·)
theorem mem_subs {α : Type} {a l : List α} (h : List.Sublist a l) : a ∈ subs l := by
  induction h with
  | slnil => simp [subs]
  | cons x h ih => simp only [subs, List.mem_append]; exact .inl ih
  | cons_cons x h ih => simp only [subs, List.mem_append, List.mem_map]; exact .inr ⟨_, ih, rfl⟩
def tkH (tk : List (FlI × Nat)) : List Ent := tk.map fun p => .box p.2 p.1.zs p.1.T
def tkL (tk : List (FlI × Nat)) : List (Nat × Value) := tk.map fun p => (p.1.d, .pointer (some ⟨p.2, 0, none⟩))
def tkI (tk : List (FlI × Nat)) : List Nat := tk.map (·.1.i)
/-- Which of the new variables are there already. -/
structure Tk (fl : List FlI) (tk : List (FlI × Nat)) (X : List Ent) (Y : List (Nat × Value)) : Prop where
  sub : List.Sublist (tk.map (·.1)) fl
  hX : X = tkH tk
  hY : Y = tkL tk
theorem insert_tk {fl : List FlI} : ∀ {tk : List (FlI × Nat)}, List.Sublist (tk.map (·.1)) fl → ∀ {f : FlI} (b : Nat), f ∈ fl → (∀ p ∈ tk, p.1 ≠ f) → ∃ tk2 : List (FlI × Nat), List.Sublist (tk2.map (·.1)) fl ∧ tk2.Perm ((f, b) :: tk) := by
  induction fl with
  | nil => intro tk _ f b hf _; cases hf
  | cons g fl ih =>
    intro tk hs f b hf hn
    by_cases hgf : g = f
    · subst hgf
      have hs' : List.Sublist (tk.map (·.1)) fl := by
        generalize hm : tk.map (·.1) = m at hs
        cases hs with
        | cons _ h => exact h
        | cons_cons _ h =>
          exfalso
          cases tk with
          | nil => cases hm
          | cons p tk => simp only [List.map_cons, List.cons.injEq] at hm; exact hn p (by simp) hm.1
      exact ⟨(g, b) :: tk, List.Sublist.cons_cons _ hs', List.Perm.refl _⟩
    · have hf' : f ∈ fl := by rcases List.mem_cons.1 hf with h | h
                              · exact (hgf h.symm).elim
                              · exact h
      generalize hm : tk.map (·.1) = m at hs
      cases hs with
      | cons _ h =>
        rw [← hm] at h
        obtain ⟨tk2, h1, h2⟩ := ih h b hf' hn
        exact ⟨tk2, List.Sublist.cons _ h1, h2⟩
      | @cons_cons l1 _ _ h =>
        cases tk with
        | nil => cases hm
        | cons p tk =>
          simp only [List.map_cons, List.cons.injEq] at hm
          obtain ⟨hp, ht⟩ := hm
          rw [← ht] at h
          obtain ⟨tk2, h1, h2⟩ := ih h b hf' (fun q hq => hn q (by simp [hq]))
          refine ⟨p :: tk2, ?_, (h2.cons p).trans (.swap _ _ _)⟩
          rw [List.map_cons, hp]
          exact List.Sublist.cons_cons _ h1
theorem listAll_perm {a b : List Nat} (h : a.Perm b) : ∀ (l : Array Bool), listAll l a = listAll l b := by
  induction h with
  | nil => intro l; rfl
  | cons x h ih => intro l; simp only [listAll]; exact ih _
  | swap x y l0 =>
    intro l
    simp only [listAll]
    congr 1
    by_cases hxy : x = y
    · subst hxy; rfl
    · apply Array.ext_getElem?
      intro i
      simp only [Array.getElem?_setIfInBounds, Array.size_setIfInBounds]
      by_cases h1 : x = i <;> by_cases h2 : y = i <;> simp_all
  | trans h1 h2 ih1 ih2 => intro l; rw [ih1, ih2]
theorem listAll_append : ∀ (a b : List Nat) (l : Array Bool), listAll l (a ++ b) = listAll (listAll l a) b
  | [], _, _ => rfl
  | x :: a, b, l => by simp only [List.cons_append, listAll]; exact listAll_append a b _
section
variable {P : Program} {md : Region.Mode} {ops : Array Oper} {G : Nat → Nat → Prop} {sl : List Nat} {Q : Exit → Act → World → Prop} {N : FS} {w w0 : World} {S : Nat → Prop} {H : List Ent} {L : List (Nat × Value)} {fl : List FlI}
/-- The new variables are as the operations have them. -/
structure FlOk (P : Program) (ops : Array Oper) (N : FS) (sl : List Nat) (fl : List FlI) : Prop where
  op : ∀ f ∈ fl, ∃ ty pos af, ops[f.i]? = some ⟨some f.d, .alloc f.T, ty, pos, af, none⟩
  zc : ∀ f ∈ fl, ZcC P f.T f.zs
  le : ∀ f ∈ fl, Nat.ble (f.d + 1) N.n = true
  off : ∀ f ∈ fl, f.i ∉ sl
  inj : fl.Pairwise (fun f g => f.i ≠ g.i ∧ f.d ≠ g.d)
/-- A region under way, whichever of the new variables are there already. -/
structure wpRF (P : Program) (md : Region.Mode) (ops : Array Oper) (G : Nat → Nat → Prop) (sl : List Nat) (fl : List FlI) (Q : Exit → Act → World → Prop) (f : Nat) (listed : Array Bool) (N : FS) (S : Nat → Prop) (w0 : World) (Lf : List (Nat × Value) → List (Nat × Value)) (Hf : List Ent → List Ent) : Prop where
  go : ∀ X Y tk, Tk fl tk X Y → ∀ w, St0 S w0 w (Hf X) → wpR P md ops G sl Q (f - tk.length) (listAll listed (tkI tk)) N (Lf Y) w
theorem FlOk.nil : FlOk P ops N sl [] := ⟨fun _ h => (by cases h), fun _ h => (by cases h), fun _ h => (by cases h), fun _ h => (by cases h), List.Pairwise.nil⟩
theorem FlOk.cons {i d T : Nat} {zs : List Value} {ty : TypeId} {pos : String} {af : Array Edge} (hop : ops[i]? = some ⟨some d, .alloc T, ty, pos, af, none⟩) (hz : ZcC P T zs) (hle : Nat.ble (d + 1) N.n = true) (hoff : sl.contains i = false) (hinj : (fl.all fun g => !(Nat.beq g.i i) && !(Nat.beq g.d d)) = true) (h : FlOk P ops N sl fl) : FlOk P ops N sl (⟨i, d, T, zs⟩ :: fl) := by
  refine ⟨fun f hf => ?_, fun f hf => ?_, fun f hf => ?_, fun f hf => ?_, List.pairwise_cons.2 ⟨fun g hg => ?_, h.inj⟩⟩
  · rcases List.mem_cons.1 hf with rfl | hf
    · exact ⟨_, _, _, hop⟩
    · exact h.op f hf
  · rcases List.mem_cons.1 hf with rfl | hf
    · exact hz
    · exact h.zc f hf
  · rcases List.mem_cons.1 hf with rfl | hf
    · exact hle
    · exact h.le f hf
  · rcases List.mem_cons.1 hf with rfl | hf
    · simpa using hoff
    · exact h.off f hf
  · have := List.all_eq_true.1 hinj g hg
    simp only [Bool.and_eq_true, Bool.not_eq_true'] at this
    refine ⟨fun h0 => ?_, fun h0 => ?_⟩
    · have h1 := this.1; rw [← h0] at h1; simp at h1
    · have h1 := this.2; rw [← h0] at h1; simp at h1
theorem wpRF_start (fl : List FlI) {f : Nat} {listed : Array Bool} (hok : FlOk P ops N sl fl) (hS : St0 S w0 w H) (k : FlOk P ops N sl fl → wpRF P md ops G sl fl Q f listed N S w0 (fun Y => L ++ Y) (fun X => H ++ X)) : wpR P md ops G sl Q f listed N L w := by
  have := (k hok).go [] [] [] ⟨List.nil_sublist _, rfl, rfl⟩ w (by simpa using hS)
  simpa [tkI, listAll] using this
/-- Where nothing but j may come up beside the new variables. -/
def onlyB (md : Region.Mode) (ops : Array Oper) (fl : List FlI) (listed : Array Bool) (js : List Nat) : Bool :=
  (subs fl).all fun t => (Region.ready md ops (listAll listed (t.map (·.i)))).all fun r => js.contains r || (fl.any fun f => Nat.beq f.i r && !((t.map (·.i)).contains r))
theorem only_spec {listed : Array Bool} {js : List Nat} (h : onlyB md ops fl listed js = true) {tk : List (FlI × Nat)} (hs : List.Sublist (tk.map (·.1)) fl) : ∀ r ∈ Region.ready md ops (listAll listed (tkI tk)), r ∈ js ∨ ∃ f ∈ fl, f.i = r ∧ ∀ p ∈ tk, p.1 ≠ f := by
  intro r hr
  have h1 := List.all_eq_true.1 h _ (mem_subs hs)
  have e : ((tk.map (·.1)).map (·.i)) = tkI tk := by simp [tkI]
  rw [e] at h1
  have h2 := List.all_eq_true.1 h1 r hr
  simp only [Bool.or_eq_true, List.contains_eq_mem, decide_eq_true_eq, List.any_eq_true, Bool.and_eq_true, Bool.not_eq_true', decide_eq_false_iff_not] at h2
  rcases h2 with h2 | ⟨f, hf, hi, hn⟩
  · exact .inl h2
  · have hi' := Nat.eq_of_beq_eq_true hi
    refine .inr ⟨f, hf, hi', fun p hp hpf => hn ?_⟩
    rw [← hi', ← hpf]
    exact List.mem_map.2 ⟨p, hp, rfl⟩
/-- One of the new variables comes. -/
theorem float_step {f : Nat} {listed : Array Bool} {Lf : List (Nat × Value) → List (Nat × Value)} {Hf : List Ent → List Ent} (hok : FlOk P ops N sl fl) (hL : ∀ Y, Lf Y = Lf [] ++ Y) (hH : ∀ X, Hf X = Hf [] ++ X) (hk : ((Lf []).all fun p => fl.all fun f => !(Nat.beq p.1 f.d)) = true)
    {tk : List (FlI × Nat)} (hs : List.Sublist (tk.map (·.1)) fl) (hS : St0 S w0 w (Hf (tkH tk))) {g : FlI} (hg : g ∈ fl) (hn : ∀ p ∈ tk, p.1 ≠ g)
    (next : ∀ tk2, tk2.length = tk.length + 1 → List.Sublist (tk2.map (·.1)) fl → ∀ w2, St0 S w0 w2 (Hf (tkH tk2)) → wpR P md ops G sl Q f (listAll listed (tkI tk2)) N (Lf (tkL tk2)) w2) {a : Act} (hF : Fr N (Lf (tkL tk)) a) :
    wpOp P ops Q g.i (fun a' w' => ((g.i ∈ sl → KeepB (G g.i) w w') ∧ (g.i ∉ sl → Below w.heap.size w w')) ∧ wpF P md ops G sl Q f ((listAll listed (tkI tk)).setIfInBounds g.i true) a' w') a w := by
  obtain ⟨ty, pos, af, hop⟩ := hok.op g hg
  have hoff := hok.off g hg
  refine op_of_list hop ?_
  have h1 : wpS P ops (Exit.then (fun a' w' => ((g.i ∈ sl → KeepB (G g.i) w w') ∧ (g.i ∉ sl → Below w.heap.size w w')) ∧ wpF P md ops G sl Q f ((listAll listed (tkI tk)).setIfInBounds g.i true) a' w') Q) [⟨some g.d, .alloc g.T, ty, pos, af, none⟩] N (Lf (tkL tk)) w := by
    refine wpS_alloc rfl (hok.le g hg) (hok.zc g hg) hS (fun b w2 hS2 hB => wpS_nil ⟨fun a2 hF2 => ?_⟩)
    obtain ⟨tk2, h2, hp⟩ := insert_tk hs b hg hn
    refine ⟨⟨fun h => (hoff h).elim, fun _ => hB⟩, ?_⟩
    have hHp : (Ent.box b g.zs g.T :: Hf (tkH tk)).Perm (Hf (tkH tk2)) := by
      rw [hH, hH (tkH tk2)]
      have e1 : (tkH tk2).Perm (.box b g.zs g.T :: tkH tk) := by unfold tkH; exact hp.map _
      exact (List.perm_middle.symm).trans ((List.Perm.refl _).append e1.symm)
    have hI : listAll listed (tkI tk2) = (listAll listed (tkI tk)).setIfInBounds g.i true := by
      have e1 : (tkI tk2).Perm (tkI tk ++ [g.i]) := by
        unfold tkI
        exact (hp.map _).trans (by rw [List.map_cons]; exact (List.perm_append_comm (l₁ := [g.i])))
      rw [listAll_perm e1, listAll_append]; rfl
    have hR := next tk2 (by rw [hp.length_eq]; rfl) h2 w2 (hS2.reord hHp)
    rw [hI] at hR
    refine hR.go a2 ⟨hF2.size, hF2.defers, fun k v hkv => hF2.at_ k v ?_⟩
    have hlk : ∀ (A B : List (Nat × Value)), lk (A ++ B) k = (match lk A k with | some v => some v | none => lk B k) := by
      intro A B
      induction A with
      | nil => rfl
      | cons p A ih =>
        obtain ⟨q, u⟩ := p
        simp only [List.cons_append, lk]
        cases hq : Nat.beq q k with
        | true => rfl
        | false => simpa using ih
    have hslot : ∀ (tkx : List (FlI × Nat)), (tkx.map (·.1.d)).Nodup → ∀ p ∈ tkx, lk (tkL tkx) p.1.d = some (.pointer (some ⟨p.2, 0, none⟩)) := by
      intro tkx
      induction tkx with
      | nil => intro _ p hp; cases hp
      | cons q tkx ih =>
        intro hnd p hp
        simp only [List.map_cons, List.nodup_cons] at hnd
        rcases List.mem_cons.1 hp with rfl | hp
        · simp [tkL, lk]
        · have hne : q.1.d ≠ p.1.d := fun h => hnd.1 (by rw [h]; exact List.mem_map.2 ⟨p, hp, rfl⟩)
          have : Nat.beq q.1.d p.1.d = false := by
            cases hb : Nat.beq q.1.d p.1.d with
            | false => rfl
            | true => exact (hne (Nat.eq_of_beq_eq_true hb)).elim
          show lk ((q.1.d, _) :: tkL tkx) p.1.d = _
          simp only [lk, this]
          exact ih hnd.2 p hp
    have hmem : ∀ (tkx : List (FlI × Nat)) k v, lk (tkL tkx) k = some v → ∃ p ∈ tkx, p.1.d = k ∧ v = .pointer (some ⟨p.2, 0, none⟩) := by
      intro tkx k v h
      have := lk_mem h
      obtain ⟨p, hp, he⟩ := List.mem_map.1 this
      injection he with h1 h2
      exact ⟨p, hp, h1, h2.symm⟩
    have hnd : ∀ (tkx : List (FlI × Nat)), List.Sublist (tkx.map (·.1)) fl → (tkx.map (·.1.d)).Nodup := by
      intro tkx hsx
      have := (hok.inj.sublist hsx).imp (fun h => h.2)
      have h3 : (tkx.map (·.1)).map (·.d) = tkx.map (·.1.d) := by simp
      rw [← h3]
      exact List.pairwise_map.2 this
    simp only [lk]
    have hno : ∀ q ∈ fl, lk (Lf []) q.d = none := by
      intro q hq
      cases hl : lk (Lf []) q.d with
      | none => rfl
      | some u =>
        have := List.all_eq_true.1 hk _ (lk_mem hl)
        have := List.all_eq_true.1 this q hq
        simp at this
    rw [hL, hlk] at hkv
    rw [hL, hlk]
    cases hl : lk (Lf []) k with
    | some u =>
      rw [hl] at hkv
      have : Nat.beq g.d k = false := by
        cases hb : Nat.beq g.d k with
        | false => rfl
        | true =>
          have := Nat.eq_of_beq_eq_true hb
          rw [← this, hno g hg] at hl
          cases hl
      rw [this]
      exact hkv
    | none =>
      rw [hl] at hkv
      obtain ⟨p, hpm, hpk, hpv⟩ := hmem tk2 k v hkv
      have hp' := hp.mem_iff.1 hpm
      rcases List.mem_cons.1 hp' with rfl | hp'
      · dsimp only at hpk hpv
        subst hpk
        simp [hpv]
      · have hne : g.d ≠ k := by
          intro h0
          have h1 := hnd tk2 h2
          have h4 : ((g, b) :: tk).map (·.1.d) |>.Nodup := (hp.map (·.1.d)).nodup_iff.1 h1
          simp only [List.map_cons, List.nodup_cons] at h4
          exact h4.1 (by rw [h0, ← hpk]; exact List.mem_map.2 ⟨p, hp', rfl⟩)
        have : Nat.beq g.d k = false := by
          cases hb : Nat.beq g.d k with
          | false => rfl
          | true => exact (hne (Nat.eq_of_beq_eq_true hb)).elim
        rw [this]
        show lk (tkL tk) k = some v
        rw [← hpk, hslot tk (hnd tk hs) p hp', hpv]
  exact h1.go a hF
theorem hend_of {listed : Array Bool} (h : (subs fl).all (fun t => !(Region.ready md ops (listAll listed (t.map (·.i)))).isEmpty) = true) : ∀ tk : List (FlI × Nat), List.Sublist (tk.map (·.1)) fl → Region.ready md ops (listAll listed (tkI tk)) ≠ [] := fun tk hs h0 => by
  have e : ((tk.map (·.1)).map (·.i)) = tkI tk := by simp [tkI]
  have h1 := List.all_eq_true.1 h _ (mem_subs hs)
  rw [e, h0] at h1
  simp at h1
theorem tk_nil {tk : List (FlI × Nat)} (h : tk.map (·.1) = []) : tk = [] := by simpa using h
theorem tk_cons {f : FlI} {fl : List FlI} {tk : List (FlI × Nat)} (h : tk.map (·.1) = f :: fl) : ∃ b tk', tk = (f, b) :: tk' ∧ tk'.map (·.1) = fl := by
  cases tk with
  | nil => cases h
  | cons p tk =>
    simp only [List.map_cons, List.cons.injEq] at h
    obtain ⟨h1, h2⟩ := h
    exact ⟨p.2, tk, by rw [← h1], h2⟩
/-- What is asked behind the operation j. -/
structure StepF (P : Program) (md : Region.Mode) (ops : Array Oper) (G : Nat → Nat → Prop) (sl : List Nat) (fl : List FlI) (Q : Exit → Act → World → Prop) (f : Nat) (listed : Array Bool) (N : FS) (S : Nat → Prop) (w0 : World) (X : List Ent) (Y : List (Nat × Value)) (tk : List (FlI × Nat)) (w : World) (a' : Act) (w' : World) : Prop where
  below : Below w.heap.size w w'
  go : wpF P md ops G sl Q (f - tk.length) (listAll listed (tkI tk)) a' w'
theorem QH_stepF {f : Nat} {listed : Array Bool} {Lf : List (Nat × Value) → List (Nat × Value)} {Hf : List Ent → List Ent} {X : List Ent} {Y : List (Nat × Value)} {tk : List (FlI × Nat)} {w' : World} {Q' : Exit → Act → World → Prop} (ht : Tk fl tk X Y) (hS : St0 S w0 w' (Hf X)) (hb : Below w.heap.size w w')
    (k : wpRF P md ops G sl fl Q f listed N S w0 Lf Hf) : QH (Exit.then (StepF P md ops G sl fl Q f listed N S w0 X Y tk w) Q') .normal N (Lf Y) w' := ⟨fun a hF => ⟨hb, (k.go X Y tk ht w' hS).go a hF⟩⟩
/-- A list put ahead of another one. -/
inductive App {α : Type} : List α → List α → List α → Prop
  | nil {X : List α} : App [] X X
  | cons {a : α} {l X r : List α} : App l X r → App (a :: l) X (a :: r)
theorem App.eq {α : Type} {l X r : List α} (h : App l X r) : r = l ++ X := by
  induction h with
  | nil => rfl
  | cons h ih => rw [ih]; rfl
theorem QH_stepF' {f : Nat} {listed : Array Bool} {H0 HX : List Ent} {L0 LY : List (Nat × Value)} {X : List Ent} {Y : List (Nat × Value)} {tk : List (FlI × Nat)} {w' : World} {Q' : Exit → Act → World → Prop} (ht : Tk fl tk X Y) (hS : St0 S w0 w' HX) (hb : Below w.heap.size w w') (hA : App H0 X HX) (hB : App L0 Y LY)
    (k : wpRF P md ops G sl fl Q f listed N S w0 (fun Y => L0 ++ Y) (fun X => H0 ++ X)) : QH (Exit.then (StepF P md ops G sl fl Q f listed N S w0 X Y tk w) Q') .normal N LY w' := by
  rw [hB.eq]; rw [hA.eq] at hS
  exact QH_stepF (Lf := fun Y => L0 ++ Y) (Hf := fun X => H0 ++ X) ht hS hb k
theorem tk_len {tk : List (FlI × Nat)} (hs : List.Sublist (tk.map (·.1)) fl) : tk.length ≤ fl.length := by have := hs.length_le; simpa using this
theorem wpRF_call (m : List Bool) (j : Nat) {o : Oper} {l : List Oper} {f : Nat} {listed : Array Bool} {Lf : List (Nat × Value) → List (Nat × Value)} {Hf : List Ent → List Ent} (hok : FlOk P l.toArray N sl fl)
    (hr : (Nat.ble (fl.length + 1) f = true ∧ onlyB md l.toArray fl listed [j] = true ∧ sl.contains j = false ∧ (fl.all fun g => !(Nat.beq g.i j)) = true)) (ho : pickL m l = [o]) (hi : l.toArray[j]? = some o)
    (hL : ∀ Y, Lf Y = Lf [] ++ Y) (hH : ∀ X, Hf X = Hf [] ++ X) (hk : ((Lf []).all fun p => fl.all fun f => !(Nat.beq p.1 f.d)) = true) (hend : ∀ tk : List (FlI × Nat), List.Sublist (tk.map (·.1)) fl → Region.ready md l.toArray (listAll listed (tkI tk)) ≠ [])
    (k : ∀ X Y tk, Tk fl tk X Y → ∀ w, St0 S w0 w (Hf X) → wpS P l.toArray (Exit.then (StepF P md l.toArray G sl fl Q (f - 1) (listed.setIfInBounds j true) N S w0 X Y tk w) Q) (pickL m l) N (Lf Y) w) : wpRF P md l.toArray G sl fl Q f listed N S w0 Lf Hf := ⟨fun X Y tk ht => by
  obtain ⟨hf, hon, hsj, hfj⟩ := hr
  have hf := Nat.le_of_ble_eq_true hf
  have hsj' : j ∉ sl := by simpa using hsj
  obtain ⟨hsub, rfl, rfl⟩ := ht
  have key : ∀ (n : Nat) (tk : List (FlI × Nat)), fl.length - tk.length = n → List.Sublist (tk.map (·.1)) fl → ∀ w, St0 S w0 w (Hf (tkH tk)) → wpR P md l.toArray G sl Q (f - tk.length) (listAll listed (tkI tk)) N (Lf (tkL tk)) w := by
    intro n
    induction n with
    | zero =>
      intro tk hn hsub w hS
      have hlen := tk_len hsub
      obtain ⟨f', hf'⟩ : ∃ f', f - tk.length = f' + 1 := ⟨f - tk.length - 1, by omega⟩
      rw [hf']
      refine ⟨fun a hF => ⟨fun h0 => (hend tk hsub h0).elim, fun r hr => ?_⟩⟩
      rcases only_spec hon hsub r hr with h1 | ⟨g, hg, rfl, hng⟩
      · obtain rfl : r = j := by simpa using h1
        have h2 := (k _ _ tk ⟨hsub, rfl, rfl⟩ w hS).go a hF
        rw [ho] at h2
        refine wpOp_mono (fun a' w' h => ⟨⟨fun hh => (hsj' hh).elim, fun _ => h.below⟩, ?_⟩) (op_of_list hi h2)
        have e1 : f - 1 - tk.length = f' := by omega
        have e2 : listAll (listed.setIfInBounds r true) (tkI tk) = (listAll listed (tkI tk)).setIfInBounds r true := by
          have := listAll_perm (List.perm_append_comm (l₁ := [r]) (l₂ := tkI tk)) listed
          rw [listAll_append, listAll_append] at this
          exact this
        rw [← e2, ← e1]; exact h.go
      · exfalso
        have h3 : (tk.map (·.1)) = fl := hsub.eq_of_length (by simp; omega)
        rw [← h3] at hg
        obtain ⟨p, hp, he⟩ := List.mem_map.1 hg
        exact hng p hp he
    | succ n ih =>
      intro tk hn hsub w hS
      have hlen := tk_len hsub
      obtain ⟨f', hf'⟩ : ∃ f', f - tk.length = f' + 1 := ⟨f - tk.length - 1, by omega⟩
      rw [hf']
      refine ⟨fun a hF => ⟨fun h0 => (hend tk hsub h0).elim, fun r hr => ?_⟩⟩
      rcases only_spec hon hsub r hr with h1 | ⟨g, hg, rfl, hng⟩
      · obtain rfl : r = j := by simpa using h1
        have h2 := (k _ _ tk ⟨hsub, rfl, rfl⟩ w hS).go a hF
        rw [ho] at h2
        refine wpOp_mono (fun a' w' h => ⟨⟨fun hh => (hsj' hh).elim, fun _ => h.below⟩, ?_⟩) (op_of_list hi h2)
        have e1 : f - 1 - tk.length = f' := by omega
        have e2 : listAll (listed.setIfInBounds r true) (tkI tk) = (listAll listed (tkI tk)).setIfInBounds r true := by
          have := listAll_perm (List.perm_append_comm (l₁ := [r]) (l₂ := tkI tk)) listed
          rw [listAll_append, listAll_append] at this
          exact this
        rw [← e2, ← e1]; exact h.go
      · refine float_step hok hL hH hk hsub hS hg hng (fun tk2 hl2 hs2 w2 hS2 => ?_) hF
        have := ih tk2 (by omega) hs2 w2 hS2
        have e1 : f - tk2.length = f' := by omega
        rw [e1] at this
        exact this
  exact key _ tk rfl hsub⟩
/-- All the new variables are to come: then the region goes on as ever. -/
theorem wpRF_done {l : List Oper} {f : Nat} {listed : Array Bool} {Lf : List (Nat × Value) → List (Nat × Value)} {Hf : List Ent → List Ent} (hok : FlOk P l.toArray N sl fl)
    (hon : Nat.ble fl.length f = true) (hready : (subs fl).all (fun t => Nat.beq t.length fl.length || ((Region.ready md l.toArray (listAll listed (t.map (·.i)))).all (fun r => fl.any fun f => Nat.beq f.i r && !((t.map (·.i)).contains r)) && !(Region.ready md l.toArray (listAll listed (t.map (·.i)))).isEmpty)) = true)
    (hL : ∀ Y, Lf Y = Lf [] ++ Y) (hH : ∀ X, Hf X = Hf [] ++ X) (hk : ((Lf []).all fun p => fl.all fun f => !(Nat.beq p.1 f.d)) = true)
    (k : ∀ tk : List (FlI × Nat), tk.map (·.1) = fl → ∀ w, St0 S w0 w (Hf (tkH tk)) → wpR P md l.toArray G sl Q (f - fl.length) (listAll listed (fl.map (·.i))) N (Lf (tkL tk)) w) : wpRF P md l.toArray G sl fl Q f listed N S w0 Lf Hf := ⟨fun X Y tk ht => by
  obtain ⟨hsub, rfl, rfl⟩ := ht
  have hf := Nat.le_of_ble_eq_true hon
  have key : ∀ (n : Nat) (tk : List (FlI × Nat)), fl.length - tk.length = n → List.Sublist (tk.map (·.1)) fl → ∀ w, St0 S w0 w (Hf (tkH tk)) → wpR P md l.toArray G sl Q (f - tk.length) (listAll listed (tkI tk)) N (Lf (tkL tk)) w := by
    intro n
    induction n with
    | zero =>
      intro tk hn hsub w hS
      have hlen := tk_len hsub
      have h3 : (tk.map (·.1)) = fl := hsub.eq_of_length (by simp; omega)
      have := k tk h3 w hS
      have e1 : tk.length = fl.length := by omega
      have e2 : tkI tk = fl.map (·.i) := by rw [← h3]; simp [tkI]
      rw [e1, e2]; exact this
    | succ n ih =>
      intro tk hn hsub w hS
      have hlen := tk_len hsub
      obtain ⟨f', hf'⟩ : ∃ f', f - tk.length = f' + 1 := ⟨f - tk.length - 1, by omega⟩
      rw [hf']
      have e : ((tk.map (·.1)).map (·.i)) = tkI tk := by simp [tkI]
      have h1 := List.all_eq_true.1 hready _ (mem_subs hsub)
      rw [e] at h1
      have hne : Nat.beq (tk.map (·.1)).length fl.length = false := by
        cases hb : Nat.beq (tk.map (·.1)).length fl.length with
        | false => rfl
        | true => have := Nat.eq_of_beq_eq_true hb; simp at this; omega
      rw [hne, Bool.false_or, Bool.and_eq_true] at h1
      refine ⟨fun a hF => ⟨fun h0 => ?_, fun r hr => ?_⟩⟩
      · have := h1.2; rw [h0] at this; simp at this
      · have h2 := List.all_eq_true.1 h1.1 r hr
        simp only [List.any_eq_true, Bool.and_eq_true, Bool.not_eq_true', List.contains_eq_mem, decide_eq_false_iff_not] at h2
        obtain ⟨g, hg, hi, hng⟩ := h2
        obtain rfl := Nat.eq_of_beq_eq_true hi
        refine float_step hok hL hH hk hsub hS hg (fun p hp hpf => hng ?_) (fun tk2 hl2 hs2 w2 hS2 => ?_) hF
        · rw [← hpf]; exact List.mem_map.2 ⟨p, hp, rfl⟩
        · have := ih tk2 (by omega) hs2 w2 hS2
          have e1 : f - tk2.length = f' := by omega
          rw [e1] at this
          exact this
  exact key _ tk rfl hsub⟩
/-- Reads and the like, at once. -/
theorem wpRF_batch (m : List Bool) (nw : List Nat) (T : Nat → Prop) {l : List Oper} {f : Nat} {listed : Array Bool} {Lf : List (Nat × Value) → List (Nat × Value)} {Hf : List Ent → List Ent}
    (hm : (m.length ≤ l.length ∧ Region.noSelect l.toArray = true ∧ Nat.ble ((pickI m 0).length + fl.length) f = true ∧ (subs fl).all (fun t => freeOk md l.toArray N.n (listAll listed (t.map (·.i))) (pickI m 0) (pickL m l) && sealsOk md l.toArray sl nw (listAll listed (t.map (·.i))) (pickI m 0)) = true)) (hT : ∀ j ∈ nw, ∀ b, T b → G j b) (hP : PF Q)
    (k : ∀ X Y tk, Tk fl tk X Y → ∀ w, St0 S w0 w (Hf X) → LtK P l.toArray N (fun w1 => KeepB T w w1) (fun L' => wpR P md l.toArray G sl Q (f - (pickI m 0).length - tk.length) (listAll (listAll listed (pickI m 0)) (tkI tk)) N L' w) (pickL m l) (Lf Y)) : wpRF P md l.toArray G sl fl Q f listed N S w0 Lf Hf := ⟨fun X Y tk ht w hS => by
  obtain ⟨hm1, hm2, hm3, hm4⟩ := hm
  have hm3 := Nat.le_of_ble_eq_true hm3
  have hlen := tk_len ht.sub
  have e : ((tk.map (·.1)).map (·.i)) = tkI tk := by simp [tkI]
  have h1 := List.all_eq_true.1 hm4 _ (mem_subs ht.sub)
  rw [e, Bool.and_eq_true] at h1
  refine wpR_batchG m nw T ⟨hm1, hm2, by omega, h1.1, h1.2⟩ hT hP ?_
  have h2 := k X Y tk ht w hS
  have e1 : f - (pickI m 0).length - tk.length = f - tk.length - (pickI m 0).length := by omega
  have e2 : listAll (listAll listed (pickI m 0)) (tkI tk) = listAll (listAll listed (tkI tk)) (pickI m 0) := by
    rw [← listAll_append, ← listAll_append]; exact listAll_perm List.perm_append_comm _
  rw [e1, e2] at h2
  exact h2⟩
theorem LtK_F {f : Nat} {listed : Array Bool} {Lf : List (Nat × Value) → List (Nat × Value)} {Hf : List Ent → List Ent} {X : List Ent} {Y : List (Nat × Value)} {tk : List (FlI × Nat)} {R : World → Prop} (ht : Tk fl tk X Y) (hS : St0 S w0 w (Hf X)) (k : wpRF P md ops G sl fl Q f listed N S w0 Lf Hf) : LtK P ops N R (fun L' => wpR P md ops G sl Q (f - tk.length) (listAll listed (tkI tk)) N L' w) [] (Lf Y) := LtK.nil (k.go X Y tk ht w hS)
theorem LtK_F' {f : Nat} {listed : Array Bool} {H0 HX : List Ent} {L0 LY : List (Nat × Value)} {X : List Ent} {Y : List (Nat × Value)} {tk : List (FlI × Nat)} {R : World → Prop} (ht : Tk fl tk X Y) (hS : St0 S w0 w HX) (hA : App H0 X HX) (hB : App L0 Y LY) (k : wpRF P md ops G sl fl Q f listed N S w0 (fun Y => L0 ++ Y) (fun X => H0 ++ X)) : LtK P ops N R (fun L' => wpR P md ops G sl Q (f - tk.length) (listAll listed (tkI tk)) N L' w) [] LY := by
  rw [hB.eq]; rw [hA.eq] at hS
  exact LtK_F (Lf := fun Y => L0 ++ Y) (Hf := fun X => H0 ++ X) ht hS k
end
end Go.Proofs.Ytoehcmddfpompaa
/- Small laws of places, printed. -/
namespace Go.Proofs.Ytoehcmddfpompaa
open Go Go.RowKit
set_option maxRecDepth 100000
theorem hs0 {a0 : Ent} {H : List Ent} : Has (a0 :: H) a0 := .head
theorem hs1 {a0 a1 : Ent} {H : List Ent} : Has (a0 :: a1 :: H) a1 := .tail (.head)
theorem hs2 {a0 a1 a2 : Ent} {H : List Ent} : Has (a0 :: a1 :: a2 :: H) a2 := .tail (.tail (.head))
theorem ps0 {a0 b : Ent} {H : List Ent} : Pos (a0 :: H) a0 (b :: H) b := .head
theorem ps1 {a0 a1 b : Ent} {H : List Ent} : Pos (a0 :: a1 :: H) a1 (a0 :: b :: H) b := .tail (.head)
theorem ps2 {a0 a1 a2 b : Ent} {H : List Ent} : Pos (a0 :: a1 :: a2 :: H) a2 (a0 :: a1 :: b :: H) b := .tail (.tail (.head))
theorem sg0_1 {a0 : Value} {H : List Value} : Seg (a0 :: H) 0 1 [a0] := .here (.succ (.zero))
theorem sg0_3 {a0 a1 a2 : Value} {H : List Value} : Seg (a0 :: a1 :: a2 :: H) 0 3 [a0, a1, a2] := .here (.succ (.succ (.succ (.zero))))
theorem sg0_5 {a0 a1 a2 a3 a4 : Value} {H : List Value} : Seg (a0 :: a1 :: a2 :: a3 :: a4 :: H) 0 5 [a0, a1, a2, a3, a4] := .here (.succ (.succ (.succ (.succ (.succ (.zero))))))
theorem sg1_1 {a0 a1 : Value} {H : List Value} : Seg (a0 :: a1 :: H) 1 1 [a1] := .succ (.here (.succ (.zero)))
theorem sg2_1 {a0 a1 a2 : Value} {H : List Value} : Seg (a0 :: a1 :: a2 :: H) 2 1 [a2] := .succ (.succ (.here (.succ (.zero))))
theorem sg3_1 {a0 a1 a2 a3 : Value} {H : List Value} : Seg (a0 :: a1 :: a2 :: a3 :: H) 3 1 [a3] := .succ (.succ (.succ (.here (.succ (.zero)))))
theorem sg4_1 {a0 a1 a2 a3 a4 : Value} {H : List Value} : Seg (a0 :: a1 :: a2 :: a3 :: a4 :: H) 4 1 [a4] := .succ (.succ (.succ (.succ (.here (.succ (.zero))))))
theorem st0_1 {a0 b0 : Value} {H : List Value} : SetC (a0 :: H) 0 [b0] (b0 :: H) := .here (.cons (.nil))
theorem st0_5 {a0 a1 a2 a3 a4 b0 b1 b2 b3 b4 : Value} {H : List Value} : SetC (a0 :: a1 :: a2 :: a3 :: a4 :: H) 0 [b0, b1, b2, b3, b4] (b0 :: b1 :: b2 :: b3 :: b4 :: H) := .here (.cons (.cons (.cons (.cons (.cons (.nil))))))
theorem st1_1 {a0 a1 b0 : Value} {H : List Value} : SetC (a0 :: a1 :: H) 1 [b0] (a0 :: b0 :: H) := .succ (.here (.cons (.nil)))
theorem st2_1 {a0 a1 a2 b0 : Value} {H : List Value} : SetC (a0 :: a1 :: a2 :: H) 2 [b0] (a0 :: a1 :: b0 :: H) := .succ (.succ (.here (.cons (.nil))))
theorem st3_1 {a0 a1 a2 a3 b0 : Value} {H : List Value} : SetC (a0 :: a1 :: a2 :: a3 :: H) 3 [b0] (a0 :: a1 :: a2 :: b0 :: H) := .succ (.succ (.succ (.here (.cons (.nil)))))
theorem st4_1 {a0 a1 a2 a3 a4 b0 : Value} {H : List Value} : SetC (a0 :: a1 :: a2 :: a3 :: a4 :: H) 4 [b0] (a0 :: a1 :: a2 :: a3 :: b0 :: H) := .succ (.succ (.succ (.succ (.here (.cons (.nil))))))
theorem eqT_23 (a0 : Int) (a1 : Int) (a2 : Int) (a3 : Int) (a4 : Bool) (b0 : Int) (b1 : Int) (b2 : Int) (b3 : Int) (b4 : Bool) (w : World) : (Op.equalIn 10000 23 (.agg #[.int .i64 a0, .int .i64 a1, .int .i64 a2, .int .i64 a3, .bool a4]) (.agg #[.int .i64 b0, .int .i64 b1, .int .i64 b2, .int .i64 b3, .bool b4])).run Try.prog w = .ok (decide (a0 = b0) && (decide (a1 = b1) && (decide (a2 = b2) && (decide (a3 = b3) && (decide (a4 = b4)))))) w := by
  by_cases h0 : a0 = b0 <;> by_cases h1 : a1 = b1 <;> by_cases h2 : a2 = b2 <;> by_cases h3 : a3 = b3 <;> by_cases h4 : a4 = b4 <;> go_simp
end Go.Proofs.Ytoehcmddfpompaa
/- The walks of tuples: what may be. -/
namespace Go.Proofs.Ytoehcmddfpompaa
open Go Go.RowKit
set_option maxRecDepth 100000

end Go.Proofs.Ytoehcmddfpompaa
/- The walks of tuples: what is told of a panic. -/
namespace Go.Proofs.Ytoehcmddfpompaa
open Go Go.RowKit
set_option maxRecDepth 100000

end Go.Proofs.Ytoehcmddfpompaa
/- Slices of entries: copied, put together, compared. -/
namespace Go.Proofs.Ytoehcmddfpompaa
open Go Go.RowKit
set_option maxRecDepth 100000

-- @EQ eqEn eqSt
theorem eqEn (w : World) (a b : En) : (Op.equalIn 10000 30 (.agg #[.int .i64 a.term, .int .i64 a.kind, .int .i64 a.value]) (.agg #[.int .i64 b.term, .int .i64 b.kind, .int .i64 b.value])).run Try.prog w = .ok (decide (a = b)) w := run_eq_entry w a b
theorem eqSt (w : World) (a b : St) : (Op.equalIn 10000 23 (.agg #[.int .i64 a.index, .int .i64 a.term, .int .i64 a.sum, .int .i64 a.level, .bool a.final]) (.agg #[.int .i64 b.index, .int .i64 b.term, .int .i64 b.sum, .int .i64 b.level, .bool b.final])).run Try.prog w = .ok (decide (a = b)) w := run_eq_state w a b
section
variable {P : Program} {ops : Array Oper} {Q : Exit → Act → World → Prop} {rest : List Oper} {N : FS} {L : List (Nat × Value)} {w w0 : World} {S : Nat → Prop} {H : List Ent} {dn : Nat} {ty : TypeId} {pos : String} {af : Array Edge} {g : Option (Nat × Bool)}
end
end Go.Proofs.Ytoehcmddfpompaa
/- The walks of tuples: a copy, what may be, what is changed. -/
namespace Go.Proofs.Ytoehcmddfpompaa
open Go Go.RowKit
set_option maxRecDepth 100000

/-- A log as it lies in memory. -/
structure LI (w : World) (A : Option Addr) (n c : Nat) (l : List En) : Prop where
  len : l.length = n
  small : n ≤ 1000000
  le : n ≤ c
  cap : c ≤ maxLen
  rd : Rd w A (ens l)
theorem LI.below {w w' : World} {A : Option Addr} {n c : Nat} {l : List En} (h : LI w A n c l) (hb : Below w.heap.size w w') : LI w' A n c l := ⟨h.len, h.small, h.le, h.cap, h.rd.below hb⟩
theorem LI.keep {w w' : World} {S : Nat → Prop} {A : Option Addr} {n c : Nat} {l : List En} (h : LI w A n c l) (hk : KeepB S w w') (hs : ∀ a, A = some a → S a.block) : LI w' A n c l := ⟨h.len, h.small, h.le, h.cap, hk.rd h.rd hs⟩
end Go.Proofs.Ytoehcmddfpompaa
/- The walks of tuples: what changes one. -/
namespace Go.Proofs.Ytoehcmddfpompaa
open Go Go.RowKit
set_option maxRecDepth 100000

end Go.Proofs.Ytoehcmddfpompaa
/- The walks of tuples: Last, At. -/
namespace Go.Proofs.Ytoehcmddfpompaa
open Go Go.RowKit
set_option maxRecDepth 100000
end Go.Proofs.Ytoehcmddfpompaa
/- The walks of tuples: Append, Cut, Hard. -/
namespace Go.Proofs.Ytoehcmddfpompaa
open Go Go.RowKit
set_option maxRecDepth 100000

theorem Rd.blk {w : World} {A : Option Addr} {xs : List Value} (h : Rd w A xs) (hne : xs ≠ []) : ∀ a, A = some a → a.block < w.heap.size := fun a ha => by
  cases xs with
  | nil => exact (hne rfl).elim
  | cons v xs =>
    obtain ⟨b, o, hA, hb, _⟩ := h 0 v rfl
    rw [ha] at hA
    injection hA with hA
    subst hA
    exact hb
end Go.Proofs.Ytoehcmddfpompaa
/- The walks of tuples: TermAt, save, Save, Cut, Install, Hard. -/
namespace Go.Proofs.Ytoehcmddfpompaa
open Go Go.RowKit
set_option maxRecDepth 100000

end Go.Proofs.Ytoehcmddfpompaa
/- The walks of tuples: Save, Cut, Install, Hard. -/
namespace Go.Proofs.Ytoehcmddfpompaa
open Go Go.RowKit
set_option maxRecDepth 100000
set_option maxHeartbeats 1000000

end Go.Proofs.Ytoehcmddfpompaa
/- The walks of tuples: State, First. -/
namespace Go.Proofs.Ytoehcmddfpompaa
open Go Go.RowKit
set_option maxRecDepth 100000

end Go.Proofs.Ytoehcmddfpompaa
/- What the functions of entries and tuples compute that are walked by hand, in the form of the printed contracts. -/
namespace Go.Proofs.Ytoehcmddfpompaa
open Go Go.RowKit
set_option maxRecDepth 100000
theorem Sl.st0 {w w' : World} {A : Option Addr} {n c k : Nat} {xs : List Value} (hs : Sl w w' A n c k xs) (hB : Below w.heap.size w w') : St0 All w w' [.rd A xs] := (St0.start All w).slice hs hB
theorem PureC.st0 {P : Program} {f : Nat} {args : Array Value} {w : World} {v : Value} (h : PureC P f args w v) : Calls P f args w fun e w' => e = .returned v ∧ St0 All w w' [] := h.run.mono fun _ _ h => ⟨h.1, (St0.start All w).below h.2⟩
theorem calls_st0 {P : Program} {f : Nat} {args : Array Value} {w : World} {v : Value} (h : Calls P f args w fun e w' => e = .returned v ∧ Below w.heap.size w w') : Calls P f args w fun e w' => e = .returned v ∧ St0 All w w' [] := h.mono fun _ _ h => ⟨h.1, (St0.start All w).below h.2⟩
end Go.Proofs.Ytoehcmddfpompaa
/- Sums of data, as plain numbers. -/
namespace Go.Proofs.Ytoehcmddfpompaa
open Go Go.RowKit
set_option maxRecDepth 100000

theorem next_data (s : St) (hf : FineP s) (hi : s.index < 1073741824) (v : Int) (h0 : 0 ≤ v) (h1 : v ≤ 1073741824) : nextS s ⟨1, 1, v⟩ = ⟨s.index + 1, 1, (31 * s.sum + v + 1) % 1073741824, s.level, s.final⟩ := by
  unfold nextS
  rw [if_pos ⟨by simp [rightB, h0, h1], (fineB_iff s).2 hf, hi⟩]
  rfl
def SumInv (l : List Int) (q : Nat) (value : Int) (s : St) (k : Nat) (a b : St) : Prop :=
  FineP a ∧ FineP b ∧ a.index = s.index + k ∧ b.index = s.index + k ∧ (k ≤ q → a = b) ∧
    (q < k → a.sum < 1073741824 ∧ b.sum < 1073741824 ∧ ∃ x, l[q]? = some x ∧ 0 ≤ x ∧ x ≤ 999 ∧
      ((k = q + 1 ∧ (a.sum - b.sum - (x - value)) % 1073741824 = 0) ∨ (k = q + 2 ∧ (a.sum - b.sum - 31 * (x - value)) % 1073741824 = 0) ∨ (k = q + 3 ∧ (a.sum - b.sum - 961 * (x - value)) % 1073741824 = 0)))
theorem SumInv.start (l : List Int) (q : Nat) (value : Int) (s : St) (h : FineP s) : SumInv l q value s 0 s s := ⟨h, h, by simp, by simp, fun _ => rfl, fun h => by omega⟩
theorem SumInv.step {l : List Int} {q : Nat} {value : Int} {s : St} {k : Nat} {a b : St} (h : SumInv l q value s k a b) (hs : s.index ≤ 1073741624) (hk : k < 3) (v : Int) (hv : l[k]? = some v) (h0 : 0 ≤ v) (h1 : v ≤ 999) (g0 : 0 ≤ value) (g1 : value ≤ 999) :
    SumInv l q value s (k + 1) (nextS a ⟨1, 1, v⟩) (nextS b ⟨1, 1, if k = q then value else v⟩) := by
  obtain ⟨fa, fb, ia, ib, he, hd⟩ := h
  refine ⟨nextS_fine _ _ fa, nextS_fine _ _ fb, ?_⟩
  have va : 0 ≤ (if k = q then value else v) ∧ (if k = q then value else v) ≤ 999 := by split <;> omega
  rw [next_data a fa (by omega) v h0 (by omega), next_data b fb (by omega) _ va.1 (by omega)]
  refine ⟨by show a.index + 1 = _; omega, by show b.index + 1 = _; omega, fun hkq => ?_, fun hkq => ?_⟩
  · rw [if_neg (by omega), he (by omega)]
  · refine ⟨by show _ % _ < _; omega, by show _ % _ < _; omega, ?_⟩
    by_cases e : k = q
    · subst e
      refine ⟨v, hv, h0, h1, .inl ⟨rfl, ?_⟩⟩
      rw [if_pos rfl, he (by omega)]
      show ((31 * b.sum + v + 1) % 1073741824 - (31 * b.sum + value + 1) % 1073741824 - (v - value)) % 1073741824 = 0
      omega
    · obtain ⟨_, _, x, hx, x0, x1, hh⟩ := hd (by omega)
      refine ⟨x, hx, x0, x1, ?_⟩
      rw [if_neg e]
      have goal : ∀ c : Int, (a.sum - b.sum - c) % 1073741824 = 0 → ((31 * a.sum + v + 1) % 1073741824 - (31 * b.sum + v + 1) % 1073741824 - 31 * c) % 1073741824 = 0 := fun c hc => by omega
      rcases hh with ⟨rfl, hh⟩ | ⟨rfl, hh⟩ | ⟨rfl, hh⟩
      · exact .inr (.inl ⟨rfl, goal _ hh⟩)
      · refine .inr (.inr ⟨rfl, ?_⟩)
        have := goal _ hh
        show ((31 * a.sum + v + 1) % 1073741824 - (31 * b.sum + v + 1) % 1073741824 - 961 * (x - value)) % 1073741824 = 0
        omega
      · omega
end Go.Proofs.Ytoehcmddfpompaa
/- What comes behind an entry, as the law of layer 6 asks for it. -/
namespace Go.Proofs.Ytoehcmddfpompaa
open Go Go.RowKit
set_option maxRecDepth 100000
theorem next_right (s : St) (e : En) (hf : FineP s) (hi : s.index < 1073741824) (hr : rightB e = true) : nextS s e = deedS e.kind e.value { s with index := s.index + 1, term := e.term } :=
  if_pos ⟨hr, (fineB_iff s).2 hf, hi⟩
theorem next_wrong (s : St) (e : En) (hr : rightB e = false) : nextS s e = s := if_neg (by simp [hr])
theorem next_index (s : St) (e : En) : (nextS s e).index ≤ s.index + 1 ∧ s.index ≤ (nextS s e).index := by
  unfold nextS
  split
  · rw [deedS_index]; exact ⟨Int.le_refl _, by show s.index ≤ s.index + 1; omega⟩
  · omega
end Go.Proofs.Ytoehcmddfpompaa
/- Stages, formats, what is asked: in plain Lean. -/
namespace Go.Proofs.Ytoehcmddfpompaa

def stageS (s : St) : Int := if s.level = 2 then (if s.final = true then 2 else 1) else 0
def not2 (c : Int) : Bool := c != 2
def knownB (l : List Int) : Bool := !l.isEmpty && !(l.any not2)
def checkS (k : Int) (s : St) (l : List Int) : Int :=
  if k = 1 then 0 else if k = 2 then (if knownB l = true then 0 else 221) else if k = 3 then (if s.final = true then 222 else 0)
  else if k = 4 then (if s.final = true then 222 else if s.level = 2 then 0 else 223) else 2
def entryL (kind value term : Int) : En × Int := if rightB ⟨term, kind, value⟩ = true then (⟨term, kind, value⟩, 0) else (⟨0, 0, 0⟩, 2)
def formatS (s : St) (b : Int) : Int := min (max b 1) (min (1 + stageS s) 2)
theorem stageS_bd (s : St) : 0 ≤ stageS s ∧ stageS s ≤ 2 := by unfold stageS; split <;> (try split) <;> omega
/-- The stages behind entries, the state's own one first. -/
def stagesS (s : St) (l : List En) : List Int := stageS s :: (scanS s l).map stageS
theorem stagesS_len (s : St) (l : List En) : (stagesS s l).length = l.length + 1 := by simp [stagesS, scanS_length]
theorem stagesS_at (s : St) (l : List En) (k : Nat) (e : En) (h : l[k]? = some e) : (stagesS s l)[k + 1]? = some (stageS (allS s (l.take (k + 1)))) := by
  unfold stagesS
  rw [List.getElem?_cons_succ, List.getElem?_map, scanS_at s l k e h, allS_take s l k e h]
  rfl
end Go.Proofs.Ytoehcmddfpompaa
/- slices.ContainsFunc over ints, with whatever predicate is kept by a contract. -/
namespace Go.Proofs.Ytoehcmddfpompaa
open Go Go.RowKit
set_option maxRecDepth 100000

theorem anyp_take (p : Int → Bool) (l : List Int) (k : Nat) (x : Int) (h : l[k]? = some x) (h0 : (l.take k).any p = false) (hx : p x = false) : (l.take (k + 1)).any p = false := by
  rw [List.take_add_one, h]; simp only [Option.toList_some, List.any_append, h0, List.any_cons, hx, List.any_nil]; rfl
theorem anyp_at (p : Int → Bool) (l : List Int) (k : Nat) (x : Int) (h : l[k]? = some x) (hx : p x = true) : l.any p = true :=
  List.any_eq_true.2 ⟨x, List.mem_of_getElem? h, hx⟩

set_option maxHeartbeats 1000000 in
theorem indexP (g : Nat) (lb : Array Value) (p : Int → Bool) (A : Option Addr) (c : Nat) (l : List Int) (hl : l.length ≤ 1099511627776) (w : World) (hA : Rd w A (ivs l))
    (eg : ∀ args w, (callFunc g args).run Try.prog w = .ok (.enter g args) w)
    (hp : ∀ x W, Below w.heap.size w W → Calls Try.prog g (#[.int .i64 x] ++ lb) W fun e W' => e = .returned (.bool (p x)) ∧ Below W.heap.size W W') :
    Calls Try.prog 31 #[.slice A l.length c, .func (.func g) #[] lb] w fun e w' => ∃ r : Int, e = .returned (.int .i64 r) ∧ (-1 ≤ r ∧ r ≤ l.length) ∧ decide (0 ≤ r) = l.any p ∧ Below w.heap.size w w' := by
  have HP := Lib.hid hp
  clear hp
  go_enter Try.func31, Try.ntmps31
  go_wp2
  go_loopw [5, 8] (fun _ i wr => ∃ k : Nat, k ≤ l.length ∧ i = .int .i64 k ∧ Hid ((l.take k).any p = false) ∧ Below w.heap.size w wr) (fun _ i _ => l.length - (intOf i).toNat)
  case atStart => exact ⟨0, by omega, rfl, Lib.hid rfl, Below.refl _ _⟩
  case round =>
    obtain ⟨k, hk, rfl, h0, hB⟩ := hrel
    by_cases hk4 : k < l.length
    · obtain ⟨b, o, x, rfl, hb, hc, hx⟩ := (hA.below hB).int hk4
      have Hk := Lib.hid hx
      clear hx
      have hpx := Lib.hid (HP.out x wr hB)
      generalize hpe : p x = px at *
      have Hpe := Lib.hid hpe
      clear hpe
      cases px
      · go_wp2_with fail
        refine hpx.out.mono ?_
        rintro e w1 ⟨rfl, hB1⟩
        go_wp2
        go_roundw
        case rel => exact ⟨k + 1, by omega, by go_num, Lib.hid (anyp_take p l k x Hk.out h0.out Hpe.out), bTr hB hB1⟩
        case measure => simp [intOf]; omega
      · go_wp2_with fail
        refine hpx.out.mono ?_
        rintro e w1 ⟨rfl, hB1⟩
        go_wp2
        go_ret
        exact ⟨_, rfl, by omega, by rw [anyp_at p l k x Hk.out Hpe.out]; simp, bTr hB hB1⟩
    · obtain rfl : k = l.length := by omega
      have H0 := Lib.hid (show l.any p = false by have := h0.out; rwa [List.take_length] at this)
      clear h0
      go_wp2
      go_ret
      exact ⟨_, rfl, by omega, by rw [H0.out]; simp, hB⟩

theorem containsP (g : Nat) (lb : Array Value) (p : Int → Bool) (A : Option Addr) (n c : Nat) (l : List Int) (hn : l.length = n) (hl : l.length ≤ 1099511627776) (w : World) (hA : Rd w A (ivs l))
    (eg : ∀ args w, (callFunc g args).run Try.prog w = .ok (.enter g args) w)
    (hp : ∀ x W, Below w.heap.size w W → Calls Try.prog g (#[.int .i64 x] ++ lb) W fun e W' => e = .returned (.bool (p x)) ∧ Below W.heap.size W W') :
    Calls Try.prog 22 #[.slice A n c, .func (.func g) #[] lb] w fun e w' => e = .returned (.bool (l.any p)) ∧ Below w.heap.size w w' := by
  subst hn
  have HI := Lib.hid (indexP g lb p A c l hl w hA eg hp)
  obtain ⟨res, hres⟩ : ∃ r, r = l.any p := ⟨_, rfl⟩
  rw [← hres] at HI ⊢
  clear hres eg hp
  go_enter Try.func22, Try.ntmps22
  go_wp2_with fail
  refine HI.out.mono ?_
  rintro e w1 ⟨r, rfl, hr, hd, hB1⟩
  have Hd := Lib.hid hd
  clear hd
  go_wp2
  go_ret
  exact ⟨ret_bool (by rw [← Hd.out]; try simp), hB1⟩
end Go.Proofs.Ytoehcmddfpompaa
/- The walks of level: Stage, Known, Entry, Format. -/
namespace Go.Proofs.Ytoehcmddfpompaa
open Go Go.RowKit Go.Shelf
set_option maxRecDepth 100000
attribute [local go_sem] Oper.semAt_some

theorem stage_any (s : St) (w : World) : Calls Try.prog 11 #[s.v] w fun e w' => e = .returned (.int .i64 (stageS s)) ∧ Below w.heap.size w w' := by
  have H := Lib.hid (show stageS s = if s.level = 2 then (if s.final = true then 2 else 1) else 0 from rfl)
  obtain ⟨a1, a2, a3, a4, a5⟩ := s
  dsimp only [St.v] at *
  by_cases h : a4 = 2
  · subst h
    cases a5
    all_goals
      go_enter Try.func11, Try.ntmps11
      go_wp2
      go_ret
      exact ⟨ret_int (by rw [H.out]; rfl), (Below.refl _ _).alloc (Nat.le_refl _) _⟩
  · have hne : (a4 != 2) = true := by simpa using h
    have H2 := Lib.hid h
    clear h
    go_enter Try.func11, Try.ntmps11
    go_wp2
    go_ret
    exact ⟨ret_int (by rw [H.out, if_neg H2.out]), (Below.refl _ _).alloc (Nat.le_refl _) _⟩

theorem known1_any (x : Int) (w : World) : Calls Try.prog 23 #[.int .i64 x] w fun e w' => e = .returned (.bool (not2 x)) ∧ Below w.heap.size w w' := by
  have H := Lib.hid (show not2 x = (x != 2) from rfl)
  go_enter Try.func23, Try.ntmps23
  go_wp2
  go_ret
  exact ⟨ret_bool (by rw [H.out]), Below.refl _ _⟩

theorem known_any (A : Option Addr) (n c : Nat) (l : List Int) (hn : l.length = n) (hl : l.length ≤ 1099511627776) (w : World) (hA : Rd w A (ivs l)) :
    Calls Try.prog 12 #[.slice A n c] w fun e w' => e = .returned (.bool (knownB l)) ∧ Below w.heap.size w w' := by
  have HC := Lib.hid (containsP 23 #[] not2 A n c l hn hl w hA (enters_of Try.func23 (by kernel_rfl) rfl) (fun x W _ => known1_any x W))
  have H := Lib.hid (show knownB l = (!l.isEmpty && !(l.any not2)) from rfl)
  generalize l.any not2 = f at *
  by_cases h0 : n = 0
  · subst h0
    obtain rfl : l = [] := List.eq_nil_of_length_eq_zero hn
    have H2 := Lib.hid (show knownB [] = false from rfl)
    clear H HC hn
    refine (callsIn_wide (n := 9)).1 (callsIn_of_wp Try.func12 rfl trivial ?_ rfl)
    simp only [Try.ntmps12, List.size_toArray, List.length_cons, List.length_nil, Nat.reduceAdd, Nat.reduceSub, Array.replicate_succ, Array.replicate_zero, List.push_toArray, List.append_toArray, List.nil_append, List.cons_append]
    gi_wp2_with fail
    refine scope_goto 0 (fun a w' => (∃ u1 u3 u4 u5 u6 u7 u8 u9 : Value, a = ⟨#[.slice A 0 c, u1, .bool false, u3, u4, u5, u6, u7, u8, u9], []⟩) ∧ w' = w) (fun _ _ => 0) rfl ?pass ?first
    case first =>
      intro hX
      have HX := Lib.hid hX
      clear hX
      gi_wp2
      refine wpIn_goto ?_
      gi_wp2
      exact ⟨rfl, ⟨_, _, _, _, _, _, _, _, rfl⟩, rfl⟩
    case pass =>
      rintro a w' ⟨⟨u1, u3, u4, u5, u6, u7, u8, u9, rfl⟩, rfl⟩
      gi_wp2
      simp only [Exit.jump]
      gi_wp2
      go_returns
      exact ⟨ret_bool (by rw [H2.out]), Below.refl _ _⟩
  · have e1 : l.isEmpty = false := by cases l with
      | nil => exact (h0 hn.symm).elim
      | cons a m => rfl
    rw [e1] at H
    have hne : ((n : Int) == 0) = false := by simp only [beq_eq_false_iff_ne]; omega
    clear e1
    have Hn := Lib.hid hn
    clear hn
    refine (callsIn_wide (n := 9)).1 (callsIn_of_wp Try.func12 rfl trivial ?_ rfl)
    simp only [Try.ntmps12, List.size_toArray, List.length_cons, List.length_nil, Nat.reduceAdd, Nat.reduceSub, Array.replicate_succ, Array.replicate_zero, List.push_toArray, List.append_toArray, List.nil_append, List.cons_append]
    gi_wp2_with fail
    refine scope_goto 0 (fun a w' => (∃ u0 u1 u3 u4 u5 u6 u7 u8 u9 : Value, a = ⟨#[u0, u1, .bool (!f), u3, u4, u5, u6, u7, u8, u9], []⟩) ∧ Below w.heap.size w w') (fun _ _ => 0) rfl ?pass ?first
    case first =>
      intro hX
      have HX := Lib.hid hX
      clear hX
      gi_wp2_with fail
      refine ⟨trivial, (callsIn_wide.2 HC.out).mono ?_⟩
      rintro e w1 ⟨rfl, hB⟩
      gi_wp2
      refine wpIn_label ?_
      rename_i hgo
      refine hgo _ _ ?_
      exact HX.out _ _ ⟨⟨_, _, _, _, _, _, _, _, _, rfl⟩, hB⟩
    case pass =>
      rintro a w' ⟨⟨u0, u1, u3, u4, u5, u6, u7, u8, u9, rfl⟩, hB⟩
      gi_wp2
      simp only [Exit.jump]
      gi_wp2
      go_returns
      exact ⟨ret_bool (by rw [H.out]; rfl), hB⟩

theorem entryL_any (k v t : Int) (w : World) : Calls Try.prog 9 #[.int .i64 k, .int .i64 v, .int .i64 t] w fun e w' => e = .returned (.tuple #[(entryL k v t).1.v, .int .i64 (entryL k v t).2]) ∧ Below w.heap.size w w' := by
  have hN : Box3 (w.alloc (.cells #[.int .i64 t, .int .i64 k, .int .i64 v] 30)) w.heap.size ⟨t, k, v⟩ := ⟨by simp, by simp, by simp⟩
  have hF : ∀ o, (w.alloc (.cells #[.int .i64 t, .int .i64 k, .int .i64 v] 30)).frozen? ⟨w.heap.size, o, none⟩ = false := fun o => by simp
  have hB0 : Below w.heap.size w (w.alloc (.cells #[.int .i64 t, .int .i64 k, .int .i64 v] 30)) := (Below.refl _ _).alloc (Nat.le_refl _) _
  have hl := hN.lt
  cases h : rightB ⟨t, k, v⟩ with
  | true =>
    rw [show entryL k v t = (⟨t, k, v⟩, 0) from if_pos h]
    go_enter Try.func9, Try.ntmps9
    go_wp2_with fail
    generalize w.alloc (.cells #[.int .i64 t, .int .i64 k, .int .i64 v] 30) = W at *
    refine (right_any ⟨t, k, v⟩ W).mono ?_
    rintro e w1 ⟨rfl, hB⟩
    rw [h]
    have hN1 := hN.keep (keepT hB) trivial
    have hf := fun o => ((bCells hB).2 w.heap.size o hl).trans (hF o)
    have f0 := hf 0
    have f1 := hf 1
    have f2 := hf 2
    obtain ⟨c0, c1, c2⟩ := hN1
    dsimp only at c0 c1 c2
    clear hf hF hN
    go_wp2
    refine bodyPost_ret (v := .tuple #[.agg #[.int .i64 t, .int .i64 k, .int .i64 v], .int .i64 0]) (by simp [results, Try.results9, go_sem, c0, c1, c2]) rfl ?_
    exact ⟨rfl, (((bTr hB0 hB).setCell (by simp) _).setCell (by simp) _).setCell (by simp) _⟩
  | false =>
    rw [show entryL k v t = (⟨0, 0, 0⟩, 2) from if_neg (by rw [h]; simp)]
    go_enter Try.func9, Try.ntmps9
    go_wp2_with fail
    generalize w.alloc (.cells #[.int .i64 t, .int .i64 k, .int .i64 v] 30) = W at *
    refine (right_any ⟨t, k, v⟩ W).mono ?_
    rintro e w1 ⟨rfl, hB⟩
    rw [h]
    have hN1 := hN.keep (keepT hB) trivial
    have hf := fun o => ((bCells hB).2 w.heap.size o hl).trans (hF o)
    have f0 := hf 0
    have f1 := hf 1
    have f2 := hf 2
    obtain ⟨c0, c1, c2⟩ := hN1
    dsimp only at c0 c1 c2
    clear hf hF hN
    go_wp2
    refine bodyPost_ret (v := .tuple #[.agg #[.int .i64 0, .int .i64 0, .int .i64 0], .int .i64 2]) (by simp [results, Try.results9, go_sem, c0, c1, c2]) rfl ?_
    exact ⟨rfl, (((bTr hB0 hB).setCell (by simp) _).setCell (by simp) _).setCell (by simp) _⟩

theorem format_any (s : St) (b : Int) (w : World) : Calls Try.prog 16 #[s.v, .int .i64 b] w fun e w' => e = .returned (.int .i64 (formatS s b)) ∧ Below w.heap.size w w' := by
  have H := Lib.hid (show formatS s b = min (max b 1) (min (1 + stageS s) 2) from rfl)
  have hst := stageS_bd s
  have h5 := Box5.new w s 23
  have hl := h5.lt
  obtain ⟨a1, a2, a3, a4, a5⟩ := s
  obtain ⟨⟨c0, c1, c2, c3, c4⟩, _⟩ := h5
  dsimp only [St.v] at *
  have HS := Lib.hid (fun W => stage_any ⟨a1, a2, a3, a4, a5⟩ W)
  dsimp only [St.v] at HS
  generalize stageS ⟨a1, a2, a3, a4, a5⟩ = z at *
  have hz : z = 0 ∨ z = 1 ∨ z = 2 := by omega
  rcases Int.lt_or_le b 2 with hb | hb
  · rcases hz with rfl | rfl | rfl
    all_goals
      rcases Int.lt_or_le b 1 with hb1 | hb1
      all_goals
        go_enter Try.func16, Try.ntmps16
        go_wp2_with (go_at_call 11; refine (HS.out _).mono ?_; rintro e w1 ⟨rfl, hB⟩)
        go_ret
        exact ⟨ret_int (by rw [H.out]; omega), ((Below.refl _ _).alloc (Nat.le_refl _) _).trans (hB.mono (by simp))⟩
  · have hb1 : 1 ≤ b := by omega
    rcases hz with rfl | rfl | rfl
    all_goals
      go_enter Try.func16, Try.ntmps16
      go_wp2_with (go_at_call 11; refine (HS.out _).mono ?_; rintro e w1 ⟨rfl, hB⟩)
      all_goals
        go_ret
        exact ⟨ret_int (by rw [H.out]; omega), ((Below.refl _ _).alloc (Nat.le_refl _) _).trans (hB.mono (by simp))⟩
end Go.Proofs.Ytoehcmddfpompaa
/- The walks of level: what is asked. -/
namespace Go.Proofs.Ytoehcmddfpompaa
open Go Go.RowKit Go.Shelf
set_option maxRecDepth 100000

theorem run_store_func {P : Program} {w : World} {a : Addr} (f : Fn) (vs bs : Array Value) (m : Mode) : (store a (.func f vs bs) m).run P w = stored P w a (.func f vs bs) m := run_store P w a _ m rfl
attribute [local go_sem] run_store_func
/-- What is asked, by kind, as the map has it: b is the state's block, g the block of what still tells. -/
def asksL (b g : Nat) : List (Int × Value) :=
  [(1, .func (.func 26) #[] #[]), (2, .func (.func 27) #[] #[.pointer (some ⟨b + 1, 0, none⟩)]), (3, .func (.func 25) #[] #[.pointer (some ⟨b, 0, none⟩)]),
    (4, .func (.func 28) #[] #[.pointer (some ⟨g, 0, none⟩), .pointer (some ⟨b, 0, none⟩)])]
set_option maxHeartbeats 1000000 in
theorem asks_any (s : St) (A : Option Addr) (n c : Nat) (w : World) : Calls Try.prog 20 #[s.v, .slice A n c] w fun e w' => ∃ r, e = .returned (.map (some r)) ∧
    (MapIs w' r (asksL w.heap.size (w.heap.size + 2)) ∧ Box5 w' w.heap.size s ∧ Box w' (w.heap.size + 1) (.slice A n c) ∧ Box w' (w.heap.size + 2) (.func (.func 25) #[] #[.pointer (some ⟨w.heap.size, 0, none⟩)])) ∧ Below w.heap.size w w' := by
  have hmm := @run_makeMap Try.prog
  obtain ⟨a1, a2, a3, a4, a5⟩ := s
  dsimp only [St.v] at *
  have h5 := Box5.new w ⟨a1, a2, a3, a4, a5⟩ 23
  go_enter Try.func20, Try.ntmps20
  go_upto_region 1 with fail
  have hl5 := h5.lt
  have h5' := h5.alloc (.cells #[.slice A n c] 24)
  have hc := Box.new (w.alloc (.cells #[.int .i64 a1, .int .i64 a2, .int .i64 a3, .int .i64 a4, .bool a5] 23)) (.slice A n c) 24
  have hB : Below w.heap.size w ((w.alloc (.cells #[.int .i64 a1, .int .i64 a2, .int .i64 a3, .int .i64 a4, .bool a5] 23)).alloc (.cells #[.slice A n c] 24)) := ((Below.refl _ _).alloc (Nat.le_refl _) _).alloc (by simp) _
  have hs : ((w.alloc (.cells #[.int .i64 a1, .int .i64 a2, .int .i64 a3, .int .i64 a4, .bool a5] 23)).alloc (.cells #[.slice A n c] 24)).heap.size = w.heap.size + 2 := by simp
  rw [World.size_alloc] at hc
  clear h5 hl5
  generalize (w.alloc (.cells #[.int .i64 a1, .int .i64 a2, .int .i64 a3, .int .i64 a4, .bool a5] 23)).alloc (.cells #[.slice A n c] 24) = W at *
  have Hs := Lib.hid hs
  clear hs
  go_upto_region 2 with fail
  have hg := Box.new W (.func (.func 25) #[] #[.pointer (some ⟨w.heap.size, 0, none⟩)]) 47
  have h52 := h5'.alloc (.cells #[.func (.func 25) #[] #[.pointer (some ⟨w.heap.size, 0, none⟩)]] 47)
  have hc2 := hc.alloc (.cells #[.func (.func 25) #[] #[.pointer (some ⟨w.heap.size, 0, none⟩)]] 47)
  have hB2 := hB.alloc hB.size (.cells #[.func (.func 25) #[] #[.pointer (some ⟨w.heap.size, 0, none⟩)]] 47)
  rw [Hs.out] at hg
  clear h5' hc hB
  rw [Hs.out]
  have hs3 : (W.alloc (.cells #[.func (.func 25) #[] #[.pointer (some ⟨w.heap.size, 0, none⟩)]] 47)).heap.size = w.heap.size + 3 := by simp [Hs.out]
  generalize W.alloc (.cells #[.func (.func 25) #[] #[.pointer (some ⟨w.heap.size, 0, none⟩)]] 47) = W3 at *
  have Hs3 := Lib.hid hs3
  clear hs3
  have hgl := hg.lt
  go_wp2_with (refine list_insert rfl _ _ _ rfl Try.underlying49 Try.underlying3 (MapIs.made _) rfl _ rfl rfl ?_)
  intro w1 m1 k1
  go_wp2_with (refine list_insert rfl _ _ _ rfl Try.underlying49 Try.underlying3 m1 rfl _ rfl rfl ?_)
  intro w2 m2 k2
  have hg2 := ((hg.alloc (.map #[] 0)).keep k1 (by omega)).keep k2 (by omega)
  obtain ⟨cg, _⟩ := hg2
  go_wp2_with (refine list_insert rfl _ _ _ rfl Try.underlying49 Try.underlying3 m2 rfl _ rfl rfl ?_)
  intro w3 m3 k3
  go_wp2_with (refine list_insert rfl _ _ _ rfl Try.underlying49 Try.underlying3 m3 rfl _ rfl rfl ?_)
  intro w4 m4 k4
  go_wp2
  go_returns
  have hk := ((k1.trans (k2.sub fun _ _ h => h)).trans (k3.sub fun _ _ h => h)).trans (k4.sub fun _ _ h => h)
  have hk0 : KeepB (fun b => b < W3.heap.size) W3 w4 := ((KeepB.refl _ _).alloc (.map #[] 0)).trans (hk.sub fun _ _ h => by omega)
  have hz := Hs3.out
  exact ⟨_, rfl, ⟨m4, h52.keep hk0 (by omega), hc2.keep hk0 (by omega), hg.keep hk0 hgl⟩, below_keep hB2 hk0 hB2.size fun k hk => by omega⟩
end Go.Proofs.Ytoehcmddfpompaa
/- The walks of level: Check. -/
namespace Go.Proofs.Ytoehcmddfpompaa
open Go Go.RowKit Go.Shelf
set_option maxRecDepth 100000

theorem still_any (s : St) (b : Nat) (w : World) (h : Box5 w b s) : Calls Try.prog 25 #[.pointer (some ⟨b, 0, none⟩)] w fun e w' => e = .returned (.int .i64 (if s.final = true then 222 else 0)) ∧ w' = w := by
  obtain ⟨a1, a2, a3, a4, a5⟩ := s
  obtain ⟨⟨c0, c1, c2, c3, c4⟩, _⟩ := h
  dsimp only at *
  cases a5
  all_goals
    go_enter Try.func25, Try.ntmps25
    go_wp2
    go_ret
    exact ⟨rfl, rfl⟩
theorem asks2_any (w : World) : Calls Try.prog 26 #[] w fun e w' => e = .returned (.int .i64 0) ∧ w' = w := by
  go_enter Try.func26, Try.ntmps26
  go_wp2
  go_ret
  exact ⟨rfl, rfl⟩
theorem asks3_any (b : Nat) (A : Option Addr) (n c : Nat) (l : List Int) (hn : l.length = n) (hl : l.length ≤ 1099511627776) (w : World) (h : Box w b (.slice A n c)) (hA : Rd w A (ivs l)) :
    Calls Try.prog 27 #[.pointer (some ⟨b, 0, none⟩)] w fun e w' => e = .returned (.int .i64 (if knownB l = true then 0 else 221)) ∧ Below w.heap.size w w' := by
  have HK := Lib.hid (known_any A n c l hn hl w hA)
  obtain ⟨c0, _⟩ := h
  generalize knownB l = f at *
  cases f
  all_goals
    go_enter Try.func27, Try.ntmps27
    go_wp2_with (go_at_call 12; refine HK.out.mono ?_; rintro e w1 ⟨rfl, hB⟩)
    go_ret
    exact ⟨rfl, hB⟩
theorem asks4_any (s : St) (b g : Nat) (w : World) (h : Box5 w b s) (hg : Box w g (.func (.func 25) #[] #[.pointer (some ⟨b, 0, none⟩)])) :
    Calls Try.prog 28 #[.pointer (some ⟨g, 0, none⟩), .pointer (some ⟨b, 0, none⟩)] w fun e w' => e = .returned (.int .i64 (if s.final = true then 222 else if s.level = 2 then 0 else 223)) ∧ w' = w := by
  have HS := Lib.hid (still_any s b w h)
  obtain ⟨a1, a2, a3, a4, a5⟩ := s
  obtain ⟨⟨c0, c1, c2, c3, c4⟩, _⟩ := h
  obtain ⟨cg, _⟩ := hg
  dsimp only at *
  cases a5
  · by_cases h2 : a4 = 2
    · subst h2
      go_enter Try.func28, Try.ntmps28
      go_wp2_with (go_at_call 25; refine HS.out.mono ?_; rintro e w1 ⟨rfl, rfl⟩)
      go_ret
      exact ⟨rfl, rfl⟩
    · have h3 : (a4 == 2) = false := by simpa using h2
      rw [if_neg (by simp), if_neg h2]
      clear h2
      go_enter Try.func28, Try.ntmps28
      go_wp2_with (go_at_call 25; refine HS.out.mono ?_; rintro e w1 ⟨rfl, rfl⟩)
      go_ret
      exact ⟨rfl, rfl⟩
  · go_enter Try.func28, Try.ntmps28
    go_wp2_with (go_at_call 25; refine HS.out.mono ?_; rintro e w1 ⟨rfl, rfl⟩)
    go_ret
    exact ⟨rfl, rfl⟩

theorem zero_ask (w : World) : (zeroValue 47).run Try.prog w = .ok .nilFunc w := by kernel_rfl
theorem look_asks {w : World} {r b g : Nat} (h : MapIs w r (asksL b g)) (k : Int) (ok : Bool) :
    (Instr.lookup 49 (.map (some r)) (.int .i64 k) ok).run Try.prog w = .ok (if ok then .tuple #[(mget (asksL b g) k).getD .nilFunc, .bool (mget (asksL b g) k).isSome] else (mget (asksL b g) k).getD .nilFunc) w := run_lookup_map (P := Try.prog) (t := 49) Try.underlying49 Try.underlying3 zero_ask h k ok

set_option maxHeartbeats 1000000 in
theorem lcheck_any (k : Int) (s : St) (A : Option Addr) (n c : Nat) (l : List Int) (hn : l.length = n) (hl : l.length ≤ 1099511627776) (w : World) (hA : Rd w A (ivs l)) :
    Calls Try.prog 8 #[.int .i64 k, s.v, .slice A n c] w fun e w' => e = .returned (.int .i64 (checkS k s l)) ∧ Below w.heap.size w w' := by
  obtain ⟨res, hres⟩ : ∃ r, r = checkS k s l := ⟨_, rfl⟩
  rw [← hres]
  have HR := Lib.hid hres
  clear hres
  have h50 := Box5.new w s 23
  have HAs := Lib.hid (fun W => asks_any s A n c W)
  have hs0 := s
  obtain ⟨a1, a2, a3, a4, a5⟩ := s
  dsimp only [St.v] at *
  go_enter Try.func8, Try.ntmps8
  go_wp2_with fail
  have hB0 : Below w.heap.size w (w.alloc (.cells #[.int .i64 a1, .int .i64 a2, .int .i64 a3, .int .i64 a4, .bool a5] 23)) := (Below.refl _ _).alloc (Nat.le_refl _) _
  generalize w.alloc (.cells #[.int .i64 a1, .int .i64 a2, .int .i64 a3, .int .i64 a4, .bool a5] 23) = W at *
  refine (HAs.out W).mono ?_
  rintro e w1 ⟨r, rfl, ⟨hM, hb5, hbc, hbg⟩, hB1⟩
  have hB := bTr hB0 hB1
  have hA1 := hA.below hB
  clear h50 HAs hB0 hB1
  generalize W.heap.size = b at *
  have hlook := look_asks hM k true
  by_cases k1 : k = 1
  · subst k1
    rw [show mget (asksL b (b + 2)) 1 = some (.func (.func 26) #[] #[]) from rfl] at hlook
    go_wp2_with (go_at_call 26; refine (asks2_any _).mono ?_; rintro e w2 ⟨rfl, rfl⟩)
    go_ret
    exact ⟨ret_int (by rw [HR.out]; rfl), hB⟩
  by_cases k2 : k = 2
  · subst k2
    rw [show mget (asksL b (b + 2)) 2 = some (.func (.func 27) #[] #[.pointer (some ⟨b + 1, 0, none⟩)]) from rfl] at hlook
    go_wp2_with (go_at_call 27; refine (asks3_any (b + 1) A n c l hn hl w1 hbc hA1).mono ?_; rintro e w2 ⟨rfl, hB2⟩; rw [show (if knownB l = true then (0 : Int) else 221) = res from HR.out.symm])
    go_ret
    exact ⟨rfl, bTr hB hB2⟩
  by_cases k3 : k = 3
  · subst k3
    rw [show mget (asksL b (b + 2)) 3 = some (.func (.func 25) #[] #[.pointer (some ⟨b, 0, none⟩)]) from rfl] at hlook
    go_wp2_with (go_at_call 25; refine (still_any _ b w1 hb5).mono ?_; rintro e w2 ⟨rfl, rfl⟩; rw [show (if (⟨a1, a2, a3, a4, a5⟩ : St).final = true then (222 : Int) else 0) = res from HR.out.symm])
    go_ret
    exact ⟨rfl, hB⟩
  by_cases k4 : k = 4
  · subst k4
    rw [show mget (asksL b (b + 2)) 4 = some (.func (.func 28) #[] #[.pointer (some ⟨b + 2, 0, none⟩), .pointer (some ⟨b, 0, none⟩)]) from rfl] at hlook
    go_wp2_with (go_at_call 28; refine (asks4_any _ b (b + 2) w1 hb5 hbg).mono ?_; rintro e w2 ⟨rfl, rfl⟩; rw [show (if (⟨a1, a2, a3, a4, a5⟩ : St).final = true then (222 : Int) else if (⟨a1, a2, a3, a4, a5⟩ : St).level = 2 then 0 else 223) = res from HR.out.symm])
    go_ret
    exact ⟨rfl, hB⟩
  · have hn0 : mget (asksL b (b + 2)) k = none := by simp [asksL, mget, Ne.symm k1, Ne.symm k2, Ne.symm k3, Ne.symm k4]
    rw [hn0] at hlook
    have HK := Lib.hid (show checkS k ⟨a1, a2, a3, a4, a5⟩ l = 2 by unfold checkS; rw [if_neg k1, if_neg k2, if_neg k3, if_neg k4])
    clear k1 k2 k3 k4 hn0
    go_wp2
    go_ret
    exact ⟨ret_int (by rw [HR.out, HK.out]), hB⟩
end Go.Proofs.Ytoehcmddfpompaa
/- The walks of level: the iterator over stages. -/
namespace Go.Proofs.Ytoehcmddfpompaa
open Go Go.RowKit Go.Shelf
set_option maxRecDepth 100000
attribute [local go_sem] Oper.semAt_some

set_option maxHeartbeats 4000000 in
theorem stages1_iter (bS bL : Nat) (A : Option Addr) (n c : Nat) (l : List En) (hn : l.length = n) (s : St) (hlc : n ≤ c) (hcm : c ≤ maxLen) (w0 : World) (M : Nat) (w : World) (hA : Rd w0 A (ens l)) (hB0 : Below w0.heap.size w0 w) (hnM : w0.heap.size ≤ M) (hMS : M ≤ bS) (hML : M ≤ bL) (_hne : bS ≠ bL)
    (hbL : bL < w.heap.size) (h5 : Box5 w bS s) (hL : Box w bL (.slice A n c)) :
    Iter Try.prog 32 #[.pointer (some ⟨bS, 0, none⟩), .pointer (some ⟨bL, 0, none⟩)] (fun n : Int => #[.int .i64 n]) (stagesS s l) w0.heap.size M w := by
  have hbS := h5.lt
  have hcm2 := hcm
  unfold maxLen at hcm2
  intro lr J Jx W hB hJ hJx hY h0
  have HY := Lib.hid hY
  have HJ := Lib.hid hJ
  have HJx := Lib.hid hJx
  have Hn := Lib.hid hn
  have HL := Lib.hid (stagesS_len s l)
  clear hY hJ hJx hn
  have hk0 : KeepB (fun b => b < w.heap.size) w W := KeepB.of_below hB fun _ h _ => h
  have h5W := h5.keep hk0 hbS
  have hLW := hL.keep hk0 hbL
  refine callsIn_of_wp Try.func32 rfl trivial ?_ rfl
  simp only [Try.ntmps32, List.size_toArray, List.length_cons, List.length_nil, Nat.reduceAdd, Nat.reduceSub, Array.replicate_succ, Array.replicate_zero, List.push_toArray, List.append_toArray, List.nil_append, List.cons_append]
  have h5a := h5W
  obtain ⟨a1, a2, a3, a4, a5⟩ := s
  obtain ⟨⟨c0, c1, c2, c3, c4⟩, _⟩ := h5a
  dsimp only at c0 c1 c2 c3 c4
  gi_wp2_with fail
  refine ⟨trivial, (callsIn_wide.2 (stage_any ⟨a1, a2, a3, a4, a5⟩ W)).mono ?_⟩
  rintro e W1 ⟨rfl, hB1⟩
  have hJ0 : J 0 W1 := HJ.out 0 _ _ h0 (KeepB.of_below hB1 fun _ h _ => h)
  have hsz : w.heap.size ≤ W1.heap.size := Nat.le_trans hB.size hB1.size
  obtain ⟨fn, tmps, assign, body, hy, hR⟩ := HY.out 0 _ W1 rfl hJ0 hsz
  have h51 := h5W.keep (keepT hB1) trivial
  have hL1 := hLW.keep (keepT hB1) trivial
  have hkk : KeepB (fun b => b < w.heap.size) w W1 := hk0.trans (KeepB.of_below hB1 fun _ h1 h2 => Nat.lt_of_lt_of_le h2 hB.size)
  clear c0 c1 c2 c3 c4 h5W hLW h0
  gi_wp2
  refine hR.mono ?_
  clear hR
  rintro e W2 hend
  obtain ⟨f, rfl, hst, hk2⟩ : ∃ f : Bool, e = .returned (.bool f) ∧ Hid ((f = true ∧ J 1 W2) ∨ (f = false ∧ Jx W2)) ∧ KeepB (fun b => b < w0.heap.size ∨ (M ≤ b ∧ b < w.heap.size)) W1 W2 := by
    rcases hend with ⟨rfl, h1, h2⟩ | ⟨rfl, h1, h2⟩
    · exact ⟨true, rfl, Lib.hid (.inl ⟨rfl, h1⟩), h2⟩
    · exact ⟨false, rfl, Lib.hid (.inr ⟨rfl, h1⟩), h2⟩
  clear hend
  have h52 := h51.keep hk2 (.inr ⟨hMS, hbS⟩)
  have hL2 := hL1.keep hk2 (.inr ⟨hML, hbL⟩)
  have hK2 : KeepB (fun b => b < w0.heap.size ∨ (M ≤ b ∧ b < w.heap.size)) w W2 := (hkk.sub fun _ h _ => h).trans hk2
  clear h51 hL1 hkk hk2 hk0
  obtain ⟨cL, _⟩ := hL2
  gi_wp2
  gi_loopw [4, 13] (fun on i wr => ∃ (k : Nat) (f : Bool), k ≤ n ∧ i = .int .i64 k ∧ on = .bool f ∧ Hid ((f = true ∧ J (k + 1) wr) ∨ (f = false ∧ Jx wr)) ∧ KeepB (fun b => b < w0.heap.size ∨ (M ≤ b ∧ b < w.heap.size ∧ b ≠ bS)) w wr ∧ Box5 wr bS (allS ⟨a1, a2, a3, a4, a5⟩ (l.take k))) (fun _ i _ => n - (intOf i).toNat)
  case atStart => exact ⟨0, f, by omega, rfl, rfl, hst, hK2.sub (fun b _ h => by omega), h52⟩
  case round =>
    obtain ⟨k, f, hk, rfl, rfl, hst, hK, h5k⟩ := hrel
    have hzz := hK.size
    by_cases hlt : k < n
    · have hBw : Below w0.heap.size w0 wr := below_keep hB0 hK hB0.size (fun _ h => .inl h)
      obtain ⟨b, o, e, rfl, hb, he, d0, d1, d2⟩ := (hA.below hBw).entry (k := k) (by rw [Hn.out]; exact hlt)
      have hbl : b < w0.heap.size := by obtain ⟨b', o', _, he', hb', _⟩ := hA.entry (k := k) (by rw [Hn.out]; exact hlt); injection he' with he'; injection he' with he' _; omega
      have hxa := stagesS_at ⟨a1, a2, a3, a4, a5⟩ l k e he
      have htk := allS_take ⟨a1, a2, a3, a4, a5⟩ l k e he
      have Htk := Lib.hid htk
      rw [htk] at hxa
      have Hxa := Lib.hid hxa
      clear htk hxa he
      generalize allS ⟨a1, a2, a3, a4, a5⟩ (l.take k) = sk at *
      have hbSl := h5k.lt
      obtain ⟨t, kd, v⟩ := e
      obtain ⟨q1, q2, q3, q4, q5⟩ := sk
      have h5k' := h5k
      obtain ⟨⟨s0, s1, s2, s3, s4⟩, _⟩ := h5k'
      dsimp only at s0 s1 s2 s3 s4 d0 d1 d2
      have t1 : (0 : Int) ≤ (k : Int) := by omega
      gi_wp2_with fail
      refine ⟨trivial, (callsIn_wide.2 (next_any ⟨q1, q2, q3, q4, q5⟩ ⟨t, kd, v⟩ _)).mono ?_⟩
      rintro e w2 ⟨rfl, hB2⟩
      have hB3 : Below wr.heap.size wr w2 := ((Below.refl _ _).alloc (Nat.le_refl _) _).trans (hB2.mono (by simp))
      clear hB2
      generalize nextS ⟨q1, q2, q3, q4, q5⟩ ⟨t, kd, v⟩ = ns at *
      have h53 := h5k.keep (keepT hB3) trivial
      have hset := Lib.hid (h53.setAll ns)
      have HST := Lib.hid (fun W => stage_any ns W)
      obtain ⟨⟨r0, r1, r2, r3, r4⟩, rf⟩ := h53
      obtain ⟨n1, n2, n3, n4, n5⟩ := ns
      dsimp only [St.v] at *
      have rf0 := rf 0
      have rf1 := rf 1
      have rf2 := rf 2
      have rf3 := rf 3
      have rf4 := rf 4
      clear rf s0 s1 s2 s3 s4 d0 d1 d2
      have hk3 : KeepB (fun b => b < w.heap.size) wr w2 := KeepB.of_below hB3 fun _ h _ => h
      have hz3 := hB3.size
      cases f
      · have hjx : Jx wr := by rcases hst.out with ⟨h, _⟩ | ⟨_, h⟩; cases h; exact h
        gi_wp2
        obtain ⟨g1, g2⟩ := hset.out
        generalize ((((w2.setCell ⟨bS, 0, none⟩ (.int .i64 n1)).setCell ⟨bS, 1, none⟩ (.int .i64 n2)).setCell ⟨bS, 2, none⟩ (.int .i64 n3)).setCell ⟨bS, 3, none⟩ (.int .i64 n4)).setCell ⟨bS, 4, none⟩ (.bool n5) = w4 at *
        have hk34 : KeepB (fun b => b ≠ bS) wr w4 := (keepT hB3).sub (fun _ _ _ => trivial) |>.trans g2
        refine ⟨trivial, ?_⟩
        gi_wp2
        try ((first | refine ⟨trivial, ?_⟩ | refine ⟨fun _ h => (by cases h), ?_⟩); gi_wp2)
        go_roundw
        case rel => exact ⟨k + 1, false, by omega, by go_num, rfl, Lib.hid (.inr ⟨rfl, HJx.out _ _ hjx (hk34.sub fun b _ h => (by omega : b ≠ bS))⟩), hK.trans (hk34.sub fun b _ h => (by omega : b ≠ bS)), by rw [Htk.out]; exact g1⟩
        case measure => simp [intOf]; omega
      · have hj : J (k + 1) wr := by rcases hst.out with ⟨_, h⟩ | ⟨h, _⟩; exact h; cases h
        gi_wp2_with fail
        obtain ⟨g1, g2⟩ := hset.out
        generalize ((((w2.setCell ⟨bS, 0, none⟩ (.int .i64 n1)).setCell ⟨bS, 1, none⟩ (.int .i64 n2)).setCell ⟨bS, 2, none⟩ (.int .i64 n3)).setCell ⟨bS, 3, none⟩ (.int .i64 n4)).setCell ⟨bS, 4, none⟩ (.bool n5) = w4 at *
        have hk34 : KeepB (fun b => b ≠ bS) wr w4 := (keepT hB3).sub (fun _ _ _ => trivial) |>.trans g2
        clear hset r0 r1 r2 r3 r4 rf0 rf1 rf2 rf3 rf4
        refine ⟨trivial, (callsIn_wide.2 (HST.out w4)).mono ?_⟩
        rintro e w5 ⟨rfl, hB5⟩
        have hk35 : KeepB (fun b => b ≠ bS) wr w5 := hk34.trans ((keepT hB5).sub fun _ _ _ => trivial)
        have h55 := g1.keep (keepT hB5) trivial
        have hj5 : J (k + 1) w5 := HJ.out _ _ _ hj (hk35.sub fun b _ h => (by omega : b ≠ bS))
        obtain ⟨fn, tmps, assign, body, hy, hR⟩ := HY.out (k + 1) _ w5 Hxa.out hj5 (by have := hk35.size; omega)
        have HR := Lib.hid hR
        clear hR
        gi_wp2
        refine HR.out.mono ?_
        rintro e W6 hend
        obtain ⟨f, rfl, hst6, hk6⟩ : ∃ f : Bool, e = .returned (.bool f) ∧ Hid ((f = true ∧ J (k + 1 + 1) W6) ∨ (f = false ∧ Jx W6)) ∧ KeepB (fun b => b < w0.heap.size ∨ (M ≤ b ∧ b < w.heap.size)) w5 W6 := by
          rcases hend with ⟨rfl, h1, h2⟩ | ⟨rfl, h1, h2⟩
          · exact ⟨true, rfl, Lib.hid (.inl ⟨rfl, h1⟩), h2⟩
          · exact ⟨false, rfl, Lib.hid (.inr ⟨rfl, h1⟩), h2⟩
        clear hend
        have h56 := h55.keep hk6 (.inr ⟨hMS, hbS⟩)
        have hK6 : KeepB (fun b => b < w0.heap.size ∨ (M ≤ b ∧ b < w.heap.size ∧ b ≠ bS)) w W6 := hK.trans ((hk35.sub fun b _ h => (by omega : b ≠ bS)).trans (hk6.sub fun b _ h => by omega))
        gi_wp2
        go_roundw
        case rel => exact ⟨k + 1, f, by omega, by go_num, rfl, hst6, hK6, by rw [Htk.out]; exact h56⟩
        case measure => simp [intOf]; omega
    · obtain rfl : k = n := by omega
      gi_wp2
      refine bodyPost_end (results_none rfl _ _ _) rfl ⟨⟨_, rfl⟩, ?_⟩
      rw [HL.out, Hn.out]
      rcases hst.out with ⟨_, h⟩ | ⟨_, h⟩
      · exact .inl h
      · exact .inr h
end Go.Proofs.Ytoehcmddfpompaa
/- The walks of level: Stages. -/
namespace Go.Proofs.Ytoehcmddfpompaa
open Go Go.RowKit Go.Shelf
set_option maxRecDepth 100000
attribute [local go_sem] Oper.semAt_some

theorem stages_mk (s : St) (A : Option Addr) (n c : Nat) (w : World) :
    Calls Try.prog 24 #[s.v, .slice A n c] w fun e w' => e = .returned (.func (.func 32) #[] #[.pointer (some ⟨w.heap.size, 0, none⟩), .pointer (some ⟨w.heap.size + 1, 0, none⟩)]) ∧
      w' = (w.alloc (.cells #[.int .i64 s.index, .int .i64 s.term, .int .i64 s.sum, .int .i64 s.level, .bool s.final] 23)).alloc (.cells #[.slice A n c] 37) := by
  obtain ⟨a1, a2, a3, a4, a5⟩ := s
  dsimp only [St.v]
  go_enter Try.func24, Try.ntmps24
  go_wp2
  go_ret
  exact ⟨rfl, rfl⟩

set_option maxHeartbeats 4000000 in
theorem stagesL_any (s : St) (A : Option Addr) (n c : Nat) (l : List En) (hn : l.length = n) (hl : n ≤ 1099511627776) (hlc : n ≤ c) (hcm : c ≤ maxLen) (w : World) (hA : Rd w A (ens l)) :
    Calls Try.prog 14 #[s.v, .slice A n c] w fun e w' => ∃ v, e = .returned v ∧ w'.ownsRow w.heap.size 3 1 v (n + 1) (ivs (stagesS s l)) ∧ Below w.heap.size w w' := by
  have Hn := Lib.hid hn
  have HLen := Lib.hid (show (stagesS s l).length = n + 1 by rw [stagesS_len, hn])
  clear hn
  have hs0 := Box5.new w s 23
  have hz0 := Box.new (w.alloc (.cells #[.int .i64 s.index, .int .i64 s.term, .int .i64 s.sum, .int .i64 s.level, .bool s.final] 23)) (.slice none 0 0) 24
  have hB0 : Below w.heap.size w ((w.alloc (.cells #[.int .i64 s.index, .int .i64 s.term, .int .i64 s.sum, .int .i64 s.level, .bool s.final] 23)).alloc (.cells #[.slice none 0 0] 24)) := ((Below.refl _ _).alloc (Nat.le_refl _) _).alloc (by simp) _
  have hsz2 : ((w.alloc (.cells #[.int .i64 s.index, .int .i64 s.term, .int .i64 s.sum, .int .i64 s.level, .bool s.final] 23)).alloc (.cells #[.slice none 0 0] 24)).heap.size = w.heap.size + 2 := by simp
  rw [World.size_alloc] at hz0
  refine (callsIn_wide (n := 9)).1 (callsIn_of_wp_marks Try.func14 rfl trivial ?_ rfl)
  simp only [Try.ntmps14, List.size_toArray, List.length_cons, List.length_nil, Nat.reduceAdd, Nat.reduceSub, Array.replicate_succ, Array.replicate_zero, List.push_toArray, List.append_toArray, List.nil_append, List.cons_append]
  dsimp only [St.v]
  gi_wp2_with fail
  generalize (w.alloc (.cells #[.int .i64 s.index, .int .i64 s.term, .int .i64 s.sum, .int .i64 s.level, .bool s.final] 23)).alloc (.cells #[.slice none 0 0] 24) = W0 at *
  refine ⟨trivial, ?_⟩
  refine (callsIn_wide.2 (stages_mk s A n c _)).mono ?_
  rintro e w' ⟨rfl, rfl⟩
  rw [hsz2]
  have hB1 : Below W0.heap.size W0 ((W0.alloc (.cells #[.int .i64 s.index, .int .i64 s.term, .int .i64 s.sum, .int .i64 s.level, .bool s.final] 23)).alloc (.cells #[.slice A n c] 37)) := ((Below.refl _ _).alloc (Nat.le_refl _) _).alloc (by simp) _
  have hi0 := Box5.new W0 s 23
  have hL0 := Box.new (W0.alloc (.cells #[.int .i64 s.index, .int .i64 s.term, .int .i64 s.sum, .int .i64 s.level, .bool s.final] 23)) (.slice A n c) 37
  replace hi0 := hi0.keep ((KeepB.refl (fun _ => True) _).alloc (.cells #[.slice A n c] 37)) trivial
  rw [World.size_alloc] at hL0
  have hsz3 : ((W0.alloc (.cells #[.int .i64 s.index, .int .i64 s.term, .int .i64 s.sum, .int .i64 s.level, .bool s.final] 23)).alloc (.cells #[.slice A n c] 37)).heap.size = w.heap.size + 4 := by simp [hsz2]
  generalize (W0.alloc (.cells #[.int .i64 s.index, .int .i64 s.term, .int .i64 s.sum, .int .i64 s.level, .bool s.final] 23)).alloc (.cells #[.slice A n c] 37) = W1 at *
  rw [hsz2] at hi0 hL0
  have hz1 := hz0.keep (keepT hB1) trivial
  have hB2 := bTr hB0 (hB1.mono (by omega))
  clear hs0 hz0 hB0 hB1 hsz2
  gi_wp2
  refine range_law (n₀ := w.heap.size) (M := w.heap.size + 2) (xs := stagesS s l) (encs := fun n : Int => #[.int .i64 n]) rfl (enters_of Try.func32 (by kernel_rfl) rfl)
    (stages1_iter (w.heap.size + 2) (w.heap.size + 2 + 1) A n c l Hn.out s hlc hcm w _ W1 hA hB2 (by omega) (by omega) (by omega) (by omega) (by omega) hi0 hL0) (by omega) (by omega) (fun _ => rfl)
    (fun k W => (∃ v, Box W (w.heap.size + 1) v ∧ W.ownsRow (w.heap.size + 6) 3 1 v k (ivs ((stagesS s l).take k))) ∧ Below w.heap.size w W) (fun _ _ => False)
    (fun k A B h hk => ⟨h.1.imp fun v hv => ⟨hv.1.keep hk (by omega), own_keep hv.2 hk (fun b hb => by have := own_row_base hv.2 b hb; omega)⟩, below_keep h.2 hk h.2.size (fun _ _ => by omega)⟩) (fun _ _ _ h _ => h) ⟨⟨_, hz1, World.ownsRow_nil _ _ _ _⟩, hB2⟩ ?round ?done (fun _ _ h _ => h.elim)
  case round =>
    intro lr k y A1 hy hI hsz
    have hkl : k < n + 1 := by have := (List.getElem?_eq_some_iff.1 hy).1; rwa [HLen.out] at this
    have htk : (stagesS s l).take (k + 1) = (stagesS s l).take k ++ [y] := by rw [List.take_add_one]; simp [hy]
    have Hy := Lib.hid htk
    clear htk hy hI
    gi_wp2
    refine ⟨KeepB.refl _ _, fun A2 hk2 hI2 => ?_⟩
    obtain ⟨⟨v, hV, hown⟩, hB⟩ := hI2
    have hz2 := hk2.size
    have hVl := hV.lt
    obtain ⟨cV, fV⟩ := hV
    have hA3 : Rd (A2.alloc (.cells #[.int .i64 y] 3)) (some ⟨A2.heap.size, 0, none⟩) (ivs [y]) := Rd.new A2 _ _
    have hrow := own_row_base hown
    obtain ⟨Av, cv, rfl, _⟩ := own_slice hown
    gi_wp2_with (refine listIn_append_rd (news := ivs [y]) rfl (.tmp 10) (.tmp 12) rfl elemI rfl (hown.alloc _) rfl rfl hA3 (ivs_one _) (by unfold maxLen; omega) (by omega) (by simp; omega) ?_; intro v' w' hown' hg hloc; clear hloc; obtain ⟨A', c', rfl, _⟩ := own_slice hown'; have hkb : KeepB (fun b => b < w.heap.size + 6) A2 w' := ((KeepB.refl _ A2).alloc _).grown hg fun x hx _ hh => Nat.not_lt.2 (hrow x hx) hh; have cV' := hkb.cell (p := ⟨w.heap.size + 1, 0, none⟩) (show w.heap.size + 1 < w.heap.size + 6 by omega) cV; have fV' := (hkb.frozen (p := ⟨w.heap.size + 1, 0, none⟩) hVl (show w.heap.size + 1 < w.heap.size + 6 by omega)).trans fV)
    have hk3 : KeepB (fun b => b ≠ w.heap.size + 1) w' (w'.setCell ⟨w.heap.size + 1, 0, none⟩ (.slice A' (k + 1) c')) := (KeepB.refl _ _).setCell (by simp) _
    refine ⟨(hkb.sub fun _ _ _ => by omega).trans (hk3.sub fun _ _ _ => by omega), ⟨_, Box.set ⟨cV', fV'⟩ _, ?_⟩, below_keep hB ((hkb.sub (T := fun b => b < w.heap.size) fun _ _ h => Nat.lt_of_lt_of_le h (by omega)).trans (hk3.sub fun _ _ _ => by omega)) hB.size (fun _ h => h)⟩
    rw [Hy.out]
    have : ivs ((stagesS s l).take k ++ [y]) = ivs ((stagesS s l).take k) ++ ivs [y] := by simp [ivs]
    rw [this]
    exact own_keep hown' hk3 (fun b hb => by have := own_row_base hown' b hb; omega)
  case done =>
    intro A1 hI hD
    rw [HLen.out] at hI
    obtain ⟨⟨v, ⟨cV, fV⟩, hown⟩, hB⟩ := hI
    obtain ⟨Av, cv, rfl, _⟩ := own_slice hown
    gi_wp2
    have hk2 : KeepB (fun b => b ≠ w.heap.size + 1) A1 (A1.setCell ⟨w.heap.size + 1, 0, none⟩ (.slice Av (n + 1) cv)) := (KeepB.refl _ _).setCell (by simp) _
    have hb2 : Box (A1.setCell ⟨w.heap.size + 1, 0, none⟩ (.slice Av (n + 1) cv)) (w.heap.size + 1) (.slice Av (n + 1) cv) := Box.set ⟨cV, fV⟩ _
    generalize A1.setCell ⟨w.heap.size + 1, 0, none⟩ (.slice Av (n + 1) cv) = W2 at *
    rw [hsz3] at hD
    refine ⟨by simp, .inl ⟨_, _, by rw [hsz3], run_takeDeferred (hk2.heap (by omega) hD), ?_⟩⟩
    have hk3 : KeepB (fun k => k ≠ w.heap.size + 4) W2 (W2.putObj (w.heap.size + 4) (Obj.deferred none)) := (KeepB.refl _ _).putObj _ _ (by simp)
    have hb3 := hb2.keep hk3 (by omega)
    have hB3 := below_keep (below_keep hB hk2 hB.size (fun _ _ => by omega)) hk3 (Nat.le_trans hB.size hk2.size) (fun _ _ => by omega)
    have ho3 := own_keep (own_keep hown hk2 (fun b hb => by have := own_row_base hown b hb; omega)) hk3 (fun b hb => by have := own_row_base hown b hb; omega)
    generalize W2.putObj (w.heap.size + 4) (Obj.deferred none) = W3 at *
    have c3 := hb3.1
    refine ⟨.slice Av (n + 1) cv, by simp [results, Try.results14, go_sem, c3], _, rfl, ?_, hB3⟩
    have e1 : (stagesS s l).take (n + 1) = stagesS s l := List.take_of_length_le (by rw [HLen.out]; omega)
    rw [e1] at ho3
    exact own_base ho3 (by omega)
end Go.Proofs.Ytoehcmddfpompaa
/- The walks of numbers: rows of numbers held against each other. -/
namespace Go.Proofs.Ytoehcmddfpompaa
open Go Go.RowKit
set_option maxRecDepth 100000

set_option maxHeartbeats 1000000 in
theorem ints_any (A B : Option Addr) (n m c d : Nat) (l k : List Int) (hl : l.length = n) (hk : k.length = m) (hn : n ≤ 1099511627776) (w : World) (hA : Rd w A (ivs l)) (hB : Rd w B (ivs k)) :
    Calls Try.prog 19 #[.slice A n c, .slice B m d] w fun e w' => e = .returned (.bool (decide (l = k))) ∧ Below w.heap.size w w' := by
  obtain ⟨res, hres⟩ : ∃ r, r = decide (l = k) := ⟨_, rfl⟩
  rw [← hres]
  have Hres := Lib.hid hres
  clear hres
  by_cases hnm : n = m
  · subst hnm
    go_enter Try.func19, Try.ntmps19
    go_wp2
    go_loopw [5] (fun i wr => ∃ q : Nat, q ≤ n ∧ i = .int .i64 q ∧ l.take q = k.take q ∧ Below w.heap.size w wr) (fun i _ => n - (intOf i).toNat)
    case atStart => exact ⟨0, by omega, rfl, rfl, Below.refl _ _⟩
    case round =>
      obtain ⟨q, hq, rfl, heq, hBw⟩ := hrel
      by_cases hlt : q < n
      · have h1 : l[q]? = some l[q] := List.getElem?_eq_getElem (by omega)
        have h2 : k[q]? = some k[q] := List.getElem?_eq_getElem (by omega)
        obtain ⟨b, o, rfl, hb, c1⟩ := (hA.below hBw) q _ (ivs_at h1)
        obtain ⟨b', o', rfl, hb', c2⟩ := (hB.below hBw) q _ (ivs_at h2)
        have Heq := Lib.hid heq
        clear heq
        have h3 := Lib.hid h1
        have h4 := Lib.hid h2
        clear h1 h2
        generalize l[q] = x at *
        generalize k[q] = y at *
        have t1 : (0 : Int) ≤ (q : Int) := by omega
        have t2 : (q : Int) < (n : Int) := by omega
        by_cases hxy : x = y
        · subst hxy
          go_wp2
          refine region_flow0 9 ⟨by kernel_rfl, by kernel_rfl⟩ (fun wf HB => ?_)
          refine' wpF_lights [true, true, true, true, true, true, true, true, true] 26 _ (by decide +kernel) rfl (fun W hW => ?_) ?_
          rotate_left
          · obtain ⟨hcW, hfW⟩ := bCells (bTr HB hW)
            dsimp only [pickL]
            go_wp2
            exact Lend.ok
          refine wpF_end (by kernel_rfl) ?_
          go_wp2
          go_roundw
          case rel => exact ⟨q + 1, by omega, by go_num, by rw [List.take_add_one, List.take_add_one, Heq.out, h3.out, h4.out], bTr hBw HB⟩
          case measure => simp [intOf]; omega
        · have hg : (x != y) = true := by simpa using hxy
          have Hx := Lib.hid hxy
          clear hxy
          go_wp2
          refine region_flow0 9 ⟨by kernel_rfl, by kernel_rfl⟩ (fun wf HB => ?_)
          refine' wpF_lights [true, true, true, true, true, true, true, true, true] 26 _ (by decide +kernel) rfl (fun W hW => ?_) ?_
          rotate_left
          · obtain ⟨hcW, hfW⟩ := bCells (bTr HB hW)
            dsimp only [pickL]
            go_wp2
            exact Lend.ok
          refine wpF_end (by kernel_rfl) ?_
          go_wp2
          go_ret
          refine ⟨ret_bool ?_, bTr hBw HB⟩
          rw [Hres.out]
          have : l ≠ k := by
            rintro rfl
            have e1 := h3.out
            rw [h4.out] at e1
            exact Hx.out (Option.some.inj e1).symm
          simp [this]
      · obtain rfl : q = n := by omega
        go_wp2
        go_ret
        refine ⟨ret_bool ?_, hBw⟩
        rw [Hres.out]
        rw [List.take_of_length_le (by omega), List.take_of_length_le (by omega)] at heq
        simp [heq]
  · have g : ((n : Int) != (m : Int)) = true := by simp; omega
    go_enter Try.func19, Try.ntmps19
    go_wp2
    go_ret
    refine ⟨ret_bool ?_, Below.refl _ _⟩
    rw [Hres.out]
    have : l ≠ k := by rintro rfl; omega
    simp [this]

end Go.Proofs.Ytoehcmddfpompaa
/- The walks of level: what wakes. -/
namespace Go.Proofs.Ytoehcmddfpompaa
open Go Go.RowKit
set_option maxRecDepth 100000

theorem Box3.alloc {w : World} {b : Nat} {e : En} (h : Box3 w b e) (o : Obj) : Box3 (w.alloc o) b e := h.keep ((KeepB.refl (fun _ => True) w).alloc o) trivial
set_option maxRecDepth 100000 in
set_option maxHeartbeats 8000000 in
theorem wakes_any (w : World) : Calls Try.prog 7 #[] w fun e w' => e = .returned (.bool true) ∧ Below w.heap.size w w' := by
  go_enter Try.func7, Try.ntmps7
  go_wp2_with fail
  have hs := (Box5.new w ⟨3, 1, 0, 2, false⟩ 23).alloc (.cells #[.int .i64 3, .int .i64 1, .int .i64 0, .int .i64 2, .bool true] 23)
  have hf := Box5.new (w.alloc (.cells #[.int .i64 3, .int .i64 1, .int .i64 0, .int .i64 2, .bool false] 23)) ⟨3, 1, 0, 2, true⟩ 23
  have hB : Below w.heap.size w ((w.alloc (.cells #[.int .i64 3, .int .i64 1, .int .i64 0, .int .i64 2, .bool false] 23)).alloc (.cells #[.int .i64 3, .int .i64 1, .int .i64 0, .int .i64 2, .bool true] 23)) := ((Below.refl _ _).alloc (Nat.le_refl _) _).alloc (by simp) _
  rw [World.size_alloc] at hf
  dsimp only at hs hf
  generalize (w.alloc (.cells #[.int .i64 3, .int .i64 1, .int .i64 0, .int .i64 2, .bool false] 23)).alloc (.cells #[.int .i64 3, .int .i64 1, .int .i64 0, .int .i64 2, .bool true] 23) = W0 at *
  refine (entryL_any 1 5 2 W0).mono ?_
  rintro e w1 ⟨rfl, hB1⟩
  rw [show entryL 1 5 2 = (⟨2, 1, 5⟩, 0) by decide +kernel]
  dsimp only [En.v]
  go_wp2_with fail
  have he : Box3 (w1.alloc (.cells #[.int .i64 2, .int .i64 1, .int .i64 5] 30)) w1.heap.size ⟨2, 1, 5⟩ := ⟨by simp, by simp, by simp⟩
  replace hs := (hs.keep (keepT hB1) trivial).alloc (.cells #[.int .i64 2, .int .i64 1, .int .i64 5] 30)
  replace hf := (hf.keep (keepT hB1) trivial).alloc (.cells #[.int .i64 2, .int .i64 1, .int .i64 5] 30)
  replace hB := (bTr hB hB1).alloc (bTr hB hB1).size (.cells #[.int .i64 2, .int .i64 1, .int .i64 5] 30)
  clear hB1
  generalize w1.alloc (.cells #[.int .i64 2, .int .i64 1, .int .i64 5] 30) = W1 at *
  refine (entryL_any 9 0 1 W1).mono ?_
  rintro e w2 ⟨rfl, hB1⟩
  rw [show entryL 9 0 1 = (⟨0, 0, 0⟩, 2) by decide +kernel]
  dsimp only [En.v]
  go_upto_region 6 with fail
  replace he := (he.keep (keepT hB1) trivial).alloc (.cells #[.int .i64 0, .int .i64 0, .int .i64 0] 30)
  replace hs := (hs.keep (keepT hB1) trivial).alloc (.cells #[.int .i64 0, .int .i64 0, .int .i64 0] 30)
  replace hf := (hf.keep (keepT hB1) trivial).alloc (.cells #[.int .i64 0, .int .i64 0, .int .i64 0] 30)
  replace hB := (bTr hB hB1).alloc (bTr hB hB1).size (.cells #[.int .i64 0, .int .i64 0, .int .i64 0] 30)
  clear hB1
  generalize w2.alloc (.cells #[.int .i64 0, .int .i64 0, .int .i64 0] 30) = Wb at *
  have ls := hs.lt
  have lf := hf.lt
  have le := he.lt
  obtain ⟨⟨s0, s1, s2, s3, s4⟩, _⟩ := hs
  obtain ⟨⟨f0, f1, f2, f3, f4⟩, _⟩ := hf
  obtain ⟨e0, e1, e2⟩ := he
  dsimp only at s0 s1 s2 s3 s4 f0 f1 f2 f3 f4 e0 e1 e2
  generalize w1.heap.size = g1 at *
  have HB := Below.refl Wb.heap.size Wb
  go_wp2_with fail
  refine (lcheck_any 4 ⟨0, 0, 0, 1, false⟩ none 0 0 [] rfl (by simp) _ (Rd.nil _ _)).mono ?_
  rintro e x1 ⟨rfl, hX⟩
  rw [show checkS 4 ⟨0, 0, 0, 1, false⟩ [] = 223 by decide +kernel]
  replace HB := bTr HB hX
  clear hX
  obtain ⟨hcW, hfW⟩ := bCells HB
  have hz := HB.size
  go_wp2_with fail
  have hl2 := Rd.new x1 (ivs [2, 1]) 3
  replace HB := HB.alloc HB.size (.cells (ivs [2, 1]).toArray 3)
  refine (lcheck_any 2 ⟨3, 1, 0, 2, false⟩ _ 2 2 [2, 1] rfl (by simp) _ hl2).mono ?_
  rintro e x2 ⟨rfl, hX⟩
  rw [show checkS 2 ⟨3, 1, 0, 2, false⟩ [2, 1] = 221 by decide +kernel]
  replace HB := bTr HB hX
  clear hl2
  clear hcW hfW hz
  clear hX
  obtain ⟨hcW, hfW⟩ := bCells HB
  have hz := HB.size
  go_wp2_with fail
  refine (lcheck_any 3 ⟨3, 1, 0, 2, true⟩ none 0 0 [] rfl (by simp) _ (Rd.nil _ _)).mono ?_
  rintro e x3 ⟨rfl, hX⟩
  rw [show checkS 3 ⟨3, 1, 0, 2, true⟩ [] = 222 by decide +kernel]
  replace HB := bTr HB hX
  clear hcW hfW hz
  clear hX
  obtain ⟨hcW, hfW⟩ := bCells HB
  have hz := HB.size
  go_wp2_with fail
  refine (lcheck_any 0 ⟨3, 1, 0, 2, false⟩ none 0 0 [] rfl (by simp) _ (Rd.nil _ _)).mono ?_
  rintro e x4 ⟨rfl, hX⟩
  rw [show checkS 0 ⟨3, 1, 0, 2, false⟩ [] = 2 by decide +kernel]
  replace HB := bTr HB hX
  clear hcW hfW hz
  clear hX
  obtain ⟨hcW, hfW⟩ := bCells HB
  have hz := HB.size
  go_wp2_with fail
  have hl5 := Rd.new x4 (ivs [2, 2]) 3
  replace HB := HB.alloc HB.size (.cells (ivs [2, 2]).toArray 3)
  refine (lcheck_any 2 ⟨3, 1, 0, 2, false⟩ _ 2 2 [2, 2] rfl (by simp) _ hl5).mono ?_
  rintro e x5 ⟨rfl, hX⟩
  rw [show checkS 2 ⟨3, 1, 0, 2, false⟩ [2, 2] = 0 by decide +kernel]
  replace HB := bTr HB hX
  clear hl5
  clear hcW hfW hz
  clear hX
  obtain ⟨hcW, hfW⟩ := bCells HB
  have hz := HB.size
  go_wp2_with fail
  refine (format_any ⟨3, 1, 0, 2, false⟩ 2 _).mono ?_
  rintro e x6 ⟨rfl, hX⟩
  rw [show formatS ⟨3, 1, 0, 2, false⟩ 2 = 2 by decide +kernel]
  replace HB := bTr HB hX
  clear hcW hfW hz
  clear hX
  obtain ⟨hcW, hfW⟩ := bCells HB
  have hz := HB.size
  go_wp2_with fail
  refine (format_any ⟨3, 1, 0, 2, false⟩ 1 _).mono ?_
  rintro e x7 ⟨rfl, hX⟩
  rw [show formatS ⟨3, 1, 0, 2, false⟩ 1 = 1 by decide +kernel]
  replace HB := bTr HB hX
  clear hcW hfW hz
  clear hX
  obtain ⟨hcW, hfW⟩ := bCells HB
  have hz := HB.size
  go_wp2_with fail
  refine (format_any ⟨0, 0, 0, 1, false⟩ 2 _).mono ?_
  rintro e x8 ⟨rfl, hX⟩
  rw [show formatS ⟨0, 0, 0, 1, false⟩ 2 = 1 by decide +kernel]
  replace HB := bTr HB hX
  clear hcW hfW hz
  clear hX
  obtain ⟨hcW, hfW⟩ := bCells HB
  have hz := HB.size
  go_wp2_with fail
  refine (stage_any ⟨3, 1, 0, 2, true⟩ _).mono ?_
  rintro e x9 ⟨rfl, hX⟩
  rw [show stageS ⟨3, 1, 0, 2, true⟩ = 2 by decide +kernel]
  replace HB := bTr HB hX
  clear hcW hfW hz
  clear hX
  obtain ⟨hcW, hfW⟩ := bCells HB
  have hz := HB.size
  go_wp2_with fail
  refine (known_any none 0 0 [] rfl (by simp) _ (Rd.nil _ _)).mono ?_
  rintro e x10 ⟨rfl, hX⟩
  rw [show knownB [] = false by decide +kernel]
  replace HB := bTr HB hX
  clear hcW hfW hz
  clear hX
  obtain ⟨hcW, hfW⟩ := bCells HB
  have hz := HB.size
  go_wp2_with fail
  have hle := Rd.new x10 (ens [⟨1, 3, 0⟩]) 30
  replace HB := HB.alloc HB.size (.cells (ens [⟨1, 3, 0⟩]).toArray 30)
  refine (stagesL_any ⟨3, 1, 0, 2, false⟩ _ 1 1 [⟨1, 3, 0⟩] rfl (by omega) (by omega) (by decide) _ hle).mono ?_
  rintro e y1 ⟨v1, rfl, ho, hX⟩
  rw [show stagesS ⟨3, 1, 0, 2, false⟩ [⟨1, 3, 0⟩] = [1, 0] by decide +kernel] at ho
  replace HB := bTr HB hX
  obtain ⟨A1, c1, rfl, _⟩ := own_slice ho
  have hr := Rd.of_own ho
  clear ho hX hcW hfW hz
  go_wp2_with fail
  have hl := Rd.new y1 (ivs [1, 0]) 3
  replace HB := HB.alloc HB.size (.cells (ivs [1, 0]).toArray 3)
  refine (ints_any A1 _ 2 2 c1 2 [1, 0] [1, 0] rfl rfl (by omega) _ (hr.below ((Below.refl _ _).alloc (Nat.le_refl _) _)) hl).mono ?_
  rintro e y2 ⟨rfl, hX⟩
  simp only [decide_true]
  replace HB := bTr HB hX
  go_wp2
  go_returns
  exact ⟨rfl, bTr hB HB⟩
end Go.Proofs.Ytoehcmddfpompaa
/- What the functions of levels compute that are walked by hand, in the form of the printed contracts: stages, formats, what wakes. -/
namespace Go.Proofs.Ytoehcmddfpompaa
open Go Go.RowKit
set_option maxRecDepth 100000
theorem ivs_encs19 (l : List Int) : ivs l = encs enI l := by
  induction l with
  | nil => rfl
  | cons x l ih => rw [encs_cons, ← ih]; rfl
def m_level_Stage (s : St) : Option Int := some (stageS s)
theorem c_level_Stage (x0 : St) (w0 : World) {r : Int} (H : m_level_Stage x0 = some r) : Calls Try.prog 11 #[.agg #[.int .i64 x0.index, .int .i64 x0.term, .int .i64 x0.sum, .int .i64 x0.level, .bool x0.final]] w0 fun e w' => e = .returned (.int .i64 r) ∧ St0 All w0 w' [] := by
  obtain rfl := Option.some.inj H
  exact calls_st0 (stage_any x0 w0)
def m_level_Format (s : St) (b : Int) : Option Int := some (formatS s b)
theorem c_level_Format (x0 : St) (x1 : Int) (w0 : World) {r : Int} (H : m_level_Format x0 x1 = some r) : Calls Try.prog 16 #[.agg #[.int .i64 x0.index, .int .i64 x0.term, .int .i64 x0.sum, .int .i64 x0.level, .bool x0.final], .int .i64 x1] w0 fun e w' => e = .returned (.int .i64 r) ∧ St0 All w0 w' [] := by
  obtain rfl := Option.some.inj H
  exact calls_st0 (format_any x0 x1 w0)
def m_level_Stages (s : St) (l : List En) : Option (List Int) := cond (decide (l.length ≤ 1000000)) (some (stagesS s l)) none
theorem c_level_Stages (x0 : St) (x1 : List En) (A0 : Option Addr) (c0 : Nat) (w0 : World) (s0 : SlI w0 enE A0 c0 x1) {r : List Int} (H : m_level_Stages x0 x1 = some r) : Calls Try.prog 14 #[.agg #[.int .i64 x0.index, .int .i64 x0.term, .int .i64 x0.sum, .int .i64 x0.level, .bool x0.final], .slice A0 x1.length c0] w0 fun e w' => ∃ (A0 : Option Addr) (c0 : Nat), e = .returned (.slice A0 r.length c0) ∧ (r.length ≤ c0 ∧ c0 ≤ maxLen) ∧ St0 All w0 w' [.rd A0 (encs enI r)] := by
  unfold m_level_Stages at H
  by_cases h : x1.length ≤ 1000000
  · rw [decide_eq_true h] at H
    obtain rfl := Option.some.inj H
    refine (stagesL_any x0 A0 x1.length c0 x1 rfl (by omega) s0.le s0.cap w0 s0.rd).mono ?_
    rintro e w' ⟨v, rfl, ho, hB⟩
    obtain ⟨A, c, rfl, hs⟩ := Sl.of_own ho
    rw [ivs_encs19] at hs
    rw [stagesS_len]
    exact ⟨A, c, rfl, ⟨hs.le, hs.cap⟩, hs.st0 hB⟩
  · rw [decide_eq_false h] at H; cases H
def m_law19_wakes : Option Bool := some true
theorem c_law19_wakes (w0 : World) {r : Bool} (H : m_law19_wakes = some r) : Calls Try.prog 7 #[] w0 fun e w' => e = .returned (.bool r) ∧ St0 All w0 w' [] := by
  obtain rfl := Option.some.inj H
  exact calls_st0 (wakes_any w0)
end Go.Proofs.Ytoehcmddfpompaa
/- What functions compute, in plain terms; printed. -/
namespace Go.Proofs.Ytoehcmddfpompaa
open Go Go.RowKit
set_option maxRecDepth 100000
def m_ref06_number (x0 : Int) : Option (Bool) :=
  cond (decide (0 ≤ x0))
   (
    some (decide (x0 ≤ 1073741824)))
   (
    some false)
def m_ref06_First : Option (St) :=
  some (⟨0, 0, 0, 1, false⟩ : St)
def m_ref06_Fine (x0 : St) : Option (Bool) :=
  (m_ref06_number x0.index).bind fun r6 =>
  cond (!r6)
   (
    some false)
   (
    (m_ref06_number x0.term).bind fun r9 =>
    cond (!r9)
     (
      some false)
     (
      (m_ref06_number x0.sum).bind fun r12 =>
      cond (!r12)
       (
        some false)
       (
        cond (decide ((decide (x0.term = 0)) ≠ (decide (x0.index = 0))))
         (
          some false)
         (
          cond (decide (x0.level ≠ 1))
           (
            cond (decide (x0.level ≠ 2))
             (
              some false)
             (
              cond x0.final
               (
                cond (decide (x0.level ≠ 2))
                 (
                  some false)
                 (
                  cond (decide (0 < x0.index))
                   (
                    some true)
                   (
                    (m_ref06_First).bind fun r19 =>
                    some (decide (x0.index = r19.index) && (decide (x0.term = r19.term) && (decide (x0.sum = r19.sum) && (decide (x0.level = r19.level) && (decide (x0.final = r19.final)))))))))
               (
                cond (decide (0 < x0.index))
                 (
                  some true)
                 (
                  (m_ref06_First).bind fun r22 =>
                  some (decide (x0.index = r22.index) && (decide (x0.term = r22.term) && (decide (x0.sum = r22.sum) && (decide (x0.level = r22.level) && (decide (x0.final = r22.final))))))))))
           (
            cond x0.final
             (
              cond (decide (x0.level ≠ 2))
               (
                some false)
               (
                cond (decide (0 < x0.index))
                 (
                  some true)
                 (
                  (m_ref06_First).bind fun r26 =>
                  some (decide (x0.index = r26.index) && (decide (x0.term = r26.term) && (decide (x0.sum = r26.sum) && (decide (x0.level = r26.level) && (decide (x0.final = r26.final)))))))))
             (
              cond (decide (0 < x0.index))
               (
                some true)
               (
                (m_ref06_First).bind fun r29 =>
                some (decide (x0.index = r29.index) && (decide (x0.term = r29.term) && (decide (x0.sum = r29.sum) && (decide (x0.level = r29.level) && (decide (x0.final = r29.final)))))))))))))
def m_ref06_Right (x0 : En) : Option (Bool) :=
  cond (decide (1 ≤ x0.term))
   (
    (m_ref06_number x0.term).bind fun r5 =>
    cond r5
     (
      cond (decide (0 ≤ x0.kind))
       (
        cond (decide (x0.kind < 5))
         (
          (m_ref06_number x0.value).bind fun r7 =>
          cond r7
           (
            cond (decide (x0.kind = 1))
             (
              some true)
             (
              some (decide (x0.value = 0))))
           (
            some false))
         (
          some false))
       (
        some false))
     (
      some false))
   (
    some false)
def m_ref06_Next (x0 : St) (x1 : En) : Option (St) :=
  (m_ref06_Right x1).bind fun r10 =>
  cond (!r10)
   (
    some x0)
   (
    (m_ref06_Fine x0).bind fun r13 =>
    cond (!r13)
     (
      some x0)
     (
      cond (decide (1073741824 ≤ x0.index))
       (
        some x0)
       (
        cond (decide (x1.kind = 1))
         (
          some (⟨(IntKind.wrap .i64 (x0.index + 1)), x1.term, (Int.tmod (IntKind.wrap .i64 ((IntKind.wrap .i64 ((IntKind.wrap .i64 (31 * x0.sum)) + x1.value)) + 1)) 1073741824), x0.level, x0.final⟩ : St))
         (
          cond (decide (x1.kind = 2))
           (
            some (⟨(IntKind.wrap .i64 (x0.index + 1)), x1.term, x0.sum, 2, x0.final⟩ : St))
           (
            cond (decide (x1.kind = 3))
             (
              cond (!x0.final)
               (
                some (⟨(IntKind.wrap .i64 (x0.index + 1)), x1.term, x0.sum, 1, x0.final⟩ : St))
               (
                some (⟨(IntKind.wrap .i64 (x0.index + 1)), x1.term, x0.sum, x0.level, x0.final⟩ : St)))
             (
              cond (decide (x1.kind = 4))
               (
                some (⟨(IntKind.wrap .i64 (x0.index + 1)), x1.term, x0.sum, x0.level, (decide (x0.level = 2))⟩ : St))
               (
                some (⟨(IntKind.wrap .i64 (x0.index + 1)), x1.term, x0.sum, x0.level, x0.final⟩ : St))))))))
def m_ref06_All_l1 (x1 : List En) : Nat → Int → Int → Int → Int → Int → Bool → Option (St)
  | 0, _, _, _, _, _, _ => none
  | n + 1, v8, v9, v10, v11, v12, v13 =>
      cond (decide (v8 < (x1.length : Int)))
       (
        (idx x1 v8).bind fun e17 =>
        (m_ref06_Next (⟨v9, v10, v11, v12, v13⟩ : St) e17).bind fun r20 =>
        m_ref06_All_l1 x1 n (IntKind.wrap .i64 (v8 + 1)) r20.index r20.term r20.sum r20.level r20.final)
       (
        some (⟨v9, v10, v11, v12, v13⟩ : St))
def m_ref06_All (x0 : St) (x1 : List En) : Option (St) :=
  m_ref06_All_l1 x1 fuelN 0 x0.index x0.term x0.sum x0.level x0.final
def m_law19_LevelStages_l2 (x0 : St) (x1 : List En) (x2 : Int) (r34 : List Int) : Nat → Bool → Int → Option (Bool)
  | 0, _, _ => none
  | n + 1, v45, v46 =>
      cond (decide (v46 ≤ (x1.length : Int)))
       (
        (takeI x1 v46).bind fun l51 =>
        (m_ref06_All x0 l51).bind fun r53 =>
        (idx r34 v46).bind fun e60 =>
        (m_level_Stage r53).bind fun r63 =>
        cond (decide (e60 ≠ r63))
         (
          some false)
         (
          (idx r34 v46).bind fun e66 =>
          cond (decide ((decide (0 < e66)) ≠ (decide (r53.level = 2))))
           (
            some false)
           (
            (idx r34 v46).bind fun e70 =>
            cond (decide ((decide (e70 = 2)) ≠ r53.final))
             (
              some false)
             (
              cond (decide (0 < v46))
               (
                (idx r34 (IntKind.wrap .i64 (v46 - 1))).bind fun e76 =>
                cond (decide (e76 = 2))
                 (
                  (idx r34 v46).bind fun e79 =>
                  cond (decide (e79 ≠ 2))
                   (
                    some false)
                   (
                    (idx r34 v46).bind fun e83 =>
                    cond (decide (e83 = 2))
                     (
                      (idx r34 (IntKind.wrap .i64 (v46 - 1))).bind fun e86 =>
                      cond (decide (e86 = 0))
                       (
                        some false)
                       (
                        (m_level_Format r53 x2).bind fun r91 =>
                        cond (decide (r91 ≠ 1))
                         (
                          cond (decide (r91 ≠ 2))
                           (
                            some false)
                           (
                            (idx r34 v46).bind fun e95 =>
                            cond (decide (0 < e95))
                             (
                              cond (decide ((decide (r91 = 2)) ≠ (decide (2 ≤ x2))))
                               (
                                some false)
                               (
                                m_law19_LevelStages_l2 x0 x1 x2 r34 n v45 (IntKind.wrap .i64 (v46 + 1))))
                             (
                              cond (decide ((decide (r91 = 2)) ≠ false))
                               (
                                some false)
                               (
                                m_law19_LevelStages_l2 x0 x1 x2 r34 n v45 (IntKind.wrap .i64 (v46 + 1))))))
                         (
                          (idx r34 v46).bind fun e100 =>
                          cond (decide (0 < e100))
                           (
                            cond (decide ((decide (r91 = 2)) ≠ (decide (2 ≤ x2))))
                             (
                              some false)
                             (
                              m_law19_LevelStages_l2 x0 x1 x2 r34 n v45 (IntKind.wrap .i64 (v46 + 1))))
                           (
                            cond (decide ((decide (r91 = 2)) ≠ false))
                             (
                              some false)
                             (
                              m_law19_LevelStages_l2 x0 x1 x2 r34 n v45 (IntKind.wrap .i64 (v46 + 1)))))))
                     (
                      (m_level_Format r53 x2).bind fun r106 =>
                      cond (decide (r106 ≠ 1))
                       (
                        cond (decide (r106 ≠ 2))
                         (
                          some false)
                         (
                          (idx r34 v46).bind fun e110 =>
                          cond (decide (0 < e110))
                           (
                            cond (decide ((decide (r106 = 2)) ≠ (decide (2 ≤ x2))))
                             (
                              some false)
                             (
                              m_law19_LevelStages_l2 x0 x1 x2 r34 n v45 (IntKind.wrap .i64 (v46 + 1))))
                           (
                            cond (decide ((decide (r106 = 2)) ≠ false))
                             (
                              some false)
                             (
                              m_law19_LevelStages_l2 x0 x1 x2 r34 n v45 (IntKind.wrap .i64 (v46 + 1))))))
                       (
                        (idx r34 v46).bind fun e115 =>
                        cond (decide (0 < e115))
                         (
                          cond (decide ((decide (r106 = 2)) ≠ (decide (2 ≤ x2))))
                           (
                            some false)
                           (
                            m_law19_LevelStages_l2 x0 x1 x2 r34 n v45 (IntKind.wrap .i64 (v46 + 1))))
                         (
                          cond (decide ((decide (r106 = 2)) ≠ false))
                           (
                            some false)
                           (
                            m_law19_LevelStages_l2 x0 x1 x2 r34 n v45 (IntKind.wrap .i64 (v46 + 1))))))))
                 (
                  (idx r34 v46).bind fun e120 =>
                  cond (decide (e120 = 2))
                   (
                    (idx r34 (IntKind.wrap .i64 (v46 - 1))).bind fun e123 =>
                    cond (decide (e123 = 0))
                     (
                      some false)
                     (
                      (m_level_Format r53 x2).bind fun r128 =>
                      cond (decide (r128 ≠ 1))
                       (
                        cond (decide (r128 ≠ 2))
                         (
                          some false)
                         (
                          (idx r34 v46).bind fun e132 =>
                          cond (decide (0 < e132))
                           (
                            cond (decide ((decide (r128 = 2)) ≠ (decide (2 ≤ x2))))
                             (
                              some false)
                             (
                              m_law19_LevelStages_l2 x0 x1 x2 r34 n v45 (IntKind.wrap .i64 (v46 + 1))))
                           (
                            cond (decide ((decide (r128 = 2)) ≠ false))
                             (
                              some false)
                             (
                              m_law19_LevelStages_l2 x0 x1 x2 r34 n v45 (IntKind.wrap .i64 (v46 + 1))))))
                       (
                        (idx r34 v46).bind fun e137 =>
                        cond (decide (0 < e137))
                         (
                          cond (decide ((decide (r128 = 2)) ≠ (decide (2 ≤ x2))))
                           (
                            some false)
                           (
                            m_law19_LevelStages_l2 x0 x1 x2 r34 n v45 (IntKind.wrap .i64 (v46 + 1))))
                         (
                          cond (decide ((decide (r128 = 2)) ≠ false))
                           (
                            some false)
                           (
                            m_law19_LevelStages_l2 x0 x1 x2 r34 n v45 (IntKind.wrap .i64 (v46 + 1)))))))
                   (
                    (m_level_Format r53 x2).bind fun r143 =>
                    cond (decide (r143 ≠ 1))
                     (
                      cond (decide (r143 ≠ 2))
                       (
                        some false)
                       (
                        (idx r34 v46).bind fun e147 =>
                        cond (decide (0 < e147))
                         (
                          cond (decide ((decide (r143 = 2)) ≠ (decide (2 ≤ x2))))
                           (
                            some false)
                           (
                            m_law19_LevelStages_l2 x0 x1 x2 r34 n v45 (IntKind.wrap .i64 (v46 + 1))))
                         (
                          cond (decide ((decide (r143 = 2)) ≠ false))
                           (
                            some false)
                           (
                            m_law19_LevelStages_l2 x0 x1 x2 r34 n v45 (IntKind.wrap .i64 (v46 + 1))))))
                     (
                      (idx r34 v46).bind fun e152 =>
                      cond (decide (0 < e152))
                       (
                        cond (decide ((decide (r143 = 2)) ≠ (decide (2 ≤ x2))))
                         (
                          some false)
                         (
                          m_law19_LevelStages_l2 x0 x1 x2 r34 n v45 (IntKind.wrap .i64 (v46 + 1))))
                       (
                        cond (decide ((decide (r143 = 2)) ≠ false))
                         (
                          some false)
                         (
                          m_law19_LevelStages_l2 x0 x1 x2 r34 n v45 (IntKind.wrap .i64 (v46 + 1))))))))
               (
                (m_level_Format r53 x2).bind fun r158 =>
                cond (decide (r158 ≠ 1))
                 (
                  cond (decide (r158 ≠ 2))
                   (
                    some false)
                   (
                    (idx r34 v46).bind fun e162 =>
                    cond (decide (0 < e162))
                     (
                      cond (decide ((decide (r158 = 2)) ≠ (decide (2 ≤ x2))))
                       (
                        some false)
                       (
                        m_law19_LevelStages_l2 x0 x1 x2 r34 n v45 (IntKind.wrap .i64 (v46 + 1))))
                     (
                      cond (decide ((decide (r158 = 2)) ≠ false))
                       (
                        some false)
                       (
                        m_law19_LevelStages_l2 x0 x1 x2 r34 n v45 (IntKind.wrap .i64 (v46 + 1))))))
                 (
                  (idx r34 v46).bind fun e167 =>
                  cond (decide (0 < e167))
                   (
                    cond (decide ((decide (r158 = 2)) ≠ (decide (2 ≤ x2))))
                     (
                      some false)
                     (
                      m_law19_LevelStages_l2 x0 x1 x2 r34 n v45 (IntKind.wrap .i64 (v46 + 1))))
                   (
                    cond (decide ((decide (r158 = 2)) ≠ false))
                     (
                      some false)
                     (
                      m_law19_LevelStages_l2 x0 x1 x2 r34 n v45 (IntKind.wrap .i64 (v46 + 1))))))))))
       (
        (m_law19_wakes).bind fun r173 =>
        some r173)
def m_law19_LevelStages_l1 (x0 : St) (x1 : List En) (x2 : Int) : Nat → Bool → Int → Option (Bool)
  | 0, _, _ => none
  | n + 1, v19, v20 =>
      cond (decide (v20 < (x1.length : Int)))
       (
        (idx x1 v20).bind fun e25 =>
        (m_ref06_Right e25).bind fun r28 =>
        cond (!r28)
         (
          (m_law19_wakes).bind fun r31 =>
          some r31)
         (
          m_law19_LevelStages_l1 x0 x1 x2 n v19 (IntKind.wrap .i64 (v20 + 1))))
       (
        (m_level_Stages x0 x1).bind fun r34 =>
        cond (decide ((r34.length : Int) ≠ (IntKind.wrap .i64 ((x1.length : Int) + 1))))
         (
          some false)
         (
          m_law19_LevelStages_l2 x0 x1 x2 r34 fuelN v19 0))
def m_law19_LevelStages (x0 : St) (x1 : List En) (x2 : Int) : Option (Bool) :=
  (m_ref06_Fine x0).bind fun r6 =>
  cond (!r6)
   (
    (m_law19_wakes).bind fun r9 =>
    some r9)
   (
    cond (decide (40 < (x1.length : Int)))
     (
      (m_law19_wakes).bind fun r12 =>
      some r12)
     (
      cond (decide (1073741724 < x0.index))
       (
        (m_law19_wakes).bind fun r15 =>
        some r15)
       (
        m_law19_LevelStages_l1 x0 x1 x2 fuelN false 0)))
end Go.Proofs.Ytoehcmddfpompaa
/- What functions compute, in plain terms, and that they do; printed. -/
namespace Go.Proofs.Ytoehcmddfpompaa
open Go Go.RowKit
set_option maxRecDepth 100000
set_option maxHeartbeats 4000000
theorem c_ref06_number (x0 : Int) (w0 : World) {r : Bool} (H : m_ref06_number x0 = some r) : Calls Try.prog 17 #[.int .i64 x0] w0 fun e w' => e = .returned (.bool r) ∧ St0 All w0 w' [] := by
  unfold m_ref06_number at H
  refine gw_enter1 Try.func17 rfl Try.ntmps17 rfl ?_
  have hS := St0.start All w0
  refine wpC_seq_k (fun K hK1 => ?_)
  refine wpC_region ?_
  refine wpS_quick 1 rfl ?_
  refine wpS_nil ?_
  refine QH_seq_k hK1 ?_
  refine wpC_seq_k (fun K hK2 => ?_)
  refine wpC_region ?_
  refine wpS_quick 1 rfl ?_
  refine wpS_put rfl rfl rfl (yv_geq rfl rfl) ?_
  refine wpS_quick 1 rfl ?_
  refine wpS_case 5 rfl (fun hb => ?_) (fun hb => ?_)
  rotate_left
  · replace H := cond_f H hb
    refine wpS_quick 4 rfl ?_
    refine wpS_nil ?_
    refine QH_seq_k hK2 ?_
    refine wpC_ret ?_
    refine QH_ret rfl (RV.tmp rfl RV.nil) rfl ?_
    obtain rfl := Option.some.inj H
    replace hS := hS.cut 0
    exact ⟨rfl, hS⟩
  replace H := cond_t H hb
  refine wpS_quick 1 rfl ?_
  refine wpS_put rfl rfl rfl (yv_leq rfl rfl) ?_
  refine wpS_quick 2 rfl ?_
  refine wpS_nil ?_
  refine QH_seq_k hK2 ?_
  refine wpC_ret ?_
  refine QH_ret rfl (RV.tmp rfl RV.nil) rfl ?_
  obtain rfl := Option.some.inj H
  replace hS := hS.cut 0
  exact ⟨rfl, hS⟩
theorem c_ref06_First (w0 : World) {r : St} (H : m_ref06_First = some r) : Calls Try.prog 18 #[] w0 fun e w' => e = .returned (.agg #[.int .i64 r.index, .int .i64 r.term, .int .i64 r.sum, .int .i64 r.level, .bool r.final]) ∧ St0 All w0 w' [] := by
  unfold m_ref06_First at H
  refine gw_enter0 Try.func18 rfl Try.ntmps18 rfl ?_
  have hS := St0.start All w0
  refine wpC_seq_k (fun K hK1 => ?_)
  refine wpC_region ?_
  refine wpS_alloc rfl rfl zc_23 hS (fun b2 w hS hB => ?_)
  refine wpS_nil ?_
  refine QH_seq_k hK1 ?_
  refine wpC_seq_k (fun K hK4 => ?_)
  refine wpC_region ?_
  refine wpS_put rfl rfl rfl (yv_build (cells := [.int .i64 0, .int .i64 0, .int .i64 0, .int .i64 1, .bool false]) rfl (by kernel_rfl)) ?_
  refine wpS_store rfl rfl rfl CellsOf.agg hS ps0 st0_5 (by kernel_rfl) rfl (fun w hS hB => ?_)
  refine wpS_nil ?_
  refine QH_seq_k hK4 ?_
  refine wpC_ret ?_
  refine QH_ret rfl (RV.cell rfl (load_boxA ag_23 hS hs0 sg0_5) RV.nil) rfl ?_
  obtain rfl := Option.some.inj H
  replace hS := hS.cut 0
  exact ⟨rfl, hS⟩
theorem c_ref06_Fine (x0 : St) (w0 : World) {r : Bool} (H : m_ref06_Fine x0 = some r) : Calls Try.prog 6 #[.agg #[.int .i64 x0.index, .int .i64 x0.term, .int .i64 x0.sum, .int .i64 x0.level, .bool x0.final]] w0 fun e w' => e = .returned (.bool r) ∧ St0 All w0 w' [] := by
  unfold m_ref06_Fine at H
  refine gw_enter1 Try.func6 rfl Try.ntmps6 rfl ?_
  have hS := St0.start All w0
  refine wpC_seq_k (fun K hK1 => ?_)
  refine wpC_region ?_
  refine wpS_box rfl rfl rfl CellsOf.agg hS (fun b2 w hS hB => ?_)
  refine wpS_quick 1 rfl ?_
  refine wpS_nil ?_
  refine QH_seq_k hK1 ?_
  refine wpC_seq_k (fun K hK4 => ?_)
  refine wpC_seq_k (fun K hK5 => ?_)
  refine wpC_region ?_
  refine wpS_put rfl rfl rfl (yv_fieldAddr fo_23_0 rfl) ?_
  refine wpS_put rfl rfl rfl (yv_load_box sc_3 rfl (RW.here _) hS hs0 trivial sg0_1) ?_
  obtain ⟨r6, hm7, H⟩ := bind_some H
  refine wpS_call rfl rfl rfl rfl (by kernel_rfl) rfl (c_ref06_number x0.index _ hm7) ?_
  rintro e w ⟨rfl, hN⟩; refine ⟨_, rfl, ?_⟩; have hB := hN.pure; have hS := hS.join hN; clear hN
  refine wpS_put rfl rfl rfl (yv_not rfl) ?_
  refine wpS_quick 1 rfl ?_
  refine wpS_case 7 rfl (fun hb => ?_) (fun hb => ?_)
  · replace H := cond_t H hb
    refine wpS_quick 39 rfl ?_
    refine wpS_nil ?_
    refine QH_seq_k hK5 ?_
    refine wpC_cond_t rfl rfl ?_
    refine wpC_seq_k (fun K hK8 => ?_)
    refine wpC_region ?_
    refine wpS_quick 1 rfl ?_
    refine wpS_nil ?_
    refine QH_seq_k hK8 ?_
    refine wpC_ret ?_
    refine QH_then_ret ?_
    refine QH_ret rfl (RV.tmp rfl RV.nil) rfl ?_
    obtain rfl := Option.some.inj H
    replace hS := hS.cut 0
    exact ⟨rfl, hS⟩
  replace H := cond_f H hb
  refine wpS_put rfl rfl rfl (yv_fieldAddr fo_23_1 rfl) ?_
  refine wpS_put rfl rfl rfl (yv_load_box sc_3 rfl (RW.here _) hS hs0 trivial sg1_1) ?_
  obtain ⟨r9, hm10, H⟩ := bind_some H
  refine wpS_call rfl rfl rfl rfl (by kernel_rfl) rfl (c_ref06_number x0.term _ hm10) ?_
  rintro e w ⟨rfl, hN⟩; refine ⟨_, rfl, ?_⟩; have hB := hN.pure; have hS := hS.join hN; clear hN
  refine wpS_put rfl rfl rfl (yv_not rfl) ?_
  refine wpS_quick 2 rfl ?_
  refine wpS_case 13 rfl (fun hb => ?_) (fun hb => ?_)
  · replace H := cond_t H hb
    refine wpS_quick 33 rfl ?_
    refine wpS_nil ?_
    refine QH_seq_k hK5 ?_
    refine wpC_cond_t rfl rfl ?_
    refine wpC_seq_k (fun K hK11 => ?_)
    refine wpC_region ?_
    refine wpS_quick 1 rfl ?_
    refine wpS_nil ?_
    refine QH_seq_k hK11 ?_
    refine wpC_ret ?_
    refine QH_then_ret ?_
    refine QH_ret rfl (RV.tmp rfl RV.nil) rfl ?_
    obtain rfl := Option.some.inj H
    replace hS := hS.cut 0
    exact ⟨rfl, hS⟩
  replace H := cond_f H hb
  refine wpS_put rfl rfl rfl (yv_fieldAddr fo_23_2 rfl) ?_
  refine wpS_put rfl rfl rfl (yv_load_box sc_3 rfl (RW.here _) hS hs0 trivial sg2_1) ?_
  obtain ⟨r12, hm13, H⟩ := bind_some H
  refine wpS_call rfl rfl rfl rfl (by kernel_rfl) rfl (c_ref06_number x0.sum _ hm13) ?_
  rintro e w ⟨rfl, hN⟩; refine ⟨_, rfl, ?_⟩; have hB := hN.pure; have hS := hS.join hN; clear hN
  refine wpS_put rfl rfl rfl (yv_not rfl) ?_
  refine wpS_quick 2 rfl ?_
  refine wpS_case 19 rfl (fun hb => ?_) (fun hb => ?_)
  · replace H := cond_t H hb
    refine wpS_quick 27 rfl ?_
    refine wpS_nil ?_
    refine QH_seq_k hK5 ?_
    refine wpC_cond_t rfl rfl ?_
    refine wpC_seq_k (fun K hK14 => ?_)
    refine wpC_region ?_
    refine wpS_quick 1 rfl ?_
    refine wpS_nil ?_
    refine QH_seq_k hK14 ?_
    refine wpC_ret ?_
    refine QH_then_ret ?_
    refine QH_ret rfl (RV.tmp rfl RV.nil) rfl ?_
    obtain rfl := Option.some.inj H
    replace hS := hS.cut 0
    exact ⟨rfl, hS⟩
  replace H := cond_f H hb
  refine wpS_put rfl rfl rfl (yv_fieldAddr fo_23_1 rfl) ?_
  refine wpS_put rfl rfl rfl (yv_load_box sc_3 rfl (RW.here _) hS hs0 trivial sg1_1) ?_
  refine wpS_put rfl rfl rfl (yv_eql rfl rfl) ?_
  refine wpS_put rfl rfl rfl (yv_fieldAddr fo_23_0 rfl) ?_
  refine wpS_put rfl rfl rfl (yv_load_box sc_3 rfl (RW.here _) hS hs0 trivial sg0_1) ?_
  refine wpS_put rfl rfl rfl (yv_eql rfl rfl) ?_
  refine wpS_put rfl rfl rfl (yv_neqB (by kernel_rfl) rfl rfl) ?_
  refine wpS_quick 2 rfl ?_
  refine wpS_case 28 rfl (fun hb => ?_) (fun hb => ?_)
  · replace H := cond_t H hb
    refine wpS_quick 18 rfl ?_
    refine wpS_nil ?_
    refine QH_seq_k hK5 ?_
    refine wpC_cond_t rfl rfl ?_
    refine wpC_seq_k (fun K hK15 => ?_)
    refine wpC_region ?_
    refine wpS_quick 1 rfl ?_
    refine wpS_nil ?_
    refine QH_seq_k hK15 ?_
    refine wpC_ret ?_
    refine QH_then_ret ?_
    refine QH_ret rfl (RV.tmp rfl RV.nil) rfl ?_
    obtain rfl := Option.some.inj H
    replace hS := hS.cut 0
    exact ⟨rfl, hS⟩
  replace H := cond_f H hb
  refine wpS_put rfl rfl rfl (yv_fieldAddr fo_23_3 rfl) ?_
  refine wpS_put rfl rfl rfl (yv_load_box sc_3 rfl (RW.here _) hS hs0 trivial sg3_1) ?_
  refine wpS_put rfl rfl rfl (yv_neq rfl rfl) ?_
  refine wpS_quick 1 rfl ?_
  refine wpS_case 32 rfl (fun hb => ?_) (fun hb => ?_)
  rotate_left
  · replace H := cond_f H hb
    refine wpS_quick 6 rfl ?_
    refine wpS_put rfl rfl rfl (yv_fieldAddr fo_23_4 rfl) ?_
    refine wpS_put rfl rfl rfl (yv_load_box sc_4 rfl (RW.here _) hS hs0 trivial sg4_1) ?_
    refine wpS_quick 1 rfl ?_
    refine wpS_case 41 rfl (fun hb => ?_) (fun hb => ?_)
    rotate_left
    · replace H := cond_f H hb
      refine wpS_quick 5 rfl ?_
      refine wpS_nil ?_
      refine QH_seq_k hK5 ?_
      refine wpC_cond_f rfl rfl ?_
      refine wpC_skip ?_
      refine QH_seq_k hK4 ?_
      refine wpC_seq_k (fun K hK28 => ?_)
      refine wpC_draw 9 [] (fun _ _ => True) ⟨by kernel_rfl, by kernel_rfl⟩ hS (fun w hS hB => ?_)
      refine wpR_batch [true, true, true, true] (by decide +kernel) (by repeat (first | exact PF.body | exact PF.round | apply PF.then | apply PF.inBlock | apply PF.jump)) ?_
      refine LtK.put rfl rfl rfl (yv_fieldAddr fo_23_0 rfl) ?_
      refine LtK.put rfl rfl rfl (yv_load_box sc_3 rfl (RW.below _) hS hs0 trivial sg0_1) ?_
      refine LtK.put rfl rfl rfl (yv_gtr rfl rfl) ?_
      refine LtK.put rfl rfl rfl (yv_move rfl) ?_
      refine LtK.nil ?_
      refine wpR_case 50 rfl (fun hb => ?_) (fun hb => ?_)
      · replace H := cond_t H hb
        refine wpR_batch [false, false, false, false, true] (by decide +kernel) (by repeat (first | exact PF.body | exact PF.round | apply PF.then | apply PF.inBlock | apply PF.jump)) ?_
        refine LtK.skip rfl rfl rfl ?_
        refine LtK.nil ?_
        refine wpR_call [false, false, false, false, false, true] 5 ⟨by decide, by kernel_rfl, by kernel_rfl⟩ rfl rfl ?_
        try dsimp only [pickL]
        refine wpS_skip rfl rfl rfl ?_
        refine wpS_nil ?_
        refine QH_step (Below.refl _ _) ?_
        refine wpR_batch [false, false, false, false, false, false, true, true, true] (by decide +kernel) (by repeat (first | exact PF.body | exact PF.round | apply PF.then | apply PF.inBlock | apply PF.jump)) ?_
        refine LtK.skip rfl rfl rfl ?_
        refine LtK.put rfl rfl rfl (yv_pick_t rfl rfl rfl) ?_
        refine LtK.put rfl rfl rfl (yv_assign rfl) ?_
        refine LtK.nil ?_
        refine wpR_end (by kernel_rfl) ?_
        refine QH_seq_k hK28 ?_
        refine wpC_ret ?_
        refine QH_ret rfl (RV.tmp rfl RV.nil) rfl ?_
        obtain rfl := Option.some.inj H
        replace hS := hS.cut 0
        exact ⟨rfl, hS⟩
      replace H := cond_f H hb
      refine wpR_batch [false, false, false, false, true] (by decide +kernel) (by repeat (first | exact PF.body | exact PF.round | apply PF.then | apply PF.inBlock | apply PF.jump)) ?_
      refine LtK.put rfl rfl rfl (yv_load_boxA ag_23 rfl (RW.below _) hS hs0 trivial sg0_5) ?_
      refine LtK.nil ?_
      refine wpR_call [false, false, false, false, false, true] 5 ⟨by decide, by kernel_rfl, by kernel_rfl⟩ rfl rfl ?_
      try dsimp only [pickL]
      obtain ⟨r29, hm30, H⟩ := bind_some H
      refine wpS_call rfl rfl rfl rfl (by kernel_rfl) rfl (c_ref06_First _ hm30) ?_
      rintro e w ⟨rfl, hN⟩; refine ⟨_, rfl, ?_⟩; have hB := hN.pure; have hS := hS.join hN; clear hN
      refine wpS_nil ?_
      refine QH_step hB ?_
      refine wpR_batch [false, false, false, false, false, false, true, true, true] (by decide +kernel) (by repeat (first | exact PF.body | exact PF.round | apply PF.then | apply PF.inBlock | apply PF.jump)) ?_
      refine LtK.put rfl rfl rfl (yv_eqlS (by kernel_rfl) rfl rfl (eqT_23 _ _ _ _ _ _ _ _ _ _)) ?_
      refine LtK.put rfl rfl rfl (yv_pick_f rfl rfl rfl) ?_
      refine LtK.put rfl rfl rfl (yv_assign rfl) ?_
      refine LtK.nil ?_
      refine wpR_end (by kernel_rfl) ?_
      refine QH_seq_k hK28 ?_
      refine wpC_ret ?_
      refine QH_ret rfl (RV.tmp rfl RV.nil) rfl ?_
      obtain rfl := Option.some.inj H
      replace hS := hS.cut 0
      exact ⟨rfl, hS⟩
    replace H := cond_t H hb
    refine wpS_put rfl rfl rfl (yv_fieldAddr fo_23_3 rfl) ?_
    refine wpS_put rfl rfl rfl (yv_load_box sc_3 rfl (RW.here _) hS hs0 trivial sg3_1) ?_
    refine wpS_put rfl rfl rfl (yv_neq rfl rfl) ?_
    refine wpS_quick 2 rfl ?_
    refine wpS_nil ?_
    refine QH_seq_k hK5 ?_
    refine wpC_cond rfl (fun hb => ?_) (fun hb => ?_)
    · replace H := cond_t H hb
      refine wpC_seq_k (fun K hK24 => ?_)
      refine wpC_region ?_
      refine wpS_quick 1 rfl ?_
      refine wpS_nil ?_
      refine QH_seq_k hK24 ?_
      refine wpC_ret ?_
      refine QH_then_ret ?_
      refine QH_ret rfl (RV.tmp rfl RV.nil) rfl ?_
      obtain rfl := Option.some.inj H
      replace hS := hS.cut 0
      exact ⟨rfl, hS⟩
    replace H := cond_f H hb
    refine wpC_skip ?_
    refine QH_seq_k hK4 ?_
    refine wpC_seq_k (fun K hK25 => ?_)
    refine wpC_draw 9 [] (fun _ _ => True) ⟨by kernel_rfl, by kernel_rfl⟩ hS (fun w hS hB => ?_)
    refine wpR_batch [true, true, true, true] (by decide +kernel) (by repeat (first | exact PF.body | exact PF.round | apply PF.then | apply PF.inBlock | apply PF.jump)) ?_
    refine LtK.put rfl rfl rfl (yv_fieldAddr fo_23_0 rfl) ?_
    refine LtK.put rfl rfl rfl (yv_load_box sc_3 rfl (RW.below _) hS hs0 trivial sg0_1) ?_
    refine LtK.put rfl rfl rfl (yv_gtr rfl rfl) ?_
    refine LtK.put rfl rfl rfl (yv_move rfl) ?_
    refine LtK.nil ?_
    refine wpR_case 50 rfl (fun hb => ?_) (fun hb => ?_)
    · replace H := cond_t H hb
      refine wpR_batch [false, false, false, false, true] (by decide +kernel) (by repeat (first | exact PF.body | exact PF.round | apply PF.then | apply PF.inBlock | apply PF.jump)) ?_
      refine LtK.skip rfl rfl rfl ?_
      refine LtK.nil ?_
      refine wpR_call [false, false, false, false, false, true] 5 ⟨by decide, by kernel_rfl, by kernel_rfl⟩ rfl rfl ?_
      try dsimp only [pickL]
      refine wpS_skip rfl rfl rfl ?_
      refine wpS_nil ?_
      refine QH_step (Below.refl _ _) ?_
      refine wpR_batch [false, false, false, false, false, false, true, true, true] (by decide +kernel) (by repeat (first | exact PF.body | exact PF.round | apply PF.then | apply PF.inBlock | apply PF.jump)) ?_
      refine LtK.skip rfl rfl rfl ?_
      refine LtK.put rfl rfl rfl (yv_pick_t rfl rfl rfl) ?_
      refine LtK.put rfl rfl rfl (yv_assign rfl) ?_
      refine LtK.nil ?_
      refine wpR_end (by kernel_rfl) ?_
      refine QH_seq_k hK25 ?_
      refine wpC_ret ?_
      refine QH_ret rfl (RV.tmp rfl RV.nil) rfl ?_
      obtain rfl := Option.some.inj H
      replace hS := hS.cut 0
      exact ⟨rfl, hS⟩
    replace H := cond_f H hb
    refine wpR_batch [false, false, false, false, true] (by decide +kernel) (by repeat (first | exact PF.body | exact PF.round | apply PF.then | apply PF.inBlock | apply PF.jump)) ?_
    refine LtK.put rfl rfl rfl (yv_load_boxA ag_23 rfl (RW.below _) hS hs0 trivial sg0_5) ?_
    refine LtK.nil ?_
    refine wpR_call [false, false, false, false, false, true] 5 ⟨by decide, by kernel_rfl, by kernel_rfl⟩ rfl rfl ?_
    try dsimp only [pickL]
    obtain ⟨r26, hm27, H⟩ := bind_some H
    refine wpS_call rfl rfl rfl rfl (by kernel_rfl) rfl (c_ref06_First _ hm27) ?_
    rintro e w ⟨rfl, hN⟩; refine ⟨_, rfl, ?_⟩; have hB := hN.pure; have hS := hS.join hN; clear hN
    refine wpS_nil ?_
    refine QH_step hB ?_
    refine wpR_batch [false, false, false, false, false, false, true, true, true] (by decide +kernel) (by repeat (first | exact PF.body | exact PF.round | apply PF.then | apply PF.inBlock | apply PF.jump)) ?_
    refine LtK.put rfl rfl rfl (yv_eqlS (by kernel_rfl) rfl rfl (eqT_23 _ _ _ _ _ _ _ _ _ _)) ?_
    refine LtK.put rfl rfl rfl (yv_pick_f rfl rfl rfl) ?_
    refine LtK.put rfl rfl rfl (yv_assign rfl) ?_
    refine LtK.nil ?_
    refine wpR_end (by kernel_rfl) ?_
    refine QH_seq_k hK25 ?_
    refine wpC_ret ?_
    refine QH_ret rfl (RV.tmp rfl RV.nil) rfl ?_
    obtain rfl := Option.some.inj H
    replace hS := hS.cut 0
    exact ⟨rfl, hS⟩
  replace H := cond_t H hb
  refine wpS_put rfl rfl rfl (yv_fieldAddr fo_23_3 rfl) ?_
  refine wpS_put rfl rfl rfl (yv_load_box sc_3 rfl (RW.here _) hS hs0 trivial sg3_1) ?_
  refine wpS_put rfl rfl rfl (yv_neq rfl rfl) ?_
  refine wpS_quick 3 rfl ?_
  refine wpS_case 38 rfl (fun hb => ?_) (fun hb => ?_)
  · replace H := cond_t H hb
    refine wpS_quick 8 rfl ?_
    refine wpS_nil ?_
    refine QH_seq_k hK5 ?_
    refine wpC_cond_t rfl rfl ?_
    refine wpC_seq_k (fun K hK16 => ?_)
    refine wpC_region ?_
    refine wpS_quick 1 rfl ?_
    refine wpS_nil ?_
    refine QH_seq_k hK16 ?_
    refine wpC_ret ?_
    refine QH_then_ret ?_
    refine QH_ret rfl (RV.tmp rfl RV.nil) rfl ?_
    obtain rfl := Option.some.inj H
    replace hS := hS.cut 0
    exact ⟨rfl, hS⟩
  replace H := cond_f H hb
  refine wpS_put rfl rfl rfl (yv_fieldAddr fo_23_4 rfl) ?_
  refine wpS_put rfl rfl rfl (yv_load_box sc_4 rfl (RW.here _) hS hs0 trivial sg4_1) ?_
  refine wpS_quick 1 rfl ?_
  refine wpS_case 41 rfl (fun hb => ?_) (fun hb => ?_)
  rotate_left
  · replace H := cond_f H hb
    refine wpS_quick 5 rfl ?_
    refine wpS_nil ?_
    refine QH_seq_k hK5 ?_
    refine wpC_cond_f rfl rfl ?_
    refine wpC_skip ?_
    refine QH_seq_k hK4 ?_
    refine wpC_seq_k (fun K hK21 => ?_)
    refine wpC_draw 9 [] (fun _ _ => True) ⟨by kernel_rfl, by kernel_rfl⟩ hS (fun w hS hB => ?_)
    refine wpR_batch [true, true, true, true] (by decide +kernel) (by repeat (first | exact PF.body | exact PF.round | apply PF.then | apply PF.inBlock | apply PF.jump)) ?_
    refine LtK.put rfl rfl rfl (yv_fieldAddr fo_23_0 rfl) ?_
    refine LtK.put rfl rfl rfl (yv_load_box sc_3 rfl (RW.below _) hS hs0 trivial sg0_1) ?_
    refine LtK.put rfl rfl rfl (yv_gtr rfl rfl) ?_
    refine LtK.put rfl rfl rfl (yv_move rfl) ?_
    refine LtK.nil ?_
    refine wpR_case 50 rfl (fun hb => ?_) (fun hb => ?_)
    · replace H := cond_t H hb
      refine wpR_batch [false, false, false, false, true] (by decide +kernel) (by repeat (first | exact PF.body | exact PF.round | apply PF.then | apply PF.inBlock | apply PF.jump)) ?_
      refine LtK.skip rfl rfl rfl ?_
      refine LtK.nil ?_
      refine wpR_call [false, false, false, false, false, true] 5 ⟨by decide, by kernel_rfl, by kernel_rfl⟩ rfl rfl ?_
      try dsimp only [pickL]
      refine wpS_skip rfl rfl rfl ?_
      refine wpS_nil ?_
      refine QH_step (Below.refl _ _) ?_
      refine wpR_batch [false, false, false, false, false, false, true, true, true] (by decide +kernel) (by repeat (first | exact PF.body | exact PF.round | apply PF.then | apply PF.inBlock | apply PF.jump)) ?_
      refine LtK.skip rfl rfl rfl ?_
      refine LtK.put rfl rfl rfl (yv_pick_t rfl rfl rfl) ?_
      refine LtK.put rfl rfl rfl (yv_assign rfl) ?_
      refine LtK.nil ?_
      refine wpR_end (by kernel_rfl) ?_
      refine QH_seq_k hK21 ?_
      refine wpC_ret ?_
      refine QH_ret rfl (RV.tmp rfl RV.nil) rfl ?_
      obtain rfl := Option.some.inj H
      replace hS := hS.cut 0
      exact ⟨rfl, hS⟩
    replace H := cond_f H hb
    refine wpR_batch [false, false, false, false, true] (by decide +kernel) (by repeat (first | exact PF.body | exact PF.round | apply PF.then | apply PF.inBlock | apply PF.jump)) ?_
    refine LtK.put rfl rfl rfl (yv_load_boxA ag_23 rfl (RW.below _) hS hs0 trivial sg0_5) ?_
    refine LtK.nil ?_
    refine wpR_call [false, false, false, false, false, true] 5 ⟨by decide, by kernel_rfl, by kernel_rfl⟩ rfl rfl ?_
    try dsimp only [pickL]
    obtain ⟨r22, hm23, H⟩ := bind_some H
    refine wpS_call rfl rfl rfl rfl (by kernel_rfl) rfl (c_ref06_First _ hm23) ?_
    rintro e w ⟨rfl, hN⟩; refine ⟨_, rfl, ?_⟩; have hB := hN.pure; have hS := hS.join hN; clear hN
    refine wpS_nil ?_
    refine QH_step hB ?_
    refine wpR_batch [false, false, false, false, false, false, true, true, true] (by decide +kernel) (by repeat (first | exact PF.body | exact PF.round | apply PF.then | apply PF.inBlock | apply PF.jump)) ?_
    refine LtK.put rfl rfl rfl (yv_eqlS (by kernel_rfl) rfl rfl (eqT_23 _ _ _ _ _ _ _ _ _ _)) ?_
    refine LtK.put rfl rfl rfl (yv_pick_f rfl rfl rfl) ?_
    refine LtK.put rfl rfl rfl (yv_assign rfl) ?_
    refine LtK.nil ?_
    refine wpR_end (by kernel_rfl) ?_
    refine QH_seq_k hK21 ?_
    refine wpC_ret ?_
    refine QH_ret rfl (RV.tmp rfl RV.nil) rfl ?_
    obtain rfl := Option.some.inj H
    replace hS := hS.cut 0
    exact ⟨rfl, hS⟩
  replace H := cond_t H hb
  refine wpS_put rfl rfl rfl (yv_fieldAddr fo_23_3 rfl) ?_
  refine wpS_put rfl rfl rfl (yv_load_box sc_3 rfl (RW.here _) hS hs0 trivial sg3_1) ?_
  refine wpS_put rfl rfl rfl (yv_neq rfl rfl) ?_
  refine wpS_quick 2 rfl ?_
  refine wpS_nil ?_
  refine QH_seq_k hK5 ?_
  refine wpC_cond rfl (fun hb => ?_) (fun hb => ?_)
  · replace H := cond_t H hb
    refine wpC_seq_k (fun K hK17 => ?_)
    refine wpC_region ?_
    refine wpS_quick 1 rfl ?_
    refine wpS_nil ?_
    refine QH_seq_k hK17 ?_
    refine wpC_ret ?_
    refine QH_then_ret ?_
    refine QH_ret rfl (RV.tmp rfl RV.nil) rfl ?_
    obtain rfl := Option.some.inj H
    replace hS := hS.cut 0
    exact ⟨rfl, hS⟩
  replace H := cond_f H hb
  refine wpC_skip ?_
  refine QH_seq_k hK4 ?_
  refine wpC_seq_k (fun K hK18 => ?_)
  refine wpC_draw 9 [] (fun _ _ => True) ⟨by kernel_rfl, by kernel_rfl⟩ hS (fun w hS hB => ?_)
  refine wpR_batch [true, true, true, true] (by decide +kernel) (by repeat (first | exact PF.body | exact PF.round | apply PF.then | apply PF.inBlock | apply PF.jump)) ?_
  refine LtK.put rfl rfl rfl (yv_fieldAddr fo_23_0 rfl) ?_
  refine LtK.put rfl rfl rfl (yv_load_box sc_3 rfl (RW.below _) hS hs0 trivial sg0_1) ?_
  refine LtK.put rfl rfl rfl (yv_gtr rfl rfl) ?_
  refine LtK.put rfl rfl rfl (yv_move rfl) ?_
  refine LtK.nil ?_
  refine wpR_case 50 rfl (fun hb => ?_) (fun hb => ?_)
  · replace H := cond_t H hb
    refine wpR_batch [false, false, false, false, true] (by decide +kernel) (by repeat (first | exact PF.body | exact PF.round | apply PF.then | apply PF.inBlock | apply PF.jump)) ?_
    refine LtK.skip rfl rfl rfl ?_
    refine LtK.nil ?_
    refine wpR_call [false, false, false, false, false, true] 5 ⟨by decide, by kernel_rfl, by kernel_rfl⟩ rfl rfl ?_
    try dsimp only [pickL]
    refine wpS_skip rfl rfl rfl ?_
    refine wpS_nil ?_
    refine QH_step (Below.refl _ _) ?_
    refine wpR_batch [false, false, false, false, false, false, true, true, true] (by decide +kernel) (by repeat (first | exact PF.body | exact PF.round | apply PF.then | apply PF.inBlock | apply PF.jump)) ?_
    refine LtK.skip rfl rfl rfl ?_
    refine LtK.put rfl rfl rfl (yv_pick_t rfl rfl rfl) ?_
    refine LtK.put rfl rfl rfl (yv_assign rfl) ?_
    refine LtK.nil ?_
    refine wpR_end (by kernel_rfl) ?_
    refine QH_seq_k hK18 ?_
    refine wpC_ret ?_
    refine QH_ret rfl (RV.tmp rfl RV.nil) rfl ?_
    obtain rfl := Option.some.inj H
    replace hS := hS.cut 0
    exact ⟨rfl, hS⟩
  replace H := cond_f H hb
  refine wpR_batch [false, false, false, false, true] (by decide +kernel) (by repeat (first | exact PF.body | exact PF.round | apply PF.then | apply PF.inBlock | apply PF.jump)) ?_
  refine LtK.put rfl rfl rfl (yv_load_boxA ag_23 rfl (RW.below _) hS hs0 trivial sg0_5) ?_
  refine LtK.nil ?_
  refine wpR_call [false, false, false, false, false, true] 5 ⟨by decide, by kernel_rfl, by kernel_rfl⟩ rfl rfl ?_
  try dsimp only [pickL]
  obtain ⟨r19, hm20, H⟩ := bind_some H
  refine wpS_call rfl rfl rfl rfl (by kernel_rfl) rfl (c_ref06_First _ hm20) ?_
  rintro e w ⟨rfl, hN⟩; refine ⟨_, rfl, ?_⟩; have hB := hN.pure; have hS := hS.join hN; clear hN
  refine wpS_nil ?_
  refine QH_step hB ?_
  refine wpR_batch [false, false, false, false, false, false, true, true, true] (by decide +kernel) (by repeat (first | exact PF.body | exact PF.round | apply PF.then | apply PF.inBlock | apply PF.jump)) ?_
  refine LtK.put rfl rfl rfl (yv_eqlS (by kernel_rfl) rfl rfl (eqT_23 _ _ _ _ _ _ _ _ _ _)) ?_
  refine LtK.put rfl rfl rfl (yv_pick_f rfl rfl rfl) ?_
  refine LtK.put rfl rfl rfl (yv_assign rfl) ?_
  refine LtK.nil ?_
  refine wpR_end (by kernel_rfl) ?_
  refine QH_seq_k hK18 ?_
  refine wpC_ret ?_
  refine QH_ret rfl (RV.tmp rfl RV.nil) rfl ?_
  obtain rfl := Option.some.inj H
  replace hS := hS.cut 0
  exact ⟨rfl, hS⟩
theorem c_ref06_Right (x0 : En) (w0 : World) {r : Bool} (H : m_ref06_Right x0 = some r) : Calls Try.prog 13 #[.agg #[.int .i64 x0.term, .int .i64 x0.kind, .int .i64 x0.value]] w0 fun e w' => e = .returned (.bool r) ∧ St0 All w0 w' [] := by
  unfold m_ref06_Right at H
  refine gw_enter1 Try.func13 rfl Try.ntmps13 rfl ?_
  have hS := St0.start All w0
  refine wpC_seq_k (fun K hK1 => ?_)
  refine wpC_region ?_
  refine wpS_box rfl rfl rfl CellsOf.agg hS (fun b2 w hS hB => ?_)
  refine wpS_quick 1 rfl ?_
  refine wpS_nil ?_
  refine QH_seq_k hK1 ?_
  refine wpC_seq_k (fun K hK4 => ?_)
  refine wpC_region ?_
  refine wpS_put rfl rfl rfl (yv_fieldAddr fo_30_0 rfl) ?_
  refine wpS_put rfl rfl rfl (yv_load_box sc_3 rfl (RW.here _) hS hs0 trivial sg0_1) ?_
  refine wpS_put rfl rfl rfl (yv_geq rfl rfl) ?_
  refine wpS_quick 1 rfl ?_
  refine wpS_case 6 rfl (fun hb => ?_) (fun hb => ?_)
  rotate_left
  · replace H := cond_f H hb
    refine wpS_quick 30 rfl ?_
    refine wpS_nil ?_
    refine QH_seq_k hK4 ?_
    refine wpC_ret ?_
    refine QH_ret rfl (RV.tmp rfl RV.nil) rfl ?_
    obtain rfl := Option.some.inj H
    replace hS := hS.cut 0
    exact ⟨rfl, hS⟩
  replace H := cond_t H hb
  refine wpS_put rfl rfl rfl (yv_fieldAddr fo_30_0 rfl) ?_
  refine wpS_put rfl rfl rfl (yv_load_box sc_3 rfl (RW.here _) hS hs0 trivial sg0_1) ?_
  obtain ⟨r5, hm6, H⟩ := bind_some H
  refine wpS_call rfl rfl rfl rfl (by kernel_rfl) rfl (c_ref06_number x0.term _ hm6) ?_
  rintro e w ⟨rfl, hN⟩; refine ⟨_, rfl, ?_⟩; have hB := hN.pure; have hS := hS.join hN; clear hN
  refine wpS_quick 2 rfl ?_
  refine wpS_case 11 rfl (fun hb => ?_) (fun hb => ?_)
  rotate_left
  · replace H := cond_f H hb
    refine wpS_quick 25 rfl ?_
    refine wpS_nil ?_
    refine QH_seq_k hK4 ?_
    refine wpC_ret ?_
    refine QH_ret rfl (RV.tmp rfl RV.nil) rfl ?_
    obtain rfl := Option.some.inj H
    replace hS := hS.cut 0
    exact ⟨rfl, hS⟩
  replace H := cond_t H hb
  refine wpS_put rfl rfl rfl (yv_fieldAddr fo_30_1 rfl) ?_
  refine wpS_put rfl rfl rfl (yv_load_box sc_3 rfl (RW.here _) hS hs0 trivial sg1_1) ?_
  refine wpS_put rfl rfl rfl (yv_geq rfl rfl) ?_
  refine wpS_quick 2 rfl ?_
  refine wpS_case 16 rfl (fun hb => ?_) (fun hb => ?_)
  rotate_left
  · replace H := cond_f H hb
    refine wpS_quick 20 rfl ?_
    refine wpS_nil ?_
    refine QH_seq_k hK4 ?_
    refine wpC_ret ?_
    refine QH_ret rfl (RV.tmp rfl RV.nil) rfl ?_
    obtain rfl := Option.some.inj H
    replace hS := hS.cut 0
    exact ⟨rfl, hS⟩
  replace H := cond_t H hb
  refine wpS_put rfl rfl rfl (yv_fieldAddr fo_30_1 rfl) ?_
  refine wpS_put rfl rfl rfl (yv_load_box sc_3 rfl (RW.here _) hS hs0 trivial sg1_1) ?_
  refine wpS_put rfl rfl rfl (yv_lss rfl rfl) ?_
  refine wpS_quick 2 rfl ?_
  refine wpS_case 21 rfl (fun hb => ?_) (fun hb => ?_)
  rotate_left
  · replace H := cond_f H hb
    refine wpS_quick 15 rfl ?_
    refine wpS_nil ?_
    refine QH_seq_k hK4 ?_
    refine wpC_ret ?_
    refine QH_ret rfl (RV.tmp rfl RV.nil) rfl ?_
    obtain rfl := Option.some.inj H
    replace hS := hS.cut 0
    exact ⟨rfl, hS⟩
  replace H := cond_t H hb
  refine wpS_put rfl rfl rfl (yv_fieldAddr fo_30_2 rfl) ?_
  refine wpS_put rfl rfl rfl (yv_load_box sc_3 rfl (RW.here _) hS hs0 trivial sg2_1) ?_
  obtain ⟨r7, hm8, H⟩ := bind_some H
  refine wpS_call rfl rfl rfl rfl (by kernel_rfl) rfl (c_ref06_number x0.value _ hm8) ?_
  rintro e w ⟨rfl, hN⟩; refine ⟨_, rfl, ?_⟩; have hB := hN.pure; have hS := hS.join hN; clear hN
  refine wpS_quick 2 rfl ?_
  refine wpS_case 26 rfl (fun hb => ?_) (fun hb => ?_)
  rotate_left
  · replace H := cond_f H hb
    refine wpS_quick 10 rfl ?_
    refine wpS_nil ?_
    refine QH_seq_k hK4 ?_
    refine wpC_ret ?_
    refine QH_ret rfl (RV.tmp rfl RV.nil) rfl ?_
    obtain rfl := Option.some.inj H
    replace hS := hS.cut 0
    exact ⟨rfl, hS⟩
  replace H := cond_t H hb
  refine wpS_put rfl rfl rfl (yv_fieldAddr fo_30_1 rfl) ?_
  refine wpS_put rfl rfl rfl (yv_load_box sc_3 rfl (RW.here _) hS hs0 trivial sg1_1) ?_
  refine wpS_put rfl rfl rfl (yv_eql rfl rfl) ?_
  refine wpS_quick 1 rfl ?_
  refine wpS_case 30 rfl (fun hb => ?_) (fun hb => ?_)
  · replace H := cond_t H hb
    refine wpS_quick 6 rfl ?_
    refine wpS_nil ?_
    refine QH_seq_k hK4 ?_
    refine wpC_ret ?_
    refine QH_ret rfl (RV.tmp rfl RV.nil) rfl ?_
    obtain rfl := Option.some.inj H
    replace hS := hS.cut 0
    exact ⟨rfl, hS⟩
  replace H := cond_f H hb
  refine wpS_put rfl rfl rfl (yv_fieldAddr fo_30_2 rfl) ?_
  refine wpS_put rfl rfl rfl (yv_load_box sc_3 rfl (RW.here _) hS hs0 trivial sg2_1) ?_
  refine wpS_put rfl rfl rfl (yv_eql rfl rfl) ?_
  refine wpS_quick 3 rfl ?_
  refine wpS_nil ?_
  refine QH_seq_k hK4 ?_
  refine wpC_ret ?_
  refine QH_ret rfl (RV.tmp rfl RV.nil) rfl ?_
  obtain rfl := Option.some.inj H
  replace hS := hS.cut 0
  exact ⟨rfl, hS⟩
theorem c_ref06_Next (x0 : St) (x1 : En) (w0 : World) {r : St} (H : m_ref06_Next x0 x1 = some r) : Calls Try.prog 10 #[.agg #[.int .i64 x0.index, .int .i64 x0.term, .int .i64 x0.sum, .int .i64 x0.level, .bool x0.final], .agg #[.int .i64 x1.term, .int .i64 x1.kind, .int .i64 x1.value]] w0 fun e w' => e = .returned (.agg #[.int .i64 r.index, .int .i64 r.term, .int .i64 r.sum, .int .i64 r.level, .bool r.final]) ∧ St0 All w0 w' [] := by
  unfold m_ref06_Next at H
  refine gw_enter2 Try.func10 rfl Try.ntmps10 rfl ?_
  have hS := St0.start All w0
  refine wpC_seq_k (fun K hK1 => ?_)
  refine wpC_region ?_
  refine wpS_box rfl rfl rfl CellsOf.agg hS (fun b2 w hS hB => ?_)
  refine wpS_box rfl rfl rfl CellsOf.agg hS (fun b4 w hS hB => ?_)
  refine wpS_alloc rfl rfl zc_23 hS (fun b6 w hS hB => ?_)
  refine wpS_nil ?_
  refine QH_seq_k hK1 ?_
  refine wpC_seq_k (fun K hK8 => ?_)
  refine wpC_seq_k (fun K hK9 => ?_)
  refine wpC_region ?_
  refine wpS_put rfl rfl rfl (yv_load_boxA ag_30 rfl (RW.here _) hS hs1 trivial sg0_3) ?_
  obtain ⟨r10, hm11, H⟩ := bind_some H
  refine wpS_call rfl rfl rfl rfl (by kernel_rfl) rfl (c_ref06_Right x1 _ hm11) ?_
  rintro e w ⟨rfl, hN⟩; refine ⟨_, rfl, ?_⟩; have hB := hN.pure; have hS := hS.join hN; clear hN
  refine wpS_put rfl rfl rfl (yv_not rfl) ?_
  refine wpS_quick 1 rfl ?_
  refine wpS_case 8 rfl (fun hb => ?_) (fun hb => ?_)
  · replace H := cond_t H hb
    refine wpS_quick 9 rfl ?_
    refine wpS_nil ?_
    refine QH_seq_k hK9 ?_
    refine wpC_cond_t rfl rfl ?_
    refine wpC_seq_k (fun K hK12 => ?_)
    refine wpC_region ?_
    refine wpS_put rfl rfl rfl (yv_load_boxA ag_23 rfl (RW.here _) hS hs2 trivial sg0_5) ?_
    refine wpS_store rfl rfl rfl CellsOf.agg hS ps0 st0_5 (by kernel_rfl) rfl (fun w hS hB => ?_)
    refine wpS_nil ?_
    refine QH_seq_k hK12 ?_
    refine wpC_ret ?_
    refine QH_then_ret ?_
    refine QH_ret rfl (RV.cell rfl (load_boxA ag_23 hS hs0 sg0_5) RV.nil) rfl ?_
    obtain rfl := Option.some.inj H
    replace hS := hS.cut 0
    exact ⟨rfl, hS⟩
  replace H := cond_f H hb
  refine wpS_put rfl rfl rfl (yv_load_boxA ag_23 rfl (RW.here _) hS hs2 trivial sg0_5) ?_
  obtain ⟨r13, hm14, H⟩ := bind_some H
  refine wpS_call rfl rfl rfl rfl (by kernel_rfl) rfl (c_ref06_Fine x0 _ hm14) ?_
  rintro e w ⟨rfl, hN⟩; refine ⟨_, rfl, ?_⟩; have hB := hN.pure; have hS := hS.join hN; clear hN
  refine wpS_put rfl rfl rfl (yv_not rfl) ?_
  refine wpS_quick 2 rfl ?_
  refine wpS_case 13 rfl (fun hb => ?_) (fun hb => ?_)
  · replace H := cond_t H hb
    refine wpS_quick 4 rfl ?_
    refine wpS_nil ?_
    refine QH_seq_k hK9 ?_
    refine wpC_cond_t rfl rfl ?_
    refine wpC_seq_k (fun K hK15 => ?_)
    refine wpC_region ?_
    refine wpS_put rfl rfl rfl (yv_load_boxA ag_23 rfl (RW.here _) hS hs2 trivial sg0_5) ?_
    refine wpS_store rfl rfl rfl CellsOf.agg hS ps0 st0_5 (by kernel_rfl) rfl (fun w hS hB => ?_)
    refine wpS_nil ?_
    refine QH_seq_k hK15 ?_
    refine wpC_ret ?_
    refine QH_then_ret ?_
    refine QH_ret rfl (RV.cell rfl (load_boxA ag_23 hS hs0 sg0_5) RV.nil) rfl ?_
    obtain rfl := Option.some.inj H
    replace hS := hS.cut 0
    exact ⟨rfl, hS⟩
  replace H := cond_f H hb
  refine wpS_put rfl rfl rfl (yv_fieldAddr fo_23_0 rfl) ?_
  refine wpS_put rfl rfl rfl (yv_load_box sc_3 rfl (RW.here _) hS hs2 trivial sg0_1) ?_
  refine wpS_put rfl rfl rfl (yv_geq rfl rfl) ?_
  refine wpS_quick 1 rfl ?_
  refine wpS_nil ?_
  refine QH_seq_k hK9 ?_
  refine wpC_cond rfl (fun hb => ?_) (fun hb => ?_)
  · replace H := cond_t H hb
    refine wpC_seq_k (fun K hK16 => ?_)
    refine wpC_region ?_
    refine wpS_put rfl rfl rfl (yv_load_boxA ag_23 rfl (RW.here _) hS hs2 trivial sg0_5) ?_
    refine wpS_store rfl rfl rfl CellsOf.agg hS ps0 st0_5 (by kernel_rfl) rfl (fun w hS hB => ?_)
    refine wpS_nil ?_
    refine QH_seq_k hK16 ?_
    refine wpC_ret ?_
    refine QH_then_ret ?_
    refine QH_ret rfl (RV.cell rfl (load_boxA ag_23 hS hs0 sg0_5) RV.nil) rfl ?_
    obtain rfl := Option.some.inj H
    replace hS := hS.cut 0
    exact ⟨rfl, hS⟩
  replace H := cond_f H hb
  refine wpC_skip ?_
  refine QH_seq_k hK8 ?_
  refine wpC_seq_k (fun K hK17 => ?_)
  refine wpC_region ?_
  refine wpS_put rfl rfl rfl (yv_fieldAddr fo_23_0 rfl) ?_
  refine wpS_put rfl rfl rfl (yv_load_box sc_3 rfl (RW.here _) hS hs2 trivial sg0_1) ?_
  refine wpS_put rfl rfl rfl (yx_add rfl rfl) ?_
  refine wpS_put rfl rfl rfl (yv_fieldAddr fo_23_0 rfl) ?_
  refine wpS_store rfl rfl rfl CellsOf.int hS ps2 st0_1 (by kernel_rfl) rfl (fun w hS hB => ?_)
  refine wpS_nil ?_
  refine QH_seq_k hK17 ?_
  refine wpC_seq_k (fun K hK18 => ?_)
  refine wpC_region ?_
  refine wpS_put rfl rfl rfl (yv_fieldAddr fo_30_0 rfl) ?_
  refine wpS_put rfl rfl rfl (yv_load_box sc_3 rfl (RW.here _) hS hs1 trivial sg0_1) ?_
  refine wpS_put rfl rfl rfl (yv_fieldAddr fo_23_1 rfl) ?_
  refine wpS_store rfl rfl rfl CellsOf.int hS ps2 st1_1 (by kernel_rfl) rfl (fun w hS hB => ?_)
  refine wpS_nil ?_
  refine QH_seq_k hK18 ?_
  refine wpC_seq_k (fun K hK19 => ?_)
  refine wpC_seq_k (fun K hK20 => ?_)
  refine wpC_region ?_
  refine wpS_put rfl rfl rfl (yv_fieldAddr fo_30_1 rfl) ?_
  refine wpS_put rfl rfl rfl (yv_load_box sc_3 rfl (RW.here _) hS hs1 trivial sg1_1) ?_
  refine wpS_nil ?_
  refine QH_seq_k hK20 ?_
  refine wpC_block ?_
  refine wpC_seq_k (fun K hK21 => ?_)
  refine wpC_region ?_
  refine wpS_put rfl rfl rfl (yv_eql rfl rfl) ?_
  refine wpS_quick 1 rfl ?_
  refine wpS_nil ?_
  refine QH_seq_k hK21 ?_
  refine wpC_cond rfl (fun hb => ?_) (fun hb => ?_)
  · replace H := cond_t H hb
    refine wpC_region ?_
    refine wpS_put rfl rfl rfl (yv_fieldAddr fo_23_2 rfl) ?_
    refine wpS_put rfl rfl rfl (yv_load_box sc_3 rfl (RW.here _) hS hs2 trivial sg2_1) ?_
    refine wpS_put rfl rfl rfl (yx_mul rfl rfl) ?_
    refine wpS_put rfl rfl rfl (yv_fieldAddr fo_30_2 rfl) ?_
    refine wpS_put rfl rfl rfl (yv_load_box sc_3 rfl (RW.here _) hS hs1 trivial sg2_1) ?_
    refine wpS_put rfl rfl rfl (yx_add rfl rfl) ?_
    refine wpS_put rfl rfl rfl (yx_add rfl rfl) ?_
    refine wpS_put rfl rfl rfl (yx_rem rfl rfl (by decide)) ?_
    refine wpS_put rfl rfl rfl (yv_fieldAddr fo_23_2 rfl) ?_
    refine wpS_store rfl rfl rfl CellsOf.int hS ps2 st2_1 (by kernel_rfl) rfl (fun w hS hB => ?_)
    refine wpS_nil ?_
    refine QH_block_normal ?_
    refine QH_seq_k hK19 ?_
    refine wpC_seq_k (fun K hK22 => ?_)
    refine wpC_region ?_
    refine wpS_put rfl rfl rfl (yv_load_boxA ag_23 rfl (RW.here _) hS hs2 trivial sg0_5) ?_
    refine wpS_store rfl rfl rfl CellsOf.agg hS ps0 st0_5 (by kernel_rfl) rfl (fun w hS hB => ?_)
    refine wpS_nil ?_
    refine QH_seq_k hK22 ?_
    refine wpC_ret ?_
    refine QH_ret rfl (RV.cell rfl (load_boxA ag_23 hS hs0 sg0_5) RV.nil) rfl ?_
    obtain rfl := Option.some.inj H
    replace hS := hS.cut 0
    exact ⟨rfl, hS⟩
  replace H := cond_f H hb
  refine wpC_seq_k (fun K hK23 => ?_)
  refine wpC_region ?_
  refine wpS_put rfl rfl rfl (yv_eql rfl rfl) ?_
  refine wpS_quick 1 rfl ?_
  refine wpS_nil ?_
  refine QH_seq_k hK23 ?_
  refine wpC_cond rfl (fun hb => ?_) (fun hb => ?_)
  · replace H := cond_t H hb
    refine wpC_region ?_
    refine wpS_put rfl rfl rfl (yv_fieldAddr fo_23_3 rfl) ?_
    refine wpS_store rfl rfl rfl CellsOf.int hS ps2 st3_1 (by kernel_rfl) rfl (fun w hS hB => ?_)
    refine wpS_nil ?_
    refine QH_block_normal ?_
    refine QH_seq_k hK19 ?_
    refine wpC_seq_k (fun K hK24 => ?_)
    refine wpC_region ?_
    refine wpS_put rfl rfl rfl (yv_load_boxA ag_23 rfl (RW.here _) hS hs2 trivial sg0_5) ?_
    refine wpS_store rfl rfl rfl CellsOf.agg hS ps0 st0_5 (by kernel_rfl) rfl (fun w hS hB => ?_)
    refine wpS_nil ?_
    refine QH_seq_k hK24 ?_
    refine wpC_ret ?_
    refine QH_ret rfl (RV.cell rfl (load_boxA ag_23 hS hs0 sg0_5) RV.nil) rfl ?_
    obtain rfl := Option.some.inj H
    replace hS := hS.cut 0
    exact ⟨rfl, hS⟩
  replace H := cond_f H hb
  refine wpC_seq_k (fun K hK25 => ?_)
  refine wpC_region ?_
  refine wpS_put rfl rfl rfl (yv_eql rfl rfl) ?_
  refine wpS_quick 1 rfl ?_
  refine wpS_nil ?_
  refine QH_seq_k hK25 ?_
  refine wpC_cond rfl (fun hb => ?_) (fun hb => ?_)
  · replace H := cond_t H hb
    refine wpC_seq_k (fun K hK26 => ?_)
    refine wpC_region ?_
    refine wpS_put rfl rfl rfl (yv_fieldAddr fo_23_4 rfl) ?_
    refine wpS_put rfl rfl rfl (yv_load_box sc_4 rfl (RW.here _) hS hs2 trivial sg4_1) ?_
    refine wpS_put rfl rfl rfl (yv_not rfl) ?_
    refine wpS_nil ?_
    refine QH_seq_k hK26 ?_
    refine wpC_cond rfl (fun hb => ?_) (fun hb => ?_)
    rotate_left
    · replace H := cond_f H hb
      refine wpC_skip ?_
      refine QH_block_normal ?_
      refine QH_seq_k hK19 ?_
      refine wpC_seq_k (fun K hK28 => ?_)
      refine wpC_region ?_
      refine wpS_put rfl rfl rfl (yv_load_boxA ag_23 rfl (RW.here _) hS hs2 trivial sg0_5) ?_
      refine wpS_store rfl rfl rfl CellsOf.agg hS ps0 st0_5 (by kernel_rfl) rfl (fun w hS hB => ?_)
      refine wpS_nil ?_
      refine QH_seq_k hK28 ?_
      refine wpC_ret ?_
      refine QH_ret rfl (RV.cell rfl (load_boxA ag_23 hS hs0 sg0_5) RV.nil) rfl ?_
      obtain rfl := Option.some.inj H
      replace hS := hS.cut 0
      exact ⟨rfl, hS⟩
    replace H := cond_t H hb
    refine wpC_region ?_
    refine wpS_put rfl rfl rfl (yv_fieldAddr fo_23_3 rfl) ?_
    refine wpS_store rfl rfl rfl CellsOf.int hS ps2 st3_1 (by kernel_rfl) rfl (fun w hS hB => ?_)
    refine wpS_nil ?_
    refine QH_block_normal ?_
    refine QH_seq_k hK19 ?_
    refine wpC_seq_k (fun K hK27 => ?_)
    refine wpC_region ?_
    refine wpS_put rfl rfl rfl (yv_load_boxA ag_23 rfl (RW.here _) hS hs2 trivial sg0_5) ?_
    refine wpS_store rfl rfl rfl CellsOf.agg hS ps0 st0_5 (by kernel_rfl) rfl (fun w hS hB => ?_)
    refine wpS_nil ?_
    refine QH_seq_k hK27 ?_
    refine wpC_ret ?_
    refine QH_ret rfl (RV.cell rfl (load_boxA ag_23 hS hs0 sg0_5) RV.nil) rfl ?_
    obtain rfl := Option.some.inj H
    replace hS := hS.cut 0
    exact ⟨rfl, hS⟩
  replace H := cond_f H hb
  refine wpC_seq_k (fun K hK29 => ?_)
  refine wpC_region ?_
  refine wpS_put rfl rfl rfl (yv_eql rfl rfl) ?_
  refine wpS_quick 1 rfl ?_
  refine wpS_nil ?_
  refine QH_seq_k hK29 ?_
  refine wpC_cond rfl (fun hb => ?_) (fun hb => ?_)
  rotate_left
  · replace H := cond_f H hb
    refine wpC_skip ?_
    refine QH_block_normal ?_
    refine QH_seq_k hK19 ?_
    refine wpC_seq_k (fun K hK31 => ?_)
    refine wpC_region ?_
    refine wpS_put rfl rfl rfl (yv_load_boxA ag_23 rfl (RW.here _) hS hs2 trivial sg0_5) ?_
    refine wpS_store rfl rfl rfl CellsOf.agg hS ps0 st0_5 (by kernel_rfl) rfl (fun w hS hB => ?_)
    refine wpS_nil ?_
    refine QH_seq_k hK31 ?_
    refine wpC_ret ?_
    refine QH_ret rfl (RV.cell rfl (load_boxA ag_23 hS hs0 sg0_5) RV.nil) rfl ?_
    obtain rfl := Option.some.inj H
    replace hS := hS.cut 0
    exact ⟨rfl, hS⟩
  replace H := cond_t H hb
  refine wpC_region ?_
  refine wpS_put rfl rfl rfl (yv_fieldAddr fo_23_3 rfl) ?_
  refine wpS_put rfl rfl rfl (yv_load_box sc_3 rfl (RW.here _) hS hs2 trivial sg3_1) ?_
  refine wpS_put rfl rfl rfl (yv_eql rfl rfl) ?_
  refine wpS_put rfl rfl rfl (yv_fieldAddr fo_23_4 rfl) ?_
  refine wpS_store rfl rfl rfl CellsOf.bool hS ps2 st4_1 (by kernel_rfl) rfl (fun w hS hB => ?_)
  refine wpS_nil ?_
  refine QH_block_normal ?_
  refine QH_seq_k hK19 ?_
  refine wpC_seq_k (fun K hK30 => ?_)
  refine wpC_region ?_
  refine wpS_put rfl rfl rfl (yv_load_boxA ag_23 rfl (RW.here _) hS hs2 trivial sg0_5) ?_
  refine wpS_store rfl rfl rfl CellsOf.agg hS ps0 st0_5 (by kernel_rfl) rfl (fun w hS hB => ?_)
  refine wpS_nil ?_
  refine QH_seq_k hK30 ?_
  refine wpC_ret ?_
  refine QH_ret rfl (RV.cell rfl (load_boxA ag_23 hS hs0 sg0_5) RV.nil) rfl ?_
  obtain rfl := Option.some.inj H
  replace hS := hS.cut 0
  exact ⟨rfl, hS⟩
theorem c_ref06_All (x0 : St) (x1 : List En) (A0_ : Option Addr) (c0_ : Nat) (w0 : World) (s0_ : SlI w0 enE A0_ c0_ x1) {r : St} (H : m_ref06_All x0 x1 = some r) : Calls Try.prog 15 #[.agg #[.int .i64 x0.index, .int .i64 x0.term, .int .i64 x0.sum, .int .i64 x0.level, .bool x0.final], .slice A0_ x1.length c0_] w0 fun e w' => e = .returned (.agg #[.int .i64 r.index, .int .i64 r.term, .int .i64 r.sum, .int .i64 r.level, .bool r.final]) ∧ St0 All w0 w' [] := by
  unfold m_ref06_All at H
  refine gw_enter2 Try.func15 rfl Try.ntmps15 rfl ?_
  have hS := St0.start All w0
  refine wpC_seq_k (fun K hK1 => ?_)
  refine wpC_region ?_
  refine wpS_box rfl rfl rfl CellsOf.agg hS (fun b2 w hS hB => ?_)
  refine wpS_alloc rfl rfl zc_23 hS (fun b4 w hS hB => ?_)
  refine wpS_nil ?_
  refine QH_seq_k hK1 ?_
  refine wpC_seq_k (fun K hK6 => ?_)
  refine wpC_seq_k (fun K hK7 => ?_)
  refine wpC_region ?_
  refine wpS_quick 1 rfl ?_
  refine wpS_nil ?_
  refine QH_seq_k hK7 ?_
  refine wpC_block ?_
  refine wpC_loop (X := Nat × Int × Int × Int × Int × Int × Bool) (fun x => (1, .slice A0_ x1.length c0_) :: (2, .pointer (some ⟨b2, 0, none⟩)) :: (4, .pointer (some ⟨b4, 0, none⟩)) :: (5, .int .i64 x.2.1) :: []) (fun x w => St0 All w0 w (.box b4 [.int .i64 0, .int .i64 0, .int .i64 0, .int .i64 0, .bool false] 23 :: .box b2 [.int .i64 x.2.2.1, .int .i64 x.2.2.2.1, .int .i64 x.2.2.2.2.1, .int .i64 x.2.2.2.2.2.1, .bool x.2.2.2.2.2.2] 23 :: []) ∧ m_ref06_All_l1 x1 x.1 x.2.1 x.2.2.1 x.2.2.2.1 x.2.2.2.2.1 x.2.2.2.2.2.1 x.2.2.2.2.2.2 = some r) (fun x => x.1) (fuelN, 0, x0.index, x0.term, x0.sum, x0.level, x0.final) (by repeat (first | exact Sub.nil | refine Sub.cons rfl ?_)) ⟨hS, H⟩ ?_
  rintro ⟨n, v8, v9, v10, v11, v12, v13⟩ w ⟨hS, H⟩
  dsimp only at hS H ⊢
  obtain _ | n := n
  · have H0 : none = some r := H
    cases H0
  rw [m_ref06_All_l1] at H
  refine wpC_seq_k (fun K hK14 => ?_)
  refine wpC_seq_k (fun K hK15 => ?_)
  refine wpC_region ?_
  refine wpS_quick 2 rfl ?_
  refine wpS_put rfl rfl rfl (yv_len el_37 rfl) ?_
  refine wpS_put rfl rfl rfl (yv_lss rfl rfl) ?_
  refine wpS_nil ?_
  refine QH_seq_k hK15 ?_
  refine wpC_cond rfl (fun hb => ?_) (fun hb => ?_)
  rotate_left
  · replace H := cond_f H hb
    refine wpC_exit ?_
    refine QH_then_exit ?_
    refine QH_then_exit ?_
    refine QH_block_hit ?_
    refine QH_seq_k hK6 ?_
    refine wpC_seq_k (fun K hK22 => ?_)
    refine wpC_region ?_
    refine wpS_put rfl rfl rfl (yv_load_boxA ag_23 rfl (RW.here _) hS hs1 trivial sg0_5) ?_
    refine wpS_store rfl rfl rfl CellsOf.agg hS ps0 st0_5 (by kernel_rfl) rfl (fun w hS hB => ?_)
    refine wpS_nil ?_
    refine QH_seq_k hK22 ?_
    refine wpC_ret ?_
    refine QH_ret rfl (RV.cell rfl (load_boxA ag_23 hS hs0 sg0_5) RV.nil) rfl ?_
    obtain rfl := Option.some.inj H
    replace hS := hS.cut 0
    exact ⟨rfl, hS⟩
  replace H := cond_t H hb
  refine wpC_skip ?_
  refine QH_seq_k hK14 ?_
  refine wpC_seq_k (fun K hK16 => ?_)
  refine wpC_block ?_
  refine wpC_draw 7 [6] (fun i b => (i = 6 → b ≠ b2)) ⟨by kernel_rfl, by kernel_rfl⟩ hS (fun w hS hB => ?_)
  refine wpR_batch [true, true, true, true, true] (by decide +kernel) (by repeat (first | exact PF.body | exact PF.round | apply PF.then | apply PF.inBlock | apply PF.jump)) ?_
  refine LtK.put rfl rfl rfl (yv_load_boxA ag_23 rfl (RW.below _) hS hs1 trivial sg0_5) ?_
  refine LtK.put rfl rfl rfl (yv_move rfl) ?_
  refine LtK.put rfl rfl rfl (yv_move rfl) ?_
  obtain ⟨e17, hi19, H⟩ := bind_some H
  obtain ⟨j18, hi19a, hi19b, hi19c⟩ := idx_some hi19
  refine LtK.put rfl rfl rfl (yx_idx el_37 rfl rfl hi19a hi19c (Rd.el (hS.rd0 s0_.rd) he_enE hi19b)) ?_
  refine LtK.put rfl rfl rfl (yx_ldA0 ag_30 rfl (RW.below _) (Rd.el (hS.rd0 s0_.rd) he_enE hi19b) sg0_3) ?_
  refine LtK.nil ?_
  refine wpR_call [false, false, false, false, false, true] 5 ⟨by decide, by kernel_rfl, by kernel_rfl⟩ rfl rfl ?_
  try dsimp only [pickL]
  obtain ⟨r20, hm21, H⟩ := bind_some H
  refine wpS_call rfl rfl rfl rfl (by kernel_rfl) rfl (c_ref06_Next (⟨v9, v10, v11, v12, v13⟩ : St) e17 _ hm21) ?_
  rintro e w ⟨rfl, hN⟩; refine ⟨_, rfl, ?_⟩; have hB := hN.pure; have hS := hS.join hN; clear hN
  refine wpS_nil ?_
  refine QH_step hB ?_
  refine wpR_seal [false, false, false, false, false, false, true] 6 ⟨by decide, by kernel_rfl, by kernel_rfl⟩ rfl rfl ?_
  try dsimp only [pickL]
  refine wpS_store rfl rfl rfl CellsOf.agg hS ps1 st0_5 (by kernel_rfl) rfl (fun w hS hB => ?_)
  refine wpS_nil ?_
  refine QH_stepG (hB.sub (fun _ _ h => by simpa using h)) ?_
  refine wpR_end (by kernel_rfl) ?_
  refine QH_block_normal ?_
  refine QH_seq_k hK16 ?_
  refine wpC_region ?_
  refine wpS_quick 1 rfl ?_
  refine wpS_put rfl rfl rfl (yx_add rfl rfl) ?_
  refine wpS_quick 1 rfl ?_
  refine wpS_nil ?_
  exact QH_again (n, (IntKind.wrap .i64 (v8 + 1)), r20.index, r20.term, r20.sum, r20.level, r20.final) (by repeat (first | exact Sub.nil | refine Sub.cons rfl ?_)) ⟨hS, H⟩ (Nat.lt_succ_self _)
end Go.Proofs.Ytoehcmddfpompaa
/- What functions compute, in plain terms, and that they do; printed. -/
namespace Go.Proofs.Ytoehcmddfpompaa
open Go Go.RowKit
set_option maxRecDepth 100000
set_option maxHeartbeats 4000000
theorem c_law19_LevelStages (x0 : St) (x1 : List En) (x2 : Int) (A0_ : Option Addr) (c0_ : Nat) (w0 : World) (s0_ : SlI w0 enE A0_ c0_ x1) {r : Bool} (H : m_law19_LevelStages x0 x1 x2 = some r) : Calls Try.prog 4 #[.agg #[.int .i64 x0.index, .int .i64 x0.term, .int .i64 x0.sum, .int .i64 x0.level, .bool x0.final], .slice A0_ x1.length c0_, .int .i64 x2] w0 fun e w' => e = .returned (.bool r) ∧ St0 All w0 w' [] := by
  unfold m_law19_LevelStages at H
  refine gw_enter3 Try.func4 rfl Try.ntmps4 rfl ?_
  have hS := St0.start All w0
  refine wpC_seq_k (fun K hK1 => ?_)
  refine wpC_region ?_
  refine wpS_box rfl rfl rfl CellsOf.agg hS (fun b2 w hS hB => ?_)
  refine wpS_quick 1 rfl ?_
  refine wpS_nil ?_
  refine QH_seq_k hK1 ?_
  refine wpC_seq_k (fun K hK4 => ?_)
  refine wpC_seq_k (fun K hK5 => ?_)
  refine wpC_region ?_
  refine wpS_put rfl rfl rfl (yv_load_boxA ag_23 rfl (RW.here _) hS hs0 trivial sg0_5) ?_
  obtain ⟨r6, hm7, H⟩ := bind_some H
  refine wpS_call rfl rfl rfl rfl (by kernel_rfl) rfl (c_ref06_Fine x0 _ hm7) ?_
  rintro e w ⟨rfl, hN⟩; refine ⟨_, rfl, ?_⟩; have hB := hN.pure; have hS := hS.join hN; clear hN
  refine wpS_put rfl rfl rfl (yv_not rfl) ?_
  refine wpS_quick 1 rfl ?_
  refine wpS_case 15 rfl (fun hb => ?_) (fun hb => ?_)
  · replace H := cond_t H hb
    refine wpS_quick 9 rfl ?_
    refine wpS_nil ?_
    refine QH_seq_k hK5 ?_
    refine wpC_cond_t rfl rfl ?_
    refine wpC_seq_k (fun K hK8 => ?_)
    refine wpC_region ?_
    obtain ⟨r9, hm10, H⟩ := bind_some H
    refine wpS_call rfl rfl rfl rfl (by kernel_rfl) rfl (c_law19_wakes _ hm10) ?_
    rintro e w ⟨rfl, hN⟩; refine ⟨_, rfl, ?_⟩; have hB := hN.pure; have hS := hS.join hN; clear hN
    refine wpS_quick 1 rfl ?_
    refine wpS_nil ?_
    refine QH_seq_k hK8 ?_
    refine wpC_ret ?_
    refine QH_then_ret ?_
    refine QH_ret rfl (RV.tmp rfl RV.nil) rfl ?_
    obtain rfl := Option.some.inj H
    replace hS := hS.cut 0
    exact ⟨rfl, hS⟩
  replace H := cond_f H hb
  refine wpS_quick 1 rfl ?_
  refine wpS_put rfl rfl rfl (yv_len el_37 rfl) ?_
  refine wpS_put rfl rfl rfl (yv_gtr rfl rfl) ?_
  refine wpS_quick 2 rfl ?_
  refine wpS_case 20 rfl (fun hb => ?_) (fun hb => ?_)
  · replace H := cond_t H hb
    refine wpS_quick 4 rfl ?_
    refine wpS_nil ?_
    refine QH_seq_k hK5 ?_
    refine wpC_cond_t rfl rfl ?_
    refine wpC_seq_k (fun K hK11 => ?_)
    refine wpC_region ?_
    obtain ⟨r12, hm13, H⟩ := bind_some H
    refine wpS_call rfl rfl rfl rfl (by kernel_rfl) rfl (c_law19_wakes _ hm13) ?_
    rintro e w ⟨rfl, hN⟩; refine ⟨_, rfl, ?_⟩; have hB := hN.pure; have hS := hS.join hN; clear hN
    refine wpS_quick 1 rfl ?_
    refine wpS_nil ?_
    refine QH_seq_k hK11 ?_
    refine wpC_ret ?_
    refine QH_then_ret ?_
    refine QH_ret rfl (RV.tmp rfl RV.nil) rfl ?_
    obtain rfl := Option.some.inj H
    replace hS := hS.cut 0
    exact ⟨rfl, hS⟩
  replace H := cond_f H hb
  refine wpS_put rfl rfl rfl (yv_fieldAddr fo_23_0 rfl) ?_
  refine wpS_put rfl rfl rfl (yv_load_box sc_3 rfl (RW.here _) hS hs0 trivial sg0_1) ?_
  refine wpS_put rfl rfl rfl (yv_gtr rfl rfl) ?_
  refine wpS_quick 1 rfl ?_
  refine wpS_nil ?_
  refine QH_seq_k hK5 ?_
  refine wpC_cond rfl (fun hb => ?_) (fun hb => ?_)
  · replace H := cond_t H hb
    refine wpC_seq_k (fun K hK14 => ?_)
    refine wpC_region ?_
    obtain ⟨r15, hm16, H⟩ := bind_some H
    refine wpS_call rfl rfl rfl rfl (by kernel_rfl) rfl (c_law19_wakes _ hm16) ?_
    rintro e w ⟨rfl, hN⟩; refine ⟨_, rfl, ?_⟩; have hB := hN.pure; have hS := hS.join hN; clear hN
    refine wpS_quick 1 rfl ?_
    refine wpS_nil ?_
    refine QH_seq_k hK14 ?_
    refine wpC_ret ?_
    refine QH_then_ret ?_
    refine QH_ret rfl (RV.tmp rfl RV.nil) rfl ?_
    obtain rfl := Option.some.inj H
    replace hS := hS.cut 0
    exact ⟨rfl, hS⟩
  replace H := cond_f H hb
  refine wpC_skip ?_
  refine QH_seq_k hK4 ?_
  refine wpC_seq_k (fun K hK17 => ?_)
  refine wpC_seq_k (fun K hK18 => ?_)
  refine wpC_region ?_
  refine wpS_quick 1 rfl ?_
  refine wpS_nil ?_
  refine QH_seq_k hK18 ?_
  refine wpC_block ?_
  refine wpC_loop (X := Nat × Bool × Int) (fun x => (1, .slice A0_ x1.length c0_) :: (2, .int .i64 x2) :: (3, .pointer (some ⟨b2, 0, none⟩)) :: (6, .bool x.2.1) :: (7, .int .i64 x.2.2) :: []) (fun x w => St0 All w0 w (.box b2 [.int .i64 x0.index, .int .i64 x0.term, .int .i64 x0.sum, .int .i64 x0.level, .bool x0.final] 23 :: []) ∧ m_law19_LevelStages_l1 x0 x1 x2 x.1 x.2.1 x.2.2 = some r) (fun x => x.1) (fuelN, false, 0) (by repeat (first | exact Sub.nil | refine Sub.cons rfl ?_)) ⟨hS, H⟩ ?_
  rintro ⟨n, v19, v20⟩ w ⟨hS, H⟩
  dsimp only at hS H ⊢
  obtain _ | n := n
  · have H0 : none = some r := H
    cases H0
  rw [m_law19_LevelStages_l1] at H
  refine wpC_seq_k (fun K hK21 => ?_)
  refine wpC_seq_k (fun K hK22 => ?_)
  refine wpC_region ?_
  refine wpS_quick 2 rfl ?_
  refine wpS_put rfl rfl rfl (yv_len el_37 rfl) ?_
  refine wpS_put rfl rfl rfl (yv_lss rfl rfl) ?_
  refine wpS_nil ?_
  refine QH_seq_k hK22 ?_
  refine wpC_cond rfl (fun hb => ?_) (fun hb => ?_)
  · replace H := cond_t H hb
    refine wpC_skip ?_
    refine QH_seq_k hK21 ?_
    refine wpC_seq_k (fun K hK23 => ?_)
    refine wpC_block ?_
    refine wpC_seq_k (fun K hK24 => ?_)
    refine wpC_region ?_
    refine wpS_quick 2 rfl ?_
    obtain ⟨e25, hi27, H⟩ := bind_some H
    obtain ⟨j26, hi27a, hi27b, hi27c⟩ := idx_some hi27
    refine wpS_put rfl rfl rfl (yx_idx el_37 rfl rfl hi27a hi27c (Rd.el (hS.rd0 s0_.rd) he_enE hi27b)) ?_
    refine wpS_put rfl rfl rfl (yx_ldA0 ag_30 rfl (RW.here _) (Rd.el (hS.rd0 s0_.rd) he_enE hi27b) sg0_3) ?_
    obtain ⟨r28, hm29, H⟩ := bind_some H
    refine wpS_call rfl rfl rfl rfl (by kernel_rfl) rfl (c_ref06_Right e25 _ hm29) ?_
    rintro e w ⟨rfl, hN⟩; refine ⟨_, rfl, ?_⟩; have hB := hN.pure; have hS := hS.join hN; clear hN
    refine wpS_put rfl rfl rfl (yv_not rfl) ?_
    refine wpS_nil ?_
    refine QH_seq_k hK24 ?_
    refine wpC_cond rfl (fun hb => ?_) (fun hb => ?_)
    rotate_left
    · replace H := cond_f H hb
      refine wpC_skip ?_
      refine QH_block_normal ?_
      refine QH_seq_k hK23 ?_
      refine wpC_region ?_
      refine wpS_quick 1 rfl ?_
      refine wpS_put rfl rfl rfl (yx_add rfl rfl) ?_
      refine wpS_quick 1 rfl ?_
      refine wpS_nil ?_
      exact QH_again (n, v19, (IntKind.wrap .i64 (v20 + 1))) (by repeat (first | exact Sub.nil | refine Sub.cons rfl ?_)) ⟨hS, H⟩ (Nat.lt_succ_self _)
    replace H := cond_t H hb
    refine wpC_seq_k (fun K hK30 => ?_)
    refine wpC_region ?_
    obtain ⟨r31, hm32, H⟩ := bind_some H
    refine wpS_call rfl rfl rfl rfl (by kernel_rfl) rfl (c_law19_wakes _ hm32) ?_
    rintro e w ⟨rfl, hN⟩; refine ⟨_, rfl, ?_⟩; have hB := hN.pure; have hS := hS.join hN; clear hN
    refine wpS_quick 1 rfl ?_
    refine wpS_nil ?_
    refine QH_seq_k hK30 ?_
    refine wpC_ret ?_
    refine QH_block_ret ?_
    refine QH_then_ret ?_
    refine QH_then_ret ?_
    refine QH_block_ret ?_
    refine QH_then_ret ?_
    refine QH_ret rfl (RV.tmp rfl RV.nil) rfl ?_
    obtain rfl := Option.some.inj H
    replace hS := hS.cut 0
    exact ⟨rfl, hS⟩
  replace H := cond_f H hb
  refine wpC_exit ?_
  refine QH_then_exit ?_
  refine QH_then_exit ?_
  refine QH_block_hit ?_
  refine QH_seq_k hK17 ?_
  refine wpC_seq_k (fun K hK33 => ?_)
  refine wpC_region ?_
  refine wpS_put rfl rfl rfl (yv_load_boxA ag_23 rfl (RW.here _) hS hs0 trivial sg0_5) ?_
  refine wpS_quick 1 rfl ?_
  obtain ⟨r34, hm35, H⟩ := bind_some H
  refine wpS_call rfl rfl rfl rfl (by kernel_rfl) rfl (c_level_Stages x0 x1 A0_ c0_ _ (SlI.of_rd s0_.k (hS.rd0 s0_.rd) (hS.blk0 s0_.blk)) hm35) ?_
  rintro e w ⟨A36, c37, rfl, k38, hN⟩; refine ⟨_, rfl, ?_⟩; have hB := hN.pure; have hS := hS.join hN; clear hN
  refine wpS_quick 1 rfl ?_
  refine wpS_nil ?_
  refine QH_seq_k hK33 ?_
  refine wpC_seq_k (fun K hK40 => ?_)
  refine wpC_seq_k (fun K hK41 => ?_)
  refine wpC_region ?_
  refine wpS_quick 1 rfl ?_
  refine wpS_put rfl rfl rfl (yv_len el_24 rfl) ?_
  refine wpS_quick 1 rfl ?_
  refine wpS_put rfl rfl rfl (yv_len el_37 rfl) ?_
  refine wpS_put rfl rfl rfl (yx_add rfl rfl) ?_
  refine wpS_put rfl rfl rfl (yv_neq rfl rfl) ?_
  refine wpS_nil ?_
  refine QH_seq_k hK41 ?_
  refine wpC_cond rfl (fun hb => ?_) (fun hb => ?_)
  · replace H := cond_t H hb
    refine wpC_seq_k (fun K hK42 => ?_)
    refine wpC_region ?_
    refine wpS_quick 1 rfl ?_
    refine wpS_nil ?_
    refine QH_seq_k hK42 ?_
    refine wpC_ret ?_
    refine QH_then_ret ?_
    refine QH_ret rfl (RV.tmp rfl RV.nil) rfl ?_
    obtain rfl := Option.some.inj H
    replace hS := hS.cut 0
    exact ⟨rfl, hS⟩
  replace H := cond_f H hb
  refine wpC_skip ?_
  refine QH_seq_k hK40 ?_
  refine wpC_seq_k (fun K hK43 => ?_)
  refine wpC_seq_k (fun K hK44 => ?_)
  refine wpC_region ?_
  refine wpS_quick 1 rfl ?_
  refine wpS_nil ?_
  refine QH_seq_k hK44 ?_
  refine wpC_block ?_
  refine wpC_loop (X := Nat × Bool × Int) (fun x => (1, .slice A0_ x1.length c0_) :: (2, .int .i64 x2) :: (3, .pointer (some ⟨b2, 0, none⟩)) :: (6, .bool x.2.1) :: (8, .slice A36 r34.length c37) :: (9, .int .i64 x.2.2) :: []) (fun x w => St0 All w0 w (.rd A36 (encs enI r34) :: .box b2 [.int .i64 x0.index, .int .i64 x0.term, .int .i64 x0.sum, .int .i64 x0.level, .bool x0.final] 23 :: []) ∧ m_law19_LevelStages_l2 x0 x1 x2 r34 x.1 x.2.1 x.2.2 = some r) (fun x => x.1) (fuelN, v19, 0) (by repeat (first | exact Sub.nil | refine Sub.cons rfl ?_)) ⟨hS, H⟩ ?_
  rintro ⟨n, v45, v46⟩ w ⟨hS, H⟩
  dsimp only at hS H ⊢
  obtain _ | n := n
  · have H0 : none = some r := H
    cases H0
  rw [m_law19_LevelStages_l2] at H
  refine wpC_seq_k (fun K hK47 => ?_)
  refine wpC_seq_k (fun K hK48 => ?_)
  refine wpC_region ?_
  refine wpS_quick 2 rfl ?_
  refine wpS_put rfl rfl rfl (yv_len el_37 rfl) ?_
  refine wpS_put rfl rfl rfl (yv_leq rfl rfl) ?_
  refine wpS_nil ?_
  refine QH_seq_k hK48 ?_
  refine wpC_cond rfl (fun hb => ?_) (fun hb => ?_)
  rotate_left
  · replace H := cond_f H hb
    refine wpC_exit ?_
    refine QH_then_exit ?_
    refine QH_then_exit ?_
    refine QH_block_hit ?_
    refine QH_seq_k hK43 ?_
    refine wpC_seq_k (fun K hK172 => ?_)
    refine wpC_region ?_
    obtain ⟨r173, hm174, H⟩ := bind_some H
    refine wpS_call rfl rfl rfl rfl (by kernel_rfl) rfl (c_law19_wakes _ hm174) ?_
    rintro e w ⟨rfl, hN⟩; refine ⟨_, rfl, ?_⟩; have hB := hN.pure; have hS := hS.join hN; clear hN
    refine wpS_quick 1 rfl ?_
    refine wpS_nil ?_
    refine QH_seq_k hK172 ?_
    refine wpC_ret ?_
    refine QH_ret rfl (RV.tmp rfl RV.nil) rfl ?_
    obtain rfl := Option.some.inj H
    replace hS := hS.cut 0
    exact ⟨rfl, hS⟩
  replace H := cond_t H hb
  refine wpC_skip ?_
  refine QH_seq_k hK47 ?_
  refine wpC_seq_k (fun K hK49 => ?_)
  refine wpC_block ?_
  refine wpC_seq_k (fun K hK50 => ?_)
  refine wpC_draw 7 [6] (fun i b => (i = 6 → b = b2)) ⟨by kernel_rfl, by kernel_rfl⟩ hS (fun w hS hB => ?_)
  refine wpRF_start [⟨5, 10, 23, [.int .i64 0, .int .i64 0, .int .i64 0, .int .i64 0, .bool false]⟩] (.cons rfl zc_23 rfl rfl rfl .nil) hS (fun hok => ?_)
  dsimp only [List.cons_append, List.nil_append]
  refine wpRF_batch [true, true, true, true] [] (fun _ => True) (by decide +kernel) (fun _ h => by cases h) (by repeat (first | exact PF.body | exact PF.round | apply PF.then | apply PF.inBlock | apply PF.jump)) (fun X Y tk ht w hS => ?_)
  refine LtK.put rfl rfl rfl (yv_load_boxA ag_23 rfl (RW.keepB _ _) hS hs1 trivial sg0_5) ?_
  refine LtK.put rfl rfl rfl (yv_move rfl) ?_
  refine LtK.put rfl rfl rfl (yv_move rfl) ?_
  obtain ⟨l51, ht52, H⟩ := bind_some H
  refine LtK.put rfl rfl rfl (yx_slice_h el_37 rfl rfl s0_.k.1 ht52) ?_
  refine LtK_F' ht hS (by repeat (first | exact App.nil | apply App.cons)) (by repeat (first | exact App.nil | apply App.cons)) ?_
  dsimp only [List.cons_append, List.nil_append]
  refine wpRF_call [false, false, false, false, true] 4 hok ⟨by decide, by decide +kernel, by decide, by decide⟩ rfl rfl (fun _ => rfl) (fun _ => rfl) rfl (hend_of (by decide +kernel)) (fun X Y tk ht w hS => ?_)
  try dsimp only [pickL]
  obtain ⟨r53, hm54, H⟩ := bind_some H
  refine wpS_call rfl rfl rfl rfl (by kernel_rfl) rfl (c_ref06_All x0 l51 A0_ c0_ _ (SlI.of_rd (k_take s0_.k ht52) (Rd.takeI he_enE (hS.rd0 s0_.rd) ht52) (hS.blk0 s0_.blk)) hm54) ?_
  rintro e w ⟨rfl, hN⟩; refine ⟨_, rfl, ?_⟩; have hB := hN.pure; have hS := hS.join hN; clear hN
  refine wpS_nil ?_
  refine QH_stepF' ht hS hB (by repeat (first | exact App.nil | apply App.cons)) (by repeat (first | exact App.nil | apply App.cons)) ?_
  dsimp only [List.cons_append, List.nil_append]
  refine wpRF_done hok (by decide) (by decide +kernel) (fun _ => rfl) (fun _ => rfl) rfl (fun tk htk w hS => ?_)
  obtain ⟨b55, tkb55, rfl, htk57⟩ := tk_cons htk
  obtain rfl := tk_nil htk57
  dsimp only [tkH, tkL, List.map] at hS ⊢
  refine wpR_seal [false, false, false, false, false, false, true] 6 ⟨by decide, by kernel_rfl, by kernel_rfl⟩ rfl rfl ?_
  try dsimp only [pickL]
  refine wpS_store rfl rfl rfl CellsOf.agg hS ps2 st0_5 (by kernel_rfl) rfl (fun w hS hB => ?_)
  refine wpS_nil ?_
  refine QH_stepG (hB.sub (fun b _ h => by have h0 : b = b2 := (by simpa using h); (rw [h0]; exact hS.ne 1 2 rfl rfl rfl))) ?_
  refine wpR_end (by kernel_rfl) ?_
  refine QH_seq_k hK50 ?_
  refine wpC_seq_k (fun K hK58 => ?_)
  refine wpC_seq_k (fun K hK59 => ?_)
  refine wpC_draw 28 [] (fun _ _ => True) ⟨by kernel_rfl, by kernel_rfl⟩ hS (fun w hS hB => ?_)
  refine wpR_batch [true, true, true, true, true] (by decide +kernel) (by repeat (first | exact PF.body | exact PF.round | apply PF.then | apply PF.inBlock | apply PF.jump)) ?_
  refine LtK.put rfl rfl rfl (yv_move rfl) ?_
  refine LtK.put rfl rfl rfl (yv_move rfl) ?_
  obtain ⟨e60, hi62, H⟩ := bind_some H
  obtain ⟨j61, hi62a, hi62b, hi62c⟩ := idx_some hi62
  refine LtK.put rfl rfl rfl (yx_idx el_24 rfl rfl hi62a hi62c (Rd.el (hS.rd hs0) he_enI hi62b)) ?_
  refine LtK.put rfl rfl rfl (yx_ld0 sc_3 rfl (RW.below _) (Rd.el (hS.rd hs0) he_enI hi62b) rfl) ?_
  refine LtK.put rfl rfl rfl (yv_load_boxA ag_23 rfl (RW.below _) hS hs2 trivial sg0_5) ?_
  refine LtK.nil ?_
  refine wpR_call [false, false, false, false, false, true] 5 ⟨by decide, by kernel_rfl, by kernel_rfl⟩ rfl rfl ?_
  try dsimp only [pickL]
  obtain ⟨r63, hm64, H⟩ := bind_some H
  refine wpS_call rfl rfl rfl rfl (by kernel_rfl) rfl (c_level_Stage r53 _ hm64) ?_
  rintro e w ⟨rfl, hN⟩; refine ⟨_, rfl, ?_⟩; have hB := hN.pure; have hS := hS.join hN; clear hN
  refine wpS_nil ?_
  refine QH_step hB ?_
  refine wpR_batch [false, false, false, false, false, false, true, true] (by decide +kernel) (by repeat (first | exact PF.body | exact PF.round | apply PF.then | apply PF.inBlock | apply PF.jump)) ?_
  refine LtK.put rfl rfl rfl (yv_neq rfl rfl) ?_
  refine LtK.put rfl rfl rfl (yv_move rfl) ?_
  refine LtK.nil ?_
  refine wpR_case 66 rfl (fun hb => ?_) (fun hb => ?_)
  · replace H := cond_t H hb
    refine wpR_batch [false, false, false, false, false, false, false, false, true, true, true, true, true, true, true, true, true, true, true, true, true, true, true, true, true, true, true, true] (by decide +kernel) (by repeat (first | exact PF.body | exact PF.round | apply PF.then | apply PF.inBlock | apply PF.jump)) ?_
    refine LtK.skip rfl rfl rfl ?_
    refine LtK.skip rfl rfl rfl ?_
    refine LtK.skip rfl rfl rfl ?_
    refine LtK.skip rfl rfl rfl ?_
    refine LtK.skip rfl rfl rfl ?_
    refine LtK.skip rfl rfl rfl ?_
    refine LtK.skip rfl rfl rfl ?_
    refine LtK.skip rfl rfl rfl ?_
    refine LtK.skip rfl rfl rfl ?_
    refine LtK.put rfl rfl rfl (yv_pick_t rfl rfl rfl) ?_
    refine LtK.put rfl rfl rfl (yv_move rfl) ?_
    refine LtK.skip rfl rfl rfl ?_
    refine LtK.skip rfl rfl rfl ?_
    refine LtK.skip rfl rfl rfl ?_
    refine LtK.skip rfl rfl rfl ?_
    refine LtK.skip rfl rfl rfl ?_
    refine LtK.skip rfl rfl rfl ?_
    refine LtK.skip rfl rfl rfl ?_
    refine LtK.skip rfl rfl rfl ?_
    refine LtK.put rfl rfl rfl (yv_pick_t rfl rfl rfl) ?_
    refine LtK.nil ?_
    refine wpR_end (by kernel_rfl) ?_
    refine QH_seq_k hK59 ?_
    refine wpC_cond_t rfl rfl ?_
    refine wpC_seq_k (fun K hK65 => ?_)
    refine wpC_region ?_
    refine wpS_quick 1 rfl ?_
    refine wpS_nil ?_
    refine QH_seq_k hK65 ?_
    refine wpC_ret ?_
    refine QH_then_ret ?_
    refine QH_block_ret ?_
    refine QH_then_ret ?_
    refine QH_then_ret ?_
    refine QH_block_ret ?_
    refine QH_then_ret ?_
    refine QH_ret rfl (RV.tmp rfl RV.nil) rfl ?_
    obtain rfl := Option.some.inj H
    replace hS := hS.cut 0
    exact ⟨rfl, hS⟩
  replace H := cond_f H hb
  refine wpR_batch [false, false, false, false, false, false, false, false, true, true, true, true, true, true, true, true, true, true, true] (by decide +kernel) (by repeat (first | exact PF.body | exact PF.round | apply PF.then | apply PF.inBlock | apply PF.jump)) ?_
  refine LtK.put rfl rfl rfl (yv_move rfl) ?_
  refine LtK.put rfl rfl rfl (yv_move rfl) ?_
  obtain ⟨e66, hi68, H⟩ := bind_some H
  obtain ⟨j67, hi68a, hi68b, hi68c⟩ := idx_some hi68
  refine LtK.put rfl rfl rfl (yx_idx el_24 rfl rfl hi68a hi68c (Rd.el (hS.rd hs0) he_enI hi68b)) ?_
  refine LtK.put rfl rfl rfl (yx_ld0 sc_3 rfl (RW.below _) (Rd.el (hS.rd hs0) he_enI hi68b) rfl) ?_
  refine LtK.put rfl rfl rfl (yv_gtr rfl rfl) ?_
  refine LtK.put rfl rfl rfl (yv_fieldAddr fo_23_3 rfl) ?_
  refine LtK.put rfl rfl rfl (yv_load_box sc_3 rfl (RW.below _) hS hs2 trivial sg3_1) ?_
  refine LtK.put rfl rfl rfl (yv_eql rfl rfl) ?_
  refine LtK.put rfl rfl rfl (yv_neqB (by kernel_rfl) rfl rfl) ?_
  refine LtK.put rfl rfl rfl (yv_pick_f rfl rfl rfl) ?_
  refine LtK.put rfl rfl rfl (yv_move rfl) ?_
  refine LtK.nil ?_
  refine wpR_case 77 rfl (fun hb => ?_) (fun hb => ?_)
  · replace H := cond_t H hb
    refine wpR_batch [false, false, false, false, false, false, false, false, false, false, false, false, false, false, false, false, false, false, false, true, true, true, true, true, true, true, true, true] (by decide +kernel) (by repeat (first | exact PF.body | exact PF.round | apply PF.then | apply PF.inBlock | apply PF.jump)) ?_
    refine LtK.skip rfl rfl rfl ?_
    refine LtK.skip rfl rfl rfl ?_
    refine LtK.skip rfl rfl rfl ?_
    refine LtK.skip rfl rfl rfl ?_
    refine LtK.skip rfl rfl rfl ?_
    refine LtK.skip rfl rfl rfl ?_
    refine LtK.skip rfl rfl rfl ?_
    refine LtK.skip rfl rfl rfl ?_
    refine LtK.put rfl rfl rfl (yv_pick_t rfl rfl rfl) ?_
    refine LtK.nil ?_
    refine wpR_end (by kernel_rfl) ?_
    refine QH_seq_k hK59 ?_
    refine wpC_cond_t rfl rfl ?_
    refine wpC_seq_k (fun K hK69 => ?_)
    refine wpC_region ?_
    refine wpS_quick 1 rfl ?_
    refine wpS_nil ?_
    refine QH_seq_k hK69 ?_
    refine wpC_ret ?_
    refine QH_then_ret ?_
    refine QH_block_ret ?_
    refine QH_then_ret ?_
    refine QH_then_ret ?_
    refine QH_block_ret ?_
    refine QH_then_ret ?_
    refine QH_ret rfl (RV.tmp rfl RV.nil) rfl ?_
    obtain rfl := Option.some.inj H
    replace hS := hS.cut 0
    exact ⟨rfl, hS⟩
  replace H := cond_f H hb
  refine wpR_batch [false, false, false, false, false, false, false, false, false, false, false, false, false, false, false, false, false, false, false, true, true, true, true, true, true, true, true, true] (by decide +kernel) (by repeat (first | exact PF.body | exact PF.round | apply PF.then | apply PF.inBlock | apply PF.jump)) ?_
  refine LtK.put rfl rfl rfl (yv_move rfl) ?_
  refine LtK.put rfl rfl rfl (yv_move rfl) ?_
  obtain ⟨e70, hi72, H⟩ := bind_some H
  obtain ⟨j71, hi72a, hi72b, hi72c⟩ := idx_some hi72
  refine LtK.put rfl rfl rfl (yx_idx el_24 rfl rfl hi72a hi72c (Rd.el (hS.rd hs0) he_enI hi72b)) ?_
  refine LtK.put rfl rfl rfl (yx_ld0 sc_3 rfl (RW.below _) (Rd.el (hS.rd hs0) he_enI hi72b) rfl) ?_
  refine LtK.put rfl rfl rfl (yv_eql rfl rfl) ?_
  refine LtK.put rfl rfl rfl (yv_fieldAddr fo_23_4 rfl) ?_
  refine LtK.put rfl rfl rfl (yv_load_box sc_4 rfl (RW.below _) hS hs2 trivial sg4_1) ?_
  refine LtK.put rfl rfl rfl (yv_neqB (by kernel_rfl) rfl rfl) ?_
  refine LtK.put rfl rfl rfl (yv_pick_f rfl rfl rfl) ?_
  refine LtK.nil ?_
  refine wpR_end (by kernel_rfl) ?_
  refine QH_seq_k hK59 ?_
  refine wpC_cond rfl (fun hb => ?_) (fun hb => ?_)
  · replace H := cond_t H hb
    refine wpC_seq_k (fun K hK73 => ?_)
    refine wpC_region ?_
    refine wpS_quick 1 rfl ?_
    refine wpS_nil ?_
    refine QH_seq_k hK73 ?_
    refine wpC_ret ?_
    refine QH_then_ret ?_
    refine QH_block_ret ?_
    refine QH_then_ret ?_
    refine QH_then_ret ?_
    refine QH_block_ret ?_
    refine QH_then_ret ?_
    refine QH_ret rfl (RV.tmp rfl RV.nil) rfl ?_
    obtain rfl := Option.some.inj H
    replace hS := hS.cut 0
    exact ⟨rfl, hS⟩
  replace H := cond_f H hb
  refine wpC_skip ?_
  refine QH_seq_k hK58 ?_
  refine wpC_seq_k (fun K hK74 => ?_)
  refine wpC_seq_k (fun K hK75 => ?_)
  refine wpC_region ?_
  refine wpS_quick 1 rfl ?_
  refine wpS_put rfl rfl rfl (yv_gtr rfl rfl) ?_
  refine wpS_quick 1 rfl ?_
  refine wpS_case 89 rfl (fun hb => ?_) (fun hb => ?_)
  rotate_left
  · replace H := cond_f H hb
    refine wpS_quick 29 rfl ?_
    refine wpS_nil ?_
    refine QH_seq_k hK75 ?_
    refine wpC_cond_f rfl rfl ?_
    refine wpC_skip ?_
    refine QH_seq_k hK74 ?_
    refine wpC_seq_k (fun K hK157 => ?_)
    refine wpC_region ?_
    refine wpS_put rfl rfl rfl (yv_load_boxA ag_23 rfl (RW.here _) hS hs2 trivial sg0_5) ?_
    refine wpS_quick 1 rfl ?_
    obtain ⟨r158, hm159, H⟩ := bind_some H
    refine wpS_call rfl rfl rfl rfl (by kernel_rfl) rfl (c_level_Format r53 x2 _ hm159) ?_
    rintro e w ⟨rfl, hN⟩; refine ⟨_, rfl, ?_⟩; have hB := hN.pure; have hS := hS.join hN; clear hN
    refine wpS_quick 1 rfl ?_
    refine wpS_nil ?_
    refine QH_seq_k hK157 ?_
    refine wpC_seq_k (fun K hK160 => ?_)
    refine wpC_region ?_
    refine wpS_quick 1 rfl ?_
    refine wpS_put rfl rfl rfl (yv_neq rfl rfl) ?_
    refine wpS_quick 1 rfl ?_
    refine wpS_case 124 rfl (fun hb => ?_) (fun hb => ?_)
    rotate_left
    · replace H := cond_f H hb
      refine wpS_quick 5 rfl ?_
      refine wpS_put rfl rfl rfl (yv_eql rfl rfl) ?_
      refine wpS_quick 2 rfl ?_
      obtain ⟨e167, hi169, H⟩ := bind_some H
      obtain ⟨j168, hi169a, hi169b, hi169c⟩ := idx_some hi169
      refine wpS_put rfl rfl rfl (yx_idx el_24 rfl rfl hi169a hi169c (Rd.el (hS.rd hs0) he_enI hi169b)) ?_
      refine wpS_put rfl rfl rfl (yx_ld0 sc_3 rfl (RW.here _) (Rd.el (hS.rd hs0) he_enI hi169b) rfl) ?_
      refine wpS_put rfl rfl rfl (yv_gtr rfl rfl) ?_
      refine wpS_quick 1 rfl ?_
      refine wpS_case 136 rfl (fun hb => ?_) (fun hb => ?_)
      rotate_left
      · replace H := cond_f H hb
        refine wpS_quick 3 rfl ?_
        refine wpS_put rfl rfl rfl (yv_neqB (by kernel_rfl) rfl rfl) ?_
        refine wpS_quick 1 rfl ?_
        refine wpS_nil ?_
        refine QH_seq_k hK160 ?_
        refine wpC_cond rfl (fun hb => ?_) (fun hb => ?_)
        rotate_left
        · replace H := cond_f H hb
          refine wpC_skip ?_
          refine QH_block_normal ?_
          refine QH_seq_k hK49 ?_
          refine wpC_region ?_
          refine wpS_quick 1 rfl ?_
          refine wpS_put rfl rfl rfl (yx_add rfl rfl) ?_
          refine wpS_quick 1 rfl ?_
          refine wpS_nil ?_
          exact QH_again (n, v45, (IntKind.wrap .i64 (v46 + 1))) (by repeat (first | exact Sub.nil | refine Sub.cons rfl ?_)) ⟨(hS.sub (List.Sublist.cons_cons _ (List.Sublist.cons_cons _ (List.Sublist.cons _ List.Sublist.slnil)))), H⟩ (Nat.lt_succ_self _)
        replace H := cond_t H hb
        refine wpC_seq_k (fun K hK171 => ?_)
        refine wpC_region ?_
        refine wpS_quick 1 rfl ?_
        refine wpS_nil ?_
        refine QH_seq_k hK171 ?_
        refine wpC_ret ?_
        refine QH_block_ret ?_
        refine QH_then_ret ?_
        refine QH_then_ret ?_
        refine QH_block_ret ?_
        refine QH_then_ret ?_
        refine QH_ret rfl (RV.tmp rfl RV.nil) rfl ?_
        obtain rfl := Option.some.inj H
        replace hS := hS.cut 0
        exact ⟨rfl, hS⟩
      replace H := cond_t H hb
      refine wpS_quick 1 rfl ?_
      refine wpS_put rfl rfl rfl (yv_geq rfl rfl) ?_
      refine wpS_quick 1 rfl ?_
      refine wpS_put rfl rfl rfl (yv_neqB (by kernel_rfl) rfl rfl) ?_
      refine wpS_quick 1 rfl ?_
      refine wpS_nil ?_
      refine QH_seq_k hK160 ?_
      refine wpC_cond rfl (fun hb => ?_) (fun hb => ?_)
      rotate_left
      · replace H := cond_f H hb
        refine wpC_skip ?_
        refine QH_block_normal ?_
        refine QH_seq_k hK49 ?_
        refine wpC_region ?_
        refine wpS_quick 1 rfl ?_
        refine wpS_put rfl rfl rfl (yx_add rfl rfl) ?_
        refine wpS_quick 1 rfl ?_
        refine wpS_nil ?_
        exact QH_again (n, v45, (IntKind.wrap .i64 (v46 + 1))) (by repeat (first | exact Sub.nil | refine Sub.cons rfl ?_)) ⟨(hS.sub (List.Sublist.cons_cons _ (List.Sublist.cons_cons _ (List.Sublist.cons _ List.Sublist.slnil)))), H⟩ (Nat.lt_succ_self _)
      replace H := cond_t H hb
      refine wpC_seq_k (fun K hK170 => ?_)
      refine wpC_region ?_
      refine wpS_quick 1 rfl ?_
      refine wpS_nil ?_
      refine QH_seq_k hK170 ?_
      refine wpC_ret ?_
      refine QH_block_ret ?_
      refine QH_then_ret ?_
      refine QH_then_ret ?_
      refine QH_block_ret ?_
      refine QH_then_ret ?_
      refine QH_ret rfl (RV.tmp rfl RV.nil) rfl ?_
      obtain rfl := Option.some.inj H
      replace hS := hS.cut 0
      exact ⟨rfl, hS⟩
    replace H := cond_t H hb
    refine wpS_quick 1 rfl ?_
    refine wpS_put rfl rfl rfl (yv_neq rfl rfl) ?_
    refine wpS_quick 2 rfl ?_
    refine wpS_case 128 rfl (fun hb => ?_) (fun hb => ?_)
    · replace H := cond_t H hb
      refine wpS_quick 13 rfl ?_
      refine wpS_nil ?_
      refine QH_seq_k hK160 ?_
      refine wpC_cond_t rfl rfl ?_
      refine wpC_seq_k (fun K hK161 => ?_)
      refine wpC_region ?_
      refine wpS_quick 1 rfl ?_
      refine wpS_nil ?_
      refine QH_seq_k hK161 ?_
      refine wpC_ret ?_
      refine QH_block_ret ?_
      refine QH_then_ret ?_
      refine QH_then_ret ?_
      refine QH_block_ret ?_
      refine QH_then_ret ?_
      refine QH_ret rfl (RV.tmp rfl RV.nil) rfl ?_
      obtain rfl := Option.some.inj H
      replace hS := hS.cut 0
      exact ⟨rfl, hS⟩
    replace H := cond_f H hb
    refine wpS_quick 1 rfl ?_
    refine wpS_put rfl rfl rfl (yv_eql rfl rfl) ?_
    refine wpS_quick 2 rfl ?_
    obtain ⟨e162, hi164, H⟩ := bind_some H
    obtain ⟨j163, hi164a, hi164b, hi164c⟩ := idx_some hi164
    refine wpS_put rfl rfl rfl (yx_idx el_24 rfl rfl hi164a hi164c (Rd.el (hS.rd hs0) he_enI hi164b)) ?_
    refine wpS_put rfl rfl rfl (yx_ld0 sc_3 rfl (RW.here _) (Rd.el (hS.rd hs0) he_enI hi164b) rfl) ?_
    refine wpS_put rfl rfl rfl (yv_gtr rfl rfl) ?_
    refine wpS_quick 1 rfl ?_
    refine wpS_case 136 rfl (fun hb => ?_) (fun hb => ?_)
    rotate_left
    · replace H := cond_f H hb
      refine wpS_quick 3 rfl ?_
      refine wpS_put rfl rfl rfl (yv_neqB (by kernel_rfl) rfl rfl) ?_
      refine wpS_quick 1 rfl ?_
      refine wpS_nil ?_
      refine QH_seq_k hK160 ?_
      refine wpC_cond rfl (fun hb => ?_) (fun hb => ?_)
      rotate_left
      · replace H := cond_f H hb
        refine wpC_skip ?_
        refine QH_block_normal ?_
        refine QH_seq_k hK49 ?_
        refine wpC_region ?_
        refine wpS_quick 1 rfl ?_
        refine wpS_put rfl rfl rfl (yx_add rfl rfl) ?_
        refine wpS_quick 1 rfl ?_
        refine wpS_nil ?_
        exact QH_again (n, v45, (IntKind.wrap .i64 (v46 + 1))) (by repeat (first | exact Sub.nil | refine Sub.cons rfl ?_)) ⟨(hS.sub (List.Sublist.cons_cons _ (List.Sublist.cons_cons _ (List.Sublist.cons _ List.Sublist.slnil)))), H⟩ (Nat.lt_succ_self _)
      replace H := cond_t H hb
      refine wpC_seq_k (fun K hK166 => ?_)
      refine wpC_region ?_
      refine wpS_quick 1 rfl ?_
      refine wpS_nil ?_
      refine QH_seq_k hK166 ?_
      refine wpC_ret ?_
      refine QH_block_ret ?_
      refine QH_then_ret ?_
      refine QH_then_ret ?_
      refine QH_block_ret ?_
      refine QH_then_ret ?_
      refine QH_ret rfl (RV.tmp rfl RV.nil) rfl ?_
      obtain rfl := Option.some.inj H
      replace hS := hS.cut 0
      exact ⟨rfl, hS⟩
    replace H := cond_t H hb
    refine wpS_quick 1 rfl ?_
    refine wpS_put rfl rfl rfl (yv_geq rfl rfl) ?_
    refine wpS_quick 1 rfl ?_
    refine wpS_put rfl rfl rfl (yv_neqB (by kernel_rfl) rfl rfl) ?_
    refine wpS_quick 1 rfl ?_
    refine wpS_nil ?_
    refine QH_seq_k hK160 ?_
    refine wpC_cond rfl (fun hb => ?_) (fun hb => ?_)
    rotate_left
    · replace H := cond_f H hb
      refine wpC_skip ?_
      refine QH_block_normal ?_
      refine QH_seq_k hK49 ?_
      refine wpC_region ?_
      refine wpS_quick 1 rfl ?_
      refine wpS_put rfl rfl rfl (yx_add rfl rfl) ?_
      refine wpS_quick 1 rfl ?_
      refine wpS_nil ?_
      exact QH_again (n, v45, (IntKind.wrap .i64 (v46 + 1))) (by repeat (first | exact Sub.nil | refine Sub.cons rfl ?_)) ⟨(hS.sub (List.Sublist.cons_cons _ (List.Sublist.cons_cons _ (List.Sublist.cons _ List.Sublist.slnil)))), H⟩ (Nat.lt_succ_self _)
    replace H := cond_t H hb
    refine wpC_seq_k (fun K hK165 => ?_)
    refine wpC_region ?_
    refine wpS_quick 1 rfl ?_
    refine wpS_nil ?_
    refine QH_seq_k hK165 ?_
    refine wpC_ret ?_
    refine QH_block_ret ?_
    refine QH_then_ret ?_
    refine QH_then_ret ?_
    refine QH_block_ret ?_
    refine QH_then_ret ?_
    refine QH_ret rfl (RV.tmp rfl RV.nil) rfl ?_
    obtain rfl := Option.some.inj H
    replace hS := hS.cut 0
    exact ⟨rfl, hS⟩
  replace H := cond_t H hb
  refine wpS_quick 2 rfl ?_
  refine wpS_put rfl rfl rfl (yx_sub rfl rfl) ?_
  obtain ⟨e76, hi78, H⟩ := bind_some H
  obtain ⟨j77, hi78a, hi78b, hi78c⟩ := idx_some hi78
  refine wpS_put rfl rfl rfl (yx_idx el_24 rfl rfl hi78a hi78c (Rd.el (hS.rd hs0) he_enI hi78b)) ?_
  refine wpS_put rfl rfl rfl (yx_ld0 sc_3 rfl (RW.here _) (Rd.el (hS.rd hs0) he_enI hi78b) rfl) ?_
  refine wpS_put rfl rfl rfl (yv_eql rfl rfl) ?_
  refine wpS_quick 1 rfl ?_
  refine wpS_case 96 rfl (fun hb => ?_) (fun hb => ?_)
  rotate_left
  · replace H := cond_f H hb
    refine wpS_quick 9 rfl ?_
    obtain ⟨e120, hi122, H⟩ := bind_some H
    obtain ⟨j121, hi122a, hi122b, hi122c⟩ := idx_some hi122
    refine wpS_put rfl rfl rfl (yx_idx el_24 rfl rfl hi122a hi122c (Rd.el (hS.rd hs0) he_enI hi122b)) ?_
    refine wpS_put rfl rfl rfl (yx_ld0 sc_3 rfl (RW.here _) (Rd.el (hS.rd hs0) he_enI hi122b) rfl) ?_
    refine wpS_put rfl rfl rfl (yv_eql rfl rfl) ?_
    refine wpS_quick 1 rfl ?_
    refine wpS_case 109 rfl (fun hb => ?_) (fun hb => ?_)
    rotate_left
    · replace H := cond_f H hb
      refine wpS_quick 9 rfl ?_
      refine wpS_nil ?_
      refine QH_seq_k hK75 ?_
      refine wpC_cond_f rfl rfl ?_
      refine wpC_skip ?_
      refine QH_seq_k hK74 ?_
      refine wpC_seq_k (fun K hK142 => ?_)
      refine wpC_region ?_
      refine wpS_put rfl rfl rfl (yv_load_boxA ag_23 rfl (RW.here _) hS hs2 trivial sg0_5) ?_
      refine wpS_quick 1 rfl ?_
      obtain ⟨r143, hm144, H⟩ := bind_some H
      refine wpS_call rfl rfl rfl rfl (by kernel_rfl) rfl (c_level_Format r53 x2 _ hm144) ?_
      rintro e w ⟨rfl, hN⟩; refine ⟨_, rfl, ?_⟩; have hB := hN.pure; have hS := hS.join hN; clear hN
      refine wpS_quick 1 rfl ?_
      refine wpS_nil ?_
      refine QH_seq_k hK142 ?_
      refine wpC_seq_k (fun K hK145 => ?_)
      refine wpC_region ?_
      refine wpS_quick 1 rfl ?_
      refine wpS_put rfl rfl rfl (yv_neq rfl rfl) ?_
      refine wpS_quick 1 rfl ?_
      refine wpS_case 124 rfl (fun hb => ?_) (fun hb => ?_)
      rotate_left
      · replace H := cond_f H hb
        refine wpS_quick 5 rfl ?_
        refine wpS_put rfl rfl rfl (yv_eql rfl rfl) ?_
        refine wpS_quick 2 rfl ?_
        obtain ⟨e152, hi154, H⟩ := bind_some H
        obtain ⟨j153, hi154a, hi154b, hi154c⟩ := idx_some hi154
        refine wpS_put rfl rfl rfl (yx_idx el_24 rfl rfl hi154a hi154c (Rd.el (hS.rd hs0) he_enI hi154b)) ?_
        refine wpS_put rfl rfl rfl (yx_ld0 sc_3 rfl (RW.here _) (Rd.el (hS.rd hs0) he_enI hi154b) rfl) ?_
        refine wpS_put rfl rfl rfl (yv_gtr rfl rfl) ?_
        refine wpS_quick 1 rfl ?_
        refine wpS_case 136 rfl (fun hb => ?_) (fun hb => ?_)
        rotate_left
        · replace H := cond_f H hb
          refine wpS_quick 3 rfl ?_
          refine wpS_put rfl rfl rfl (yv_neqB (by kernel_rfl) rfl rfl) ?_
          refine wpS_quick 1 rfl ?_
          refine wpS_nil ?_
          refine QH_seq_k hK145 ?_
          refine wpC_cond rfl (fun hb => ?_) (fun hb => ?_)
          rotate_left
          · replace H := cond_f H hb
            refine wpC_skip ?_
            refine QH_block_normal ?_
            refine QH_seq_k hK49 ?_
            refine wpC_region ?_
            refine wpS_quick 1 rfl ?_
            refine wpS_put rfl rfl rfl (yx_add rfl rfl) ?_
            refine wpS_quick 1 rfl ?_
            refine wpS_nil ?_
            exact QH_again (n, v45, (IntKind.wrap .i64 (v46 + 1))) (by repeat (first | exact Sub.nil | refine Sub.cons rfl ?_)) ⟨(hS.sub (List.Sublist.cons_cons _ (List.Sublist.cons_cons _ (List.Sublist.cons _ List.Sublist.slnil)))), H⟩ (Nat.lt_succ_self _)
          replace H := cond_t H hb
          refine wpC_seq_k (fun K hK156 => ?_)
          refine wpC_region ?_
          refine wpS_quick 1 rfl ?_
          refine wpS_nil ?_
          refine QH_seq_k hK156 ?_
          refine wpC_ret ?_
          refine QH_block_ret ?_
          refine QH_then_ret ?_
          refine QH_then_ret ?_
          refine QH_block_ret ?_
          refine QH_then_ret ?_
          refine QH_ret rfl (RV.tmp rfl RV.nil) rfl ?_
          obtain rfl := Option.some.inj H
          replace hS := hS.cut 0
          exact ⟨rfl, hS⟩
        replace H := cond_t H hb
        refine wpS_quick 1 rfl ?_
        refine wpS_put rfl rfl rfl (yv_geq rfl rfl) ?_
        refine wpS_quick 1 rfl ?_
        refine wpS_put rfl rfl rfl (yv_neqB (by kernel_rfl) rfl rfl) ?_
        refine wpS_quick 1 rfl ?_
        refine wpS_nil ?_
        refine QH_seq_k hK145 ?_
        refine wpC_cond rfl (fun hb => ?_) (fun hb => ?_)
        rotate_left
        · replace H := cond_f H hb
          refine wpC_skip ?_
          refine QH_block_normal ?_
          refine QH_seq_k hK49 ?_
          refine wpC_region ?_
          refine wpS_quick 1 rfl ?_
          refine wpS_put rfl rfl rfl (yx_add rfl rfl) ?_
          refine wpS_quick 1 rfl ?_
          refine wpS_nil ?_
          exact QH_again (n, v45, (IntKind.wrap .i64 (v46 + 1))) (by repeat (first | exact Sub.nil | refine Sub.cons rfl ?_)) ⟨(hS.sub (List.Sublist.cons_cons _ (List.Sublist.cons_cons _ (List.Sublist.cons _ List.Sublist.slnil)))), H⟩ (Nat.lt_succ_self _)
        replace H := cond_t H hb
        refine wpC_seq_k (fun K hK155 => ?_)
        refine wpC_region ?_
        refine wpS_quick 1 rfl ?_
        refine wpS_nil ?_
        refine QH_seq_k hK155 ?_
        refine wpC_ret ?_
        refine QH_block_ret ?_
        refine QH_then_ret ?_
        refine QH_then_ret ?_
        refine QH_block_ret ?_
        refine QH_then_ret ?_
        refine QH_ret rfl (RV.tmp rfl RV.nil) rfl ?_
        obtain rfl := Option.some.inj H
        replace hS := hS.cut 0
        exact ⟨rfl, hS⟩
      replace H := cond_t H hb
      refine wpS_quick 1 rfl ?_
      refine wpS_put rfl rfl rfl (yv_neq rfl rfl) ?_
      refine wpS_quick 2 rfl ?_
      refine wpS_case 128 rfl (fun hb => ?_) (fun hb => ?_)
      · replace H := cond_t H hb
        refine wpS_quick 13 rfl ?_
        refine wpS_nil ?_
        refine QH_seq_k hK145 ?_
        refine wpC_cond_t rfl rfl ?_
        refine wpC_seq_k (fun K hK146 => ?_)
        refine wpC_region ?_
        refine wpS_quick 1 rfl ?_
        refine wpS_nil ?_
        refine QH_seq_k hK146 ?_
        refine wpC_ret ?_
        refine QH_block_ret ?_
        refine QH_then_ret ?_
        refine QH_then_ret ?_
        refine QH_block_ret ?_
        refine QH_then_ret ?_
        refine QH_ret rfl (RV.tmp rfl RV.nil) rfl ?_
        obtain rfl := Option.some.inj H
        replace hS := hS.cut 0
        exact ⟨rfl, hS⟩
      replace H := cond_f H hb
      refine wpS_quick 1 rfl ?_
      refine wpS_put rfl rfl rfl (yv_eql rfl rfl) ?_
      refine wpS_quick 2 rfl ?_
      obtain ⟨e147, hi149, H⟩ := bind_some H
      obtain ⟨j148, hi149a, hi149b, hi149c⟩ := idx_some hi149
      refine wpS_put rfl rfl rfl (yx_idx el_24 rfl rfl hi149a hi149c (Rd.el (hS.rd hs0) he_enI hi149b)) ?_
      refine wpS_put rfl rfl rfl (yx_ld0 sc_3 rfl (RW.here _) (Rd.el (hS.rd hs0) he_enI hi149b) rfl) ?_
      refine wpS_put rfl rfl rfl (yv_gtr rfl rfl) ?_
      refine wpS_quick 1 rfl ?_
      refine wpS_case 136 rfl (fun hb => ?_) (fun hb => ?_)
      rotate_left
      · replace H := cond_f H hb
        refine wpS_quick 3 rfl ?_
        refine wpS_put rfl rfl rfl (yv_neqB (by kernel_rfl) rfl rfl) ?_
        refine wpS_quick 1 rfl ?_
        refine wpS_nil ?_
        refine QH_seq_k hK145 ?_
        refine wpC_cond rfl (fun hb => ?_) (fun hb => ?_)
        rotate_left
        · replace H := cond_f H hb
          refine wpC_skip ?_
          refine QH_block_normal ?_
          refine QH_seq_k hK49 ?_
          refine wpC_region ?_
          refine wpS_quick 1 rfl ?_
          refine wpS_put rfl rfl rfl (yx_add rfl rfl) ?_
          refine wpS_quick 1 rfl ?_
          refine wpS_nil ?_
          exact QH_again (n, v45, (IntKind.wrap .i64 (v46 + 1))) (by repeat (first | exact Sub.nil | refine Sub.cons rfl ?_)) ⟨(hS.sub (List.Sublist.cons_cons _ (List.Sublist.cons_cons _ (List.Sublist.cons _ List.Sublist.slnil)))), H⟩ (Nat.lt_succ_self _)
        replace H := cond_t H hb
        refine wpC_seq_k (fun K hK151 => ?_)
        refine wpC_region ?_
        refine wpS_quick 1 rfl ?_
        refine wpS_nil ?_
        refine QH_seq_k hK151 ?_
        refine wpC_ret ?_
        refine QH_block_ret ?_
        refine QH_then_ret ?_
        refine QH_then_ret ?_
        refine QH_block_ret ?_
        refine QH_then_ret ?_
        refine QH_ret rfl (RV.tmp rfl RV.nil) rfl ?_
        obtain rfl := Option.some.inj H
        replace hS := hS.cut 0
        exact ⟨rfl, hS⟩
      replace H := cond_t H hb
      refine wpS_quick 1 rfl ?_
      refine wpS_put rfl rfl rfl (yv_geq rfl rfl) ?_
      refine wpS_quick 1 rfl ?_
      refine wpS_put rfl rfl rfl (yv_neqB (by kernel_rfl) rfl rfl) ?_
      refine wpS_quick 1 rfl ?_
      refine wpS_nil ?_
      refine QH_seq_k hK145 ?_
      refine wpC_cond rfl (fun hb => ?_) (fun hb => ?_)
      rotate_left
      · replace H := cond_f H hb
        refine wpC_skip ?_
        refine QH_block_normal ?_
        refine QH_seq_k hK49 ?_
        refine wpC_region ?_
        refine wpS_quick 1 rfl ?_
        refine wpS_put rfl rfl rfl (yx_add rfl rfl) ?_
        refine wpS_quick 1 rfl ?_
        refine wpS_nil ?_
        exact QH_again (n, v45, (IntKind.wrap .i64 (v46 + 1))) (by repeat (first | exact Sub.nil | refine Sub.cons rfl ?_)) ⟨(hS.sub (List.Sublist.cons_cons _ (List.Sublist.cons_cons _ (List.Sublist.cons _ List.Sublist.slnil)))), H⟩ (Nat.lt_succ_self _)
      replace H := cond_t H hb
      refine wpC_seq_k (fun K hK150 => ?_)
      refine wpC_region ?_
      refine wpS_quick 1 rfl ?_
      refine wpS_nil ?_
      refine QH_seq_k hK150 ?_
      refine wpC_ret ?_
      refine QH_block_ret ?_
      refine QH_then_ret ?_
      refine QH_then_ret ?_
      refine QH_block_ret ?_
      refine QH_then_ret ?_
      refine QH_ret rfl (RV.tmp rfl RV.nil) rfl ?_
      obtain rfl := Option.some.inj H
      replace hS := hS.cut 0
      exact ⟨rfl, hS⟩
    replace H := cond_t H hb
    refine wpS_quick 2 rfl ?_
    refine wpS_put rfl rfl rfl (yx_sub rfl rfl) ?_
    obtain ⟨e123, hi125, H⟩ := bind_some H
    obtain ⟨j124, hi125a, hi125b, hi125c⟩ := idx_some hi125
    refine wpS_put rfl rfl rfl (yx_idx el_24 rfl rfl hi125a hi125c (Rd.el (hS.rd hs0) he_enI hi125b)) ?_
    refine wpS_put rfl rfl rfl (yx_ld0 sc_3 rfl (RW.here _) (Rd.el (hS.rd hs0) he_enI hi125b) rfl) ?_
    refine wpS_put rfl rfl rfl (yv_eql rfl rfl) ?_
    refine wpS_quick 3 rfl ?_
    refine wpS_nil ?_
    refine QH_seq_k hK75 ?_
    refine wpC_cond rfl (fun hb => ?_) (fun hb => ?_)
    · replace H := cond_t H hb
      refine wpC_seq_k (fun K hK126 => ?_)
      refine wpC_region ?_
      refine wpS_quick 1 rfl ?_
      refine wpS_nil ?_
      refine QH_seq_k hK126 ?_
      refine wpC_ret ?_
      refine QH_then_ret ?_
      refine QH_block_ret ?_
      refine QH_then_ret ?_
      refine QH_then_ret ?_
      refine QH_block_ret ?_
      refine QH_then_ret ?_
      refine QH_ret rfl (RV.tmp rfl RV.nil) rfl ?_
      obtain rfl := Option.some.inj H
      replace hS := hS.cut 0
      exact ⟨rfl, hS⟩
    replace H := cond_f H hb
    refine wpC_skip ?_
    refine QH_seq_k hK74 ?_
    refine wpC_seq_k (fun K hK127 => ?_)
    refine wpC_region ?_
    refine wpS_put rfl rfl rfl (yv_load_boxA ag_23 rfl (RW.here _) hS hs2 trivial sg0_5) ?_
    refine wpS_quick 1 rfl ?_
    obtain ⟨r128, hm129, H⟩ := bind_some H
    refine wpS_call rfl rfl rfl rfl (by kernel_rfl) rfl (c_level_Format r53 x2 _ hm129) ?_
    rintro e w ⟨rfl, hN⟩; refine ⟨_, rfl, ?_⟩; have hB := hN.pure; have hS := hS.join hN; clear hN
    refine wpS_quick 1 rfl ?_
    refine wpS_nil ?_
    refine QH_seq_k hK127 ?_
    refine wpC_seq_k (fun K hK130 => ?_)
    refine wpC_region ?_
    refine wpS_quick 1 rfl ?_
    refine wpS_put rfl rfl rfl (yv_neq rfl rfl) ?_
    refine wpS_quick 1 rfl ?_
    refine wpS_case 124 rfl (fun hb => ?_) (fun hb => ?_)
    rotate_left
    · replace H := cond_f H hb
      refine wpS_quick 5 rfl ?_
      refine wpS_put rfl rfl rfl (yv_eql rfl rfl) ?_
      refine wpS_quick 2 rfl ?_
      obtain ⟨e137, hi139, H⟩ := bind_some H
      obtain ⟨j138, hi139a, hi139b, hi139c⟩ := idx_some hi139
      refine wpS_put rfl rfl rfl (yx_idx el_24 rfl rfl hi139a hi139c (Rd.el (hS.rd hs0) he_enI hi139b)) ?_
      refine wpS_put rfl rfl rfl (yx_ld0 sc_3 rfl (RW.here _) (Rd.el (hS.rd hs0) he_enI hi139b) rfl) ?_
      refine wpS_put rfl rfl rfl (yv_gtr rfl rfl) ?_
      refine wpS_quick 1 rfl ?_
      refine wpS_case 136 rfl (fun hb => ?_) (fun hb => ?_)
      rotate_left
      · replace H := cond_f H hb
        refine wpS_quick 3 rfl ?_
        refine wpS_put rfl rfl rfl (yv_neqB (by kernel_rfl) rfl rfl) ?_
        refine wpS_quick 1 rfl ?_
        refine wpS_nil ?_
        refine QH_seq_k hK130 ?_
        refine wpC_cond rfl (fun hb => ?_) (fun hb => ?_)
        rotate_left
        · replace H := cond_f H hb
          refine wpC_skip ?_
          refine QH_block_normal ?_
          refine QH_seq_k hK49 ?_
          refine wpC_region ?_
          refine wpS_quick 1 rfl ?_
          refine wpS_put rfl rfl rfl (yx_add rfl rfl) ?_
          refine wpS_quick 1 rfl ?_
          refine wpS_nil ?_
          exact QH_again (n, v45, (IntKind.wrap .i64 (v46 + 1))) (by repeat (first | exact Sub.nil | refine Sub.cons rfl ?_)) ⟨(hS.sub (List.Sublist.cons_cons _ (List.Sublist.cons_cons _ (List.Sublist.cons _ List.Sublist.slnil)))), H⟩ (Nat.lt_succ_self _)
        replace H := cond_t H hb
        refine wpC_seq_k (fun K hK141 => ?_)
        refine wpC_region ?_
        refine wpS_quick 1 rfl ?_
        refine wpS_nil ?_
        refine QH_seq_k hK141 ?_
        refine wpC_ret ?_
        refine QH_block_ret ?_
        refine QH_then_ret ?_
        refine QH_then_ret ?_
        refine QH_block_ret ?_
        refine QH_then_ret ?_
        refine QH_ret rfl (RV.tmp rfl RV.nil) rfl ?_
        obtain rfl := Option.some.inj H
        replace hS := hS.cut 0
        exact ⟨rfl, hS⟩
      replace H := cond_t H hb
      refine wpS_quick 1 rfl ?_
      refine wpS_put rfl rfl rfl (yv_geq rfl rfl) ?_
      refine wpS_quick 1 rfl ?_
      refine wpS_put rfl rfl rfl (yv_neqB (by kernel_rfl) rfl rfl) ?_
      refine wpS_quick 1 rfl ?_
      refine wpS_nil ?_
      refine QH_seq_k hK130 ?_
      refine wpC_cond rfl (fun hb => ?_) (fun hb => ?_)
      rotate_left
      · replace H := cond_f H hb
        refine wpC_skip ?_
        refine QH_block_normal ?_
        refine QH_seq_k hK49 ?_
        refine wpC_region ?_
        refine wpS_quick 1 rfl ?_
        refine wpS_put rfl rfl rfl (yx_add rfl rfl) ?_
        refine wpS_quick 1 rfl ?_
        refine wpS_nil ?_
        exact QH_again (n, v45, (IntKind.wrap .i64 (v46 + 1))) (by repeat (first | exact Sub.nil | refine Sub.cons rfl ?_)) ⟨(hS.sub (List.Sublist.cons_cons _ (List.Sublist.cons_cons _ (List.Sublist.cons _ List.Sublist.slnil)))), H⟩ (Nat.lt_succ_self _)
      replace H := cond_t H hb
      refine wpC_seq_k (fun K hK140 => ?_)
      refine wpC_region ?_
      refine wpS_quick 1 rfl ?_
      refine wpS_nil ?_
      refine QH_seq_k hK140 ?_
      refine wpC_ret ?_
      refine QH_block_ret ?_
      refine QH_then_ret ?_
      refine QH_then_ret ?_
      refine QH_block_ret ?_
      refine QH_then_ret ?_
      refine QH_ret rfl (RV.tmp rfl RV.nil) rfl ?_
      obtain rfl := Option.some.inj H
      replace hS := hS.cut 0
      exact ⟨rfl, hS⟩
    replace H := cond_t H hb
    refine wpS_quick 1 rfl ?_
    refine wpS_put rfl rfl rfl (yv_neq rfl rfl) ?_
    refine wpS_quick 2 rfl ?_
    refine wpS_case 128 rfl (fun hb => ?_) (fun hb => ?_)
    · replace H := cond_t H hb
      refine wpS_quick 13 rfl ?_
      refine wpS_nil ?_
      refine QH_seq_k hK130 ?_
      refine wpC_cond_t rfl rfl ?_
      refine wpC_seq_k (fun K hK131 => ?_)
      refine wpC_region ?_
      refine wpS_quick 1 rfl ?_
      refine wpS_nil ?_
      refine QH_seq_k hK131 ?_
      refine wpC_ret ?_
      refine QH_block_ret ?_
      refine QH_then_ret ?_
      refine QH_then_ret ?_
      refine QH_block_ret ?_
      refine QH_then_ret ?_
      refine QH_ret rfl (RV.tmp rfl RV.nil) rfl ?_
      obtain rfl := Option.some.inj H
      replace hS := hS.cut 0
      exact ⟨rfl, hS⟩
    replace H := cond_f H hb
    refine wpS_quick 1 rfl ?_
    refine wpS_put rfl rfl rfl (yv_eql rfl rfl) ?_
    refine wpS_quick 2 rfl ?_
    obtain ⟨e132, hi134, H⟩ := bind_some H
    obtain ⟨j133, hi134a, hi134b, hi134c⟩ := idx_some hi134
    refine wpS_put rfl rfl rfl (yx_idx el_24 rfl rfl hi134a hi134c (Rd.el (hS.rd hs0) he_enI hi134b)) ?_
    refine wpS_put rfl rfl rfl (yx_ld0 sc_3 rfl (RW.here _) (Rd.el (hS.rd hs0) he_enI hi134b) rfl) ?_
    refine wpS_put rfl rfl rfl (yv_gtr rfl rfl) ?_
    refine wpS_quick 1 rfl ?_
    refine wpS_case 136 rfl (fun hb => ?_) (fun hb => ?_)
    rotate_left
    · replace H := cond_f H hb
      refine wpS_quick 3 rfl ?_
      refine wpS_put rfl rfl rfl (yv_neqB (by kernel_rfl) rfl rfl) ?_
      refine wpS_quick 1 rfl ?_
      refine wpS_nil ?_
      refine QH_seq_k hK130 ?_
      refine wpC_cond rfl (fun hb => ?_) (fun hb => ?_)
      rotate_left
      · replace H := cond_f H hb
        refine wpC_skip ?_
        refine QH_block_normal ?_
        refine QH_seq_k hK49 ?_
        refine wpC_region ?_
        refine wpS_quick 1 rfl ?_
        refine wpS_put rfl rfl rfl (yx_add rfl rfl) ?_
        refine wpS_quick 1 rfl ?_
        refine wpS_nil ?_
        exact QH_again (n, v45, (IntKind.wrap .i64 (v46 + 1))) (by repeat (first | exact Sub.nil | refine Sub.cons rfl ?_)) ⟨(hS.sub (List.Sublist.cons_cons _ (List.Sublist.cons_cons _ (List.Sublist.cons _ List.Sublist.slnil)))), H⟩ (Nat.lt_succ_self _)
      replace H := cond_t H hb
      refine wpC_seq_k (fun K hK136 => ?_)
      refine wpC_region ?_
      refine wpS_quick 1 rfl ?_
      refine wpS_nil ?_
      refine QH_seq_k hK136 ?_
      refine wpC_ret ?_
      refine QH_block_ret ?_
      refine QH_then_ret ?_
      refine QH_then_ret ?_
      refine QH_block_ret ?_
      refine QH_then_ret ?_
      refine QH_ret rfl (RV.tmp rfl RV.nil) rfl ?_
      obtain rfl := Option.some.inj H
      replace hS := hS.cut 0
      exact ⟨rfl, hS⟩
    replace H := cond_t H hb
    refine wpS_quick 1 rfl ?_
    refine wpS_put rfl rfl rfl (yv_geq rfl rfl) ?_
    refine wpS_quick 1 rfl ?_
    refine wpS_put rfl rfl rfl (yv_neqB (by kernel_rfl) rfl rfl) ?_
    refine wpS_quick 1 rfl ?_
    refine wpS_nil ?_
    refine QH_seq_k hK130 ?_
    refine wpC_cond rfl (fun hb => ?_) (fun hb => ?_)
    rotate_left
    · replace H := cond_f H hb
      refine wpC_skip ?_
      refine QH_block_normal ?_
      refine QH_seq_k hK49 ?_
      refine wpC_region ?_
      refine wpS_quick 1 rfl ?_
      refine wpS_put rfl rfl rfl (yx_add rfl rfl) ?_
      refine wpS_quick 1 rfl ?_
      refine wpS_nil ?_
      exact QH_again (n, v45, (IntKind.wrap .i64 (v46 + 1))) (by repeat (first | exact Sub.nil | refine Sub.cons rfl ?_)) ⟨(hS.sub (List.Sublist.cons_cons _ (List.Sublist.cons_cons _ (List.Sublist.cons _ List.Sublist.slnil)))), H⟩ (Nat.lt_succ_self _)
    replace H := cond_t H hb
    refine wpC_seq_k (fun K hK135 => ?_)
    refine wpC_region ?_
    refine wpS_quick 1 rfl ?_
    refine wpS_nil ?_
    refine QH_seq_k hK135 ?_
    refine wpC_ret ?_
    refine QH_block_ret ?_
    refine QH_then_ret ?_
    refine QH_then_ret ?_
    refine QH_block_ret ?_
    refine QH_then_ret ?_
    refine QH_ret rfl (RV.tmp rfl RV.nil) rfl ?_
    obtain rfl := Option.some.inj H
    replace hS := hS.cut 0
    exact ⟨rfl, hS⟩
  replace H := cond_t H hb
  refine wpS_quick 2 rfl ?_
  obtain ⟨e79, hi81, H⟩ := bind_some H
  obtain ⟨j80, hi81a, hi81b, hi81c⟩ := idx_some hi81
  refine wpS_put rfl rfl rfl (yx_idx el_24 rfl rfl hi81a hi81c (Rd.el (hS.rd hs0) he_enI hi81b)) ?_
  refine wpS_put rfl rfl rfl (yx_ld0 sc_3 rfl (RW.here _) (Rd.el (hS.rd hs0) he_enI hi81b) rfl) ?_
  refine wpS_put rfl rfl rfl (yv_neq rfl rfl) ?_
  refine wpS_quick 2 rfl ?_
  refine wpS_case 103 rfl (fun hb => ?_) (fun hb => ?_)
  · replace H := cond_t H hb
    refine wpS_quick 15 rfl ?_
    refine wpS_nil ?_
    refine QH_seq_k hK75 ?_
    refine wpC_cond_t rfl rfl ?_
    refine wpC_seq_k (fun K hK82 => ?_)
    refine wpC_region ?_
    refine wpS_quick 1 rfl ?_
    refine wpS_nil ?_
    refine QH_seq_k hK82 ?_
    refine wpC_ret ?_
    refine QH_then_ret ?_
    refine QH_block_ret ?_
    refine QH_then_ret ?_
    refine QH_then_ret ?_
    refine QH_block_ret ?_
    refine QH_then_ret ?_
    refine QH_ret rfl (RV.tmp rfl RV.nil) rfl ?_
    obtain rfl := Option.some.inj H
    replace hS := hS.cut 0
    exact ⟨rfl, hS⟩
  replace H := cond_f H hb
  refine wpS_quick 2 rfl ?_
  obtain ⟨e83, hi85, H⟩ := bind_some H
  obtain ⟨j84, hi85a, hi85b, hi85c⟩ := idx_some hi85
  refine wpS_put rfl rfl rfl (yx_idx el_24 rfl rfl hi85a hi85c (Rd.el (hS.rd hs0) he_enI hi85b)) ?_
  refine wpS_put rfl rfl rfl (yx_ld0 sc_3 rfl (RW.here _) (Rd.el (hS.rd hs0) he_enI hi85b) rfl) ?_
  refine wpS_put rfl rfl rfl (yv_eql rfl rfl) ?_
  refine wpS_quick 1 rfl ?_
  refine wpS_case 109 rfl (fun hb => ?_) (fun hb => ?_)
  rotate_left
  · replace H := cond_f H hb
    refine wpS_quick 9 rfl ?_
    refine wpS_nil ?_
    refine QH_seq_k hK75 ?_
    refine wpC_cond_f rfl rfl ?_
    refine wpC_skip ?_
    refine QH_seq_k hK74 ?_
    refine wpC_seq_k (fun K hK105 => ?_)
    refine wpC_region ?_
    refine wpS_put rfl rfl rfl (yv_load_boxA ag_23 rfl (RW.here _) hS hs2 trivial sg0_5) ?_
    refine wpS_quick 1 rfl ?_
    obtain ⟨r106, hm107, H⟩ := bind_some H
    refine wpS_call rfl rfl rfl rfl (by kernel_rfl) rfl (c_level_Format r53 x2 _ hm107) ?_
    rintro e w ⟨rfl, hN⟩; refine ⟨_, rfl, ?_⟩; have hB := hN.pure; have hS := hS.join hN; clear hN
    refine wpS_quick 1 rfl ?_
    refine wpS_nil ?_
    refine QH_seq_k hK105 ?_
    refine wpC_seq_k (fun K hK108 => ?_)
    refine wpC_region ?_
    refine wpS_quick 1 rfl ?_
    refine wpS_put rfl rfl rfl (yv_neq rfl rfl) ?_
    refine wpS_quick 1 rfl ?_
    refine wpS_case 124 rfl (fun hb => ?_) (fun hb => ?_)
    rotate_left
    · replace H := cond_f H hb
      refine wpS_quick 5 rfl ?_
      refine wpS_put rfl rfl rfl (yv_eql rfl rfl) ?_
      refine wpS_quick 2 rfl ?_
      obtain ⟨e115, hi117, H⟩ := bind_some H
      obtain ⟨j116, hi117a, hi117b, hi117c⟩ := idx_some hi117
      refine wpS_put rfl rfl rfl (yx_idx el_24 rfl rfl hi117a hi117c (Rd.el (hS.rd hs0) he_enI hi117b)) ?_
      refine wpS_put rfl rfl rfl (yx_ld0 sc_3 rfl (RW.here _) (Rd.el (hS.rd hs0) he_enI hi117b) rfl) ?_
      refine wpS_put rfl rfl rfl (yv_gtr rfl rfl) ?_
      refine wpS_quick 1 rfl ?_
      refine wpS_case 136 rfl (fun hb => ?_) (fun hb => ?_)
      rotate_left
      · replace H := cond_f H hb
        refine wpS_quick 3 rfl ?_
        refine wpS_put rfl rfl rfl (yv_neqB (by kernel_rfl) rfl rfl) ?_
        refine wpS_quick 1 rfl ?_
        refine wpS_nil ?_
        refine QH_seq_k hK108 ?_
        refine wpC_cond rfl (fun hb => ?_) (fun hb => ?_)
        rotate_left
        · replace H := cond_f H hb
          refine wpC_skip ?_
          refine QH_block_normal ?_
          refine QH_seq_k hK49 ?_
          refine wpC_region ?_
          refine wpS_quick 1 rfl ?_
          refine wpS_put rfl rfl rfl (yx_add rfl rfl) ?_
          refine wpS_quick 1 rfl ?_
          refine wpS_nil ?_
          exact QH_again (n, v45, (IntKind.wrap .i64 (v46 + 1))) (by repeat (first | exact Sub.nil | refine Sub.cons rfl ?_)) ⟨(hS.sub (List.Sublist.cons_cons _ (List.Sublist.cons_cons _ (List.Sublist.cons _ List.Sublist.slnil)))), H⟩ (Nat.lt_succ_self _)
        replace H := cond_t H hb
        refine wpC_seq_k (fun K hK119 => ?_)
        refine wpC_region ?_
        refine wpS_quick 1 rfl ?_
        refine wpS_nil ?_
        refine QH_seq_k hK119 ?_
        refine wpC_ret ?_
        refine QH_block_ret ?_
        refine QH_then_ret ?_
        refine QH_then_ret ?_
        refine QH_block_ret ?_
        refine QH_then_ret ?_
        refine QH_ret rfl (RV.tmp rfl RV.nil) rfl ?_
        obtain rfl := Option.some.inj H
        replace hS := hS.cut 0
        exact ⟨rfl, hS⟩
      replace H := cond_t H hb
      refine wpS_quick 1 rfl ?_
      refine wpS_put rfl rfl rfl (yv_geq rfl rfl) ?_
      refine wpS_quick 1 rfl ?_
      refine wpS_put rfl rfl rfl (yv_neqB (by kernel_rfl) rfl rfl) ?_
      refine wpS_quick 1 rfl ?_
      refine wpS_nil ?_
      refine QH_seq_k hK108 ?_
      refine wpC_cond rfl (fun hb => ?_) (fun hb => ?_)
      rotate_left
      · replace H := cond_f H hb
        refine wpC_skip ?_
        refine QH_block_normal ?_
        refine QH_seq_k hK49 ?_
        refine wpC_region ?_
        refine wpS_quick 1 rfl ?_
        refine wpS_put rfl rfl rfl (yx_add rfl rfl) ?_
        refine wpS_quick 1 rfl ?_
        refine wpS_nil ?_
        exact QH_again (n, v45, (IntKind.wrap .i64 (v46 + 1))) (by repeat (first | exact Sub.nil | refine Sub.cons rfl ?_)) ⟨(hS.sub (List.Sublist.cons_cons _ (List.Sublist.cons_cons _ (List.Sublist.cons _ List.Sublist.slnil)))), H⟩ (Nat.lt_succ_self _)
      replace H := cond_t H hb
      refine wpC_seq_k (fun K hK118 => ?_)
      refine wpC_region ?_
      refine wpS_quick 1 rfl ?_
      refine wpS_nil ?_
      refine QH_seq_k hK118 ?_
      refine wpC_ret ?_
      refine QH_block_ret ?_
      refine QH_then_ret ?_
      refine QH_then_ret ?_
      refine QH_block_ret ?_
      refine QH_then_ret ?_
      refine QH_ret rfl (RV.tmp rfl RV.nil) rfl ?_
      obtain rfl := Option.some.inj H
      replace hS := hS.cut 0
      exact ⟨rfl, hS⟩
    replace H := cond_t H hb
    refine wpS_quick 1 rfl ?_
    refine wpS_put rfl rfl rfl (yv_neq rfl rfl) ?_
    refine wpS_quick 2 rfl ?_
    refine wpS_case 128 rfl (fun hb => ?_) (fun hb => ?_)
    · replace H := cond_t H hb
      refine wpS_quick 13 rfl ?_
      refine wpS_nil ?_
      refine QH_seq_k hK108 ?_
      refine wpC_cond_t rfl rfl ?_
      refine wpC_seq_k (fun K hK109 => ?_)
      refine wpC_region ?_
      refine wpS_quick 1 rfl ?_
      refine wpS_nil ?_
      refine QH_seq_k hK109 ?_
      refine wpC_ret ?_
      refine QH_block_ret ?_
      refine QH_then_ret ?_
      refine QH_then_ret ?_
      refine QH_block_ret ?_
      refine QH_then_ret ?_
      refine QH_ret rfl (RV.tmp rfl RV.nil) rfl ?_
      obtain rfl := Option.some.inj H
      replace hS := hS.cut 0
      exact ⟨rfl, hS⟩
    replace H := cond_f H hb
    refine wpS_quick 1 rfl ?_
    refine wpS_put rfl rfl rfl (yv_eql rfl rfl) ?_
    refine wpS_quick 2 rfl ?_
    obtain ⟨e110, hi112, H⟩ := bind_some H
    obtain ⟨j111, hi112a, hi112b, hi112c⟩ := idx_some hi112
    refine wpS_put rfl rfl rfl (yx_idx el_24 rfl rfl hi112a hi112c (Rd.el (hS.rd hs0) he_enI hi112b)) ?_
    refine wpS_put rfl rfl rfl (yx_ld0 sc_3 rfl (RW.here _) (Rd.el (hS.rd hs0) he_enI hi112b) rfl) ?_
    refine wpS_put rfl rfl rfl (yv_gtr rfl rfl) ?_
    refine wpS_quick 1 rfl ?_
    refine wpS_case 136 rfl (fun hb => ?_) (fun hb => ?_)
    rotate_left
    · replace H := cond_f H hb
      refine wpS_quick 3 rfl ?_
      refine wpS_put rfl rfl rfl (yv_neqB (by kernel_rfl) rfl rfl) ?_
      refine wpS_quick 1 rfl ?_
      refine wpS_nil ?_
      refine QH_seq_k hK108 ?_
      refine wpC_cond rfl (fun hb => ?_) (fun hb => ?_)
      rotate_left
      · replace H := cond_f H hb
        refine wpC_skip ?_
        refine QH_block_normal ?_
        refine QH_seq_k hK49 ?_
        refine wpC_region ?_
        refine wpS_quick 1 rfl ?_
        refine wpS_put rfl rfl rfl (yx_add rfl rfl) ?_
        refine wpS_quick 1 rfl ?_
        refine wpS_nil ?_
        exact QH_again (n, v45, (IntKind.wrap .i64 (v46 + 1))) (by repeat (first | exact Sub.nil | refine Sub.cons rfl ?_)) ⟨(hS.sub (List.Sublist.cons_cons _ (List.Sublist.cons_cons _ (List.Sublist.cons _ List.Sublist.slnil)))), H⟩ (Nat.lt_succ_self _)
      replace H := cond_t H hb
      refine wpC_seq_k (fun K hK114 => ?_)
      refine wpC_region ?_
      refine wpS_quick 1 rfl ?_
      refine wpS_nil ?_
      refine QH_seq_k hK114 ?_
      refine wpC_ret ?_
      refine QH_block_ret ?_
      refine QH_then_ret ?_
      refine QH_then_ret ?_
      refine QH_block_ret ?_
      refine QH_then_ret ?_
      refine QH_ret rfl (RV.tmp rfl RV.nil) rfl ?_
      obtain rfl := Option.some.inj H
      replace hS := hS.cut 0
      exact ⟨rfl, hS⟩
    replace H := cond_t H hb
    refine wpS_quick 1 rfl ?_
    refine wpS_put rfl rfl rfl (yv_geq rfl rfl) ?_
    refine wpS_quick 1 rfl ?_
    refine wpS_put rfl rfl rfl (yv_neqB (by kernel_rfl) rfl rfl) ?_
    refine wpS_quick 1 rfl ?_
    refine wpS_nil ?_
    refine QH_seq_k hK108 ?_
    refine wpC_cond rfl (fun hb => ?_) (fun hb => ?_)
    rotate_left
    · replace H := cond_f H hb
      refine wpC_skip ?_
      refine QH_block_normal ?_
      refine QH_seq_k hK49 ?_
      refine wpC_region ?_
      refine wpS_quick 1 rfl ?_
      refine wpS_put rfl rfl rfl (yx_add rfl rfl) ?_
      refine wpS_quick 1 rfl ?_
      refine wpS_nil ?_
      exact QH_again (n, v45, (IntKind.wrap .i64 (v46 + 1))) (by repeat (first | exact Sub.nil | refine Sub.cons rfl ?_)) ⟨(hS.sub (List.Sublist.cons_cons _ (List.Sublist.cons_cons _ (List.Sublist.cons _ List.Sublist.slnil)))), H⟩ (Nat.lt_succ_self _)
    replace H := cond_t H hb
    refine wpC_seq_k (fun K hK113 => ?_)
    refine wpC_region ?_
    refine wpS_quick 1 rfl ?_
    refine wpS_nil ?_
    refine QH_seq_k hK113 ?_
    refine wpC_ret ?_
    refine QH_block_ret ?_
    refine QH_then_ret ?_
    refine QH_then_ret ?_
    refine QH_block_ret ?_
    refine QH_then_ret ?_
    refine QH_ret rfl (RV.tmp rfl RV.nil) rfl ?_
    obtain rfl := Option.some.inj H
    replace hS := hS.cut 0
    exact ⟨rfl, hS⟩
  replace H := cond_t H hb
  refine wpS_quick 2 rfl ?_
  refine wpS_put rfl rfl rfl (yx_sub rfl rfl) ?_
  obtain ⟨e86, hi88, H⟩ := bind_some H
  obtain ⟨j87, hi88a, hi88b, hi88c⟩ := idx_some hi88
  refine wpS_put rfl rfl rfl (yx_idx el_24 rfl rfl hi88a hi88c (Rd.el (hS.rd hs0) he_enI hi88b)) ?_
  refine wpS_put rfl rfl rfl (yx_ld0 sc_3 rfl (RW.here _) (Rd.el (hS.rd hs0) he_enI hi88b) rfl) ?_
  refine wpS_put rfl rfl rfl (yv_eql rfl rfl) ?_
  refine wpS_quick 3 rfl ?_
  refine wpS_nil ?_
  refine QH_seq_k hK75 ?_
  refine wpC_cond rfl (fun hb => ?_) (fun hb => ?_)
  · replace H := cond_t H hb
    refine wpC_seq_k (fun K hK89 => ?_)
    refine wpC_region ?_
    refine wpS_quick 1 rfl ?_
    refine wpS_nil ?_
    refine QH_seq_k hK89 ?_
    refine wpC_ret ?_
    refine QH_then_ret ?_
    refine QH_block_ret ?_
    refine QH_then_ret ?_
    refine QH_then_ret ?_
    refine QH_block_ret ?_
    refine QH_then_ret ?_
    refine QH_ret rfl (RV.tmp rfl RV.nil) rfl ?_
    obtain rfl := Option.some.inj H
    replace hS := hS.cut 0
    exact ⟨rfl, hS⟩
  replace H := cond_f H hb
  refine wpC_skip ?_
  refine QH_seq_k hK74 ?_
  refine wpC_seq_k (fun K hK90 => ?_)
  refine wpC_region ?_
  refine wpS_put rfl rfl rfl (yv_load_boxA ag_23 rfl (RW.here _) hS hs2 trivial sg0_5) ?_
  refine wpS_quick 1 rfl ?_
  obtain ⟨r91, hm92, H⟩ := bind_some H
  refine wpS_call rfl rfl rfl rfl (by kernel_rfl) rfl (c_level_Format r53 x2 _ hm92) ?_
  rintro e w ⟨rfl, hN⟩; refine ⟨_, rfl, ?_⟩; have hB := hN.pure; have hS := hS.join hN; clear hN
  refine wpS_quick 1 rfl ?_
  refine wpS_nil ?_
  refine QH_seq_k hK90 ?_
  refine wpC_seq_k (fun K hK93 => ?_)
  refine wpC_region ?_
  refine wpS_quick 1 rfl ?_
  refine wpS_put rfl rfl rfl (yv_neq rfl rfl) ?_
  refine wpS_quick 1 rfl ?_
  refine wpS_case 124 rfl (fun hb => ?_) (fun hb => ?_)
  rotate_left
  · replace H := cond_f H hb
    refine wpS_quick 5 rfl ?_
    refine wpS_put rfl rfl rfl (yv_eql rfl rfl) ?_
    refine wpS_quick 2 rfl ?_
    obtain ⟨e100, hi102, H⟩ := bind_some H
    obtain ⟨j101, hi102a, hi102b, hi102c⟩ := idx_some hi102
    refine wpS_put rfl rfl rfl (yx_idx el_24 rfl rfl hi102a hi102c (Rd.el (hS.rd hs0) he_enI hi102b)) ?_
    refine wpS_put rfl rfl rfl (yx_ld0 sc_3 rfl (RW.here _) (Rd.el (hS.rd hs0) he_enI hi102b) rfl) ?_
    refine wpS_put rfl rfl rfl (yv_gtr rfl rfl) ?_
    refine wpS_quick 1 rfl ?_
    refine wpS_case 136 rfl (fun hb => ?_) (fun hb => ?_)
    rotate_left
    · replace H := cond_f H hb
      refine wpS_quick 3 rfl ?_
      refine wpS_put rfl rfl rfl (yv_neqB (by kernel_rfl) rfl rfl) ?_
      refine wpS_quick 1 rfl ?_
      refine wpS_nil ?_
      refine QH_seq_k hK93 ?_
      refine wpC_cond rfl (fun hb => ?_) (fun hb => ?_)
      rotate_left
      · replace H := cond_f H hb
        refine wpC_skip ?_
        refine QH_block_normal ?_
        refine QH_seq_k hK49 ?_
        refine wpC_region ?_
        refine wpS_quick 1 rfl ?_
        refine wpS_put rfl rfl rfl (yx_add rfl rfl) ?_
        refine wpS_quick 1 rfl ?_
        refine wpS_nil ?_
        exact QH_again (n, v45, (IntKind.wrap .i64 (v46 + 1))) (by repeat (first | exact Sub.nil | refine Sub.cons rfl ?_)) ⟨(hS.sub (List.Sublist.cons_cons _ (List.Sublist.cons_cons _ (List.Sublist.cons _ List.Sublist.slnil)))), H⟩ (Nat.lt_succ_self _)
      replace H := cond_t H hb
      refine wpC_seq_k (fun K hK104 => ?_)
      refine wpC_region ?_
      refine wpS_quick 1 rfl ?_
      refine wpS_nil ?_
      refine QH_seq_k hK104 ?_
      refine wpC_ret ?_
      refine QH_block_ret ?_
      refine QH_then_ret ?_
      refine QH_then_ret ?_
      refine QH_block_ret ?_
      refine QH_then_ret ?_
      refine QH_ret rfl (RV.tmp rfl RV.nil) rfl ?_
      obtain rfl := Option.some.inj H
      replace hS := hS.cut 0
      exact ⟨rfl, hS⟩
    replace H := cond_t H hb
    refine wpS_quick 1 rfl ?_
    refine wpS_put rfl rfl rfl (yv_geq rfl rfl) ?_
    refine wpS_quick 1 rfl ?_
    refine wpS_put rfl rfl rfl (yv_neqB (by kernel_rfl) rfl rfl) ?_
    refine wpS_quick 1 rfl ?_
    refine wpS_nil ?_
    refine QH_seq_k hK93 ?_
    refine wpC_cond rfl (fun hb => ?_) (fun hb => ?_)
    rotate_left
    · replace H := cond_f H hb
      refine wpC_skip ?_
      refine QH_block_normal ?_
      refine QH_seq_k hK49 ?_
      refine wpC_region ?_
      refine wpS_quick 1 rfl ?_
      refine wpS_put rfl rfl rfl (yx_add rfl rfl) ?_
      refine wpS_quick 1 rfl ?_
      refine wpS_nil ?_
      exact QH_again (n, v45, (IntKind.wrap .i64 (v46 + 1))) (by repeat (first | exact Sub.nil | refine Sub.cons rfl ?_)) ⟨(hS.sub (List.Sublist.cons_cons _ (List.Sublist.cons_cons _ (List.Sublist.cons _ List.Sublist.slnil)))), H⟩ (Nat.lt_succ_self _)
    replace H := cond_t H hb
    refine wpC_seq_k (fun K hK103 => ?_)
    refine wpC_region ?_
    refine wpS_quick 1 rfl ?_
    refine wpS_nil ?_
    refine QH_seq_k hK103 ?_
    refine wpC_ret ?_
    refine QH_block_ret ?_
    refine QH_then_ret ?_
    refine QH_then_ret ?_
    refine QH_block_ret ?_
    refine QH_then_ret ?_
    refine QH_ret rfl (RV.tmp rfl RV.nil) rfl ?_
    obtain rfl := Option.some.inj H
    replace hS := hS.cut 0
    exact ⟨rfl, hS⟩
  replace H := cond_t H hb
  refine wpS_quick 1 rfl ?_
  refine wpS_put rfl rfl rfl (yv_neq rfl rfl) ?_
  refine wpS_quick 2 rfl ?_
  refine wpS_case 128 rfl (fun hb => ?_) (fun hb => ?_)
  · replace H := cond_t H hb
    refine wpS_quick 13 rfl ?_
    refine wpS_nil ?_
    refine QH_seq_k hK93 ?_
    refine wpC_cond_t rfl rfl ?_
    refine wpC_seq_k (fun K hK94 => ?_)
    refine wpC_region ?_
    refine wpS_quick 1 rfl ?_
    refine wpS_nil ?_
    refine QH_seq_k hK94 ?_
    refine wpC_ret ?_
    refine QH_block_ret ?_
    refine QH_then_ret ?_
    refine QH_then_ret ?_
    refine QH_block_ret ?_
    refine QH_then_ret ?_
    refine QH_ret rfl (RV.tmp rfl RV.nil) rfl ?_
    obtain rfl := Option.some.inj H
    replace hS := hS.cut 0
    exact ⟨rfl, hS⟩
  replace H := cond_f H hb
  refine wpS_quick 1 rfl ?_
  refine wpS_put rfl rfl rfl (yv_eql rfl rfl) ?_
  refine wpS_quick 2 rfl ?_
  obtain ⟨e95, hi97, H⟩ := bind_some H
  obtain ⟨j96, hi97a, hi97b, hi97c⟩ := idx_some hi97
  refine wpS_put rfl rfl rfl (yx_idx el_24 rfl rfl hi97a hi97c (Rd.el (hS.rd hs0) he_enI hi97b)) ?_
  refine wpS_put rfl rfl rfl (yx_ld0 sc_3 rfl (RW.here _) (Rd.el (hS.rd hs0) he_enI hi97b) rfl) ?_
  refine wpS_put rfl rfl rfl (yv_gtr rfl rfl) ?_
  refine wpS_quick 1 rfl ?_
  refine wpS_case 136 rfl (fun hb => ?_) (fun hb => ?_)
  rotate_left
  · replace H := cond_f H hb
    refine wpS_quick 3 rfl ?_
    refine wpS_put rfl rfl rfl (yv_neqB (by kernel_rfl) rfl rfl) ?_
    refine wpS_quick 1 rfl ?_
    refine wpS_nil ?_
    refine QH_seq_k hK93 ?_
    refine wpC_cond rfl (fun hb => ?_) (fun hb => ?_)
    rotate_left
    · replace H := cond_f H hb
      refine wpC_skip ?_
      refine QH_block_normal ?_
      refine QH_seq_k hK49 ?_
      refine wpC_region ?_
      refine wpS_quick 1 rfl ?_
      refine wpS_put rfl rfl rfl (yx_add rfl rfl) ?_
      refine wpS_quick 1 rfl ?_
      refine wpS_nil ?_
      exact QH_again (n, v45, (IntKind.wrap .i64 (v46 + 1))) (by repeat (first | exact Sub.nil | refine Sub.cons rfl ?_)) ⟨(hS.sub (List.Sublist.cons_cons _ (List.Sublist.cons_cons _ (List.Sublist.cons _ List.Sublist.slnil)))), H⟩ (Nat.lt_succ_self _)
    replace H := cond_t H hb
    refine wpC_seq_k (fun K hK99 => ?_)
    refine wpC_region ?_
    refine wpS_quick 1 rfl ?_
    refine wpS_nil ?_
    refine QH_seq_k hK99 ?_
    refine wpC_ret ?_
    refine QH_block_ret ?_
    refine QH_then_ret ?_
    refine QH_then_ret ?_
    refine QH_block_ret ?_
    refine QH_then_ret ?_
    refine QH_ret rfl (RV.tmp rfl RV.nil) rfl ?_
    obtain rfl := Option.some.inj H
    replace hS := hS.cut 0
    exact ⟨rfl, hS⟩
  replace H := cond_t H hb
  refine wpS_quick 1 rfl ?_
  refine wpS_put rfl rfl rfl (yv_geq rfl rfl) ?_
  refine wpS_quick 1 rfl ?_
  refine wpS_put rfl rfl rfl (yv_neqB (by kernel_rfl) rfl rfl) ?_
  refine wpS_quick 1 rfl ?_
  refine wpS_nil ?_
  refine QH_seq_k hK93 ?_
  refine wpC_cond rfl (fun hb => ?_) (fun hb => ?_)
  rotate_left
  · replace H := cond_f H hb
    refine wpC_skip ?_
    refine QH_block_normal ?_
    refine QH_seq_k hK49 ?_
    refine wpC_region ?_
    refine wpS_quick 1 rfl ?_
    refine wpS_put rfl rfl rfl (yx_add rfl rfl) ?_
    refine wpS_quick 1 rfl ?_
    refine wpS_nil ?_
    exact QH_again (n, v45, (IntKind.wrap .i64 (v46 + 1))) (by repeat (first | exact Sub.nil | refine Sub.cons rfl ?_)) ⟨(hS.sub (List.Sublist.cons_cons _ (List.Sublist.cons_cons _ (List.Sublist.cons _ List.Sublist.slnil)))), H⟩ (Nat.lt_succ_self _)
  replace H := cond_t H hb
  refine wpC_seq_k (fun K hK98 => ?_)
  refine wpC_region ?_
  refine wpS_quick 1 rfl ?_
  refine wpS_nil ?_
  refine QH_seq_k hK98 ?_
  refine wpC_ret ?_
  refine QH_block_ret ?_
  refine QH_then_ret ?_
  refine QH_then_ret ?_
  refine QH_block_ret ?_
  refine QH_then_ret ?_
  refine QH_ret rfl (RV.tmp rfl RV.nil) rfl ?_
  obtain rfl := Option.some.inj H
  replace hS := hS.cut 0
  exact ⟨rfl, hS⟩
end Go.Proofs.Ytoehcmddfpompaa
/- Plain laws of what printed functions compute: small numbers, places of lists. -/
namespace Go.Proofs.Ytoehcmddfpompaa
open Go Go.RowKit
set_option maxRecDepth 100000
theorem w64i {n : Int} (h : -9223372036854775808 ≤ n ∧ n ≤ 9223372036854775807) : IntKind.wrap .i64 n = n := i64_in' h
theorem idx_nat {α : Type} (l : List α) (k : Nat) : idx l (k : Int) = l[k]? := by unfold idx; simp
theorem takeI_nat {α : Type} (l : List α) (k : Nat) (h : k ≤ l.length) : takeI l (k : Int) = some (l.take k) := by unfold takeI; rw [if_pos (by omega)]; simp
theorem drop_step {α : Type} {l : List α} {k : Nat} (h : k < l.length) : ∃ e, l[k]? = some e ∧ l.drop k = e :: l.drop (k + 1) := ⟨l[k], List.getElem?_eq_getElem h, List.drop_eq_getElem_cons h⟩
end Go.Proofs.Ytoehcmddfpompaa
/- The printed texts of this seat. -/
/- Tuples' changes, as plain numbers: what the laws of layer 12 ask. -/
namespace Go.Proofs.Ytoehcmddfpompaa
open Go Go.RowKit
set_option maxRecDepth 100000

end Go.Proofs.Ytoehcmddfpompaa
/- What the references of entries and tuples compute, in plain terms. -/
namespace Go.Proofs.Ytoehcmddfpompaa
open Go Go.RowKit
set_option maxRecDepth 100000
theorem p_number (x : Int) : m_ref06_number x = some (numB x) := by
  unfold m_ref06_number numB
  by_cases h : 0 ≤ x <;> simp [h]
theorem p_Fine (x : St) : m_ref06_Fine x = some (fineB x) := by
  obtain ⟨i, t, s, l, f⟩ := x
  simp only [m_ref06_Fine, m_ref06_First, p_number, Option.bind_some, fineB, firstS, numB, St.mk.injEq, Bool.cond_not, Bool.cond_decide]
  cases f <;> (repeat' split) <;> simp_all <;> omega
theorem p_Right (x : En) : m_ref06_Right x = some (rightB x) := by
  obtain ⟨t, k, v⟩ := x
  simp only [m_ref06_Right, p_number, Option.bind_some, rightB, numB, Bool.cond_not, Bool.cond_decide]
  (repeat' split) <;> (refine congrArg some ?_; rw [Bool.eq_iff_iff]; simp only [decide_eq_true_eq, true_iff, Bool.false_eq_true, false_iff]; omega)
theorem p_Next (s : St) (e : En) : m_ref06_Next s e = some (nextS s e) := by
  simp only [m_ref06_Next, p_Right, p_Fine, Option.bind_some]
  by_cases hc : rightB e = true ∧ fineB s = true ∧ s.index < 1073741824
  · obtain ⟨hr, hf, hi⟩ := hc
    have hn : nextS s e = deedS e.kind e.value { s with index := s.index + 1, term := e.term } := by unfold nextS; rw [if_pos ⟨hr, hf, hi⟩]
    have hb : 0 ≤ s.index ∧ 0 ≤ s.sum ∧ s.sum ≤ 1073741824 := by
      rcases (fineB_iff s).1 hf with h | h
      · rw [h]; decide
      · omega
    have hv : 0 ≤ e.value ∧ e.value ≤ 1073741824 := by
      unfold rightB at hr; simp only [decide_eq_true_eq] at hr; omega
    have w0 : IntKind.wrap .i64 (s.index + 1) = s.index + 1 := w64i (by omega)
    have w1 : IntKind.wrap .i64 (31 * s.sum) = 31 * s.sum := w64i (by omega)
    have w2 : IntKind.wrap .i64 (31 * s.sum + e.value) = 31 * s.sum + e.value := w64i (by omega)
    have w3 : IntKind.wrap .i64 (31 * s.sum + e.value + 1) = 31 * s.sum + e.value + 1 := w64i (by omega)
    rw [hn, hr, hf, w0, w1, w2, w3, Int.tmod_eq_emod_of_nonneg (by omega), decide_eq_false (show ¬ (1073741824 ≤ s.index) by omega)]
    simp only [Bool.not_true, cond_false, Bool.cond_decide]
    unfold deedS
    by_cases k1 : e.kind = 1
    · rw [if_pos k1, if_pos k1]
    · rw [if_neg k1, if_neg k1]
      by_cases k2 : e.kind = 2
      · rw [if_pos k2, if_pos k2]
      · rw [if_neg k2, if_neg k2]
        by_cases k3 : e.kind = 3
        · rw [if_pos k3, if_pos k3]
          cases hF : s.final <;> rfl
        · rw [if_neg k3, if_neg k3]
          by_cases k4 : e.kind = 4
          · rw [if_pos k4, if_pos k4]
          · rw [if_neg k4, if_neg k4]
  · have hn : nextS s e = s := by unfold nextS; rw [if_neg hc]
    rw [hn]
    cases hr : rightB e with
    | false => rfl
    | true =>
      cases hf : fineB s with
      | false => rfl
      | true =>
        rw [decide_eq_true (show 1073741824 ≤ s.index by
          have : ¬ (s.index < 1073741824) := fun h => hc ⟨hr, hf, h⟩
          omega)]
        rfl
theorem p_All_l1 (l : List En) (hl : l.length ≤ 1000000) : ∀ (m k n : Nat) (s : St), m = l.length - k → k ≤ l.length → m < n → m_ref06_All_l1 l n k s.index s.term s.sum s.level s.final = some (allS s (l.drop k)) := by
  intro m
  induction m with
  | zero =>
    intro k n s hm hk hn
    obtain ⟨n, rfl⟩ : ∃ n', n = n' + 1 := ⟨n - 1, by omega⟩
    rw [m_ref06_All_l1, List.drop_eq_nil_of_le (by omega)]
    simp only [Bool.cond_decide, if_neg (show ¬ ((k : Int) < (l.length : Int)) by omega)]
    rfl
  | succ m ih =>
    intro k n s hm hk hn
    obtain ⟨n, rfl⟩ : ∃ n', n = n' + 1 := ⟨n - 1, by omega⟩
    obtain ⟨e, he, hd⟩ := drop_step (show k < l.length by omega)
    rw [m_ref06_All_l1, hd]
    simp only [Bool.cond_decide, if_pos (show ((k : Int) < (l.length : Int)) by omega), idx_nat, he, Option.bind_some]
    have : m_ref06_Next ⟨s.index, s.term, s.sum, s.level, s.final⟩ e = some (nextS s e) := p_Next s e
    rw [this, Option.bind_some, w64i (by omega), show ((k : Int) + 1) = ((k + 1 : Nat) : Int) by omega, ih (k + 1) n (nextS s e) (by omega) (by omega) (by omega)]
    rfl
theorem p_All (s : St) (l : List En) (hl : l.length ≤ 1000000) : m_ref06_All s l = some (allS s l) := p_All_l1 l hl l.length 0 fuelN s (by omega) (by omega) (by unfold fuelN; omega)
end Go.Proofs.Ytoehcmddfpompaa
/- Entries in two parts, and a noop between: in plain Lean. -/
namespace Go.Proofs.Ytoehcmddfpompaa

theorem allS_index (s : St) (l : List En) : (allS s l).index ≤ s.index + l.length ∧ s.index ≤ (allS s l).index := by
  induction l generalizing s with
  | nil => simp [allS]
  | cons e l ih =>
    have h1 := next_index s e
    have h2 := ih (nextS s e)
    have e1 : allS s (e :: l) = allS (nextS s e) l := rfl
    rw [e1]
    simp only [List.length_cons]
    push_cast
    omega
/-- Behind a noop. -/
def Behind (s t : St) : Prop := FineP s ∧ FineP t ∧ t.index = s.index + 1 ∧ t.sum = s.sum ∧ t.level = s.level ∧ t.final = s.final
theorem Behind.next {s t : St} (h : Behind s t) (hi : t.index < 1073741824) (e : En) : Behind (nextS s e) (nextS t e) := by
  obtain ⟨f1, f2, h1, h2, h3, h4⟩ := h
  refine ⟨nextS_fine _ _ f1, nextS_fine _ _ f2, ?_⟩
  cases hr : rightB e with
  | false => rw [next_wrong s e hr, next_wrong t e hr]; exact ⟨h1, h2, h3, h4⟩
  | true =>
    rw [next_right s e f1 (by omega) hr, next_right t e f2 hi hr]
    obtain ⟨s1, s2, s3, s4, s5⟩ := s
    obtain ⟨t1, t2, t3, t4, t5⟩ := t
    simp only at h1 h2 h3 h4
    subst h1 h2 h3 h4
    unfold deedS
    repeat' split
    all_goals simp_all
theorem Behind.all {s t : St} (h : Behind s t) (m : List En) (hi : t.index + m.length ≤ 1073741824) : Behind (allS s m) (allS t m) := by
  induction m generalizing s t with
  | nil => exact h
  | cons e m ih =>
    simp only [List.length_cons] at hi
    have h1 := next_index t e
    exact ih (h.next (by omega) e) (by push_cast at hi; omega)
theorem Behind.noop {s : St} (f : FineP s) (hi : s.index < 1073741824) (t : Int) (h1 : 1 ≤ t) (h2 : t ≤ 1073741824) : Behind s (nextS s ⟨t, 0, 0⟩) := by
  have hr : rightB ⟨t, 0, 0⟩ = true := by simp [rightB]; omega
  refine ⟨f, nextS_fine _ _ f, ?_⟩
  rw [next_right s _ f hi hr]
  simp [deedS]
end Go.Proofs.Ytoehcmddfpompaa
/- How stages go on: in plain Lean. -/
namespace Go.Proofs.Ytoehcmddfpompaa

theorem stage_kinds (s : St) (h : FineP s) : (s.level ≠ 2 ∧ s.final = false ∧ stageS s = 0) ∨ (s.level = 2 ∧ s.final = false ∧ stageS s = 1) ∨ (s.level = 2 ∧ s.final = true ∧ stageS s = 2) := by
  have hf : s.final = true → s.level = 2 := by
    rcases h with rfl | h
    · intro h; cases h
    · exact h.2.2.2.2.2.2.2
  unfold stageS
  by_cases h2 : s.level = 2
  · rw [if_pos h2]
    cases hff : s.final with
    | true => exact .inr (.inr ⟨h2, rfl, by simp⟩)
    | false => exact .inr (.inl ⟨h2, rfl, by simp⟩)
  · rw [if_neg h2]
    refine .inl ⟨h2, ?_, rfl⟩
    cases hff : s.final with
    | true => exact (h2 (hf hff)).elim
    | false => rfl
/-- What may stand behind what. -/
theorem stage_step (s : St) (h : FineP s) (hi : s.index < 1073741824) (e : En) : (stageS s = 2 → stageS (nextS s e) = 2) ∧ (stageS (nextS s e) = 2 → stageS s ≠ 0) := by
  cases hr : rightB e with
  | false => rw [next_wrong s e hr]; exact ⟨id, fun h => by omega⟩
  | true =>
    rw [next_right s e h hi hr]
    have hk := stage_kinds s h
    obtain ⟨a1, a2, a3, a4, a5⟩ := s
    obtain ⟨t, k, v⟩ := e
    dsimp only at hk ⊢
    unfold deedS stageS at *
    dsimp only at *
    rcases hk with ⟨h1, h2, h3⟩ | ⟨h1, h2, h3⟩ | ⟨h1, h2, h3⟩ <;> subst h2 <;> repeat' split
    all_goals simp_all
    all_goals (repeat' split at *) <;> simp_all
end Go.Proofs.Ytoehcmddfpompaa
/- The walk of the reference's Next. -/
namespace Go.Proofs.Ytoehcmddfpompaa
open Go Go.RowKit
set_option maxRecDepth 100000

/-- The state's block, stored to one by one. -/
theorem Box5.idx {w : World} {b : Nat} {s : St} (h : Box5 w b s) (x : Int) : Box5 (w.setCell ⟨b, 0, none⟩ (.int .i64 x)) b ⟨x, s.term, s.sum, s.level, s.final⟩ := h.set (s' := ⟨x, s.term, s.sum, s.level, s.final⟩) 0 (.int .i64 x) ⟨_, h.1.1⟩ rfl rfl rfl rfl rfl
theorem Box5.fin {w : World} {b : Nat} {s : St} (h : Box5 w b s) (x : Bool) : Box5 (w.setCell ⟨b, 4, none⟩ (.bool x)) b ⟨s.index, s.term, s.sum, s.level, x⟩ := h.set (s' := ⟨s.index, s.term, s.sum, s.level, x⟩) 4 (.bool x) ⟨_, h.1.2.2.2.2⟩ rfl rfl rfl rfl rfl
theorem NextW.step {w0 w w' : World} {s s' : St} {e : En} {z : St} (h : NextW w0 w s e z) (hk : KeepB (fun b => b ≠ w0.heap.size) w w') (hs : Box5 w' w0.heap.size s') : NextW w0 w' s' e z :=
  ⟨below_keep h.below hk h.below.size (fun _ h => (by omega)), hs, h.e3.keep hk (by simp), h.z5.keep hk (by simp; omega)⟩

end Go.Proofs.Ytoehcmddfpompaa
/- The walk of the reference's All. -/
namespace Go.Proofs.Ytoehcmddfpompaa
open Go Go.RowKit
set_option maxRecDepth 100000

end Go.Proofs.Ytoehcmddfpompaa
/- Layer 19: stages behind entries, in plain terms. -/
namespace Go.Proofs.Ytoehcmddfpompaa
open Go Go.RowKit
set_option maxRecDepth 100000
theorem stages_at (s : St) (l : List En) (k : Nat) (h : k ≤ l.length) : (stagesS s l)[k]? = some (stageS (allS s (l.take k))) := by
  cases k with
  | zero => simp [stagesS, allS]
  | succ k => exact stagesS_at s l k l[k] (List.getElem?_eq_getElem (by omega))
theorem stages_l2 (s : St) (l : List En) (b : Int) (hf : FineP s) (hl : l.length ≤ 40) (hi : s.index ≤ 1073741724) : ∀ (q k n : Nat) (v : Bool), q + k = l.length + 1 → q < n → m_law19_LevelStages_l2 s l b (stagesS s l) n v k = some true := by
  intro q
  induction q with
  | zero =>
    intro k n v hk hn
    obtain ⟨n, rfl⟩ : ∃ n', n = n' + 1 := ⟨n - 1, by omega⟩
    rw [m_law19_LevelStages_l2]
    simp only [Bool.cond_decide, if_neg (show ¬ (k : Int) ≤ (l.length : Int) by omega)]
    rfl
  | succ q ih =>
    intro k n v hk hn
    obtain ⟨n, rfl⟩ : ∃ n', n = n' + 1 := ⟨n - 1, by omega⟩
    have hih := ih (k + 1) n v (by omega) (by omega)
    have w1 : IntKind.wrap .i64 ((k : Int) + 1) = ((k + 1 : Nat) : Int) := by rw [w64i (by omega)]; omega
    have hz : idx (stagesS s l) (k : Int) = some (stageS (allS s (l.take k))) := by rw [idx_nat]; exact stages_at s l k (by omega)
    have hA := p_All s (l.take k) (by rw [List.length_take]; omega)
    have hK := stage_kinds (allS s (l.take k)) (allS_fine s _ hf)
    have hP : k = 0 ∨ ∃ y, 0 < k ∧ idx (stagesS s l) (IntKind.wrap .i64 ((k : Int) - 1)) = some y ∧ (y = 2 → stageS (allS s (l.take k)) = 2) ∧ (stageS (allS s (l.take k)) = 2 → y ≠ 0) := by
      cases k with
      | zero => exact .inl rfl
      | succ j =>
        right
        obtain ⟨e, he, _⟩ := drop_step (show j < l.length by omega)
        have hx := (allS_index s (l.take j)).1
        rw [List.length_take] at hx
        have hst := stage_step (allS s (l.take j)) (allS_fine s _ hf) (by omega) e
        rw [← allS_take s l j e he] at hst
        refine ⟨stageS (allS s (l.take j)), by omega, ?_, hst.1, hst.2⟩
        rw [w64i (by omega), show ((j + 1 : Nat) : Int) - 1 = (j : Int) by omega, idx_nat]
        exact stages_at s l j (by omega)
    have hR : formatS (allS s (l.take k)) b = if 0 < stageS (allS s (l.take k)) ∧ 2 ≤ b then 2 else 1 := by
      have := stageS_bd (allS s (l.take k))
      unfold formatS
      split <;> omega
    rw [m_law19_LevelStages_l2]
    simp only [Bool.cond_decide, if_pos (show (k : Int) ≤ (l.length : Int) by omega), takeI_nat l k (show k ≤ l.length by omega), hA, hz, w1, Option.bind_some, m_level_Stage, m_level_Format, hR, hih]
    generalize allS s (l.take k) = x at *
    rcases hK with ⟨h1, h2, h3⟩ | ⟨h1, h2, h3⟩ | ⟨h1, h2, h3⟩ <;> rw [h3] at hP ⊢ <;>
      (rcases hP with rfl | ⟨y, hk0, hy, hy1, hy2⟩
       · by_cases hb : 2 ≤ b <;> simp [h1, h2, hb]
       · rw [hy]
         by_cases hb : 2 ≤ b <;> by_cases y2 : y = 2 <;> by_cases y0 : y = 0 <;> simp_all)
theorem stages_l1 (s : St) (l : List En) (b : Int) (hf : FineP s) (hl : l.length ≤ 40) (hi : s.index ≤ 1073741724) : ∀ (q k n : Nat) (v : Bool), q + k = l.length → q < n → m_law19_LevelStages_l1 s l b n v k = some true := by
  intro q
  induction q with
  | zero =>
    intro k n v hk hn
    obtain ⟨n, rfl⟩ : ∃ n', n = n' + 1 := ⟨n - 1, by omega⟩
    have hS : m_level_Stages s l = some (stagesS s l) := by unfold m_level_Stages; rw [decide_eq_true (show l.length ≤ 1000000 by omega)]; rfl
    rw [m_law19_LevelStages_l1]
    simp only [Bool.cond_decide, if_neg (show ¬ (k : Int) < (l.length : Int) by omega), hS, Option.bind_some, stagesS_len, w64i (n := (l.length : Int) + 1) (by omega), if_neg (show ¬ (((l.length + 1 : Nat) : Int) ≠ (l.length : Int) + 1) by omega)]
    exact stages_l2 s l b hf hl hi (l.length + 1) 0 fuelN v (by omega) (by unfold fuelN; omega)
  | succ q ih =>
    intro k n v hk hn
    obtain ⟨n, rfl⟩ : ∃ n', n = n' + 1 := ⟨n - 1, by omega⟩
    obtain ⟨e, he, _⟩ := drop_step (show k < l.length by omega)
    have w1 : IntKind.wrap .i64 ((k : Int) + 1) = ((k + 1 : Nat) : Int) := by rw [w64i (by omega)]; omega
    rw [m_law19_LevelStages_l1]
    simp only [Bool.cond_decide, if_pos (show (k : Int) < (l.length : Int) by omega), idx_nat, he, p_Right, Option.bind_some, w1]
    cases rightB e with
    | false => rfl
    | true => exact ih (k + 1) n v (by omega) (by omega)
theorem p_LevelStages (s : St) (l : List En) (b : Int) : m_law19_LevelStages s l b = some true := by
  unfold m_law19_LevelStages
  rw [p_Fine, Option.bind_some]
  cases hf : fineB s with
  | false => rfl
  | true =>
    simp only [Bool.not_true, cond_false, Bool.cond_decide]
    by_cases h1 : (40 : Int) < (l.length : Int)
    · rw [if_pos h1]; rfl
    by_cases h2 : 1073741724 < s.index
    · rw [if_neg h1, if_pos h2]; rfl
    rw [if_neg h1, if_neg h2]
    exact stages_l1 s l b ((fineB_iff s).1 hf) (by omega) (by omega) l.length 0 fuelN false (by omega) (by unfold fuelN; omega)
end Go.Proofs.Ytoehcmddfpompaa
