/- Laws for walks that a program of mine prints, fifth part: new variables that may come up at any time beside a region's calls. -/
import Derived.Test.YthngkojbokknfaaGxDMg
namespace Go.Proofs.Ythngkojbokknfaa
open Go Go.RowKit
/-- A new variable: its operation's number, its slot, its type, the cells. -/
structure FlI where
  i : Nat
  d : Nat
  T : Nat
  zs : List Value
def subs {α : Type} : List α → List (List α)
  | [] => [[]]
  | x :: l => subs l ++ (subs l).map (x :: ·)
theorem mem_subs {α : Type} {a l : List α} (h : List.Sublist a l) : a ∈ subs l := by
  induction h with
  | slnil => simp [subs]
  | cons x h ih => simp only [subs, List.mem_append]; exact .inl ih
  | cons_cons x h ih => simp only [subs, List.mem_append, List.mem_map]; exact .inr ⟨_, ih, rfl⟩
def tkH (tk : List (FlI × Nat)) : List Ent := tk.map fun p => .box p.2 p.1.zs p.1.T
def tkL (tk : List (FlI × Nat)) : List (Nat × Value) := tk.map fun p => (p.1.d, .pointer (some ⟨p.2, 0, none⟩))
def tkI (tk : List (FlI × Nat)) : List Nat := tk.map (·.1.i)
/-- Which of the new variables are there already. -/
structure Tk (fl : List FlI) (tk : List (FlI × Nat)) (X : List Ent) (Y : List (Nat × Value)) : Prop where
  sub : List.Sublist (tk.map (·.1)) fl
  hX : X = tkH tk
  hY : Y = tkL tk
theorem insert_tk {fl : List FlI} : ∀ {tk : List (FlI × Nat)}, List.Sublist (tk.map (·.1)) fl → ∀ {f : FlI} (b : Nat), f ∈ fl → (∀ p ∈ tk, p.1 ≠ f) → ∃ tk2 : List (FlI × Nat), List.Sublist (tk2.map (·.1)) fl ∧ tk2.Perm ((f, b) :: tk) := by
  induction fl with
  | nil => intro tk _ f b hf _; cases hf
  | cons g fl ih =>
    intro tk hs f b hf hn
    by_cases hgf : g = f
    · subst hgf
      have hs' : List.Sublist (tk.map (·.1)) fl := by
        generalize hm : tk.map (·.1) = m at hs
        cases hs with
        | cons _ h => exact h
        | cons_cons _ h =>
          exfalso
          cases tk with
          | nil => cases hm
          | cons p tk => simp only [List.map_cons, List.cons.injEq] at hm; exact hn p (by simp) hm.1
      exact ⟨(g, b) :: tk, List.Sublist.cons_cons _ hs', List.Perm.refl _⟩
    · have hf' : f ∈ fl := by rcases List.mem_cons.1 hf with h | h
                              · exact (hgf h.symm).elim
                              · exact h
      generalize hm : tk.map (·.1) = m at hs
      cases hs with
      | cons _ h =>
        rw [← hm] at h
        obtain ⟨tk2, h1, h2⟩ := ih h b hf' hn
        exact ⟨tk2, List.Sublist.cons _ h1, h2⟩
      | @cons_cons l1 _ _ h =>
        cases tk with
        | nil => cases hm
        | cons p tk =>
          simp only [List.map_cons, List.cons.injEq] at hm
          obtain ⟨hp, ht⟩ := hm
          rw [← ht] at h
          obtain ⟨tk2, h1, h2⟩ := ih h b hf' (fun q hq => hn q (by simp [hq]))
          refine ⟨p :: tk2, ?_, (h2.cons p).trans (.swap _ _ _)⟩
          rw [List.map_cons, hp]
          exact List.Sublist.cons_cons _ h1
theorem listAll_perm {a b : List Nat} (h : a.Perm b) : ∀ (l : Array Bool), listAll l a = listAll l b := by
  induction h with
  | nil => intro l; rfl
  | cons x h ih => intro l; simp only [listAll]; exact ih _
  | swap x y l0 =>
    intro l
    simp only [listAll]
    congr 1
    by_cases hxy : x = y
    · subst hxy; rfl
    · apply Array.ext_getElem?
      intro i
      simp only [Array.getElem?_setIfInBounds, Array.size_setIfInBounds]
      by_cases h1 : x = i <;> by_cases h2 : y = i <;> simp_all
  | trans h1 h2 ih1 ih2 => intro l; rw [ih1, ih2]
theorem listAll_append : ∀ (a b : List Nat) (l : Array Bool), listAll l (a ++ b) = listAll (listAll l a) b
  | [], _, _ => rfl
  | x :: a, b, l => by simp only [List.cons_append, listAll]; exact listAll_append a b _
section
variable {P : Program} {md : Region.Mode} {ops : Array Oper} {G : Nat → Nat → Prop} {sl : List Nat} {Q : Exit → Act → World → Prop} {N : FS} {w w0 : World} {S : Nat → Prop} {H : List Ent} {L : List (Nat × Value)} {fl : List FlI}
/-- The new variables are as the operations have them. -/
structure FlOk (P : Program) (ops : Array Oper) (N : FS) (sl : List Nat) (fl : List FlI) : Prop where
  op : ∀ f ∈ fl, ∃ ty pos af, ops[f.i]? = some ⟨some f.d, .alloc f.T, ty, pos, af, none⟩
  zc : ∀ f ∈ fl, ZcC P f.T f.zs
  le : ∀ f ∈ fl, Nat.ble (f.d + 1) N.n = true
  off : ∀ f ∈ fl, f.i ∉ sl
  inj : fl.Pairwise (fun f g => f.i ≠ g.i ∧ f.d ≠ g.d)
/-- A region under way, whichever of the new variables are there already. -/
structure wpRF (P : Program) (md : Region.Mode) (ops : Array Oper) (G : Nat → Nat → Prop) (sl : List Nat) (fl : List FlI) (Q : Exit → Act → World → Prop) (f : Nat) (listed : Array Bool) (N : FS) (S : Nat → Prop) (w0 : World) (Lf : List (Nat × Value) → List (Nat × Value)) (Hf : List Ent → List Ent) : Prop where
  go : ∀ X Y tk, Tk fl tk X Y → ∀ w, St0 S w0 w (Hf X) → wpR P md ops G sl Q (f - tk.length) (listAll listed (tkI tk)) N (Lf Y) w
theorem FlOk.nil : FlOk P ops N sl [] := ⟨fun _ h => (by cases h), fun _ h => (by cases h), fun _ h => (by cases h), fun _ h => (by cases h), List.Pairwise.nil⟩
theorem FlOk.cons {i d T : Nat} {zs : List Value} {ty : TypeId} {pos : String} {af : Array Edge} (hop : ops[i]? = some ⟨some d, .alloc T, ty, pos, af, none⟩) (hz : ZcC P T zs) (hle : Nat.ble (d + 1) N.n = true) (hoff : sl.contains i = false) (hinj : (fl.all fun g => !(Nat.beq g.i i) && !(Nat.beq g.d d)) = true) (h : FlOk P ops N sl fl) : FlOk P ops N sl (⟨i, d, T, zs⟩ :: fl) := by
  refine ⟨fun f hf => ?_, fun f hf => ?_, fun f hf => ?_, fun f hf => ?_, List.pairwise_cons.2 ⟨fun g hg => ?_, h.inj⟩⟩
  · rcases List.mem_cons.1 hf with rfl | hf
    · exact ⟨_, _, _, hop⟩
    · exact h.op f hf
  · rcases List.mem_cons.1 hf with rfl | hf
    · exact hz
    · exact h.zc f hf
  · rcases List.mem_cons.1 hf with rfl | hf
    · exact hle
    · exact h.le f hf
  · rcases List.mem_cons.1 hf with rfl | hf
    · simpa using hoff
    · exact h.off f hf
  · have := List.all_eq_true.1 hinj g hg
    simp only [Bool.and_eq_true, Bool.not_eq_true'] at this
    refine ⟨fun h0 => ?_, fun h0 => ?_⟩
    · have h1 := this.1; rw [← h0] at h1; simp at h1
    · have h1 := this.2; rw [← h0] at h1; simp at h1
theorem wpRF_start (fl : List FlI) {f : Nat} {listed : Array Bool} (hok : FlOk P ops N sl fl) (hS : St0 S w0 w H) (k : FlOk P ops N sl fl → wpRF P md ops G sl fl Q f listed N S w0 (fun Y => L ++ Y) (fun X => H ++ X)) : wpR P md ops G sl Q f listed N L w := by
  have := (k hok).go [] [] [] ⟨List.nil_sublist _, rfl, rfl⟩ w (by simpa using hS)
  simpa [tkI, listAll] using this
/-- Where nothing but j may come up beside the new variables. -/
def onlyB (md : Region.Mode) (ops : Array Oper) (fl : List FlI) (listed : Array Bool) (js : List Nat) : Bool :=
  (subs fl).all fun t => (Region.ready md ops (listAll listed (t.map (·.i)))).all fun r => js.contains r || (fl.any fun f => Nat.beq f.i r && !((t.map (·.i)).contains r))
theorem only_spec {listed : Array Bool} {js : List Nat} (h : onlyB md ops fl listed js = true) {tk : List (FlI × Nat)} (hs : List.Sublist (tk.map (·.1)) fl) : ∀ r ∈ Region.ready md ops (listAll listed (tkI tk)), r ∈ js ∨ ∃ f ∈ fl, f.i = r ∧ ∀ p ∈ tk, p.1 ≠ f := by
  intro r hr
  have h1 := List.all_eq_true.1 h _ (mem_subs hs)
  have e : ((tk.map (·.1)).map (·.i)) = tkI tk := by simp [tkI]
  rw [e] at h1
  have h2 := List.all_eq_true.1 h1 r hr
  simp only [Bool.or_eq_true, List.contains_eq_mem, decide_eq_true_eq, List.any_eq_true, Bool.and_eq_true, Bool.not_eq_true', decide_eq_false_iff_not] at h2
  rcases h2 with h2 | ⟨f, hf, hi, hn⟩
  · exact .inl h2
  · have hi' := Nat.eq_of_beq_eq_true hi
    refine .inr ⟨f, hf, hi', fun p hp hpf => hn ?_⟩
    rw [← hi', ← hpf]
    exact List.mem_map.2 ⟨p, hp, rfl⟩
/-- One of the new variables comes. -/
theorem float_step {f : Nat} {listed : Array Bool} {Lf : List (Nat × Value) → List (Nat × Value)} {Hf : List Ent → List Ent} (hok : FlOk P ops N sl fl) (hL : ∀ Y, Lf Y = Lf [] ++ Y) (hH : ∀ X, Hf X = Hf [] ++ X) (hk : ((Lf []).all fun p => fl.all fun f => !(Nat.beq p.1 f.d)) = true)
    {tk : List (FlI × Nat)} (hs : List.Sublist (tk.map (·.1)) fl) (hS : St0 S w0 w (Hf (tkH tk))) {g : FlI} (hg : g ∈ fl) (hn : ∀ p ∈ tk, p.1 ≠ g)
    (next : ∀ tk2, tk2.length = tk.length + 1 → List.Sublist (tk2.map (·.1)) fl → ∀ w2, St0 S w0 w2 (Hf (tkH tk2)) → wpR P md ops G sl Q f (listAll listed (tkI tk2)) N (Lf (tkL tk2)) w2) {a : Act} (hF : Fr N (Lf (tkL tk)) a) :
    wpOp P ops Q g.i (fun a' w' => ((g.i ∈ sl → KeepB (G g.i) w w') ∧ (g.i ∉ sl → Below w.heap.size w w')) ∧ wpF P md ops G sl Q f ((listAll listed (tkI tk)).setIfInBounds g.i true) a' w') a w := by
  obtain ⟨ty, pos, af, hop⟩ := hok.op g hg
  have hoff := hok.off g hg
  refine op_of_list hop ?_
  have h1 : wpS P ops (Exit.then (fun a' w' => ((g.i ∈ sl → KeepB (G g.i) w w') ∧ (g.i ∉ sl → Below w.heap.size w w')) ∧ wpF P md ops G sl Q f ((listAll listed (tkI tk)).setIfInBounds g.i true) a' w') Q) [⟨some g.d, .alloc g.T, ty, pos, af, none⟩] N (Lf (tkL tk)) w := by
    refine wpS_alloc rfl (hok.le g hg) (hok.zc g hg) hS (fun b w2 hS2 hB => wpS_nil ⟨fun a2 hF2 => ?_⟩)
    obtain ⟨tk2, h2, hp⟩ := insert_tk hs b hg hn
    refine ⟨⟨fun h => (hoff h).elim, fun _ => hB⟩, ?_⟩
    have hHp : (Ent.box b g.zs g.T :: Hf (tkH tk)).Perm (Hf (tkH tk2)) := by
      rw [hH, hH (tkH tk2)]
      have e1 : (tkH tk2).Perm (.box b g.zs g.T :: tkH tk) := by unfold tkH; exact hp.map _
      exact (List.perm_middle.symm).trans ((List.Perm.refl _).append e1.symm)
    have hI : listAll listed (tkI tk2) = (listAll listed (tkI tk)).setIfInBounds g.i true := by
      have e1 : (tkI tk2).Perm (tkI tk ++ [g.i]) := by
        unfold tkI
        exact (hp.map _).trans (by rw [List.map_cons]; exact (List.perm_append_comm (l₁ := [g.i])))
      rw [listAll_perm e1, listAll_append]; rfl
    have hR := next tk2 (by rw [hp.length_eq]; rfl) h2 w2 (hS2.reord hHp)
    rw [hI] at hR
    refine hR.go a2 ⟨hF2.size, hF2.defers, fun k v hkv => hF2.at_ k v ?_⟩
    have hlk : ∀ (A B : List (Nat × Value)), lk (A ++ B) k = (match lk A k with | some v => some v | none => lk B k) := by
      intro A B
      induction A with
      | nil => rfl
      | cons p A ih =>
        obtain ⟨q, u⟩ := p
        simp only [List.cons_append, lk]
        cases hq : Nat.beq q k with
        | true => rfl
        | false => simpa using ih
    have hslot : ∀ (tkx : List (FlI × Nat)), (tkx.map (·.1.d)).Nodup → ∀ p ∈ tkx, lk (tkL tkx) p.1.d = some (.pointer (some ⟨p.2, 0, none⟩)) := by
      intro tkx
      induction tkx with
      | nil => intro _ p hp; cases hp
      | cons q tkx ih =>
        intro hnd p hp
        simp only [List.map_cons, List.nodup_cons] at hnd
        rcases List.mem_cons.1 hp with rfl | hp
        · simp [tkL, lk]
        · have hne : q.1.d ≠ p.1.d := fun h => hnd.1 (by rw [h]; exact List.mem_map.2 ⟨p, hp, rfl⟩)
          have : Nat.beq q.1.d p.1.d = false := by
            cases hb : Nat.beq q.1.d p.1.d with
            | false => rfl
            | true => exact (hne (Nat.eq_of_beq_eq_true hb)).elim
          show lk ((q.1.d, _) :: tkL tkx) p.1.d = _
          simp only [lk, this]
          exact ih hnd.2 p hp
    have hmem : ∀ (tkx : List (FlI × Nat)) k v, lk (tkL tkx) k = some v → ∃ p ∈ tkx, p.1.d = k ∧ v = .pointer (some ⟨p.2, 0, none⟩) := by
      intro tkx k v h
      have := lk_mem h
      obtain ⟨p, hp, he⟩ := List.mem_map.1 this
      injection he with h1 h2
      exact ⟨p, hp, h1, h2.symm⟩
    have hnd : ∀ (tkx : List (FlI × Nat)), List.Sublist (tkx.map (·.1)) fl → (tkx.map (·.1.d)).Nodup := by
      intro tkx hsx
      have := (hok.inj.sublist hsx).imp (fun h => h.2)
      have h3 : (tkx.map (·.1)).map (·.d) = tkx.map (·.1.d) := by simp
      rw [← h3]
      exact List.pairwise_map.2 this
    simp only [lk]
    have hno : ∀ q ∈ fl, lk (Lf []) q.d = none := by
      intro q hq
      cases hl : lk (Lf []) q.d with
      | none => rfl
      | some u =>
        have := List.all_eq_true.1 hk _ (lk_mem hl)
        have := List.all_eq_true.1 this q hq
        simp at this
    rw [hL, hlk] at hkv
    rw [hL, hlk]
    cases hl : lk (Lf []) k with
    | some u =>
      rw [hl] at hkv
      have : Nat.beq g.d k = false := by
        cases hb : Nat.beq g.d k with
        | false => rfl
        | true =>
          have := Nat.eq_of_beq_eq_true hb
          rw [← this, hno g hg] at hl
          cases hl
      rw [this]
      exact hkv
    | none =>
      rw [hl] at hkv
      obtain ⟨p, hpm, hpk, hpv⟩ := hmem tk2 k v hkv
      have hp' := hp.mem_iff.1 hpm
      rcases List.mem_cons.1 hp' with rfl | hp'
      · dsimp only at hpk hpv
        subst hpk
        simp [hpv]
      · have hne : g.d ≠ k := by
          intro h0
          have h1 := hnd tk2 h2
          have h4 : ((g, b) :: tk).map (·.1.d) |>.Nodup := (hp.map (·.1.d)).nodup_iff.1 h1
          simp only [List.map_cons, List.nodup_cons] at h4
          exact h4.1 (by rw [h0, ← hpk]; exact List.mem_map.2 ⟨p, hp', rfl⟩)
        have : Nat.beq g.d k = false := by
          cases hb : Nat.beq g.d k with
          | false => rfl
          | true => exact (hne (Nat.eq_of_beq_eq_true hb)).elim
        rw [this]
        show lk (tkL tk) k = some v
        rw [← hpk, hslot tk (hnd tk hs) p hp', hpv]
  exact h1.go a hF
theorem wpRF_case {f : Nat} {listed : Array Bool} {Lf : List (Nat × Value) → List (Nat × Value)} {Hf : List Ent → List Ent} (t : Nat) {b : Bool} (hx : ∀ Y, lk (Lf Y) t = some (.bool b)) (kt : b = true → wpRF P md ops G sl fl Q f listed N S w0 (fun Y => (t, .bool true) :: Lf Y) Hf) (kf : b = false → wpRF P md ops G sl fl Q f listed N S w0 (fun Y => (t, .bool false) :: Lf Y) Hf) : wpRF P md ops G sl fl Q f listed N S w0 Lf Hf :=
  ⟨fun X Y tk ht w hS => wpR_case t (hx Y) (fun h => (kt h).go X Y tk ht w hS) (fun h => (kf h).go X Y tk ht w hS)⟩
theorem hend_of {listed : Array Bool} (h : (subs fl).all (fun t => !(Region.ready md ops (listAll listed (t.map (·.i)))).isEmpty) = true) : ∀ tk : List (FlI × Nat), List.Sublist (tk.map (·.1)) fl → Region.ready md ops (listAll listed (tkI tk)) ≠ [] := fun tk hs h0 => by
  have e : ((tk.map (·.1)).map (·.i)) = tkI tk := by simp [tkI]
  have h1 := List.all_eq_true.1 h _ (mem_subs hs)
  rw [e, h0] at h1
  simp at h1
theorem tk_nil {tk : List (FlI × Nat)} (h : tk.map (·.1) = []) : tk = [] := by simpa using h
theorem tk_cons {f : FlI} {fl : List FlI} {tk : List (FlI × Nat)} (h : tk.map (·.1) = f :: fl) : ∃ b tk', tk = (f, b) :: tk' ∧ tk'.map (·.1) = fl := by
  cases tk with
  | nil => cases h
  | cons p tk =>
    simp only [List.map_cons, List.cons.injEq] at h
    obtain ⟨h1, h2⟩ := h
    exact ⟨p.2, tk, by rw [← h1], h2⟩
/-- What is asked behind the operation j. -/
structure StepF (P : Program) (md : Region.Mode) (ops : Array Oper) (G : Nat → Nat → Prop) (sl : List Nat) (fl : List FlI) (Q : Exit → Act → World → Prop) (f : Nat) (listed : Array Bool) (N : FS) (S : Nat → Prop) (w0 : World) (X : List Ent) (Y : List (Nat × Value)) (tk : List (FlI × Nat)) (w : World) (a' : Act) (w' : World) : Prop where
  below : Below w.heap.size w w'
  go : wpF P md ops G sl Q (f - tk.length) (listAll listed (tkI tk)) a' w'
theorem QH_stepF {f : Nat} {listed : Array Bool} {Lf : List (Nat × Value) → List (Nat × Value)} {Hf : List Ent → List Ent} {X : List Ent} {Y : List (Nat × Value)} {tk : List (FlI × Nat)} {w' : World} {Q' : Exit → Act → World → Prop} (ht : Tk fl tk X Y) (hS : St0 S w0 w' (Hf X)) (hb : Below w.heap.size w w')
    (k : wpRF P md ops G sl fl Q f listed N S w0 Lf Hf) : QH (Exit.then (StepF P md ops G sl fl Q f listed N S w0 X Y tk w) Q') .normal N (Lf Y) w' := ⟨fun a hF => ⟨hb, (k.go X Y tk ht w' hS).go a hF⟩⟩
/-- A list put ahead of another one. -/
inductive App {α : Type} : List α → List α → List α → Prop
  | nil {X : List α} : App [] X X
  | cons {a : α} {l X r : List α} : App l X r → App (a :: l) X (a :: r)
theorem App.eq {α : Type} {l X r : List α} (h : App l X r) : r = l ++ X := by
  induction h with
  | nil => rfl
  | cons h ih => rw [ih]; rfl
theorem QH_stepF' {f : Nat} {listed : Array Bool} {H0 HX : List Ent} {L0 LY : List (Nat × Value)} {X : List Ent} {Y : List (Nat × Value)} {tk : List (FlI × Nat)} {w' : World} {Q' : Exit → Act → World → Prop} (ht : Tk fl tk X Y) (hS : St0 S w0 w' HX) (hb : Below w.heap.size w w') (hA : App H0 X HX) (hB : App L0 Y LY)
    (k : wpRF P md ops G sl fl Q f listed N S w0 (fun Y => L0 ++ Y) (fun X => H0 ++ X)) : QH (Exit.then (StepF P md ops G sl fl Q f listed N S w0 X Y tk w) Q') .normal N LY w' := by
  rw [hB.eq]; rw [hA.eq] at hS
  exact QH_stepF (Lf := fun Y => L0 ++ Y) (Hf := fun X => H0 ++ X) ht hS hb k
theorem tk_len {tk : List (FlI × Nat)} (hs : List.Sublist (tk.map (·.1)) fl) : tk.length ≤ fl.length := by have := hs.length_le; simpa using this
theorem wpRF_call (m : List Bool) (j : Nat) {o : Oper} {l : List Oper} {f : Nat} {listed : Array Bool} {Lf : List (Nat × Value) → List (Nat × Value)} {Hf : List Ent → List Ent} (hok : FlOk P l.toArray N sl fl)
    (hr : (Nat.ble (fl.length + 1) f = true ∧ onlyB md l.toArray fl listed [j] = true ∧ sl.contains j = false ∧ (fl.all fun g => !(Nat.beq g.i j)) = true)) (ho : pickL m l = [o]) (hi : l.toArray[j]? = some o)
    (hL : ∀ Y, Lf Y = Lf [] ++ Y) (hH : ∀ X, Hf X = Hf [] ++ X) (hk : ((Lf []).all fun p => fl.all fun f => !(Nat.beq p.1 f.d)) = true) (hend : ∀ tk : List (FlI × Nat), List.Sublist (tk.map (·.1)) fl → Region.ready md l.toArray (listAll listed (tkI tk)) ≠ [])
    (k : ∀ X Y tk, Tk fl tk X Y → ∀ w, St0 S w0 w (Hf X) → wpS P l.toArray (Exit.then (StepF P md l.toArray G sl fl Q (f - 1) (listed.setIfInBounds j true) N S w0 X Y tk w) Q) (pickL m l) N (Lf Y) w) : wpRF P md l.toArray G sl fl Q f listed N S w0 Lf Hf := ⟨fun X Y tk ht => by
  obtain ⟨hf, hon, hsj, hfj⟩ := hr
  have hf := Nat.le_of_ble_eq_true hf
  have hsj' : j ∉ sl := by simpa using hsj
  obtain ⟨hsub, rfl, rfl⟩ := ht
  have key : ∀ (n : Nat) (tk : List (FlI × Nat)), fl.length - tk.length = n → List.Sublist (tk.map (·.1)) fl → ∀ w, St0 S w0 w (Hf (tkH tk)) → wpR P md l.toArray G sl Q (f - tk.length) (listAll listed (tkI tk)) N (Lf (tkL tk)) w := by
    intro n
    induction n with
    | zero =>
      intro tk hn hsub w hS
      have hlen := tk_len hsub
      obtain ⟨f', hf'⟩ : ∃ f', f - tk.length = f' + 1 := ⟨f - tk.length - 1, by omega⟩
      rw [hf']
      refine ⟨fun a hF => ⟨fun h0 => (hend tk hsub h0).elim, fun r hr => ?_⟩⟩
      rcases only_spec hon hsub r hr with h1 | ⟨g, hg, rfl, hng⟩
      · obtain rfl : r = j := by simpa using h1
        have h2 := (k _ _ tk ⟨hsub, rfl, rfl⟩ w hS).go a hF
        rw [ho] at h2
        refine wpOp_mono (fun a' w' h => ⟨⟨fun hh => (hsj' hh).elim, fun _ => h.below⟩, ?_⟩) (op_of_list hi h2)
        have e1 : f - 1 - tk.length = f' := by omega
        have e2 : listAll (listed.setIfInBounds r true) (tkI tk) = (listAll listed (tkI tk)).setIfInBounds r true := by
          have := listAll_perm (List.perm_append_comm (l₁ := [r]) (l₂ := tkI tk)) listed
          rw [listAll_append, listAll_append] at this
          exact this
        rw [← e2, ← e1]; exact h.go
      · exfalso
        have h3 : (tk.map (·.1)) = fl := hsub.eq_of_length (by simp; omega)
        rw [← h3] at hg
        obtain ⟨p, hp, he⟩ := List.mem_map.1 hg
        exact hng p hp he
    | succ n ih =>
      intro tk hn hsub w hS
      have hlen := tk_len hsub
      obtain ⟨f', hf'⟩ : ∃ f', f - tk.length = f' + 1 := ⟨f - tk.length - 1, by omega⟩
      rw [hf']
      refine ⟨fun a hF => ⟨fun h0 => (hend tk hsub h0).elim, fun r hr => ?_⟩⟩
      rcases only_spec hon hsub r hr with h1 | ⟨g, hg, rfl, hng⟩
      · obtain rfl : r = j := by simpa using h1
        have h2 := (k _ _ tk ⟨hsub, rfl, rfl⟩ w hS).go a hF
        rw [ho] at h2
        refine wpOp_mono (fun a' w' h => ⟨⟨fun hh => (hsj' hh).elim, fun _ => h.below⟩, ?_⟩) (op_of_list hi h2)
        have e1 : f - 1 - tk.length = f' := by omega
        have e2 : listAll (listed.setIfInBounds r true) (tkI tk) = (listAll listed (tkI tk)).setIfInBounds r true := by
          have := listAll_perm (List.perm_append_comm (l₁ := [r]) (l₂ := tkI tk)) listed
          rw [listAll_append, listAll_append] at this
          exact this
        rw [← e2, ← e1]; exact h.go
      · refine float_step hok hL hH hk hsub hS hg hng (fun tk2 hl2 hs2 w2 hS2 => ?_) hF
        have := ih tk2 (by omega) hs2 w2 hS2
        have e1 : f - tk2.length = f' := by omega
        rw [e1] at this
        exact this
  exact key _ tk rfl hsub⟩
/-- All the new variables are to come: then the region goes on as ever. -/
theorem wpRF_done {l : List Oper} {f : Nat} {listed : Array Bool} {Lf : List (Nat × Value) → List (Nat × Value)} {Hf : List Ent → List Ent} (hok : FlOk P l.toArray N sl fl)
    (hon : Nat.ble fl.length f = true) (hready : (subs fl).all (fun t => Nat.beq t.length fl.length || ((Region.ready md l.toArray (listAll listed (t.map (·.i)))).all (fun r => fl.any fun f => Nat.beq f.i r && !((t.map (·.i)).contains r)) && !(Region.ready md l.toArray (listAll listed (t.map (·.i)))).isEmpty)) = true)
    (hL : ∀ Y, Lf Y = Lf [] ++ Y) (hH : ∀ X, Hf X = Hf [] ++ X) (hk : ((Lf []).all fun p => fl.all fun f => !(Nat.beq p.1 f.d)) = true)
    (k : ∀ tk : List (FlI × Nat), tk.map (·.1) = fl → ∀ w, St0 S w0 w (Hf (tkH tk)) → wpR P md l.toArray G sl Q (f - fl.length) (listAll listed (fl.map (·.i))) N (Lf (tkL tk)) w) : wpRF P md l.toArray G sl fl Q f listed N S w0 Lf Hf := ⟨fun X Y tk ht => by
  obtain ⟨hsub, rfl, rfl⟩ := ht
  have hf := Nat.le_of_ble_eq_true hon
  have key : ∀ (n : Nat) (tk : List (FlI × Nat)), fl.length - tk.length = n → List.Sublist (tk.map (·.1)) fl → ∀ w, St0 S w0 w (Hf (tkH tk)) → wpR P md l.toArray G sl Q (f - tk.length) (listAll listed (tkI tk)) N (Lf (tkL tk)) w := by
    intro n
    induction n with
    | zero =>
      intro tk hn hsub w hS
      have hlen := tk_len hsub
      have h3 : (tk.map (·.1)) = fl := hsub.eq_of_length (by simp; omega)
      have := k tk h3 w hS
      have e1 : tk.length = fl.length := by omega
      have e2 : tkI tk = fl.map (·.i) := by rw [← h3]; simp [tkI]
      rw [e1, e2]; exact this
    | succ n ih =>
      intro tk hn hsub w hS
      have hlen := tk_len hsub
      obtain ⟨f', hf'⟩ : ∃ f', f - tk.length = f' + 1 := ⟨f - tk.length - 1, by omega⟩
      rw [hf']
      have e : ((tk.map (·.1)).map (·.i)) = tkI tk := by simp [tkI]
      have h1 := List.all_eq_true.1 hready _ (mem_subs hsub)
      rw [e] at h1
      have hne : Nat.beq (tk.map (·.1)).length fl.length = false := by
        cases hb : Nat.beq (tk.map (·.1)).length fl.length with
        | false => rfl
        | true => have := Nat.eq_of_beq_eq_true hb; simp at this; omega
      rw [hne, Bool.false_or, Bool.and_eq_true] at h1
      refine ⟨fun a hF => ⟨fun h0 => ?_, fun r hr => ?_⟩⟩
      · have := h1.2; rw [h0] at this; simp at this
      · have h2 := List.all_eq_true.1 h1.1 r hr
        simp only [List.any_eq_true, Bool.and_eq_true, Bool.not_eq_true', List.contains_eq_mem, decide_eq_false_iff_not] at h2
        obtain ⟨g, hg, hi, hng⟩ := h2
        obtain rfl := Nat.eq_of_beq_eq_true hi
        refine float_step hok hL hH hk hsub hS hg (fun p hp hpf => hng ?_) (fun tk2 hl2 hs2 w2 hS2 => ?_) hF
        · rw [← hpf]; exact List.mem_map.2 ⟨p, hp, rfl⟩
        · have := ih tk2 (by omega) hs2 w2 hS2
          have e1 : f - tk2.length = f' := by omega
          rw [e1] at this
          exact this
  exact key _ tk rfl hsub⟩
/-- Reads and the like, at once. -/
theorem wpRF_batch (m : List Bool) (nw : List Nat) (T : Nat → Prop) {l : List Oper} {f : Nat} {listed : Array Bool} {Lf : List (Nat × Value) → List (Nat × Value)} {Hf : List Ent → List Ent}
    (hm : (m.length ≤ l.length ∧ Region.noSelect l.toArray = true ∧ Nat.ble ((pickI m 0).length + fl.length) f = true ∧ (subs fl).all (fun t => freeOk md l.toArray N.n (listAll listed (t.map (·.i))) (pickI m 0) (pickL m l) && sealsOk md l.toArray sl nw (listAll listed (t.map (·.i))) (pickI m 0)) = true)) (hT : ∀ j ∈ nw, ∀ b, T b → G j b) (hP : PF Q)
    (k : ∀ X Y tk, Tk fl tk X Y → ∀ w, St0 S w0 w (Hf X) → LtK P l.toArray N (fun w1 => KeepB T w w1) (fun L' => wpR P md l.toArray G sl Q (f - (pickI m 0).length - tk.length) (listAll (listAll listed (pickI m 0)) (tkI tk)) N L' w) (pickL m l) (Lf Y)) : wpRF P md l.toArray G sl fl Q f listed N S w0 Lf Hf := ⟨fun X Y tk ht w hS => by
  obtain ⟨hm1, hm2, hm3, hm4⟩ := hm
  have hm3 := Nat.le_of_ble_eq_true hm3
  have hlen := tk_len ht.sub
  have e : ((tk.map (·.1)).map (·.i)) = tkI tk := by simp [tkI]
  have h1 := List.all_eq_true.1 hm4 _ (mem_subs ht.sub)
  rw [e, Bool.and_eq_true] at h1
  refine wpR_batchG m nw T ⟨hm1, hm2, by omega, h1.1, h1.2⟩ hT hP ?_
  have h2 := k X Y tk ht w hS
  have e1 : f - (pickI m 0).length - tk.length = f - tk.length - (pickI m 0).length := by omega
  have e2 : listAll (listAll listed (pickI m 0)) (tkI tk) = listAll (listAll listed (tkI tk)) (pickI m 0) := by
    rw [← listAll_append, ← listAll_append]; exact listAll_perm List.perm_append_comm _
  rw [e1, e2] at h2
  exact h2⟩
theorem LtK_F {f : Nat} {listed : Array Bool} {Lf : List (Nat × Value) → List (Nat × Value)} {Hf : List Ent → List Ent} {X : List Ent} {Y : List (Nat × Value)} {tk : List (FlI × Nat)} {R : World → Prop} (ht : Tk fl tk X Y) (hS : St0 S w0 w (Hf X)) (k : wpRF P md ops G sl fl Q f listed N S w0 Lf Hf) : LtK P ops N R (fun L' => wpR P md ops G sl Q (f - tk.length) (listAll listed (tkI tk)) N L' w) [] (Lf Y) := LtK.nil (k.go X Y tk ht w hS)
theorem LtK_F' {f : Nat} {listed : Array Bool} {H0 HX : List Ent} {L0 LY : List (Nat × Value)} {X : List Ent} {Y : List (Nat × Value)} {tk : List (FlI × Nat)} {R : World → Prop} (ht : Tk fl tk X Y) (hS : St0 S w0 w HX) (hA : App H0 X HX) (hB : App L0 Y LY) (k : wpRF P md ops G sl fl Q f listed N S w0 (fun Y => L0 ++ Y) (fun X => H0 ++ X)) : LtK P ops N R (fun L' => wpR P md ops G sl Q (f - tk.length) (listAll listed (tkI tk)) N L' w) [] LY := by
  rw [hB.eq]; rw [hA.eq] at hS
  exact LtK_F (Lf := fun Y => L0 ++ Y) (Hf := fun X => H0 ++ X) ht hS k
end
end Go.Proofs.Ythngkojbokknfaa
