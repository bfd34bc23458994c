/- Texts of one claim put together: what its walks share. -/
import Derived.Test.YthngkojbokknfaaMg0
import Derived.RangeFuncLeaves
import Derived.RangeFuncIn
import Derived.OwnWalkIn
import Derived.Great.BuildSlice
import Derived.ScopeJumps
import Derived.Laws.Cover3
import Derived.Test.YthngkojbokknfaaProg
import Derived.Test.YthngkojbokknfaaRows
import Derived.Recover
import Derived.WalkSmall
import Derived.Laws.Pointers
/- A walk by laws alone. Second part: regions, code; blocks of one's own. -/
namespace Go.Proofs.Ythngkojbokknfaa
open Go Go.RowKit

/-- What is known of one block, or of what a slice reads as. -/
inductive Ent where
  | box (b : Nat) (cs : List Value) (T : TypeId)
  | rd (A : Option Addr) (xs : List Value)
  | row (v : Value) (e : TypeId) (size n : Nat) (xs : List Value)
  | obj (b : Nat) (o : Obj)
def Ent.occ : Ent → Nat → Prop
  | .box b _ _, k => k = b
  | .rd A _, k => ∃ a, A = some a ∧ a.block = k
  | .row v _ _ _ _, k => v.ownBlock = some k
  | .obj b _, k => k = b
def Ent.ok (w : World) : Ent → Prop
  | .box b cs T => w.heap[b]? = some (.cells cs.toArray T (0, 0))
  | .rd A xs => Rd w A xs
  | .row v e size n xs => w.ownsRow 0 e size v n xs
  | .obj b o => w.heap[b]? = some o
/-- From the world w0, at the world w: what was there and has S has not changed; these lie there, apart from each other. -/
structure St0 (S : Nat → Prop) (w0 w : World) (H : List Ent) : Prop where
  base : KeepB S w0 w
  ok : ∀ e ∈ H, e.ok w
  rng : ∀ e ∈ H, ∀ k, e.occ k → k < w.heap.size ∧ (k < w0.heap.size → ¬ S k)
  dis : H.Pairwise (fun e e' => ∀ k, e.occ k → e'.occ k → False)
/-- All that was there stays. -/
abbrev All (_ : Nat) : Prop := True

theorem Ent.ok_keep {w w' : World} {e : Ent} (h : e.ok w) (hs : w.heap.size ≤ w'.heap.size) (hk : ∀ k, e.occ k → w'.heap[k]? = w.heap[k]?) : e.ok w' := by
  cases e with
  | box b cs T => exact (hk b rfl).trans h
  | obj b o => exact (hk b rfl).trans h
  | rd A xs =>
    intro j u hj
    obtain ⟨b, o, rfl, hb, hc⟩ := h j u hj
    refine ⟨b, o, rfl, Nat.lt_of_lt_of_le hb hs, ?_⟩
    have := hk b ⟨_, rfl, rfl⟩
    simp only [World.cell?, this] at hc ⊢
    exact hc
  | row v e size n xs =>
    refine ⟨h.1, ?_⟩
    rcases h.2 with h2 | ⟨g, cap, cur, rfl, h3, h4, h5⟩
    · exact .inl h2
    · exact .inr ⟨g, cap, cur, rfl, h3, (hk g rfl).trans h4, h5⟩

section
variable {S : Nat → Prop} {w0 w w' : World} {H : List Ent}
theorem St0.start (S : Nat → Prop) (w : World) : St0 S w w [] := ⟨KeepB.refl _ _, fun _ h => (by cases h), fun _ h => (by cases h), List.Pairwise.nil⟩
/-- An old block that may be changed. -/
theorem St0.old (S : Nat → Prop) {e : Ent} (ho : e.ok w) (hr : ∀ k, e.occ k → k < w.heap.size ∧ ¬ S k) : St0 S w w [e] :=
  ⟨KeepB.refl _ _, fun x h => (by rw [List.mem_singleton.1 h]; exact ho), fun x h k hk => (by rw [List.mem_singleton.1 h] at hk; exact ⟨(hr k hk).1, fun _ => (hr k hk).2⟩), List.pairwise_singleton _ _⟩
theorem St0.pure (h : St0 All w0 w H) : Below w0.heap.size w0 w := h.base.to_below (Nat.le_refl _) (fun _ _ => trivial)
theorem St0.size (h : St0 S w0 w H) : w0.heap.size ≤ w.heap.size := h.base.size
theorem St0.below (h : St0 S w0 w H) (hb : Below w.heap.size w w') : St0 S w0 w' H :=
  ⟨h.base.below hb, fun e he => Ent.ok_keep (h.ok e he) hb.size (fun k hk => hb.block k (h.rng e he k hk).1), fun e he k hk => ⟨Nat.lt_of_lt_of_le (h.rng e he k hk).1 hb.size, (h.rng e he k hk).2⟩, h.dis⟩
theorem St0.get (h : St0 S w0 w H) (i : Nat) {e : Ent} (hi : H[i]? = some e) : e.ok w ∧ ∀ k, e.occ k → k < w.heap.size :=
  ⟨h.ok e (List.mem_of_getElem? hi), fun k hk => (h.rng e (List.mem_of_getElem? hi) k hk).1⟩
theorem St0.tail {e : Ent} (h : St0 S w0 w (e :: H)) : St0 S w0 w H := ⟨h.base, fun x hx => h.ok x (by simp [hx]), fun x hx => h.rng x (by simp [hx]), h.dis.tail⟩
theorem St0.ne {b b' T T' : Nat} {cs cs' : List Value} (h : St0 S w0 w H) (i j : Nat) (hi : H[i]? = some (.box b cs T)) (hj : H[j]? = some (.box b' cs' T')) (hij : Nat.beq i j = false) : b ≠ b' := by
  have hne : i ≠ j := fun h0 => by subst h0; simp at hij
  have hil := (List.getElem?_eq_some_iff.1 hi)
  have hjl := (List.getElem?_eq_some_iff.1 hj)
  obtain ⟨h1, h2⟩ := hil
  obtain ⟨h3, h4⟩ := hjl
  rintro rfl
  rcases Nat.lt_or_ge i j with hlt | hge
  · have := (List.pairwise_iff_getElem.1 h.dis) i j h1 h3 hlt b
    rw [h2, h4] at this
    exact this rfl rfl
  · have := (List.pairwise_iff_getElem.1 h.dis) j i h3 h1 (by omega) b
    rw [h2, h4] at this
    exact this rfl rfl
/-- What came new. -/
theorem St0.add {e : Ent} (h : St0 S w0 w H) (hb : Below w.heap.size w w') (ho : e.ok w') (hr : ∀ k, e.occ k → w.heap.size ≤ k ∧ k < w'.heap.size) : St0 S w0 w' (e :: H) := by
  have h' := h.below hb
  refine ⟨h'.base, fun x hx => ?_, fun x hx => ?_, List.pairwise_cons.2 ⟨fun x hx k h1 h2 => ?_, h.dis⟩⟩
  · rcases List.mem_cons.1 hx with rfl | hx
    · exact ho
    · exact h'.ok x hx
  · rcases List.mem_cons.1 hx with rfl | hx
    · exact fun k hk => ⟨(hr k hk).2, fun hlt => (by have := (hr k hk).1; have := h.size; omega)⟩
    · exact h'.rng x hx
  · have := (h.rng x hx k h2).1
    have := (hr k h1).1
    omega
theorem St0.box (h : St0 S w0 w H) (cs : List Value) (T : TypeId) : St0 S w0 (w.alloc (.cells cs.toArray T (0, 0))) (.box w.heap.size cs T :: H) :=
  h.add ((Below.refl _ _).alloc (Nat.le_refl _) _) (heap_alloc_new w _) (fun k hk => by subst hk; simp)
/-- One entry has become another one, in a step that left all others' blocks. -/
theorem St0.change (h : St0 S w0 w H) (i : Nat) {e e' : Ent} (hi : H[i]? = some e) (hs : w.heap.size ≤ w'.heap.size) (ht : w'.os = w.os ∧ w'.tape = w.tape ∧ w'.output = w.output) (hk : ∀ k, ¬ e.occ k → k < w.heap.size → w'.heap[k]? = w.heap[k]?) (ho : e'.ok w')
    (hr : ∀ k, e'.occ k → e.occ k ∨ (w.heap.size ≤ k ∧ k < w'.heap.size)) : St0 S w0 w' (H.set i e') := by
  have hil : i < H.length := (List.getElem?_eq_some_iff.1 hi).1
  have hei : H[i] = e := (List.getElem?_eq_some_iff.1 hi).2
  have hdis : ∀ j x, H[j]? = some x → j ≠ i → ∀ k, x.occ k → e.occ k → False := fun j x hj hne k h1 h2 => by
    have hjl : j < H.length := (List.getElem?_eq_some_iff.1 hj).1
    have hxj : H[j] = x := (List.getElem?_eq_some_iff.1 hj).2
    rcases Nat.lt_or_ge j i with hlt | hge
    · have := (List.pairwise_iff_getElem.1 h.dis) j i hjl hil hlt k
      rw [hxj, hei] at this
      exact this h1 h2
    · have := (List.pairwise_iff_getElem.1 h.dis) i j hil hjl (by omega) k
      rw [hxj, hei] at this
      exact this h2 h1
  have he := h.rng e (List.mem_of_getElem? hi)
  refine ⟨⟨ht.1.trans h.base.os, ht.2.1.trans h.base.tape, ht.2.2.trans h.base.output, Nat.le_trans h.size hs, fun k hk0 hSk => ?_⟩, fun x hx => ?_, fun x hx k hxk => ?_, ?_⟩
  · rw [hk k (fun h0 => (he k h0).2 hk0 hSk) (Nat.lt_of_lt_of_le hk0 h.size)]
    exact h.base.block k hk0 hSk
  · obtain ⟨j, hj, rfl⟩ := List.mem_iff_getElem.1 hx
    rw [List.length_set] at hj
    rw [List.getElem_set]
    split
    · exact ho
    · rename_i hne
      have hj' : H[j]? = some H[j] := List.getElem?_eq_getElem hj
      exact Ent.ok_keep (h.ok _ (List.getElem_mem hj)) hs (fun k hk1 => hk k (fun h0 => hdis j _ hj' (by omega) k hk1 h0) (h.rng _ (List.getElem_mem hj) k hk1).1)
  · obtain ⟨j, hj, rfl⟩ := List.mem_iff_getElem.1 hx
    rw [List.length_set] at hj
    rw [List.getElem_set] at hxk
    split at hxk
    · rcases hr k hxk with h1 | h1
      · exact ⟨Nat.lt_of_lt_of_le (he k h1).1 hs, (he k h1).2⟩
      · exact ⟨h1.2, fun hlt => (by have := h.size; omega)⟩
    · have := h.rng _ (List.getElem_mem hj) k hxk
      exact ⟨Nat.lt_of_lt_of_le this.1 hs, this.2⟩
  · rw [List.pairwise_iff_getElem]
    intro a b ha hb hab k h1 h2
    rw [List.length_set] at ha hb
    rw [List.getElem_set] at h1 h2
    have haE : H[a]? = some H[a] := List.getElem?_eq_getElem ha
    have hbE : H[b]? = some H[b] := List.getElem?_eq_getElem hb
    split at h1
    · split at h2
      · omega
      · rcases hr k h1 with h3 | h3
        · exact hdis b _ hbE (by omega) k h2 h3
        · have := (h.rng _ (List.getElem_mem hb) k h2).1; omega
    · split at h2
      · rcases hr k h2 with h3 | h3
        · exact hdis a _ haE (by omega) k h1 h3
        · have := (h.rng _ (List.getElem_mem ha) k h1).1; omega
      · exact (List.pairwise_iff_getElem.1 h.dis) a b ha hb hab k h1 h2
end

theorem box_cell {w : World} {b o : Nat} {cs : List Value} {T : TypeId} (h : Ent.ok w (.box b cs T)) : w.cell? ⟨b, o, none⟩ = cs[o]? := by
  rw [cell_of_row w b o cs.toArray T (0, 0) h]; simp
theorem box_range {w : World} {b o n : Nat} {cs : List Value} {T : TypeId} (h : Ent.ok w (.box b cs T)) : w.rangeAt b o ((cs.drop o).take n) := fun j v hj => by
  rw [box_cell h]
  rw [List.getElem?_take] at hj
  split at hj
  · rw [List.getElem?_drop] at hj; exact hj
  · cases hj

/-- Code of a frame of a function that there is, in a round (ro) or not. -/
def wpo (P : Program) (ro : Option Nat) (c : Code) (Q : Exit → Act → World → Prop) (a : Act) (w : World) : Prop :=
  ∀ (b : Frame) (k : List Item) (cs : List Frame), b.roundOf = ro → (∃ fn, P.funcs[b.fn]? = some fn) →
    ∃ e a' w', Q e a' w' ∧ ArrivesIn (Machine.fenced P Fence.wide) P (lone (b.atR a (.code c :: k)) cs w) b k cs e a' w'
def FR (ro : Option Nat) : Fence := { fn := fun _ => True, depth := none, alive := false, round := ro }
section
variable {P : Program} {ro : Option Nat} {Q : Exit → Act → World → Prop} {a : Act} {w : World}
theorem wpo_of_in {n : Nat} {c : Code} (h : c.wpIn (FR ro) n P Q a w) : wpo P ro c Q a w := fun b k cs hro _ => h b k cs hro trivial (fun _ hd => by cases hd)
theorem wpo_of_wp {c : Code} (h : c.wp P Q a w) : wpo P none c Q a w := wpo_of_in (n := 9) (wpIn_wide.2 h)
theorem wpo_mono {c : Code} {Q' : Exit → Act → World → Prop} (h : wpo P ro c Q a w) (hq : ∀ e a w, Q e a w → Q' e a w) : wpo P ro c Q' a w :=
  fun b k cs hro hb => let ⟨e, a', w', q, r⟩ := h b k cs hro hb; ⟨e, a', w', hq _ _ _ q, r⟩
theorem wpo_seq {x y : Code} (h : wpo P ro x (Exit.then (wpo P ro y Q) Q) a w) : wpo P ro (.seq x y) Q a w := by
  intro b k cs hro hb
  have h0 := fenced_wide P (lone (b.atR a (.code (.seq x y) :: k)) cs w)
  obtain ⟨e, a1, w1, hq, harr⟩ := h b (.code y :: k) cs hro hb
  cases e with
  | normal =>
    obtain ⟨e2, a2, w2, hq2, harr2⟩ := hq b k cs hro hb
    exact ⟨e2, a2, w2, hq2, .of_steps (.head h0 stepR_seq harr) harr2⟩
  | exit id => exact ⟨_, a1, w1, hq, .of_steps (.one h0 stepR_seq) (.pass (x := .code y) rfl (fun _ _ => .inl (by simp)) harr)⟩
  | goto l => exact ⟨_, a1, w1, hq, .of_steps (.one h0 stepR_seq) (.pass (x := .code y) rfl (fun _ _ => .inl (by simp)) harr)⟩
  | ret => exact ⟨_, a1, w1, hq, .of_steps (.one h0 stepR_seq) (.pass (x := .code y) rfl (fun _ _ => .inl (by simp)) harr)⟩
  | panic ch => exact ⟨_, a1, w1, hq, .of_steps (.one h0 stepR_seq) (.pass (x := .code y) rfl (fun _ _ => .inl (by simp)) harr)⟩
  | outgrown => exact ⟨_, a1, w1, hq, .of_steps (.one h0 stepR_seq) (.pass (x := .code y) rfl (fun _ _ => .inl (by simp)) harr)⟩
theorem wpo_cond {c : Operand} {x y : Code} {t : Bool} (hc : a.eval c = .bool t) (h : wpo P ro (if t then x else y) Q a w) : wpo P ro (.cond c x y) Q a w :=
  fun b k cs hro hb => let ⟨e, a', w', q, r⟩ := h b k cs hro hb; ⟨e, a', w', q, .of_steps (.one (fenced_wide P _) (stepR_cond hc)) r⟩
theorem wpo_block {id : Nat} {c : Code} (h : wpo P ro c (Exit.inBlock id Q) a w) : wpo P ro (.block id c) Q a w := by
  intro b k cs hro hb
  have h0 := fenced_wide P (lone (b.atR a (.code (.block id c) :: k)) cs w)
  obtain ⟨e, a1, w1, hq, harr⟩ := h b (.inBlock id :: k) cs hro hb
  cases e with
  | normal => exact ⟨.normal, a1, w1, hq, .head h0 stepR_block (StepsIn.trans harr (.one (fenced_wide P _) stepR_inBlock))⟩
  | exit id' =>
    by_cases hid : id' = id
    · simp only [Exit.inBlock, hid, if_true] at hq
      exact ⟨.normal, a1, w1, hq, .head h0 stepR_block (harr.1 k (by simp [exitTo, hid]))⟩
    · simp only [Exit.inBlock, hid, if_false] at hq
      have this : (id == id') = false := by simp; exact fun h => hid h.symm
      have hx : exitTo id' (.inBlock id :: k) = exitTo id' k := by simp [exitTo, this]
      exact ⟨.exit id', a1, w1, hq, fun k' hk => .head h0 stepR_block (harr.1 k' (by rw [hx]; exact hk)),
        fun hr' hk => let ⟨k1, h1, h2⟩ := harr.2 hr' (by rw [hx]; exact hk); ⟨k1, h1, .head h0 stepR_block h2⟩⟩
  | goto l =>
    have hx : gotoIn l (.inBlock id :: k) = gotoIn l k := by simp [gotoIn]
    exact ⟨_, a1, w1, hq, fun k' hk => .head h0 stepR_block (harr.1 k' (by rw [hx]; exact hk)),
      fun hr' hk => let ⟨k1, h1, h2⟩ := harr.2 hr' (by rw [hx]; exact hk); ⟨k1, h1, .head h0 stepR_block h2⟩⟩
  | ret => exact ⟨_, a1, w1, hq, .of_steps (.one h0 stepR_block) harr⟩
  | panic ch => exact ⟨_, a1, w1, hq, .of_steps (.one h0 stepR_block) harr⟩
  | outgrown => exact ⟨_, a1, w1, hq, .of_steps (.one h0 stepR_block) harr⟩
theorem wpo_loop {c : Code} (I : Act → World → Prop) (μ : Act → World → Nat) (h0 : I a w)
    (round : ∀ a w, I a w → wpo P ro c (Exit.then (fun a' w' => I a' w' ∧ μ a' w' < μ a w) Q) a w) : wpo P ro (.loop c) Q a w := by
  intro b k cs hro hb
  have key : ∀ j a w, μ a w = j → I a w →
      ∃ e a' w', Q e a' w' ∧ ArrivesIn (Machine.fenced P Fence.wide) P (lone (b.atR a (.code c :: .inLoop c :: k)) cs w) b k cs e a' w' := by
    intro j
    induction j using Nat.strongRecOn with
    | _ j ih =>
      intro a w hn hI
      obtain ⟨e, a1, w1, hq, harr⟩ := round a w hI b (.inLoop c :: k) cs hro hb
      cases e with
      | normal =>
        obtain ⟨hI1, hlt⟩ := hq
        obtain ⟨e2, a2, w2, hq2, harr2⟩ := ih (μ a1 w1) (hn ▸ hlt) a1 w1 rfl hI1
        exact ⟨e2, a2, w2, hq2, .of_steps (StepsIn.trans harr (.one (fenced_wide P _) stepR_inLoop)) harr2⟩
      | exit id => exact ⟨_, a1, w1, hq, .pass (x := .inLoop c) rfl (fun _ _ => .inl (by simp)) harr⟩
      | goto l => exact ⟨_, a1, w1, hq, .pass (x := .inLoop c) rfl (fun _ _ => .inl (by simp)) harr⟩
      | ret => exact ⟨_, a1, w1, hq, .pass (x := .inLoop c) rfl (fun _ _ => .inl (by simp)) harr⟩
      | panic ch => exact ⟨_, a1, w1, hq, .pass (x := .inLoop c) rfl (fun _ _ => .inl (by simp)) harr⟩
      | outgrown => exact ⟨_, a1, w1, hq, .pass (x := .inLoop c) rfl (fun _ _ => .inl (by simp)) harr⟩
  obtain ⟨e, a', w', hq, harr⟩ := key _ a w rfl h0
  exact ⟨e, a', w', hq, .of_steps (.one (fenced_wide P _) stepR_loop) harr⟩
/-- A function's contract from its body. -/
theorem calls_of_wpo {f : FuncId} {fn : Func} {c : Code} {args : Array Value} {R : Ending → World → Prop} (hf : P.funcs[f]? = some fn) (hb : fn.body = some c)
    (h : wpo P none c (bodyPostM Fence.wide 9 P fn R) { tmps := args ++ Array.replicate (fn.ntmps - args.size) undef, defers := [] } w) : Calls P f args w R := by
  refine (callsIn_wide (n := 9)).1 ⟨trivial, fun cs hr => ?_⟩
  let b : Frame := { (default : Frame) with fn := f, kind := .normal, roundOf := none }
  have henter : Frame.enter P f args .normal = b.atR { tmps := args ++ Array.replicate (fn.ntmps - args.size) undef, defers := [] } [.code c] := by
    simp [Frame.enter, Frame.atR, hf, hb, b]
  obtain ⟨e, a', w', hq, harr⟩ := h b [] cs rfl ⟨fn, hf⟩
  rw [← henter] at harr
  cases e with
  | normal =>
    obtain ⟨e', w'', fr', hR, hs, hfn, hl⟩ := leaves_stepsInM a'.defers .returning w' { b.atR a' [] with mode := .returning } cs rfl rfl rfl hf rfl trivial hr hq
    exact ⟨e', w'', fr', hR, ComesIn.of_steps (StepsIn.trans harr (.one (fenced_calm (F := Fence.wide) (fr := b.atR a' []) trivial hr rfl) (stepR_end rfl))) hs, hfn, hl⟩
  | ret =>
    obtain ⟨todo, hs0⟩ := harr.1 rfl
    obtain ⟨e', w'', fr', hR, hs, hfn, hl⟩ := leaves_stepsInM a'.defers .returning w' { b.atR a' todo with mode := .returning } cs rfl rfl rfl hf rfl trivial hr hq
    exact ⟨e', w'', fr', hR, ComesIn.of_steps hs0 hs, hfn, hl⟩
  | panic chain =>
    obtain ⟨todo, hs0⟩ := harr
    obtain ⟨e', w'', fr', hR, hs, hfn, hl⟩ := leaves_stepsInM a'.defers (.panicking chain) w' { b.atR a' todo with mode := .panicking chain } cs rfl rfl rfl hf rfl trivial hr hq
    exact ⟨e', w'', fr', hR, ComesIn.of_steps hs0 hs, hfn, hl⟩
  | exit id => exact hq.elim
  | goto l => exact hq.elim
  | outgrown => exact ⟨.outgrown, w', b, hq, harr.resolve_left (by simp [b]), rfl, trivial⟩
end

/-- What is asked of a body: marks are taken, no function is deferred. -/
def Takes (P : Program) : List Deferred → World → World → Prop
  | [], w, w' => w' = w
  | d :: ds, w, w' => ∃ r w1, d.target = .collected r ∧ (Instr.takeDeferred r).run P w = .ok [] w1 ∧ Takes P ds w1 w'
def bodyO (P : Program) (fn : Func) (R : Ending → World → Prop) : Exit → Act → World → Prop
  | .normal, a, w | .ret, a, w => ∃ w', Takes P a.defers w w' ∧ ∃ v, (results fn a.tmps).run P w' = .ok v w' ∧ R (.returned v) w'
  | .panic c, a, w => ∃ w', Takes P a.defers w w' ∧ R (.panicked c) w'
  | .outgrown, _, w => R .outgrown w
  | _, _, _ => False
theorem leaves_of_takes {P : Program} {fn : Func} {tmps : Array Value} {R : Ending → World → Prop} {u : FrameMode} (hu : u ≠ .run) : ∀ (ds : List Deferred) (w w' : World), Takes P ds w w' → LeavesIn Fence.wide 9 P fn tmps R [] u w' → LeavesInM Fence.wide 9 P fn tmps R ds u w
  | [], w, w', h, k => by cases h; exact k
  | d :: ds, w, w', ⟨r, w1, h1, h2, h3⟩, k => ⟨hu, .inl ⟨r, w1, h1, h2, leaves_of_takes hu ds w1 w' h3 k⟩⟩
theorem bodyO_M {P : Program} {fn : Func} {R : Ending → World → Prop} {e : Exit} {a : Act} {w : World} (h : bodyO P fn R e a w) : bodyPostM Fence.wide 9 P fn R e a w := by
  cases e with
  | normal => obtain ⟨w', h1, h2⟩ := h; exact leaves_of_takes (by simp) _ _ _ h1 h2
  | ret => obtain ⟨w', h1, h2⟩ := h; exact leaves_of_takes (by simp) _ _ _ h1 h2
  | panic c => obtain ⟨w', h1, h2⟩ := h; exact leaves_of_takes (by simp) _ _ _ h1 h2
  | outgrown => exact h
  | exit id => exact h.elim
  | goto l => exact h.elim

/-- There is no way out for want of memory. -/
structure NL (Q : Exit → Act → World → Prop) : Prop where
  no : ∀ a w, ¬ Q .outgrown a w
theorem NL.then {K : Act → World → Prop} {Q : Exit → Act → World → Prop} (h : NL Q) : NL (Exit.then K Q) := ⟨h.no⟩
theorem NL.inBlock {id : Nat} {Q : Exit → Act → World → Prop} (h : NL Q) : NL (Exit.inBlock id Q) := ⟨h.no⟩
def noDefer (o : Oper) : Bool := match o.op with | .defer _ => false | _ => true
theorem noDefer_spec {o : Oper} (h : noDefer o = true) : ∀ c, o.op ≠ .defer c := fun c hc => by simp [noDefer, hc] at h
section
variable {P : Program} {ro : Option Nat} {Q : Exit → Act → World → Prop} {n : Nat}
theorem op_in {o : Oper} (hd : noDefer o = true) {a : Act} {w : World} {K : Act → World → Prop} (h : o.wp P a w K Q) : o.wpIn (FR ro) n P a w K Q := by
  refine ⟨fun _ _ => trivial, ?_⟩
  rw [Oper.semAt_plain (FR ro) _ _ (noDefer_spec hd)]
  unfold Oper.wp at h
  generalize (execOp a.eval o).run P w = r at *
  cases r with
  | ok x w' =>
    cases x <;> simp only [Oper.upon] at h <;> try exact h.elim
    case value v => exact h
    case skip => exact h
    case defer d => exact h
    case enter f args =>
      refine ⟨fun h => (by cases h), ?_⟩
      exact (callsIn_wide (n := n - 1)).2 h
    case row row args =>
      refine ⟨fun h => (by cases h), fun c cs _ => ?_⟩
      obtain ⟨v, w'', h1, h2⟩ := h c cs
      exact ⟨v, w'', h1, stepsIn_wide.2 h2⟩
  | halt x w' => cases x <;> simp only [Oper.upon] at h <;> first | exact h | exact h.elim
theorem list_in {ops : Array Oper} (hQ : NL Q) : ∀ (l : List Oper), l.all noDefer = true → ∀ (a : Act) (w : World), wpList P ops Q l a w → wpListIn (FR ro) n P ops Q l a w
  | [], _, a, w, h => h
  | o :: l, hd, a, w, h => by
    simp only [List.all_cons, Bool.and_eq_true] at hd
    unfold wpList at h
    unfold wpListIn
    split
    · rename_i hw
      rw [if_pos hw] at h
      rcases h with h | ⟨_, a0, w0, h⟩
      · have := op_in (ro := ro) (n := n) hd.1 h
        exact Oper.wpIn_mono (fun a w h => list_in hQ l hd.2 a w h) this
      · exact (hQ.no _ _ h).elim
    · rename_i hw
      rw [if_neg hw] at h
      exact ⟨fun _ _ => trivial, list_in hQ l hd.2 _ _ h⟩
end

section
variable {P : Program} {ops : Array Oper} {Q : Exit → Act → World → Prop} {rest : List Oper} {N : FS} {L : List (Nat × Value)} {w : World} {ro : Option Nat}

/-- The operations from here on, in the order of the text, from slots that hold this. -/
structure wpS (P : Program) (ops : Array Oper) (Q : Exit → Act → World → Prop) (l : List Oper) (N : FS) (L : List (Nat × Value)) (w : World) : Prop where
  go : ∀ a, Fr N L a → wpList P ops Q l a w
structure wpC (P : Program) (ro : Option Nat) (c : Code) (Q : Exit → Act → World → Prop) (N : FS) (L : List (Nat × Value)) (w : World) : Prop where
  go : ∀ a, Fr N L a → wpo P ro c Q a w
/-- What is asked at an exit. -/
structure QH (Q : Exit → Act → World → Prop) (e : Exit) (N : FS) (L : List (Nat × Value)) (w : World) : Prop where
  go : ∀ a, Fr N L a → Q e a w

/-- Is the operation to be done? -/
def wantB (ops : Array Oper) (L : List (Nat × Value)) : Option (Nat × Bool) → Option Bool
  | none => some true
  | some (j, want) => match (ops[j]?).bind (·.dst) with
    | some t => match lk L t with
      | some (.bool b) => some (b == want)
      | some (.tuple _) => some false
      | _ => none
    | none => none
theorem wanted_of {a : Act} (hF : Fr N L a) {o : Oper} {b : Bool} (h : wantB ops L o.guard = some b) : Region.wanted o (yielded ops a.tmps) = b := by
  unfold Region.wanted
  cases hg : o.guard with
  | none => rw [hg] at h; simpa [wantB] using h
  | some p =>
    obtain ⟨j, want⟩ := p
    rw [hg] at h
    simp only [wantB] at h
    split at h
    · rename_i t ht
      split at h
      · rename_i c hc
        simp only [Option.some.injEq] at h
        subst h
        simp only [yielded, ht, Option.bind_some, hF.at_ t _ hc]
        cases c <;> cases want <;> rfl
      · rename_i c hc
        simp only [Option.some.injEq] at h
        subst h
        simp only [yielded, ht, Option.bind_some, hF.at_ t _ hc]
        cases want <;> rfl
      · cases h
    · cases h

theorem wpS_put {o : Oper} {d : Nat} {v : Value} (hg : wantB ops L o.guard = some true) (hd : o.dst = some d) (hN : Nat.ble (d + 1) N.n = true) (hv : Yv P L (fun w1 => w1 = w) o v) (k : wpS P ops Q rest N ((d, v) :: L) w) : wpS P ops Q (o :: rest) N L w := .mk fun a hF => by
  unfold wpList
  rw [if_pos (wanted_of hF hg)]
  refine .inl ?_
  unfold Oper.wp
  rw [hv.run w rfl a.eval hF.agr]
  simp only [Oper.upon, hd]
  exact k.go _ (hF.put hN v)
theorem wpS_skip {o : Oper} {d : Nat} (hg : wantB ops L o.guard = some false) (hd : o.dst = some d) (hN : Nat.ble (d + 1) N.n = true) (k : wpS P ops Q rest N ((d, undef) :: L) w) : wpS P ops Q (o :: rest) N L w := .mk fun a hF => by
  unfold wpList
  rw [if_neg (by rw [wanted_of hF hg]; simp), hd]
  exact k.go _ (hF.put hN _)
theorem wpS_skip0 {o : Oper} (hg : wantB ops L o.guard = some false) (hd : o.dst = none) (k : wpS P ops Q rest N L w) : wpS P ops Q (o :: rest) N L w := .mk fun a hF => by
  unfold wpList
  rw [if_neg (by rw [wanted_of hF hg]; simp), hd]
  exact k.go _ hF
/-- An operation that runs to a value and a world. -/
theorem wpS_run {o : Oper} {d : Nat} {v : Value} {w' : World} (hg : wantB ops L o.guard = some true) (hd : o.dst = some d) (hN : Nat.ble (d + 1) N.n = true) (hr : ∀ ρ, Agr L ρ → (execOp ρ o).run P w = .ok (.value v) w') (k : wpS P ops Q rest N ((d, v) :: L) w') : wpS P ops Q (o :: rest) N L w := .mk fun a hF => by
  unfold wpList
  rw [if_pos (wanted_of hF hg)]
  refine .inl ?_
  unfold Oper.wp
  rw [hr a.eval hF.agr]
  simp only [Oper.upon, hd]
  exact k.go _ (hF.put hN v)
theorem wpS_run0 {o : Oper} {w' : World} (hg : wantB ops L o.guard = some true) (hd : o.dst = none) (hr : ∀ ρ, Agr L ρ → (execOp ρ o).run P w = .ok .skip w') (k : wpS P ops Q rest N L w') : wpS P ops Q (o :: rest) N L w := .mk fun a hF => by
  unfold wpList
  rw [if_pos (wanted_of hF hg)]
  refine .inl ?_
  unfold Oper.wp
  rw [hr a.eval hF.agr]
  simp only [Oper.upon, hd]
  exact k.go _ hF
theorem wpS_nil (k : QH Q .normal N L w) : wpS P ops Q [] N L w := .mk fun a hF => k.go a hF
theorem wpS_sub {l : List Oper} {L' : List (Nat × Value)} (hs : Sub L' L) (k : wpS P ops Q l N L' w) : wpS P ops Q l N L w := .mk fun a hF => k.go a (hF.sub hs)
theorem wpC_sub {ro : Option Nat} {c : Code} {L' : List (Nat × Value)} (hs : Sub L' L) (k : wpC P ro c Q N L' w) : wpC P ro c Q N L w := .mk fun a hF => k.go a (hF.sub hs)

/-- Can this function be entered? -/
def enterB (P : Program) (f : FuncId) : Bool := match P.funcs[f]? with
  | some fn => fn.name != "runtime.NumGoroutine" && fn.body.isSome
  | none => false
theorem callFunc_enter {f : FuncId} (h : enterB P f = true) (args : Array Value) : (callFunc f args).run P w = .ok (.enter f args) w := by
  unfold enterB at h
  split at h
  · rename_i fn hf
    simp only [Bool.and_eq_true, bne_iff_ne, ne_eq] at h
    obtain ⟨h1, h2⟩ := h
    obtain ⟨c, hc⟩ := Option.isSome_iff_exists.1 h2
    simp [callFunc, run_program, hf, h1, hc]
  · cases h
/-- A call of a function that is known. -/
theorem wpS_call {dst : Option Nat} {ty : TypeId} {pos : String} {af : Array Edge} {g : Option (Nat × Bool)} {x : Operand} {f : FuncId} {cap : Array Value} {xs : List Operand} {ts : Array TypeId} {d : Nat} {vs : List Value} {R : Ending → World → Prop}
    (hg : wantB ops L g = some true) (hd : dst = some d) (hN : Nat.ble (d + 1) N.n = true) (hx : ev L x = some (.func (.func f) #[] cap)) (he : enterB P f = true) (ha : evs L xs = some vs)
    (hc : Calls P f (vs.toArray ++ cap) w R) (k : ∀ e w', R e w' → ∃ v, e = .returned v ∧ wpS P ops Q rest N ((d, v) :: L) w') :
    wpS P ops Q (⟨dst, .call { callee := .value x, args := xs.toArray, argTypes := ts }, ty, pos, af, g⟩ :: rest) N L w := .mk fun a hF => by
  subst hd
  unfold wpList
  rw [if_pos (wanted_of hF hg)]
  refine .inl ?_
  unfold Oper.wp
  have e1 : xs.toArray.map a.eval = vs.toArray := by simp [hF.agr.map ha]
  simp only [execOp, resolve, Sem.run_bind, e1, hF.eval hx, Deferred.ofValue, Sem.run_pure, Result.andThen_ok, invoke, callFunc_enter he, Oper.upon]
  have e2 : (#[] : Array Value) ++ vs.toArray ++ cap = vs.toArray ++ cap := by simp
  rw [e2]
  refine hc.mono fun e w' hR => ?_
  obtain ⟨v, rfl, hk⟩ := k e w' hR
  exact hk.go _ (hF.put hN v)

/-! ### Code -/
theorem wpC_seq {x y : Code} (k : wpC P ro x (Exit.then (fun a w => wpo P ro y Q a w) Q) N L w) : wpC P ro (.seq x y) Q N L w := .mk fun a hF => wpo_seq (k.go a hF)
theorem wpC_seq_k {x y : Code} (k : ∀ K : Act → World → Prop, (∀ a w, wpo P ro y Q a w → K a w) → wpC P ro x (Exit.then K Q) N L w) : wpC P ro (.seq x y) Q N L w := .mk fun a hF => wpo_seq ((k _ (fun _ _ h => h)).go a hF)
theorem wpC_region {id : Nat} {l : List Oper} (k : wpS P l.toArray Q l N L w) : wpC P none (.region id l.toArray false) Q N L w := .mk fun a hF => wpo_of_wp (wp_region_lit (k.go a hF))
theorem wpC_regionR {id : Nat} {l : List Oper} (hQ : NL Q) (hd : l.all noDefer = true) (k : wpS P l.toArray Q l N L w) : wpC P ro (.region id l.toArray false) Q N L w := .mk fun a hF => wpo_of_in (n := 9) (wpIn_region_lit (list_in hQ l hd a w (k.go a hF)))
theorem wpC_skip (k : QH Q .normal N L w) : wpC P ro .skip Q N L w := .mk fun a hF => wpo_of_in (n := 9) (wpIn_skip (k.go a hF))
theorem wpC_ret (k : QH Q .ret N L w) : wpC P ro .ret Q N L w := .mk fun a hF => wpo_of_in (n := 9) (wpIn_ret (k.go a hF))
theorem wpC_exit {id : Nat} (k : QH Q (.exit id) N L w) : wpC P ro (.exit id) Q N L w := .mk fun a hF => wpo_of_in (n := 9) (wpIn_exit (k.go a hF))
theorem wpC_goto {id : Nat} (k : QH Q (.goto id) N L w) : wpC P ro (.goto id) Q N L w := .mk fun a hF => wpo_of_in (n := 9) (wpIn_goto (k.go a hF))
theorem wpC_label {id : Nat} (k : QH Q .normal N L w) : wpC P ro (.label id) Q N L w := .mk fun a hF => wpo_of_in (n := 9) (wpIn_label (k.go a hF))
theorem wpC_block {id : Nat} {c : Code} (k : wpC P ro c (Exit.inBlock id Q) N L w) : wpC P ro (.block id c) Q N L w := .mk fun a hF => wpo_block (k.go a hF)
theorem wpC_cond_t {c : Operand} {x y : Code} {b : Bool} (hc : ev L c = some (.bool b)) (hb : b = true) (k : wpC P ro x Q N L w) : wpC P ro (.cond c x y) Q N L w := .mk fun a hF => by
  subst hb; exact wpo_cond (hF.eval hc) (k.go a hF)
theorem wpC_cond_f {c : Operand} {x y : Code} {b : Bool} (hc : ev L c = some (.bool b)) (hb : b = false) (k : wpC P ro y Q N L w) : wpC P ro (.cond c x y) Q N L w := .mk fun a hF => by
  subst hb; exact wpo_cond (hF.eval hc) (k.go a hF)
theorem wpC_cond {c : Operand} {x y : Code} {b : Bool} (hc : ev L c = some (.bool b)) (k : b = true → wpC P ro x Q N L w) (k' : b = false → wpC P ro y Q N L w) : wpC P ro (.cond c x y) Q N L w := .mk fun a hF => by
  cases b
  · exact wpo_cond (hF.eval hc) ((k' rfl).go a hF)
  · exact wpo_cond (hF.eval hc) ((k rfl).go a hF)
theorem QH_seq {y : Code} {Q' : Exit → Act → World → Prop} (k : wpC P ro y Q N L w) : QH (Exit.then (fun a w => wpo P ro y Q a w) Q') .normal N L w := .mk k.go
theorem QH_seq_k {y : Code} {K : Act → World → Prop} {Q' : Exit → Act → World → Prop} (hK : ∀ a w, wpo P ro y Q a w → K a w) (k : wpC P ro y Q N L w) : QH (Exit.then K Q') .normal N L w := .mk fun a hF => hK _ _ (k.go a hF)
theorem QH_then_ret {K : Act → World → Prop} (k : QH Q .ret N L w) : QH (Exit.then K Q) .ret N L w := .mk k.go
theorem QH_then_exit {K : Act → World → Prop} {id : Nat} (k : QH Q (.exit id) N L w) : QH (Exit.then K Q) (.exit id) N L w := .mk k.go
theorem QH_then_goto {K : Act → World → Prop} {id : Nat} (k : QH Q (.goto id) N L w) : QH (Exit.then K Q) (.goto id) N L w := .mk k.go
theorem QH_block_normal {id : Nat} (k : QH Q .normal N L w) : QH (Exit.inBlock id Q) .normal N L w := .mk k.go
theorem QH_block_ret {id : Nat} (k : QH Q .ret N L w) : QH (Exit.inBlock id Q) .ret N L w := .mk k.go
theorem QH_block_goto {id l : Nat} (k : QH Q (.goto l) N L w) : QH (Exit.inBlock id Q) (.goto l) N L w := .mk k.go
theorem QH_block_hit {id : Nat} (k : QH Q .normal N L w) : QH (Exit.inBlock id Q) (.exit id) N L w := .mk fun a hF => by simp only [Exit.inBlock, if_true]; exact k.go a hF
theorem QH_block_miss {id id' : Nat} (h : Nat.beq id' id = false) (k : QH Q (.exit id') N L w) : QH (Exit.inBlock id Q) (.exit id') N L w := .mk fun a hF => by
  have : id' ≠ id := fun h0 => by subst h0; simp at h
  simp only [Exit.inBlock, if_neg this]; exact k.go a hF
theorem QH_sub {e : Exit} {L' : List (Nat × Value)} (hs : Sub L' L) (k : QH Q e N L' w) : QH Q e N L w := .mk fun a hF => k.go a (hF.sub hs)

/-- A loop: its head's slots are a list that hangs on x. -/
def Again {X : Type} (N : FS) (Lx : X → List (Nat × Value)) (J : X → World → Prop) (μ : X → Nat) (x : X) (a : Act) (w : World) : Prop := ∃ x', Fr N (Lx x') a ∧ J x' w ∧ μ x' < μ x
theorem wpC_loop {X : Type} {c : Code} (Lx : X → List (Nat × Value)) (J : X → World → Prop) (μ : X → Nat) (x0 : X) (hs : Sub (Lx x0) L) (h0 : J x0 w)
    (round : ∀ x w, J x w → wpC P ro c (Exit.then (Again N Lx J μ x) Q) N (Lx x) w) : wpC P ro (.loop c) Q N L w := .mk fun a hF => by
  classical
  let p : Act → World → Nat → Prop := fun a w n => ∃ x, Fr N (Lx x) a ∧ J x w ∧ μ x = n
  have hmin : ∀ a w, (∃ n, p a w n) → ∃ m, p a w m ∧ ∀ k, p a w k → m ≤ k := fun a w ⟨n, hn⟩ => by
    induction n using Nat.strongRecOn with
    | _ n ih =>
      by_cases h : ∃ k, k < n ∧ p a w k
      · obtain ⟨k, hk, hp⟩ := h; exact ih k hk hp
      · exact ⟨n, hn, fun k hk => Nat.le_of_not_lt fun hlt => h ⟨k, hlt, hk⟩⟩
  let M : Act → World → Nat := fun a w => if h : ∃ n, p a w n then (hmin a w h).choose else 0
  refine wpo_loop (fun a w => ∃ x, Fr N (Lx x) a ∧ J x w) M ⟨x0, hF.sub hs, h0⟩ fun a w ⟨x, hx, hj⟩ => ?_
  have hex : ∃ n, p a w n := ⟨μ x, x, hx, hj, rfl⟩
  obtain ⟨⟨y, hy, hjy, hM⟩, _⟩ := (hmin a w hex).choose_spec
  have hMa : M a w = μ y := by simp only [M, dif_pos hex]; exact hM.symm
  refine wpo_mono ((round y w hjy).go a hy) fun e a' w' he => ?_
  cases e with
  | normal =>
    obtain ⟨x', hF', hJ', hlt⟩ := he
    refine ⟨⟨x', hF', hJ'⟩, ?_⟩
    have hex' : ∃ n, p a' w' n := ⟨μ x', x', hF', hJ', rfl⟩
    have := (hmin a' w' hex').choose_spec.2 (μ x') ⟨x', hF', hJ', rfl⟩
    have hMa' : M a' w' = (hmin a' w' hex').choose := by simp only [M, dif_pos hex']
    omega
  | _ => exact he
theorem QH_again {X : Type} {Lx : X → List (Nat × Value)} {J : X → World → Prop} {μ : X → Nat} {x : X} (x' : X) (hs : Sub (Lx x') L) (hJ : J x' w) (hm : μ x' < μ x) : QH (Exit.then (Again N Lx J μ x) Q) .normal N L w := .mk fun a hF => ⟨x', hF.sub hs, hJ, hm⟩
end
end Go.Proofs.Ythngkojbokknfaa
/- A walk by laws alone. Third part: operations that make or write blocks of one's own; entering, leaving. -/
namespace Go.Proofs.Ythngkojbokknfaa
open Go Go.RowKit

/-- One entry of a list exchanged. -/
inductive Pos : List Ent → Ent → List Ent → Ent → Prop
  | head {e e' : Ent} {H : List Ent} : Pos (e :: H) e (e' :: H) e'
  | tail {x e e' : Ent} {H H' : List Ent} (h : Pos H e H' e') : Pos (x :: H) e (x :: H') e'
theorem Pos.set {H H' : List Ent} {e e' : Ent} (h : Pos H e H' e') : ∃ i : Nat, H[i]? = some e ∧ H' = H.set i e' := by
  induction h with
  | head => exact ⟨0, rfl, rfl⟩
  | tail h ih => obtain ⟨i, h1, h2⟩ := ih; exact ⟨i + 1, by simpa using h1, by simp [h2]⟩
/-- An entry of a list. -/
inductive Has : List Ent → Ent → Prop
  | head {e : Ent} {H : List Ent} : Has (e :: H) e
  | tail {x e : Ent} {H : List Ent} (h : Has H e) : Has (x :: H) e
theorem Has.mem {H : List Ent} {e : Ent} (h : Has H e) : e ∈ H := by
  induction h with
  | head => simp
  | tail h ih => exact List.mem_cons_of_mem _ ih
/-- The first n. -/
inductive Pre : List Value → Nat → List Value → Prop
  | zero {cs : List Value} : Pre cs 0 []
  | succ {c : Value} {cs vs : List Value} {n : Nat} (h : Pre cs n vs) : Pre (c :: cs) (n + 1) (c :: vs)
/-- n from o on. -/
inductive Seg : List Value → Nat → Nat → List Value → Prop
  | here {cs vs : List Value} {n : Nat} (h : Pre cs n vs) : Seg cs 0 n vs
  | succ {c : Value} {cs vs : List Value} {o n : Nat} (h : Seg cs o n vs) : Seg (c :: cs) (o + 1) n vs
theorem Pre.spec {cs vs : List Value} {n : Nat} (h : Pre cs n vs) : vs = cs.take n ∧ vs.length = n := by
  induction h with
  | zero => simp
  | succ h ih => simp [ih.1.symm, ih.2]
theorem Seg.spec {cs vs : List Value} {o n : Nat} (h : Seg cs o n vs) : vs = (cs.drop o).take n ∧ vs.length = n := by
  induction h with
  | here h => simpa using h.spec
  | succ h ih => simpa using ih
/-- The first are exchanged. -/
inductive Ovr : List Value → List Value → List Value → Prop
  | nil {cs : List Value} : Ovr cs [] cs
  | cons {c v : Value} {cs vs cs' : List Value} (h : Ovr cs vs cs') : Ovr (c :: cs) (v :: vs) (v :: cs')
/-- From o on these are exchanged. -/
inductive SetC : List Value → Nat → List Value → List Value → Prop
  | here {cs vs cs' : List Value} (h : Ovr cs vs cs') : SetC cs 0 vs cs'
  | succ {c : Value} {cs vs cs' : List Value} {o : Nat} (h : SetC cs o vs cs') : SetC (c :: cs) (o + 1) vs (c :: cs')
theorem Ovr.spec {cs vs cs' : List Value} (h : Ovr cs vs cs') : cs'.length = cs.length ∧ vs.length ≤ cs.length ∧ ∀ j, cs'[j]? = if j < vs.length then vs[j]? else cs[j]? := by
  induction h with
  | nil => simp
  | cons h ih =>
    refine ⟨by simp [ih.1], by simp; exact ih.2.1, fun j => ?_⟩
    cases j with
    | zero => simp
    | succ j => simpa using ih.2.2 j
theorem SetC.spec {cs vs cs' : List Value} {o : Nat} (h : SetC cs o vs cs') : cs'.length = cs.length ∧ o + vs.length ≤ cs.length ∧ ∀ j, cs'[j]? = if o ≤ j ∧ j < o + vs.length then vs[j - o]? else cs[j]? := by
  induction h with
  | here h =>
    obtain ⟨h1, h2, h3⟩ := h.spec
    exact ⟨h1, by omega, fun j => by rw [h3 j]; simp⟩
  | @succ c cs vs cs' o h ih =>
    refine ⟨by simp [ih.1], by have := ih.2.1; simp; omega, fun j => ?_⟩
    cases j with
    | zero => simp
    | succ j =>
      have e : j + 1 - (o + 1) = j - o := by omega
      have := ih.2.2 j
      simp only [List.getElem?_cons_succ, this, e]
      by_cases hc : o ≤ j ∧ j < o + vs.length
      · rw [if_pos hc, if_pos (by omega)]
      · rw [if_neg hc, if_neg (by omega)]

section
variable {P : Program} {L : List (Nat × Value)} {R : World → Prop} {d : Option Nat} {ty : TypeId} {pos : String} {af : Array Edge} {g : Option (Nat × Bool)} {S : Nat → Prop} {w0 w : World} {H : List Ent}

/-- A cell, a row of cells of a block of one's own. -/
theorem yv_load_box {x : Operand} {t : TypeId} {b o : Nat} {cs : List Value} {T : TypeId} {v : Value} (hs0 : ScC P t) (hx : ev L x = some (.pointer (some ⟨b, o, none⟩))) {S' : Nat → Prop} (hR : RW R S' w) (hS : St0 S w0 w H) (hH : Has H (.box b cs T)) (hb : S' b) (hc : Seg cs o 1 [v]) : Yv P L R ⟨d, .load t x, ty, pos, af, g⟩ v := by
  have hok : w.heap[b]? = some (.cells cs.toArray T (0, 0)) := hS.ok _ hH.mem
  refine yv_load (w := w) hs0 hx hR hb ?_
  rw [box_cell (T := T) hok]
  have h1 := hc.spec.1
  have h2 : ((cs.drop o).take 1)[0]? = some v := by rw [← h1]; rfl
  simpa using h2
theorem yv_load_boxA {x : Operand} {t : TypeId} {b o n : Nat} {cs : List Value} {T : TypeId} {vs : List Value} (hn0 : AgC P t n) (hx : ev L x = some (.pointer (some ⟨b, o, none⟩))) {S' : Nat → Prop} (hR : RW R S' w) (hS : St0 S w0 w H) (hH : Has H (.box b cs T)) (hb : S' b) (hc : Seg cs o n vs) : Yv P L R ⟨d, .load t x, ty, pos, af, g⟩ (.agg vs.toArray) := by
  have hok : w.heap[b]? = some (.cells cs.toArray T (0, 0)) := hS.ok _ hH.mem
  refine yv_loadA (w := w) hn0 hx hR hb ?_ hc.spec.2
  rw [hc.spec.1]
  exact box_range (T := T) hok

variable {ops : Array Oper} {Q : Exit → Act → World → Prop} {rest : List Oper} {N : FS} {dn : Nat}

theorem run_zero {t : TypeId} {zs : List Value} (h : zeroCells P t = some zs) : ∃ v, (zeroValue t).run P w = .ok v w ∧ v.cells = zs.toArray := by
  unfold zeroCells at h
  cases hi : P.info? t with
  | none => simp [hi] at h
  | some i =>
    cases hz : i.zero with
    | none => simp [hi, hz] at h
    | some v =>
      simp only [hi, hz, Option.bind_some, Option.map_some, Option.some.injEq] at h
      refine ⟨v, by simp [zeroValue, typeInfo, hi, hz], by rw [← h]⟩
theorem wpS_alloc {T : TypeId} {zs : List Value} (hg : wantB ops L g = some true) (hN : Nat.ble (dn + 1) N.n = true) (hz0 : ZcC P T zs) (hS : St0 S w0 w H)
    (k : ∀ b w', St0 S w0 w' (.box b zs T :: H) → Below w.heap.size w w' → wpS P ops Q rest N ((dn, .pointer (some ⟨b, 0, none⟩)) :: L) w') : wpS P ops Q (⟨some dn, .alloc T, ty, pos, af, g⟩ :: rest) N L w := by
  refine wpS_run hg rfl hN (fun ρ _ => ?_) (k w.heap.size (w.alloc (.cells zs.toArray T (0, 0))) (hS.box zs T) ((Below.refl _ _).alloc (Nat.le_refl _) _))
  obtain ⟨v, hv, hc⟩ := run_zero (P := P) (w := w) hz0.h
  simp only [execOp, Instr.alloc, Sem.run_bind, hv, Result.andThen_ok, newVar, newRow, hc]
  rfl
/-- The cells of a value. -/
inductive CellsOf : Value → List Value → Prop
  | agg {cs : List Value} : CellsOf (.agg cs.toArray) cs
  | int {k : IntKind} {n : Int} : CellsOf (.int k n) [.int k n]
  | bool {b : Bool} : CellsOf (.bool b) [.bool b]
  | slice {A : Option Addr} {n c : Nat} : CellsOf (.slice A n c) [.slice A n c]
  | ptr {A : Option Addr} : CellsOf (.pointer A) [.pointer A]
  | func {f : Fn} {a b : Array Value} : CellsOf (.func f a b) [.func f a b]
  | str {s : ByteArray} : CellsOf (.string s) [.string s]
theorem CellsOf.spec {v : Value} {cs : List Value} (h : CellsOf v cs) : v.cells = cs.toArray := by cases h <;> rfl
theorem wpS_box {T : TypeId} {x : Operand} {v : Value} {cs : List Value} (hg : wantB ops L g = some true) (hN : Nat.ble (dn + 1) N.n = true) (hx : ev L x = some v) (hc : CellsOf v cs) (hS : St0 S w0 w H)
    (k : ∀ b w', St0 S w0 w' (.box b cs T :: H) → Below w.heap.size w w' → wpS P ops Q rest N ((dn, .pointer (some ⟨b, 0, none⟩)) :: L) w') : wpS P ops Q (⟨some dn, .box T x, ty, pos, af, g⟩ :: rest) N L w := by
  refine wpS_run hg rfl hN (fun ρ hρ => ?_) (k w.heap.size (w.alloc (.cells cs.toArray T (0, 0))) (hS.box cs T) ((Below.refl _ _).alloc (Nat.le_refl _) _))
  simp only [execOp, Instr.box, Sem.run_bind, Sem.run_pure, Result.andThen_ok, newVar, newRow, hρ x v hx, hc.spec]
  rfl
theorem box_there {b o n : Nat} {cs : List Value} {T : TypeId} (h : Ent.ok w (.box b cs T)) (hl : o + n ≤ cs.length) : w.there b o n := fun j hj => by
  have h' : w.heap[b]? = some (.cells cs.toArray T (0, 0)) := h
  refine ⟨?_, by simp [World.frozen?, h']⟩
  rw [box_cell h, List.getElem?_eq_getElem (by omega)]
  rfl
theorem heap_setCells (b : Nat) : ∀ (vs : List Value) (o : Nat) (w : World) (k : Nat), k ≠ b → (w.setCells b o vs).heap[k]? = w.heap[k]?
  | [], _, _, _, _ => rfl
  | v :: vs, o, w, k, h => by
    rw [World.setCells, heap_setCells b vs (o + 1) _ k h]
    simp only [World.setCell, Array.getElem?_modify]
    rw [if_neg (fun e => h e.symm)]
theorem size_setCells (b : Nat) : ∀ (vs : List Value) (o : Nat) (w : World), (w.setCells b o vs).heap.size = w.heap.size ∧ (w.setCells b o vs).os = w.os ∧ (w.setCells b o vs).tape = w.tape ∧ (w.setCells b o vs).output = w.output
  | [], _, _ => ⟨rfl, rfl, rfl, rfl⟩
  | v :: vs, o, w => by
    rw [World.setCells]
    obtain ⟨h1, h2, h3, h4⟩ := size_setCells b vs (o + 1) (w.setCell ⟨b, o, none⟩ v)
    refine ⟨h1.trans ?_, h2, h3, h4⟩
    simp [World.setCell]
theorem block_setCells (b : Nat) (T : TypeId) : ∀ (vs : List Value) (o : Nat) (w : World) (cs cs' : List Value), w.heap[b]? = some (.cells cs.toArray T (0, 0)) → SetC cs o vs cs' → (w.setCells b o vs).heap[b]? = some (.cells cs'.toArray T (0, 0))
  | [], o, w, cs, cs', h, hs => by
    obtain ⟨h1, h2, h3⟩ := hs.spec
    have : cs' = cs := List.ext_getElem? fun j => by rw [h3 j, if_neg (by simp only [List.length_nil]; omega)]
    rw [this]; exact h
  | v :: vs, o, w, cs, cs', h, hs => by
    obtain ⟨h1, h2, h3⟩ := hs.spec
    have hb : (w.setCell ⟨b, o, none⟩ v).heap[b]? = some (.cells (cs.set o v).toArray T (0, 0)) := by
      simp only [World.setCell, Array.getElem?_modify, if_true, h, Option.map_some]
      simp
    have e : SetC (cs.set o v) (o + 1) vs cs' := by
      have key : ∀ (vs cs cs' : List Value) (o : Nat), cs'.length = cs.length → o + vs.length ≤ cs.length → (∀ j, cs'[j]? = if o ≤ j ∧ j < o + vs.length then vs[j - o]? else cs[j]?) → SetC cs o vs cs' := by
        intro vs cs
        induction cs generalizing vs with
        | nil =>
          intro cs' o k1 k2 _
          have : cs' = [] := List.eq_nil_of_length_eq_zero (by simpa using k1)
          subst this
          have : vs = [] := List.eq_nil_of_length_eq_zero (by simp only [List.length_nil] at k2; omega)
          subst this
          have : o = 0 := by simpa using k2
          subst this
          exact .here .nil
        | cons c cs ih =>
          intro cs' o k1 k2 k3
          cases cs' with
          | nil => simp at k1
          | cons c' cs' =>
            cases o with
            | succ o =>
              have hc : c' = c := by have := k3 0; simpa using this
              subst hc
              refine .succ (ih vs cs' o (by simpa using k1) (by simp at k2; omega) fun j => ?_)
              have := k3 (j + 1)
              simp only [List.getElem?_cons_succ, show j + 1 - (o + 1) = j - o by omega] at this
              rw [this]
              by_cases hc : o ≤ j ∧ j < o + vs.length
              · rw [if_pos hc, if_pos (by omega)]
              · rw [if_neg hc, if_neg (by omega)]
            | zero =>
              cases vs with
              | nil =>
                have hc : c' = c := by have := k3 0; simpa using this
                have : cs' = cs := List.ext_getElem? fun j => by have := k3 (j + 1); simpa using this
                subst hc; subst this
                exact .here .nil
              | cons v vs =>
                have hc : c' = v := by have := k3 0; simpa using this
                subst hc
                have := ih vs cs' 0 (by simpa using k1) (by simp at k2; omega) fun j => by
                  have := k3 (j + 1)
                  simp at this
                  rw [this]
                  simp
                cases this with
                | here h => exact .here (.cons h)
      refine key vs (cs.set o v) cs' (o + 1) (by simpa using h1) (by simp at h2 ⊢; omega) fun j => ?_
      rw [h3 j]
      simp only [List.length_cons, List.getElem?_set]
      by_cases hj : j = o
      · subst hj
        rw [if_pos (by omega), if_neg (by omega), if_pos rfl, if_pos (by simp at h2; omega)]
        simp
      · by_cases hc : o + 1 ≤ j ∧ j < o + 1 + vs.length
        · rw [if_pos (by omega), if_pos hc, show j - o = (j - (o + 1)) + 1 by omega]; simp
        · rw [if_neg (by omega), if_neg hc, if_neg (by omega)]
    exact block_setCells b T vs (o + 1) _ _ _ hb e
theorem store_run {T : TypeId} {b o : Nat} {v : Value} {vs : List Value} (hc : CellsOf v vs) (ht : w.there b o vs.length) (hi : (P.info? T).map (·.size) = some vs.length) (h1 : vs.all (·.oneCell') = true) :
    (Instr.storeAt T (.pointer (some ⟨b, o, none⟩)) v).run P w = .ok () (w.setCells b o vs) := by
  have := run_storeCells_cells (P := P) b o vs 0 w (fun j hj => by simpa using (ht j hj).1) (fun j hj => by simpa using (ht j hj).2) (fun v hv => (List.all_eq_true.1 h1) v hv)
  cases hq : P.info? T with
  | none => simp [hq] at hi
  | some i =>
    have hs : i.size = vs.length := by simpa [hq] using hi
    simp only [Nat.add_zero] at this
    simp [Instr.storeAt, Instr.sureAddr, storeVar, sizeOf, typeInfo, hq, hc.spec, hs, this]
/-- A store into a block of one's own. -/
theorem wpS_store {T : TypeId} {x y : Operand} {b o : Nat} {cs cs' vs : List Value} {TB : TypeId} {v : Value} {H' : List Ent} (hg : wantB ops L g = some true) (hx : ev L x = some (.pointer (some ⟨b, o, none⟩))) (hy : ev L y = some v) (hv : CellsOf v vs)
    (hS : St0 S w0 w H) (hH : Pos H (.box b cs TB) H' (.box b cs' TB)) (hc : SetC cs o vs cs') (hi : (P.info? T).map (·.size) = some vs.length) (h1 : vs.all (·.oneCell') = true)
    (k : ∀ w', St0 S w0 w' H' → KeepB (fun k => k ≠ b) w w' → wpS P ops Q rest N L w') : wpS P ops Q (⟨none, .store T x y, ty, pos, af, g⟩ :: rest) N L w := by
  obtain ⟨i, hi1, rfl⟩ := hH.set
  have hok : w.heap[b]? = some (.cells cs.toArray TB (0, 0)) := hS.ok _ (List.mem_of_getElem? hi1)
  have ht : w.there b o vs.length := box_there (T := TB) hok hc.spec.2.1
  have hz := size_setCells b vs o w
  refine wpS_run0 hg rfl (fun ρ hρ => ?_) (k (w.setCells b o vs) (hS.change i hi1 (by rw [hz.1]; exact Nat.le_refl _) hz.2 (fun k hk _ => heap_setCells b vs o w k (fun h => hk h)) (block_setCells b TB vs o w cs cs' hok hc) (fun k hk => .inl hk)) ⟨hz.2.1, hz.2.2.1, hz.2.2.2, by rw [hz.1]; exact Nat.le_refl _, fun k _ hk => heap_setCells b vs o w k hk⟩)
  simp only [execOp, hρ x _ hx, hρ y _ hy, Sem.run_bind, store_run hv ht hi h1, Result.andThen_ok, Sem.run_pure]

/-- A call that leaves all that was there, with one result. -/
structure PureC (P : Program) (f : FuncId) (args : Array Value) (w : World) (v : Value) : Prop where
  run : Calls P f args w fun e w' => e = .returned v ∧ Below w.heap.size w w'
theorem wpS_callP {x : Operand} {f : FuncId} {cap : Array Value} {xs : List Operand} {ts : Array TypeId} {vs : List Value} {v : Value}
    (hg : wantB ops L g = some true) (hN : Nat.ble (dn + 1) N.n = true) (hx : ev L x = some (.func (.func f) #[] cap)) (he : enterB P f = true) (ha : evs L xs = some vs)
    (hc : PureC P f (vs.toArray ++ cap) w v) (hS : St0 S w0 w H) (k : ∀ w', St0 S w0 w' H → Below w.heap.size w w' → wpS P ops Q rest N ((dn, v) :: L) w') :
    wpS P ops Q (⟨some dn, .call { callee := .value x, args := xs.toArray, argTypes := ts }, ty, pos, af, g⟩ :: rest) N L w :=
  wpS_call hg rfl hN hx he ha hc.run fun _ w' h => ⟨v, h.1, k w' (hS.below h.2) h.2⟩
/-- What lay there at the start. -/
theorem yv_load_old {x : Operand} {t : TypeId} {b o : Nat} {v : Value} {S' : Nat → Prop} (hs0 : ScC P t) (hx : ev L x = some (.pointer (some ⟨b, o, none⟩))) (hR : RW R S' w) (hS : St0 S w0 w H) (hb : S' b) (hb' : S b) (hc : w0.cell? ⟨b, o, none⟩ = some v) : Yv P L R ⟨d, .load t x, ty, pos, af, g⟩ v :=
  yv_load hs0 hx hR hb (hS.base.cell (p := ⟨b, o, none⟩) hb' hc)
theorem yv_loadA_old {x : Operand} {t : TypeId} {b o n : Nat} {vs : List Value} {S' : Nat → Prop} (hn0 : AgC P t n) (hx : ev L x = some (.pointer (some ⟨b, o, none⟩))) (hR : RW R S' w) (hS : St0 S w0 w H) (hb : S' b) (hb' : S b) (hc : w0.rangeAt b o vs) (hl : vs.length = n) : Yv P L R ⟨d, .load t x, ty, pos, af, g⟩ (.agg vs.toArray) :=
  yv_loadA hn0 hx hR hb (fun j v hj => hS.base.cell (p := ⟨b, o + j, none⟩) hb' (hc j v hj)) hl

def concreteB (P : Program) (t : TypeId) : Bool := match P.underlying t with | some (.interface _) | none => false | some _ => true
theorem yv_makeInterface {x : Operand} {t : TypeId} {v : Value} (ht : concreteB P t = true) (hx : ev L x = some v) : Yv P L R ⟨d, .makeInterface t x, ty, pos, af, g⟩ (.iface t v) := Yv.mk fun w1 _ ρ hρ => by
  unfold concreteB at ht
  cases hu : P.underlying t with
  | none => simp [hu] at ht
  | some ds =>
    simp only [execOp, hρ x _ hx, Instr.makeInterface, Sem.run_bind, run_underlying hu, Result.andThen_ok]
    cases ds <;> simp_all
/-! Groups, to be told apart at once. -/
theorem yv_g_bin {op : BinOp} {t t' : TypeId} {x y : Operand} {v : Value} (h : Yv P L R ⟨d, .binOp op t x y t', ty, pos, af, g⟩ v) : Yv P L R ⟨d, .binOp op t x y t', ty, pos, af, g⟩ v := h
theorem yv_g_load {t : TypeId} {x : Operand} {v : Value} (h : Yv P L R ⟨d, .load t x, ty, pos, af, g⟩ v) : Yv P L R ⟨d, .load t x, ty, pos, af, g⟩ v := h
theorem yv_g_slice {t : TypeId} {x : Operand} {l h' m : Option Operand} {v : Value} (h : Yv P L R ⟨d, .slice t x l h' m, ty, pos, af, g⟩ v) : Yv P L R ⟨d, .slice t x l h' m, ty, pos, af, g⟩ v := h
theorem yv_g_bi {b : Builtin} {xs : Array Operand} {ts : Array TypeId} {v : Value} (h : Yv P L R ⟨d, .call { callee := .builtin b, args := xs, argTypes := ts }, ty, pos, af, g⟩ v) : Yv P L R ⟨d, .call { callee := .builtin b, args := xs, argTypes := ts }, ty, pos, af, g⟩ v := h
theorem yv_g_pick {c x y : Operand} {v : Value} (h : Yv P L R ⟨d, .pick c x y, ty, pos, af, g⟩ v) : Yv P L R ⟨d, .pick c x y, ty, pos, af, g⟩ v := h
theorem wpS_g_call {f : Operand} {xs : Array Operand} {ts : Array TypeId} {dst : Option Nat} (h : wpS P ops Q (⟨dst, .call { callee := .value f, args := xs, argTypes := ts }, ty, pos, af, g⟩ :: rest) N L w) : wpS P ops Q (⟨dst, .call { callee := .value f, args := xs, argTypes := ts }, ty, pos, af, g⟩ :: rest) N L w := h
theorem wpS_g {o : Oper} (h : wpS P ops Q (o :: rest) N L w) : wpS P ops Q (o :: rest) N L w := h
theorem wpS_g_box {T : TypeId} {x : Operand} {dst : Option Nat} (h : wpS P ops Q (⟨dst, .box T x, ty, pos, af, g⟩ :: rest) N L w) : wpS P ops Q (⟨dst, .box T x, ty, pos, af, g⟩ :: rest) N L w := h
theorem wpS_g_alloc {T : TypeId} {dst : Option Nat} (h : wpS P ops Q (⟨dst, .alloc T, ty, pos, af, g⟩ :: rest) N L w) : wpS P ops Q (⟨dst, .alloc T, ty, pos, af, g⟩ :: rest) N L w := h
theorem wpS_g_store {T : TypeId} {x y : Operand} {dst : Option Nat} (h : wpS P ops Q (⟨dst, .store T x y, ty, pos, af, g⟩ :: rest) N L w) : wpS P ops Q (⟨dst, .store T x y, ty, pos, af, g⟩ :: rest) N L w := h

/-! ### Entering and leaving -/
def initL : Nat → List Value → List (Nat × Value)
  | _, [] => []
  | i, v :: vs => (i, v) :: initL (i + 1) vs
theorem initL_lk : ∀ (vs : List Value) (i d : Nat) (v : Value), lk (initL i vs) d = some v → i ≤ d ∧ vs[d - i]? = some v
  | [], _, _, _, h => by cases h
  | u :: vs, i, d, v, h => by
    simp only [initL, lk] at h
    cases hb : Nat.beq i d with
    | true =>
      rw [hb] at h
      simp only [cond_true, Option.some.injEq] at h
      have := Nat.eq_of_beq_eq_true hb
      subst this; subst h
      simp
    | false =>
      rw [hb] at h
      obtain ⟨h1, h2⟩ := initL_lk vs (i + 1) d v h
      refine ⟨by omega, ?_⟩
      rw [show d - i = (d - (i + 1)) + 1 by omega]
      simpa using h2
theorem gw_enter {f : FuncId} {fn : Func} {c : Code} {vs : List Value} {R : Ending → World → Prop} {M : Nat} (hf : P.funcs[f]? = some fn) (hb : fn.body = some c) (hn : fn.ntmps = M) (hM : Nat.ble vs.length M = true)
    (k : wpC P none c (bodyO P fn R) ⟨M, []⟩ (initL 0 vs) w) : Calls P f vs.toArray w R := by
  subst hn
  have hM' : vs.length ≤ fn.ntmps := Nat.le_of_ble_eq_true hM
  have hF : Fr ⟨fn.ntmps, []⟩ (initL 0 vs) { tmps := vs.toArray ++ Array.replicate (fn.ntmps - vs.toArray.size) undef, defers := [] } := by
    refine ⟨by simp; omega, rfl, fun d v hd => ?_⟩
    obtain ⟨_, h2⟩ := initL_lk vs 0 d v hd
    have hlt : d < vs.length := by have := (List.getElem?_eq_some_iff.1 h2).1; omega
    simp only [Nat.sub_zero] at h2
    rw [Array.getElem?_append]
    rw [if_pos (by simpa using hlt)]
    simpa using h2
  exact calls_of_wpo hf hb (wpo_mono (k.go _ hF) fun _ _ _ h => bodyO_M h)

theorem gw_enter0 {f : FuncId} {fn : Func} {c : Code} {R : Ending → World → Prop} {M : Nat} (hf : P.funcs[f]? = some fn) (hb : fn.body = some c) (hn : fn.ntmps = M) (hM : Nat.ble 0 M = true) (k : wpC P none c (bodyO P fn R) ⟨M, []⟩ [] w) : Calls P f #[] w R := gw_enter (vs := []) hf hb hn hM k
theorem gw_enter1 {f : FuncId} {fn : Func} {c : Code} {v0 : Value} {R : Ending → World → Prop} {M : Nat} (hf : P.funcs[f]? = some fn) (hb : fn.body = some c) (hn : fn.ntmps = M) (hM : Nat.ble 1 M = true) (k : wpC P none c (bodyO P fn R) ⟨M, []⟩ [(0, v0)] w) : Calls P f #[v0] w R := gw_enter (vs := [v0]) hf hb hn hM k
theorem gw_enter2 {f : FuncId} {fn : Func} {c : Code} {v0 v1 : Value} {R : Ending → World → Prop} {M : Nat} (hf : P.funcs[f]? = some fn) (hb : fn.body = some c) (hn : fn.ntmps = M) (hM : Nat.ble 2 M = true) (k : wpC P none c (bodyO P fn R) ⟨M, []⟩ [(0, v0), (1, v1)] w) : Calls P f #[v0, v1] w R := gw_enter (vs := [v0, v1]) hf hb hn hM k
theorem gw_enter3 {f : FuncId} {fn : Func} {c : Code} {v0 v1 v2 : Value} {R : Ending → World → Prop} {M : Nat} (hf : P.funcs[f]? = some fn) (hb : fn.body = some c) (hn : fn.ntmps = M) (hM : Nat.ble 3 M = true) (k : wpC P none c (bodyO P fn R) ⟨M, []⟩ [(0, v0), (1, v1), (2, v2)] w) : Calls P f #[v0, v1, v2] w R := gw_enter (vs := [v0, v1, v2]) hf hb hn hM k
theorem gw_enter4 {f : FuncId} {fn : Func} {c : Code} {v0 v1 v2 v3 : Value} {R : Ending → World → Prop} {M : Nat} (hf : P.funcs[f]? = some fn) (hb : fn.body = some c) (hn : fn.ntmps = M) (hM : Nat.ble 4 M = true) (k : wpC P none c (bodyO P fn R) ⟨M, []⟩ [(0, v0), (1, v1), (2, v2), (3, v3)] w) : Calls P f #[v0, v1, v2, v3] w R := gw_enter (vs := [v0, v1, v2, v3]) hf hb hn hM k
theorem gw_enter5 {f : FuncId} {fn : Func} {c : Code} {v0 v1 v2 v3 v4 : Value} {R : Ending → World → Prop} {M : Nat} (hf : P.funcs[f]? = some fn) (hb : fn.body = some c) (hn : fn.ntmps = M) (hM : Nat.ble 5 M = true) (k : wpC P none c (bodyO P fn R) ⟨M, []⟩ [(0, v0), (1, v1), (2, v2), (3, v3), (4, v4)] w) : Calls P f #[v0, v1, v2, v3, v4] w R := gw_enter (vs := [v0, v1, v2, v3, v4]) hf hb hn hM k
theorem gw_enter6 {f : FuncId} {fn : Func} {c : Code} {v0 v1 v2 v3 v4 v5 : Value} {R : Ending → World → Prop} {M : Nat} (hf : P.funcs[f]? = some fn) (hb : fn.body = some c) (hn : fn.ntmps = M) (hM : Nat.ble 6 M = true) (k : wpC P none c (bodyO P fn R) ⟨M, []⟩ [(0, v0), (1, v1), (2, v2), (3, v3), (4, v4), (5, v5)] w) : Calls P f #[v0, v1, v2, v3, v4, v5] w R := gw_enter (vs := [v0, v1, v2, v3, v4, v5]) hf hb hn hM k
theorem gw_enter7 {f : FuncId} {fn : Func} {c : Code} {v0 v1 v2 v3 v4 v5 v6 : Value} {R : Ending → World → Prop} {M : Nat} (hf : P.funcs[f]? = some fn) (hb : fn.body = some c) (hn : fn.ntmps = M) (hM : Nat.ble 7 M = true) (k : wpC P none c (bodyO P fn R) ⟨M, []⟩ [(0, v0), (1, v1), (2, v2), (3, v3), (4, v4), (5, v5), (6, v6)] w) : Calls P f #[v0, v1, v2, v3, v4, v5, v6] w R := gw_enter (vs := [v0, v1, v2, v3, v4, v5, v6]) hf hb hn hM k
theorem gw_enter8 {f : FuncId} {fn : Func} {c : Code} {v0 v1 v2 v3 v4 v5 v6 v7 : Value} {R : Ending → World → Prop} {M : Nat} (hf : P.funcs[f]? = some fn) (hb : fn.body = some c) (hn : fn.ntmps = M) (hM : Nat.ble 8 M = true) (k : wpC P none c (bodyO P fn R) ⟨M, []⟩ [(0, v0), (1, v1), (2, v2), (3, v3), (4, v4), (5, v5), (6, v6), (7, v7)] w) : Calls P f #[v0, v1, v2, v3, v4, v5, v6, v7] w R := gw_enter (vs := [v0, v1, v2, v3, v4, v5, v6, v7]) hf hb hn hM k

/-- What a function's results come to. -/
inductive RV (P : Program) (L : List (Nat × Value)) (w : World) : List ResultVar → List Value → Prop
  | nil : RV P L w [] []
  | tmp {t : Nat} {v : Value} {rs : List ResultVar} {vs : List Value} (hv : lk L t = some v) (h : RV P L w rs vs) : RV P L w (.tmp t :: rs) (v :: vs)
  | cell {t T b o : Nat} {v : Value} {rs : List ResultVar} {vs : List Value} (hv : lk L t = some (.pointer (some ⟨b, o, none⟩))) (hl : (loadVar T ⟨b, o, none⟩).run P w = .ok v w) (h : RV P L w rs vs) : RV P L w (.cell t T :: rs) (v :: vs)
theorem load_box1 {t b o : Nat} {cs : List Value} {T : TypeId} {v : Value} (hs0 : ScC P t) (hS : St0 S w0 w H) (hH : Has H (.box b cs T)) (hc : Seg cs o 1 [v]) : (loadVar t ⟨b, o, none⟩).run P w = .ok v w := by
  have hy := yv_load_box (P := P) (L := [(0, .pointer (some ⟨b, o, none⟩))]) (R := fun w1 => w1 = w) (x := .tmp 0) (d := none) (ty := 0) (pos := "") (af := #[]) (g := none) hs0 rfl (RW.here w) hS hH trivial hc
  have := hy.run w rfl (fun x => match x with | .tmp 0 => .pointer (some ⟨b, o, none⟩) | x => (ev [(0, .pointer (some ⟨b, o, none⟩))] x).getD undef) (fun x u hx => by
    cases x with
    | tmp t => cases t <;> simp_all [ev, lk]
    | _ => simp_all [ev])
  simp only [execOp, Instr.loadAt, Instr.sureAddr, Sem.run_bind, Sem.run_pure, Result.andThen_ok] at this
  cases hq : (loadVar t ⟨b, o, none⟩).run P w with
  | ok u w1 => simp only [hq, Result.andThen_ok] at this; injection this with h1 h2; injection h1 with h1; rw [h1, h2]
  | halt x w1 => simp [hq, Result.andThen] at this
theorem load_boxA {t b o n : Nat} {cs : List Value} {T : TypeId} {vs : List Value} (hn0 : AgC P t n) (hS : St0 S w0 w H) (hH : Has H (.box b cs T)) (hc : Seg cs o n vs) : (loadVar t ⟨b, o, none⟩).run P w = .ok (.agg vs.toArray) w := by
  have hok : w.heap[b]? = some (.cells cs.toArray T (0, 0)) := hS.ok _ hH.mem
  have hr := box_range (o := o) (n := n) (T := T) hok
  rw [← hc.spec.1] at hr
  have hl := hc.spec.2
  have hn := hn0.h
  unfold aggN at hn
  split at hn
  · rename_i fs hu
    exact run_loadVar_mid (P := P) w b o t vs (.struct fs) hr hu rfl (by rw [hl]; exact hn)
  · rename_i e m hu
    exact run_loadVar_mid (P := P) w b o t vs (.array e m) hr hu rfl (by rw [hl]; exact hn)
  · cases hn
def tupV : List Value → Value
  | [v] => v
  | vs => .tuple vs.toArray
inductive F2 {α β : Type} (p : α → β → Prop) : List α → List β → Prop
  | nil : F2 p [] []
  | cons {a : α} {b : β} {la : List α} {lb : List β} (h : p a b) (t : F2 p la lb) : F2 p (a :: la) (b :: lb)
theorem mapM_run {α : Type} (q : α → Sem Value) : ∀ (rs : List α) (vs : List Value), F2 (fun r v => (q r).run P w = .ok v w) rs vs → (rs.mapM q).run P w = .ok vs w
  | [], vs, h => by cases h; simp
  | r :: rs, vs, h => by
    cases h with
    | cons h1 h2 =>
      simp only [List.mapM_cons, Sem.run_bind, h1, Result.andThen_ok, mapM_run q rs _ h2, Sem.run_pure]
theorem map_run {α β : Type} (f : α → β) (s : Sem α) {v : α} (h : s.run P w = .ok v w) : (f <$> s).run P w = .ok (f v) w := by
  rw [show f <$> s = s >>= (fun x => pure (f x)) from rfl, Sem.run_bind, h]; simp
theorem results_run {fn : Func} {rs : List ResultVar} {vs : List Value} (hr : fn.results = rs.toArray) (h : RV P L w rs vs) {a : Act} (hF : Fr N L a) : (results fn a.tmps).run P w = .ok (tupV vs) w := by
  unfold results
  rw [hr, List.mapM_toArray, Sem.run_bind, map_run List.toArray _ (mapM_run _ rs vs ?_)]
  · simp only [Result.andThen_ok, Sem.run_pure]
    congr 1
    match vs with
    | [] => rfl
    | [v] => rfl
    | v :: u :: vs => simp [tupV]
  · clear hr
    induction h with
    | nil => exact .nil
    | tmp hv h ih =>
      refine .cons ?_ ih
      have := hF.at_ _ _ hv
      simp [this]
    | cell hv hl h ih =>
      refine .cons ?_ ih
      have := hF.at_ _ _ hv
      simp [this, asAddr, hl]
theorem QH_ret {fn : Func} {rs : List ResultVar} {vs : List Value} {R : Ending → World → Prop} (hr : fn.results = rs.toArray) (h : RV P L w rs vs) (hN : N.d = []) (k : R (.returned (tupV vs)) w) : QH (bodyO P fn R) .ret N L w := .mk fun a hF =>
  ⟨w, (by rw [hF.defers, hN]; rfl), _, results_run hr h hF, k⟩
theorem QH_end {fn : Func} {rs : List ResultVar} {vs : List Value} {R : Ending → World → Prop} (hr : fn.results = rs.toArray) (h : RV P L w rs vs) (hN : N.d = []) (k : R (.returned (tupV vs)) w) : QH (bodyO P fn R) .normal N L w := .mk fun a hF =>
  ⟨w, (by rw [hF.defers, hN]; rfl), _, results_run hr h hF, k⟩
/-- Leaving a function with a mark: its block is shut. -/
theorem QH_retM {fn : Func} {rs : List ResultVar} {vs : List Value} {R : Ending → World → Prop} {b : Nat} (hr : fn.results = rs.toArray) (hN : N.d = [{ target := .collected b, args := #[] }]) (hb : w.heap[b]? = some (.deferred (some []))) (h : RV P L (w.putObj b (.deferred none)) rs vs)
    (k : R (.returned (tupV vs)) (w.putObj b (.deferred none))) : QH (bodyO P fn R) .ret N L w := .mk fun a hF =>
  ⟨_, (by rw [hF.defers, hN]; exact ⟨b, _, rfl, run_takeDeferred hb, rfl⟩), _, results_run hr h hF, k⟩
theorem QH_endM {fn : Func} {rs : List ResultVar} {vs : List Value} {R : Ending → World → Prop} {b : Nat} (hr : fn.results = rs.toArray) (hN : N.d = [{ target := .collected b, args := #[] }]) (hb : w.heap[b]? = some (.deferred (some []))) (h : RV P L (w.putObj b (.deferred none)) rs vs)
    (k : R (.returned (tupV vs)) (w.putObj b (.deferred none))) : QH (bodyO P fn R) .normal N L w := .mk fun a hF =>
  ⟨_, (by rw [hF.defers, hN]; exact ⟨b, _, rfl, run_takeDeferred hb, rfl⟩), _, results_run hr h hF, k⟩
end
end Go.Proofs.Ythngkojbokknfaa
/- A walk by laws alone. Fourth part: regions that draw their order; rows of one's own; panics. -/
namespace Go.Proofs.Ythngkojbokknfaa
open Go Go.RowKit

/-- What is asked at a panic hangs on no slot. -/
structure PF (Q : Exit → Act → World → Prop) : Prop where
  put : ∀ c (a : Act) d v w, Q (.panic c) (a.put d v) w → Q (.panic c) a w
theorem put_defers (a : Act) (d : Option Nat) (v : Value) : (a.put d v).defers = a.defers := by cases d <;> rfl
theorem PF.body {P : Program} {fn : Func} {R : Ending → World → Prop} : PF (bodyO P fn R) := ⟨fun c a d v w h => by obtain ⟨w', h1, h2⟩ := h; rw [put_defers] at h1; exact ⟨w', h1, h2⟩⟩
theorem PF.then {K : Act → World → Prop} {Q : Exit → Act → World → Prop} (h : PF Q) : PF (Exit.then K Q) := ⟨fun c a d v w hq => h.put c a d v w hq⟩
theorem PF.inBlock {id : Nat} {Q : Exit → Act → World → Prop} (h : PF Q) : PF (Exit.inBlock id Q) := ⟨fun c a d v w hq => h.put c a d v w hq⟩

section
variable {P : Program} {ops : Array Oper} {Q : Exit → Act → World → Prop} {md : Region.Mode} {G : Nat → Nat → Prop} {sl : List Nat} {N : FS} {L L' : List (Nat × Value)} {w w0 : World} {S : Nat → Prop} {H : List Ent}

/-- May these be taken first, in this order? -/
def freeOk (md : Region.Mode) (ops : Array Oper) (sz : Nat) : Array Bool → List Nat → List Oper → Bool
  | _, [], [] => true
  | listed, i :: is, o :: ls => (Region.ready md ops listed).contains i && Region.free md ops listed i && (match o.dst with | some d => decide (d < sz) && ls.all (fun o' => o'.dst != some d) | none => false) && freeOk md ops sz (listed.setIfInBounds i true) is ls
  | _, _, _ => false
/-- What a batch of reads leaves in the slots. -/
inductive LtC (P : Program) (ops : Array Oper) (N : FS) (R : World → Prop) : List Oper → List (Nat × Value) → List (Nat × Value) → Prop
  | nil {L : List (Nat × Value)} : LtC P ops N R [] L L
  | put {o : Oper} {ls : List Oper} {L L' : List (Nat × Value)} {d : Nat} {v : Value} (hg : wantB ops L o.guard = some true) (hd : o.dst = some d) (hN : Nat.ble (d + 1) N.n = true) (hv : Yv P L R o v) (k : LtC P ops N R ls ((d, v) :: L) L') : LtC P ops N R (o :: ls) L L'
  | skip {o : Oper} {ls : List Oper} {L L' : List (Nat × Value)} {d : Nat} (hg : wantB ops L o.guard = some false) (hd : o.dst = some d) (hN : Nat.ble (d + 1) N.n = true) (k : LtC P ops N R ls ((d, undef) :: L) L') : LtC P ops N R (o :: ls) L L'

/-- A region under way. -/
structure wpR (P : Program) (md : Region.Mode) (ops : Array Oper) (G : Nat → Nat → Prop) (sl : List Nat) (Q : Exit → Act → World → Prop) (f : Nat) (listed : Array Bool) (N : FS) (L : List (Nat × Value)) (w : World) : Prop where
  go : ∀ a, Fr N L a → wpF P md ops G sl Q f listed a w
theorem wpR_sub {f : Nat} {listed : Array Bool} (hs : Sub L' L) (k : wpR P md ops G sl Q f listed N L' w) : wpR P md ops G sl Q f listed N L w := ⟨fun a hF => k.go a (hF.sub hs)⟩

theorem wpR_lightsI {R : World → World → Prop} {nw : List Nat} (hR : Stands G R nw) (hns : Region.noSelect ops = true) (hP : PF Q) : ∀ (is : List Nat) (ls : List Oper) (fuel : Nat) (listed : Array Bool) (L : List (Nat × Value)),
    Sel ops is ls → freeOk md ops N.n listed is ls = true → sealsOk md ops sl nw listed is = true → LtC P ops N (fun w1 => R w w1) ls L L' →
    wpR P md ops G sl Q fuel (listAll listed is) N L' w → wpR P md ops G sl Q (fuel + is.length) listed N L w
  | [], _ :: _, _, _, _, hf, _, _, _, _ => hf.elim
  | _ :: _, [], _, _, _, hf, _, _, _, _ => hf.elim
  | [], [], fuel, listed, L, hf, _, _, h, K => by cases h; exact K
  | i :: is, o :: ls, fuel, listed, L, ⟨hi, hf⟩, hok, hso, h, K => by
    simp only [freeOk, Bool.and_eq_true] at hok
    obtain ⟨⟨⟨hr, hfree⟩, hd0⟩, hrest⟩ := hok
    simp only [sealsOk, Bool.and_eq_true] at hso
    obtain ⟨⟨hil, hpw⟩, hsrest⟩ := hso
    have hil' : i ∉ sl := by simpa using hil
    have hse : ∀ j oj, j ∈ sl → j ∉ nw → ops[j]? = some oj → listed.getD j true = false → ∃ e ∈ oj.after, Region.binds md e = true ∧ e.on = i := sealsWait_spec hpw
    refine ⟨fun a hF => ?_⟩
    cases h with
    | put hg hd hN hv k =>
      have ih := wpR_lightsI hR hns hP is ls fuel (listed.setIfInBounds i true) _ hf hrest hsrest k K
      have h1 := ih.go (a.put o.dst _) (by rw [hd]; exact hF.put hN _)
      exact wpF_first hR hi (Region.noSelect_spec hns) (fun c a w hq => hP.put c a _ _ w hq) hil' _ listed a w (Region.free_spec hi hfree) hse (by simpa using hr) (.inl ⟨wanted_of hF hg, fun w1 h1 => hv.run w1 h1 a.eval hF.agr⟩) h1
    | skip hg hd hN k =>
      have ih := wpR_lightsI hR hns hP is ls fuel (listed.setIfInBounds i true) _ hf hrest hsrest k K
      have h1 := ih.go (a.put o.dst undef) (by rw [hd]; exact hF.put hN _)
      exact wpF_first hR hi (Region.noSelect_spec hns) (fun c a w hq => hP.put c a _ _ w hq) hil' _ listed a w (Region.free_spec hi hfree) hse (by simpa using hr) (.inr ⟨wanted_of hF hg, rfl⟩) h1
/-- A batch that each seal to come waits for. -/
theorem wpR_lights (m : List Bool) {l : List Oper} {f : Nat} {listed : Array Bool}
    (hm : (m.length ≤ l.length ∧ Region.noSelect l.toArray = true ∧ (pickI m 0).length ≤ f ∧ freeOk md l.toArray N.n listed (pickI m 0) (pickL m l) = true ∧ sealsOk md l.toArray sl [] listed (pickI m 0) = true)) (hP : PF Q)
    (h : LtC P l.toArray N (fun w1 => Below w.heap.size w w1) (pickL m l) L L') (K : wpR P md l.toArray G sl Q (f - (pickI m 0).length) (listAll listed (pickI m 0)) N L' w) : wpR P md l.toArray G sl Q f listed N L w := by
  have e : f = (f - (pickI m 0).length) + (pickI m 0).length := by omega
  rw [e]
  exact wpR_lightsI (R := fun x y => Below x.heap.size x y) ⟨fun x => Below.refl _ _, fun _ _ h => h, fun _ _ _ => bTr, fun _ h => by cases h⟩ hm.2.1 hP (pickI m 0) (pickL m l) _ listed L (sel_pick m l 0 hm.1 (fun j => by simp)) hm.2.2.2.1 hm.2.2.2.2 h K
/-- A batch that stands whatever the seals nw may leave. -/
theorem wpR_lightsG (m : List Bool) (nw : List Nat) (T : Nat → Prop) {l : List Oper} {f : Nat} {listed : Array Bool}
    (hm : (m.length ≤ l.length ∧ Region.noSelect l.toArray = true ∧ (pickI m 0).length ≤ f ∧ freeOk md l.toArray N.n listed (pickI m 0) (pickL m l) = true ∧ sealsOk md l.toArray sl nw listed (pickI m 0) = true)) (hT : ∀ j ∈ nw, ∀ b, T b → G j b) (hP : PF Q)
    (h : LtC P l.toArray N (fun w1 => KeepB T w w1) (pickL m l) L L') (K : wpR P md l.toArray G sl Q (f - (pickI m 0).length) (listAll listed (pickI m 0)) N L' w) : wpR P md l.toArray G sl Q f listed N L w := by
  have e : f = (f - (pickI m 0).length) + (pickI m 0).length := by omega
  rw [e]
  exact wpR_lightsI (R := KeepB T) ⟨fun x => KeepB.refl _ _, fun _ _ h => KeepB.of_below h (fun _ hk _ => hk), fun _ _ _ => KeepB.trans, fun j hj _ _ h => h.sub fun b _ hb => hT j hj b hb⟩ hm.2.1 hP (pickI m 0) (pickL m l) _ listed L (sel_pick m l 0 hm.1 (fun j => by simp)) hm.2.2.2.1 hm.2.2.2.2 h K

/-- The same, what follows told at the end. -/
inductive LtK (P : Program) (ops : Array Oper) (N : FS) (R : World → Prop) (K : List (Nat × Value) → Prop) : List Oper → List (Nat × Value) → Prop
  | nil {L : List (Nat × Value)} (k : K L) : LtK P ops N R K [] L
  | put {o : Oper} {ls : List Oper} {L : List (Nat × Value)} {d : Nat} {v : Value} (hg : wantB ops L o.guard = some true) (hd : o.dst = some d) (hN : Nat.ble (d + 1) N.n = true) (hv : Yv P L R o v) (k : LtK P ops N R K ls ((d, v) :: L)) : LtK P ops N R K (o :: ls) L
  | skip {o : Oper} {ls : List Oper} {L : List (Nat × Value)} {d : Nat} (hg : wantB ops L o.guard = some false) (hd : o.dst = some d) (hN : Nat.ble (d + 1) N.n = true) (k : LtK P ops N R K ls ((d, undef) :: L)) : LtK P ops N R K (o :: ls) L
theorem LtK.out {R : World → Prop} {K : List (Nat × Value) → Prop} {ls : List Oper} {L : List (Nat × Value)} (h : LtK P ops N R K ls L) : ∃ L', LtC P ops N R ls L L' ∧ K L' := by
  induction h with
  | nil k => exact ⟨_, .nil, k⟩
  | put hg hd hN hv k ih => obtain ⟨L', h1, h2⟩ := ih; exact ⟨L', .put hg hd hN hv h1, h2⟩
  | skip hg hd hN k ih => obtain ⟨L', h1, h2⟩ := ih; exact ⟨L', .skip hg hd hN h1, h2⟩
theorem wpR_batch (m : List Bool) {l : List Oper} {f : Nat} {listed : Array Bool}
    (hm : (m.length ≤ l.length ∧ Region.noSelect l.toArray = true ∧ (pickI m 0).length ≤ f ∧ freeOk md l.toArray N.n listed (pickI m 0) (pickL m l) = true ∧ sealsOk md l.toArray sl [] listed (pickI m 0) = true)) (hP : PF Q)
    (h : LtK P l.toArray N (fun w1 => Below w.heap.size w w1) (fun L' => wpR P md l.toArray G sl Q (f - (pickI m 0).length) (listAll listed (pickI m 0)) N L' w) (pickL m l) L) : wpR P md l.toArray G sl Q f listed N L w := by
  obtain ⟨L', h1, h2⟩ := h.out
  exact wpR_lights m hm hP h1 h2
theorem wpR_batchG (m : List Bool) (nw : List Nat) (T : Nat → Prop) {l : List Oper} {f : Nat} {listed : Array Bool}
    (hm : (m.length ≤ l.length ∧ Region.noSelect l.toArray = true ∧ (pickI m 0).length ≤ f ∧ freeOk md l.toArray N.n listed (pickI m 0) (pickL m l) = true ∧ sealsOk md l.toArray sl nw listed (pickI m 0) = true)) (hT : ∀ j ∈ nw, ∀ b, T b → G j b) (hP : PF Q)
    (h : LtK P l.toArray N (fun w1 => KeepB T w w1) (fun L' => wpR P md l.toArray G sl Q (f - (pickI m 0).length) (listAll listed (pickI m 0)) N L' w) (pickL m l) L) : wpR P md l.toArray G sl Q f listed N L w := by
  obtain ⟨L', h1, h2⟩ := h.out
  exact wpR_lightsG m nw T hm hT hP h1 h2
theorem op_of_list {i : Nat} {o : Oper} (hi : ops[i]? = some o) {a : Act} {K : Act → World → Prop} (h : wpList P ops (Exit.then K Q) [o] a w) : wpOp P ops Q i K a w := by
  unfold wpList at h
  unfold wpOp
  simp only [hi]
  split
  · rename_i hw
    rw [if_pos hw] at h
    rcases h with h | ⟨h1, h2⟩
    · refine .inl ?_
      unfold Oper.wp at *
      generalize (execOp a.eval o).run P w = r at *
      cases r with
      | ok n w' =>
        cases n <;> simp only [Oper.upon] at h ⊢
        case value v => exact h
        case skip => exact h
        case defer d => exact h
        case enter f args =>
          refine Calls.mono h fun e w'' he => ?_
          cases e with
          | returned v => exact he
          | panicked c => exact he
          | outgrown => exact he
        case row row args => exact h
      | halt x w' => cases x <;> simp only [Oper.upon] at h ⊢; exact h
    · exact .inr ⟨h1, h2⟩
  · rename_i hw
    rw [if_neg hw] at h
    exact h
/-- Behind an operation that alone may come up. -/
structure StepC (P : Program) (md : Region.Mode) (ops : Array Oper) (G : Nat → Nat → Prop) (sl : List Nat) (Q : Exit → Act → World → Prop) (f : Nat) (listed : Array Bool) (w : World) (a' : Act) (w' : World) : Prop where
  below : Below w.heap.size w w'
  go : wpF P md ops G sl Q f listed a' w'
structure StepG (P : Program) (md : Region.Mode) (ops : Array Oper) (G : Nat → Nat → Prop) (sl : List Nat) (Q : Exit → Act → World → Prop) (T : Nat → Prop) (f : Nat) (listed : Array Bool) (w : World) (a' : Act) (w' : World) : Prop where
  keep : KeepB T w w'
  go : wpF P md ops G sl Q f listed a' w'
theorem wpR_call (m : List Bool) (i : Nat) {o : Oper} {l : List Oper} {f : Nat} {listed : Array Bool}
    (hr : (0 < f ∧ Region.ready md l.toArray listed = [i] ∧ sl.contains i = false)) (ho : pickL m l = [o]) (hi : l.toArray[i]? = some o)
    (k : wpS P l.toArray (Exit.then (StepC P md l.toArray G sl Q (f - 1) (listed.setIfInBounds i true) w) Q) (pickL m l) N L w) : wpR P md l.toArray G sl Q f listed N L w := ⟨fun a hF => by
  obtain ⟨hf, hr, hs⟩ := hr
  have hs : i ∉ sl := by simpa using hs
  obtain ⟨f, rfl⟩ : ∃ g, f = g + 1 := ⟨f - 1, by omega⟩
  refine ⟨fun h0 => (by rw [hr] at h0; cases h0), fun j hj => ?_⟩
  rw [hr] at hj
  obtain rfl : j = i := by simpa using hj
  have k := k.go a hF
  rw [ho] at k
  exact wpOp_mono (fun a' w' h => ⟨⟨fun hh => (hs hh).elim, fun _ => h.below⟩, h.go⟩) (op_of_list hi k)⟩
theorem wpR_seal (m : List Bool) (i : Nat) {o : Oper} {l : List Oper} {f : Nat} {listed : Array Bool}
    (hr : (0 < f ∧ Region.ready md l.toArray listed = [i] ∧ sl.contains i = true)) (ho : pickL m l = [o]) (hi : l.toArray[i]? = some o)
    (k : wpS P l.toArray (Exit.then (StepG P md l.toArray G sl Q (G i) (f - 1) (listed.setIfInBounds i true) w) Q) (pickL m l) N L w) : wpR P md l.toArray G sl Q f listed N L w := ⟨fun a hF => by
  obtain ⟨hf, hr, hs⟩ := hr
  have hs : i ∈ sl := by simpa using hs
  obtain ⟨f, rfl⟩ : ∃ g, f = g + 1 := ⟨f - 1, by omega⟩
  refine ⟨fun h0 => (by rw [hr] at h0; cases h0), fun j hj => ?_⟩
  rw [hr] at hj
  obtain rfl : j = i := by simpa using hj
  have k := k.go a hF
  rw [ho] at k
  exact wpOp_mono (fun a' w' h => ⟨⟨fun _ => h.keep, fun hh => (hh hs).elim⟩, h.go⟩) (op_of_list hi k)⟩
theorem QH_step {f : Nat} {listed : Array Bool} {w' : World} {Q' : Exit → Act → World → Prop} (hb : Below w.heap.size w w') (k : wpR P md ops G sl Q f listed N L w') : QH (Exit.then (StepC P md ops G sl Q f listed w) Q') .normal N L w' := ⟨fun a hF => ⟨hb, k.go a hF⟩⟩
theorem QH_stepG {f : Nat} {listed : Array Bool} {w' : World} {Q' : Exit → Act → World → Prop} {T : Nat → Prop} (hb : KeepB T w w') (k : wpR P md ops G sl Q f listed N L w') : QH (Exit.then (StepG P md ops G sl Q T f listed w) Q') .normal N L w' := ⟨fun a hF => ⟨hb, k.go a hF⟩⟩
theorem wpR_end {f : Nat} {listed : Array Bool} (hr : Region.ready md ops listed = []) (k : QH Q .normal N L w) : wpR P md ops G sl Q f listed N L w := ⟨fun a hF => by
  cases f with
  | zero => exact ⟨hr, k.go a hF⟩
  | succ f => exact ⟨fun _ => k.go a hF, by rw [hr]; simp⟩⟩
theorem wpC_draw {id : Nat} {l : List Oper} (n : Nat) (sl : List Nat) (G : Nat → Nat → Prop) (hm : (P.follows .mixedOrders = true ∧ l.length = n)) (hS : St0 S w0 w H)
    (k : ∀ w', St0 S w0 w' H → Below w.heap.size w w' → wpR P .any l.toArray G sl Q n (Array.replicate n false) N L w') : wpC P none (.region id l.toArray true) Q N L w := ⟨fun a hF => by
  obtain ⟨hm, rfl⟩ := hm
  have hb : Below w.heap.size w w.drew := (Below.refl w.heap.size w).drew
  refine wpo_of_wp (wp_region_any hm ?_)
  have := ((k w.drew (hS.below hb) hb).go a hF).any
  simpa using this⟩
theorem any_in {ro : Option Nat} {n : Nat} {ops : Array Oper} (hQ : NL Q) (hd : ops.toList.all noDefer = true) : ∀ (f : Nat) (listed : Array Bool) (a : Act) (w : World), wpAny P md ops Q f listed a w → wpAnyIn (FR ro) n P md ops Q f listed a w
  | 0, _, _, _, h => h
  | f + 1, listed, a, w, h => ⟨h.1, fun i hi => by
    have h2 := h.2 i hi
    unfold wpOp at h2
    unfold wpOpIn
    cases ho : ops[i]? with
    | none => simp only [ho] at h2 ⊢; exact any_in hQ hd f _ a w h2
    | some o =>
      simp only [ho] at h2 ⊢
      have hdo : noDefer o = true := List.all_eq_true.1 hd o (by have := Array.mem_of_getElem? ho; simpa using this)
      split
      · rename_i hw
        rw [if_pos hw] at h2
        rcases h2 with h2 | ⟨_, a0, w0, h2⟩
        · exact Oper.wpIn_mono (fun a w h => any_in hQ hd f _ a w h) (op_in hdo h2)
        · exact (hQ.no _ _ h2).elim
      · rename_i hw
        rw [if_neg hw] at h2
        exact ⟨fun _ _ => trivial, any_in hQ hd f _ _ w h2⟩⟩
theorem wpC_drawR {ro : Option Nat} {id : Nat} {l : List Oper} (hQ : NL Q) (hd : l.all noDefer = true) (n : Nat) (sl : List Nat) (G : Nat → Nat → Prop) (hm : (P.follows .mixedOrders = true ∧ l.length = n)) (hS : St0 S w0 w H)
    (k : ∀ w', St0 S w0 w' H → Below w.heap.size w w' → wpR P .any l.toArray G sl Q n (Array.replicate n false) N L w') : wpC P ro (.region id l.toArray true) Q N L w := ⟨fun a hF => by
  obtain ⟨hm, rfl⟩ := hm
  have hb : Below w.heap.size w w.drew := (Below.refl w.heap.size w).drew
  refine wpo_of_in (n := 9) (wpIn_region_any hm ?_)
  have := ((k w.drew (hS.below hb) hb).go a hF).any
  exact any_in hQ (by simpa using hd) _ _ _ _ (by simpa using this)⟩

/-! ### Calls that panic, calls that write one block -/
theorem wpS_callPanic {dst : Option Nat} {ty : TypeId} {pos : String} {af : Array Edge} {g : Option (Nat × Bool)} {x : Operand} {f : FuncId} {cap : Array Value} {xs : List Operand} {ts : Array TypeId} {vs : List Value} {R : Ending → World → Prop} {rest : List Oper}
    (hg : wantB ops L g = some true) (hx : ev L x = some (.func (.func f) #[] cap)) (he : enterB P f = true) (ha : evs L xs = some vs)
    (hc : Calls P f (vs.toArray ++ cap) w R) (k : ∀ e w', R e w' → ∃ c, e = .panicked c ∧ QH Q (.panic c) N L w') :
    wpS P ops Q (⟨dst, .call { callee := .value x, args := xs.toArray, argTypes := ts }, ty, pos, af, g⟩ :: rest) N L w := .mk fun a hF => by
  unfold wpList
  rw [if_pos (wanted_of hF hg)]
  refine .inl ?_
  unfold Oper.wp
  have e1 : xs.toArray.map a.eval = vs.toArray := by simp [hF.agr.map ha]
  simp only [execOp, resolve, Sem.run_bind, e1, hF.eval hx, Deferred.ofValue, Sem.run_pure, Result.andThen_ok, invoke, callFunc_enter he, Oper.upon]
  have e2 : (#[] : Array Value) ++ vs.toArray ++ cap = vs.toArray ++ cap := by simp
  rw [e2]
  refine hc.mono fun e w' hR => ?_
  obtain ⟨c, rfl, hk⟩ := k e w' hR
  exact hk.go a hF
theorem QH_then_panic {K : Act → World → Prop} {c : List PanicEntry} (k : QH Q (.panic c) N L w) : QH (Exit.then K Q) (.panic c) N L w := ⟨k.go⟩
theorem QH_block_panic {id : Nat} {c : List PanicEntry} (k : QH Q (.panic c) N L w) : QH (Exit.inBlock id Q) (.panic c) N L w := ⟨k.go⟩
theorem QH_panic {fn : Func} {R : Ending → World → Prop} {c : List PanicEntry} (hN : N.d = []) (k : R (.panicked c) w) : QH (bodyO P fn R) (.panic c) N L w := ⟨fun _ hF => ⟨w, (by rw [hF.defers, hN]; rfl), k⟩⟩
/-- An operation that panics. -/
theorem wpS_panic {x : Operand} {v : Value} {dst : Option Nat} {ty : TypeId} {pos : String} {af : Array Edge} {rest : List Oper} (hx : ev L x = some v) (hp : ∀ (w : World), (Instr.panic v).run P w = .halt (.panic v) w) (k : QH Q (.panic [{ v, recovered := false }]) N L w) : wpS P ops Q (⟨dst, .panic x, ty, pos, af, none⟩ :: rest) N L w := .mk fun a hF => by
  unfold wpList
  rw [if_pos (wanted_of (b := true) hF rfl)]
  refine .inl ?_
  unfold Oper.wp
  simp only [execOp, hF.eval hx, Sem.run_bind, hp, Result.andThen, Oper.upon]
  exact k.go a hF
/-- A block that a call has written. -/
theorem St0.wrote {w' : World} {H' : List Ent} {b T : Nat} {cs cs' : List Value} (h : St0 S w0 w H) (hp : Pos H (.box b cs T) H' (.box b cs' T)) (hk : KeepB (fun k => k ≠ b) w w') (ho : w'.heap[b]? = some (.cells cs'.toArray T (0, 0))) : St0 S w0 w' H' := by
  obtain ⟨i, hi, rfl⟩ := hp.set
  exact h.change i hi hk.size ⟨hk.os, hk.tape, hk.output⟩ (fun k hk1 hk2 => hk.block k hk2 (fun h0 => hk1 h0)) ho (fun k h0 => .inl h0)

/-! ### A slice that a call gave -/
/-- A slice of n elements of k cells, in memory that came new since w. -/
structure Sl (w w' : World) (A : Option Addr) (n c k : Nat) (xs : List Value) : Prop where
  len : xs.length = n * k
  le : n ≤ c
  cap : c ≤ maxLen
  rd : Rd w' A xs
  blk : ∀ a, A = some a → w.heap.size ≤ a.block ∧ a.block < w'.heap.size
theorem Sl.of_own {w w' : World} {e : TypeId} {k n : Nat} {v : Value} {xs : List Value} (h : w'.ownsRow w.heap.size e k v n xs) : ∃ A c, v = .slice A n c ∧ Sl w w' A n c k xs := by
  rcases h.2 with ⟨rfl, rfl⟩ | ⟨g, cap, cur, rfl, h1, h2, h3, h4, h5, h6⟩
  · have : xs = [] := List.eq_nil_of_length_eq_zero (by simpa using h.1)
    subst this
    exact ⟨none, 0, rfl, by simp, Nat.le_refl _, by simp, Rd.nil _ _, fun a h => by cases h⟩
  · exact ⟨_, cap, rfl, h.1, h3, h4, Rd.of_own h, fun a ha => by injection ha with ha; subst ha; exact ⟨h1, (Array.getElem?_eq_some_iff.1 h2).1⟩⟩
theorem Sl.nil (w w' : World) (k : Nat) : Sl w w' none 0 0 k [] := ⟨by simp, Nat.le_refl _, by simp, Rd.nil _ _, fun _ h => by cases h⟩
theorem Sl.below {w w' w2 : World} {A : Option Addr} {n c k : Nat} {xs : List Value} (h : Sl w w' A n c k xs) (hb : Below w'.heap.size w' w2) : Sl w w2 A n c k xs :=
  ⟨h.len, h.le, h.cap, h.rd.below hb, fun a ha => ⟨(h.blk a ha).1, Nat.lt_of_lt_of_le (h.blk a ha).2 hb.size⟩⟩
theorem Sl.base {w w1 w' : World} {A : Option Addr} {n c k : Nat} {xs : List Value} (h : Sl w1 w' A n c k xs) (hz : w.heap.size ≤ w1.heap.size) : Sl w w' A n c k xs :=
  ⟨h.len, h.le, h.cap, h.rd, fun a ha => ⟨Nat.le_trans hz (h.blk a ha).1, (h.blk a ha).2⟩⟩
/-- It is kept. -/
theorem St0.slice {w' : World} {A : Option Addr} {n c k : Nat} {xs : List Value} (h : St0 S w0 w H) (hs : Sl w w' A n c k xs) (hb : Below w.heap.size w w') : St0 S w0 w' (.rd A xs :: H) :=
  h.add hb hs.rd (fun k ⟨a, ha, hk⟩ => by subst hk; exact hs.blk a ha)
theorem St0.rd {A : Option Addr} {xs : List Value} (h : St0 S w0 w H) (hH : Has H (.rd A xs)) : Rd w A xs := h.ok _ hH.mem
/-- A slice that was there at the start. -/
theorem St0.rd0 {A : Option Addr} {xs : List Value} (h : St0 All w0 w H) (hr : Rd w0 A xs) : Rd w A xs := hr.below h.pure
end
end Go.Proofs.Ythngkojbokknfaa
/- A walk by laws alone. Fifth part: ranges over functions; rounds may panic. -/
namespace Go.Proofs.Ythngkojbokknfaa
open Go Go.RowKit

section
variable {P : Program}
/-- What is asked at a round's end. -/
def roundO (P : Program) (l : Nat) (R : Ending → World → Prop) : Exit → Act → World → Prop
  | .normal, _, w => ∃ v w', (Instr.endRound l none).run P w = .ok v w' ∧ R (.returned v) w'
  | .ret, _, w => ∃ v w', (Instr.endRound l (some .ret)).run P w = .ok v w' ∧ R (.returned v) w'
  | .exit id, _, w => ∃ v w', (Instr.endRound l (some (.exit id))).run P w = .ok v w' ∧ R (.returned v) w'
  | .goto t, _, w => ∃ v w', (Instr.endRound l (some (.goto t))).run P w = .ok v w' ∧ R (.returned v) w'
  | .panic c, a, w => a.defers = [] ∧ R (.panicked c) w
  | .outgrown, _, _ => False
theorem round_of_wpo {n l : Nat} {f : FuncId} {tmps : Array Value} {assign body : Code} {w : World} {R : Ending → World → Prop} (hreal : ∃ fn, P.funcs[f]? = some fn)
    (h : wpo P (some l) assign (Exit.then (fun a1 w1 => ∃ w2, (Instr.beginRound l).run P w1 = .ok () w2 ∧ wpo P (some l) body (roundO P l R) a1 w2) (fun _ _ _ => False)) { tmps := tmps, defers := [] } w) :
    RoundIn Fence.wide n P l f tmps assign body w R := by
  refine ⟨trivial, fun c cs hr => ?_⟩
  let b : Frame := { (default : Frame) with fn := f, kind := .normal, roundOf := some l }
  have hb0 : Frame.round l f tmps assign body .normal = b.atR { tmps := tmps, defers := [] } [.code assign, .beginRound, .code body] := by
    simp [Frame.round, Frame.atR, b]
  obtain ⟨e, a1, w1, hq, harr⟩ := h b [.beginRound, .code body] (c :: cs) rfl hreal
  rw [← hb0] at harr
  cases e with
  | normal =>
    obtain ⟨w2, hbr, hbody⟩ := hq
    have s1 : StepsIn (Machine.fenced P Fence.wide) P (lone (b.atR a1 [.beginRound, .code body]) (c :: cs) w1) (lone (b.atR a1 [.code body]) (c :: cs) w2) :=
      .one (fenced_wide P _) (stepR_beginRound rfl hbr)
    obtain ⟨e2, a2, w3, hq2, harr2⟩ := hbody b [] (c :: cs) rfl hreal
    cases e2 with
    | normal =>
      obtain ⟨v, w4, hend, hR⟩ := hq2
      exact ⟨.returned v, w4, hR, (StepsIn.trans harr s1).trans (StepsIn.trans harr2 (.one (fenced_wide P _) (stepR_round_end rfl rfl hend)))⟩
    | ret =>
      obtain ⟨v, w4, hend, hR⟩ := hq2
      obtain ⟨k1, hs⟩ := harr2.2 rfl
      exact ⟨.returned v, w4, hR, (StepsIn.trans harr s1).trans (StepsIn.trans hs (.one (fenced_wide P _) (stepR_round_ret rfl rfl hend)))⟩
    | exit id =>
      obtain ⟨v, w4, hend, hR⟩ := hq2
      obtain ⟨k1, hk, hs⟩ := harr2.2 rfl rfl
      exact ⟨.returned v, w4, hR, (StepsIn.trans harr s1).trans (StepsIn.trans hs (.one (fenced_wide P _) (stepR_round_exit rfl rfl hk hend)))⟩
    | goto t =>
      obtain ⟨v, w4, hend, hR⟩ := hq2
      obtain ⟨k1, hk, hs⟩ := harr2.2 rfl rfl
      exact ⟨.returned v, w4, hR, (StepsIn.trans harr s1).trans (StepsIn.trans hs (.one (fenced_wide P _) (stepR_round_goto rfl rfl hk hend)))⟩
    | panic chain =>
      obtain ⟨hd, hR⟩ := hq2
      obtain ⟨todo, hs⟩ := harr2
      refine ⟨.panicked chain, w3, hR, (StepsIn.trans harr s1).trans (StepsIn.trans hs (.one (fenced_wide P _) (step_leave_panicked ?_)))⟩
      exact ⟨rfl, hd, hreal⟩
    | outgrown => exact hq2.elim
  | exit id => exact hq.elim
  | goto t => exact hq.elim
  | ret => exact hq.elim
  | panic chain => exact hq.elim
  | outgrown => exact hq.elim

/-- When the function that was ranged over has ended. -/
def rangeO (P : Program) (ro : Option Nat) (l : Nat) (Q : Exit → Act → World → Prop) (a' : Act) : Ending → World → Prop
  | .returned _, w3 => ∃ jump w4, (Instr.endLoop l).run P w3 = .ok jump w4 ∧
      (match jump with
       | none => Q .normal a' w4
       | some c => wpo P ro c Q a' w4)
  | .panicked chain, w3 => Q (.panic chain) a' w3
  | .outgrown, _ => LetsOut Q
theorem wpo_rangeFunc {ro : Option Nat} {g : Operand} {ps : Array Tmp} {assign body : Code} {Q : Exit → Act → World → Prop} {a : Act} {w : World}
    (h : ∀ fn, (∃ F, P.funcs[fn]? = some F) → ∃ (l : Nat) (mark : List Deferred) (w1 : World) (d : Deferred) (w1' : World) (f : FuncId) (args : Array Value) (w2 : World),
      (Instr.enterLoop fn a.tmps ps assign body ro).run P w = .ok (l, mark) w1 ∧
      (resolve a.eval (rangeCall g l) 0).run P w1 = .ok d w1' ∧
      (invoke d.target d.args).run P w1' = .ok (.enter f args) w2 ∧
      Calls P f args w2 (rangeO P ro l Q { a with defers := mark ++ a.defers })) :
    wpo P ro (.rangeFunc g ps assign body) Q a w := by
  intro b k cs hro hb
  obtain ⟨l, mark, w1, d, w1', f, args, w2, he, hres, hinv, hcall⟩ := h b.fn hb
  rw [← hro] at he
  have henter := stepR_rangeFunc (P := P) (b := b) (a := a) (k := k) (cs := cs) (w := w) he hres hinv
  obtain ⟨e, w3, fr, hR, hsteps, hfn, hleave⟩ := ((callsIn_wide (n := 9)).2 hcall).2 (b.atR { a with defers := mark ++ a.defers } (.inRangeFunc l :: k) :: cs) (fun _ hd => by cases hd)
  cases e with
  | outgrown =>
    obtain ⟨a0, w0, hq⟩ := hR
    exact ⟨.outgrown, a0, w0, hq, .inr (Outgrown.of_steps (.one henter) hsteps)⟩
  | returned v =>
    obtain ⟨jump, w4, hend, hj⟩ := hR
    have sback : StepsIn (Machine.fenced P Fence.wide) P (lone (b.atR a (.code (.rangeFunc g ps assign body) :: k)) cs w) (lone (b.atR { a with defers := mark ++ a.defers } ((jump.map Item.code).toList ++ k)) cs w4) := by
      refine .head (fenced_wide P _) henter (StepsIn.trans hsteps (.head (fenced_wide P _) ?_ (.one (fenced_wide P _) (stepR_endRangeFunc hend))))
      rw [← finish_atR_inRangeFunc l v]; exact step_leave_returned hleave
    cases jump with
    | none => exact ⟨.normal, _, w4, hj, sback⟩
    | some c =>
      obtain ⟨e', a'', w5, hq, harr⟩ := hj b k cs hro hb
      exact ⟨e', a'', w5, hq, .of_steps sback harr⟩
  | panicked chain =>
    refine ⟨.panic chain, _, w3, hR, .inRangeFunc l :: k, .head (fenced_wide P _) henter (StepsIn.trans hsteps (.one (fenced_wide P _) ?_))⟩
    rw [← Frame.raise_atR]; exact step_leave_panicked hleave

/-- AN ITERATOR'S CONTRACT, rounds that panic let in: as Iter. -/
def IterP {α : Type} (P : Program) (g : Nat) (lb : Array Value) (encs : α → Array Value) (xs : List α) (n0 M : Nat) (w : World) : Prop :=
  ∀ (l : Nat) (J : Nat → World → Prop) (Jx : World → Prop) (Jp : List PanicEntry → World → Prop) (W : World),
    Below w.heap.size w W →
    (∀ k A B, J k A → KeepB (fun b => b < M ∨ w.heap.size ≤ b) A B → J k B) →
    (∀ A B, Jx A → KeepB (fun b => b < M ∨ w.heap.size ≤ b) A B → Jx B) →
    (∀ c A B, Jp c A → KeepB (fun b => b < M ∨ w.heap.size ≤ b) A B → Jp c B) →
    (∀ k x A, xs[k]? = some x → J k A → w.heap.size ≤ A.heap.size → YieldAt Fence.wide 8 P l (encs x) A fun e B =>
      (e = .returned (.bool true) ∧ J (k + 1) B ∧ KeepB (fun b => b < n0 ∨ (M ≤ b ∧ b < w.heap.size)) A B) ∨
      (e = .returned (.bool false) ∧ Jx B ∧ KeepB (fun b => b < n0 ∨ (M ≤ b ∧ b < w.heap.size)) A B) ∨
      (∃ c, e = .panicked c ∧ Jp c B)) →
    J 0 W → Calls P g (#[.func (.yield l) #[] #[]] ++ lb) W fun e B => ((∃ v, e = .returned v) ∧ (J xs.length B ∨ Jx B)) ∨ (∃ c, e = .panicked c ∧ Jp c B)

/-- How a round's body may be left: with a panic, too. -/
def roundEndP (S : Nat → Prop) (I' : World → Prop) (Ix : Code → World → Prop) (Ip : List PanicEntry → World → Prop) (A : World) : Exit → Act → World → Prop
  | .normal, _, B => KeepB S A B ∧ I' B
  | .ret, _, B => KeepB S A B ∧ Ix .ret B
  | .exit id, _, B => KeepB S A B ∧ Ix (.exit id) B
  | .goto t, _, B => KeepB S A B ∧ Ix (.goto t) B
  | .panic c, a, B => a.defers = [] ∧ KeepB S A B ∧ Ip c B
  | .outgrown, _, _ => False

set_option maxHeartbeats 1000000 in
theorem range_o {α : Type} {g : Operand} {ps : Array Tmp} {assign body : Code} {Q : Exit → Act → World → Prop} {a : Act} {w : World}
    {gf : Nat} {lb : Array Value} (hg : a.eval g = .func (.func gf) #[] lb) (eg : ∀ args w, (callFunc gf args).run P w = .ok (.enter gf args) w)
    {encs : α → Array Value} {xs : List α} {n0 M : Nat} (hit : IterP P gf lb encs xs n0 M w) (hnM : n0 ≤ M) (hM : M ≤ w.heap.size) (hps : ∀ x, (encs x).size = ps.size)
    (I : Nat → World → Prop) (Ix : Code → World → Prop) (Ip : List PanicEntry → World → Prop)
    (hI : ∀ k A B, I k A → KeepB (fun b => b < M ∨ w.heap.size + 2 ≤ b) A B → I k B)
    (hIx : ∀ c A B, Ix c A → KeepB (fun b => b < M ∨ w.heap.size + 2 ≤ b) A B → Ix c B)
    (hIp : ∀ c A B, Ip c A → KeepB (fun b => b < M ∨ w.heap.size + 2 ≤ b) A B → Ip c B)
    (h0 : I 0 w)
    (hround : ∀ l k x A, xs[k]? = some x → I k A → w.heap.size + 2 ≤ A.heap.size →
      wpo P (some l) assign (Exit.then (fun a1 A1 => KeepB (fun _ => True) A A1 ∧
        ∀ A2, KeepB (fun b => b < w.heap.size ∨ w.heap.size + 2 ≤ b) A1 A2 → I k A2 →
          wpo P (some l) body (roundEndP (fun b => b < n0 ∨ (M ≤ b ∧ b < w.heap.size + 2)) (I (k + 1)) Ix Ip A2) a1 A2) (fun _ _ _ => False))
        { tmps := (ps.zip (encs x)).foldl (fun t (p, v) => t.setIfInBounds p v) a.tmps, defers := [] } A)
    (hdone : ∀ A, I xs.length A → A.heap[w.heap.size]? = some (.deferred (some [])) → Q .normal { a with defers := { target := .collected w.heap.size, args := #[] } :: a.defers } A)
    (hstop : ∀ c A, Ix c A → A.heap[w.heap.size]? = some (.deferred (some [])) → wpo P none c Q { a with defers := { target := .collected w.heap.size, args := #[] } :: a.defers } A)
    (hpan : ∀ c A, Ip c A → A.heap[w.heap.size]? = some (.deferred (some [])) → Q (.panic c) { a with defers := { target := .collected w.heap.size, args := #[] } :: a.defers } A) :
    wpo P none (.rangeFunc g ps assign body) Q a w := by
  refine wpo_rangeFunc ?_
  intro fn hfn
  obtain ⟨rec, hrec⟩ : ∃ rec : LoopState → Option Code → Loop, rec = fun st pe => { state := st, pending := pe, fn, tmps := a.tmps, params := ps, assign, body, defers := w.heap.size } := ⟨_, rfl⟩
  obtain ⟨W1, hW1⟩ : ∃ W1, (w.alloc (.deferred (some []))).alloc (.loop (rec .ready none)) = W1 := ⟨_, rfl⟩
  have hL1 : W1.heap[w.heap.size + 1]? = some (.loop (rec .ready none)) := by
    rw [← hW1]; have := World.alloc_heap_new (w.alloc (.deferred (some []))) (.loop (rec .ready none)); rwa [World.size_alloc] at this
  have hK1 : W1.heap[w.heap.size]? = some (.deferred (some [])) := by
    rw [← hW1]; exact (Below.heap_alloc _ _ _ (by simp)).trans (World.alloc_heap_new w _)
  have hs1 : W1.heap.size = w.heap.size + 2 := by rw [← hW1]; simp
  have hkw : ∀ S, KeepB S w W1 := fun S => by rw [← hW1]; exact ((KeepB.refl S w).alloc _).alloc _
  have hb1 : Below w.heap.size w W1 := (hkw (fun _ => True)).to_below (Nat.le_refl _) (fun _ _ => trivial)
  have hI1 : I 0 W1 := hI 0 _ _ h0 (hkw _)
  refine ⟨w.heap.size + 1, [{ target := .collected w.heap.size, args := #[] }], W1, { target := .fn (.func gf) lb, args := #[.func (.yield (w.heap.size + 1)) #[] #[]] }, W1, gf,
    #[.func (.yield (w.heap.size + 1)) #[] #[]] ++ lb, W1, ?_, ?_, ?_, ?_⟩
  · rw [← hW1, hrec]; exact run_enterLoop_outer _ _ _ _ _
  · simp only [resolve, hg]
    simp [go_sem]
  · simp [invoke, go_sem, eg]
  · have hit' := hit (w.heap.size + 1)
      (fun k W => I k W ∧ W.heap[w.heap.size + 1]? = some (.loop (rec .ready none)) ∧ W.heap[w.heap.size]? = some (.deferred (some [])))
      (fun W => ∃ c, Ix c W ∧ W.heap[w.heap.size + 1]? = some (.loop (rec .done (some c))) ∧ W.heap[w.heap.size]? = some (.deferred (some [])))
      (fun c W => Ip c W ∧ W.heap[w.heap.size]? = some (.deferred (some [])))
      W1 hb1
      (fun k A B hs hk => ⟨hI k A B hs.1 (hk.sub (fun b _ h => by omega)), hk.heap (by omega) hs.2.1, hk.heap (by omega) hs.2.2⟩)
      (fun A B hs hk => by
        obtain ⟨c, hc, h2, h3⟩ := hs
        exact ⟨c, hIx c A B hc (hk.sub (fun b _ h => by omega)), hk.heap (by omega) h2, hk.heap (by omega) h3⟩)
      (fun c A B hs hk => ⟨hIp c A B hs.1 (hk.sub (fun b _ h => by omega)), hk.heap (by omega) hs.2⟩)
      ?_ ⟨hI1, hL1, hK1⟩
    · refine hit'.mono ?_
      rintro e W2 (⟨⟨v, rfl⟩, (⟨hi, hl, hk⟩ | ⟨c, hi, hl, hk⟩)⟩ | ⟨c, rfl, hi, hk⟩)
      · exact ⟨none, _, by have := run_endLoop (P := P) hl (by rw [hrec]; simp); rw [hrec] at this; exact this,
          hdone _ (hI _ _ _ hi ((KeepB.refl _ _).putObj _ _ (by omega))) ((World.putObj_heap_other (by omega)).trans hk)⟩
      · exact ⟨some c, _, by have := run_endLoop (P := P) hl (by rw [hrec]; simp); rw [hrec] at this; exact this,
          hstop c _ (hIx _ _ _ hi ((KeepB.refl _ _).putObj _ _ (by omega))) ((World.putObj_heap_other (by omega)).trans hk)⟩
      · exact hpan c _ hi hk
    · rintro k x W hx ⟨hi, hl, hk⟩ hsz
      have hlt : w.heap.size + 1 < W.heap.size := (Array.getElem?_eq_some_iff.1 hl).1
      have hy := run_yield (P := P) (args := encs x) hl (by rw [hrec]; exact hps x)
      rw [hrec] at hy
      refine ⟨fn, _, assign, body, hy, round_of_wpo hfn ?_⟩
      refine wpo_mono (hround (w.heap.size + 1) k x W hx hi (by omega)) ?_
      rintro e a1 A1 hp
      cases e with
      | normal =>
        obtain ⟨hk1, hbody⟩ := hp
        have hl1 : A1.heap[w.heap.size + 1]? = some (.loop (rec .ready none)) := hk1.heap trivial hl
        have hd1 : A1.heap[w.heap.size]? = some (.deferred (some [])) := hk1.heap trivial hk
        have hlt1 : w.heap.size + 1 < A1.heap.size := (Array.getElem?_eq_some_iff.1 hl1).1
        refine ⟨_, run_beginRound hl1 (by rw [hrec]), ?_⟩
        obtain ⟨A2, hA2⟩ : ∃ A2, A1.putObj (w.heap.size + 1) (.loop { rec .ready none with state := .busy }) = A2 := ⟨_, rfl⟩
        rw [hA2]
        have hk2 : KeepB (fun b => b ≠ w.heap.size + 1) A1 A2 := by rw [← hA2]; exact (KeepB.refl _ _).putObj _ _ (by omega)
        have hl2 : A2.heap[w.heap.size + 1]? = some (.loop { rec .ready none with state := .busy }) := by rw [← hA2]; exact World.putObj_heap_same hlt1
        have hd2 : A2.heap[w.heap.size]? = some (.deferred (some [])) := hk2.heap (by omega) hd1
        have hkeep12 : KeepB (fun b => b < n0 ∨ (M ≤ b ∧ b < w.heap.size)) W A2 := (hk1.sub (fun _ _ _ => trivial)).trans (hk2.sub (fun b _ h => by omega))
        have fin : ∀ (jump : Option Code) (W3 : World), KeepB (fun b => b < n0 ∨ (M ≤ b ∧ b < w.heap.size + 2)) A2 W3 →
            (Instr.endRound (w.heap.size + 1) jump).run P W3 = .ok (.bool jump.isNone) (W3.putObj (w.heap.size + 1) (.loop (rec (if jump.isNone then .ready else .done) jump))) ∧
            (W3.putObj (w.heap.size + 1) (.loop (rec (if jump.isNone then .ready else .done) jump))).heap[w.heap.size + 1]? = some (.loop (rec (if jump.isNone then .ready else .done) jump)) ∧
            (W3.putObj (w.heap.size + 1) (.loop (rec (if jump.isNone then .ready else .done) jump))).heap[w.heap.size]? = some (.deferred (some [])) ∧
            KeepB (fun b => b < n0 ∨ (M ≤ b ∧ b < w.heap.size)) W (W3.putObj (w.heap.size + 1) (.loop (rec (if jump.isNone then .ready else .done) jump))) := fun jump W3 hk3 => by
          have hl3 := hk3.heap (by omega) hl2
          have := run_endRound (P := P) jump hl3
          rw [hrec] at this ⊢
          refine ⟨this, World.putObj_heap_same (Array.getElem?_eq_some_iff.1 hl3).1, (World.putObj_heap_other (by omega)).trans (hk3.heap (by omega) hd2), ?_⟩
          exact (hkeep12.trans (hk3.sub (fun b _ h => by omega))).putObj _ _ (by omega)
        have hiA2 : I k A2 := hI k A1 A2 (hI k W A1 hi (hk1.sub (fun _ _ _ => trivial))) (hk2.sub (fun b _ h => by omega))
        refine wpo_mono (hbody A2 (hk2.sub (fun b _ h => by omega)) hiA2) ?_
        have hst : ∀ (jump : Option Code) (W3 : World), KeepB (fun b => b < M ∨ w.heap.size + 2 ≤ b) W3 (W3.putObj (w.heap.size + 1) (.loop (rec (if jump.isNone then .ready else .done) jump))) := fun jump W3 => (KeepB.refl _ _).putObj _ _ (by omega)
        rintro e a3 W3 hp
        cases e with
        | normal =>
          obtain ⟨hk3, hi3⟩ := hp
          obtain ⟨hr, hl4, hk4, hk5⟩ := fin none W3 hk3
          exact ⟨_, _, hr, .inl ⟨rfl, ⟨hI _ _ _ hi3 (hst none W3), hl4, hk4⟩, hk5⟩⟩
        | ret =>
          obtain ⟨hk3, hi3⟩ := hp
          obtain ⟨hr, hl4, hk4, hk5⟩ := fin (some .ret) W3 hk3
          exact ⟨_, _, hr, .inr (.inl ⟨rfl, ⟨.ret, hIx _ _ _ hi3 (hst _ W3), hl4, hk4⟩, hk5⟩)⟩
        | exit id =>
          obtain ⟨hk3, hi3⟩ := hp
          obtain ⟨hr, hl4, hk4, hk5⟩ := fin (some (.exit id)) W3 hk3
          exact ⟨_, _, hr, .inr (.inl ⟨rfl, ⟨.exit id, hIx _ _ _ hi3 (hst _ W3), hl4, hk4⟩, hk5⟩)⟩
        | goto t =>
          obtain ⟨hk3, hi3⟩ := hp
          obtain ⟨hr, hl4, hk4, hk5⟩ := fin (some (.goto t)) W3 hk3
          exact ⟨_, _, hr, .inr (.inl ⟨rfl, ⟨.goto t, hIx _ _ _ hi3 (hst _ W3), hl4, hk4⟩, hk5⟩)⟩
        | panic ch =>
          obtain ⟨hdf, hk3, hip⟩ := hp
          exact ⟨hdf, .inr (.inr ⟨ch, rfl, hip, hk3.heap (by omega) hd2⟩)⟩
        | outgrown => exact hp.elim
      | _ => exact hp.elim

variable {ops : Array Oper} {Q : Exit → Act → World → Prop} {N : FS} {L : List (Nat × Value)} {w w0 : World} {S : Nat → Prop} {H : List Ent} {ro : Option Nat}
/-! ### A yield -/
/-- Operations of a plain region, yields let in. -/
structure wpSI (P : Program) (ro : Option Nat) (ops : Array Oper) (Q : Exit → Act → World → Prop) (l : List Oper) (N : FS) (L : List (Nat × Value)) (w : World) : Prop where
  go : ∀ a, Fr N L a → wpListIn (FR ro) 9 P ops Q l a w
structure InK (P : Program) (ro : Option Nat) (ops : Array Oper) (Q : Exit → Act → World → Prop) (l : List Oper) (a : Act) (w : World) : Prop where
  go : wpListIn (FR ro) 9 P ops Q l a w
theorem list_in_app (hQ : NL Q) {l2 : List Oper} : ∀ (l : List Oper), l.all noDefer = true → ∀ (a : Act) (w : World), wpList P ops (Exit.then (InK P ro ops Q l2) Q) l a w → wpListIn (FR ro) 9 P ops Q (l ++ l2) a w
  | [], _, a, w, h => h.go
  | o :: l, hd, a, w, h => by
    simp only [List.all_cons, Bool.and_eq_true] at hd
    unfold wpList at h
    rw [List.cons_append]
    unfold wpListIn
    split
    · rename_i hw
      rw [if_pos hw] at h
      rcases h with h | ⟨_, a0, w0, h⟩
      · have h1 := op_in (ro := ro) (n := 9) (Q := Exit.then (InK P ro ops Q l2) Q) hd.1 h
        have h2 := Oper.wpIn_mono (fun a w h => list_in_app hQ l hd.2 a w h) h1
        refine ⟨h2.1, ?_⟩
        have h3 := h2.2
        generalize (o.semAt (FR ro).round a.eval).run P w = r at *
        cases r with
        | ok x w' =>
          cases x <;> simp only [Oper.uponIn] at h3 ⊢ <;> exact h3
        | halt x w' => cases x <;> simp only [Oper.uponIn] at h3 ⊢; exact h3
      · exact (hQ.no _ _ h).elim
    · rename_i hw
      rw [if_neg hw] at h
      exact ⟨fun _ _ => trivial, list_in_app hQ l hd.2 _ _ h⟩
theorem wpC_regionY {id : Nat} {l : List Oper} (m : Nat) (hQ : NL Q) (hd : (l.take m).all noDefer = true) (k : wpS P l.toArray (Exit.then (InK P ro l.toArray Q (l.drop m)) Q) (l.take m) N L w) : wpC P ro (.region id l.toArray false) Q N L w := .mk fun a hF => by
  refine wpo_of_in (n := 9) (wpIn_region_lit ?_)
  have := list_in_app hQ (l.take m) hd a w (k.go a hF)
  rwa [List.take_append_drop] at this
theorem QH_Y {l : List Oper} (k : wpSI P ro ops Q l N L w) : QH (Exit.then (InK P ro ops Q l) Q) .normal N L w := ⟨fun a hF => ⟨k.go a hF⟩⟩
theorem wpSI_rest {l : List Oper} (hQ : NL Q) (hd : l.all noDefer = true) (k : wpS P ops Q l N L w) : wpSI P ro ops Q l N L w := ⟨fun a hF => list_in hQ l hd a w (k.go a hF)⟩
theorem wpSI_yield {dn : Nat} {ty : TypeId} {pos : String} {af : Array Edge} {g : Option (Nat × Bool)} {x : Operand} {l0 : Nat} {xs : List Operand} {ts : Array TypeId} {vs : List Value} {R : Ending → World → Prop} {rest : List Oper}
    (hg : wantB ops L g = some true) (hN : Nat.ble (dn + 1) N.n = true) (hx : ev L x = some (.func (.yield l0) #[] #[])) (ha : evs L xs = some vs)
    (hy : YieldAt Fence.wide 8 P l0 vs.toArray w R) (k : ∀ e w', R e w' → (∃ v, e = .returned v ∧ wpSI P ro ops Q rest N ((dn, v) :: L) w') ∨ (∃ c, e = .panicked c ∧ QH Q (.panic c) N L w')) :
    wpSI P ro ops Q (⟨some dn, .call { callee := .value x, args := xs.toArray, argTypes := ts }, ty, pos, af, g⟩ :: rest) N L w := ⟨fun a hF => by
  unfold wpListIn
  rw [if_pos (wanted_of hF hg)]
  refine ⟨fun _ _ => trivial, ?_⟩
  rw [Oper.semAt_plain (FR ro) _ _ (by intro c hc; cases hc)]
  have e1 : xs.toArray.map a.eval = vs.toArray := by simp [hF.agr.map ha]
  obtain ⟨fn, tmps, assign, body, hrun, hround⟩ := hy
  have e2 : (#[] : Array Value) ++ vs.toArray = vs.toArray := by simp
  simp only [execOp, resolve, Sem.run_bind, e1, hF.eval hx, Deferred.ofValue, Sem.run_pure, Result.andThen_ok, invoke, e2, hrun, Oper.uponIn]
  refine ⟨fun h => (by cases h), ?_⟩
  have hr2 : RoundIn (FR ro) 8 P l0 fn tmps assign body w R := hround
  refine hr2.mono fun e w' hR => ?_
  rcases k e w' hR with ⟨v, rfl, h1⟩ | ⟨c, rfl, h1⟩
  · exact h1.go _ (hF.put hN v)
  · exact h1.go _ hF⟩

/-! ### Old blocks whose cells are known -/
theorem yv_load_ob {R : World → Prop} {d : Option Nat} {ty : TypeId} {pos : String} {af : Array Edge} {g : Option (Nat × Bool)} {x : Operand} {t : TypeId} {b o : Nat} {cs : Array Value} {T : TypeId} {fr : Nat × Nat} {v : Value} {S' : Nat → Prop} (hs0 : ScC P t) (hx : ev L x = some (.pointer (some ⟨b, o, none⟩))) (hR : RW R S' w) (hS : St0 S w0 w H) (hb : S' b) (hb' : S b) (hh : w0.heap[b]? = some (.cells cs T fr)) (hc : Seg cs.toList o 1 [v]) : Yv P L R ⟨d, .load t x, ty, pos, af, g⟩ v :=
  yv_load_old hs0 hx hR hS hb hb' (by
    rw [cell_of_row w0 b o cs T fr hh]
    have h1 := hc.spec.1
    have h2 : ((cs.toList.drop o).take 1)[0]? = some v := by rw [← h1]; rfl
    simpa using h2)
theorem yv_load_obA {R : World → Prop} {d : Option Nat} {ty : TypeId} {pos : String} {af : Array Edge} {g : Option (Nat × Bool)} {x : Operand} {t : TypeId} {b o n : Nat} {cs : Array Value} {T : TypeId} {fr : Nat × Nat} {vs : List Value} {S' : Nat → Prop} (hn0 : AgC P t n) (hx : ev L x = some (.pointer (some ⟨b, o, none⟩))) (hR : RW R S' w) (hS : St0 S w0 w H) (hb : S' b) (hb' : S b) (hh : w0.heap[b]? = some (.cells cs T fr)) (hc : Seg cs.toList o n vs) : Yv P L R ⟨d, .load t x, ty, pos, af, g⟩ (.agg vs.toArray) :=
  yv_loadA_old hn0 hx hR hS hb hb' (fun j v hj => by
    rw [cell_of_row w0 b (o + j) cs T fr hh]
    rw [hc.spec.1, List.getElem?_take] at hj
    split at hj
    · rw [List.getElem?_drop] at hj; simpa using hj
    · cases hj) hc.spec.2
end
end Go.Proofs.Ythngkojbokknfaa
/- A walk by laws alone. Sixth part: a range over a function, by lists of slots and blocks. -/
namespace Go.Proofs.Ythngkojbokknfaa
open Go Go.RowKit

section
variable {P : Program} {ops : Array Oper} {Q : Exit → Act → World → Prop} {N : FS} {L : List (Nat × Value)} {w w0 : World} {S : Nat → Prop} {H H' : List Ent} {ro : Option Nat}

/-- While a range is under way: the function's own blocks lie off the iterator's (from M to E). -/
structure Rnd (w0 : World) (M E : Nat) (A : World) (H : List Ent) : Prop where
  st : St0 All w0 A H
  off : ∀ e ∈ H, ∀ k, e.occ k → k < M ∨ E ≤ k
theorem Rnd.keep {M E : Nat} {A B : World} (h : Rnd w0 M E A H) (hM : w0.heap.size ≤ M) (hk : KeepB (fun b => b < M ∨ E ≤ b) A B) : Rnd w0 M E B H := by
  refine ⟨⟨⟨hk.os.trans h.st.base.os, hk.tape.trans h.st.base.tape, hk.output.trans h.st.base.output, Nat.le_trans h.st.size hk.size, fun b hb _ => ?_⟩, fun e he => Ent.ok_keep (h.st.ok e he) hk.size (fun k hx => hk.block k (h.st.rng e he k hx).1 (h.off e he k hx)), fun e he k hx => ⟨Nat.lt_of_lt_of_le (h.st.rng e he k hx).1 hk.size, (h.st.rng e he k hx).2⟩, h.st.dis⟩, h.off⟩
  exact (hk.block b (Nat.lt_of_lt_of_le hb h.st.size) (.inl (by omega))).trans (h.st.base.block b hb trivial)
/-- What a round leaves as it is. -/
def staysR (n0 M E : Nat) (b : Nat) : Prop := b < n0 ∨ (M ≤ b ∧ b < E)
/-- A round begins. -/
theorem Rnd.begin {M E : Nat} {A A1 A2 : World} {Hn : List Ent} (h : Rnd w0 M E A H) (hM : w0.heap.size ≤ M) (hE : E ≤ A.heap.size) (hn : St0 All A A1 Hn) (hk : KeepB (fun b => b < M ∨ E ≤ b) A1 A2) : St0 (staysR w0.heap.size M E) A2 A2 (Hn ++ H) ∧ Below w0.heap.size w0 A2 := by
  have hz : A.heap.size ≤ A1.heap.size := hn.size
  have hA1 : Rnd w0 M E A1 H := h.keep hM (hn.base.sub fun _ _ _ => trivial)
  have hA2 := hA1.keep hM hk
  have hnk : ∀ e ∈ Hn, ∀ k, e.occ k → k < A1.heap.size ∧ A.heap.size ≤ k := fun e he k hx => ⟨(hn.rng e he k hx).1, Nat.le_of_not_lt fun hlt => (hn.rng e he k hx).2 hlt trivial⟩
  refine ⟨⟨KeepB.refl _ _, fun e he => ?_, fun e he k hx => ?_, ?_⟩, hA2.st.pure⟩
  · rcases List.mem_append.1 he with he | he
    · exact Ent.ok_keep (hn.ok e he) hk.size (fun k hx => hk.block k (hnk e he k hx).1 (.inr (by have := (hnk e he k hx).2; omega)))
    · exact hA2.st.ok e he
  · rcases List.mem_append.1 he with he | he
    · have := hnk e he k hx
      refine ⟨Nat.lt_of_lt_of_le this.1 hk.size, fun _ => ?_⟩
      have := h.st.size
      unfold staysR
      omega
    · have h1 := hA2.st.rng e he k hx
      have h2 := hA2.off e he k hx
      have h3 : w0.heap.size ≤ k := Nat.le_of_not_lt fun hlt => h1.2 hlt trivial
      exact ⟨h1.1, fun _ => by unfold staysR; omega⟩
  · refine List.pairwise_append.2 ⟨hn.dis, h.st.dis, fun e he e' he' k hx hx' => ?_⟩
    have h1 := (hnk e he k hx).2
    have h2 := (h.st.rng e' he' k hx').1
    omega
/-- A round ends. -/
theorem Rnd.end_ {M E : Nat} {A2 B : World} (hb : Below w0.heap.size w0 A2) (hE : E ≤ A2.heap.size) (h : St0 (staysR w0.heap.size M E) A2 B H) (hs : List.Sublist H' H) : Rnd w0 M E B H' := by
  have hz : w0.heap.size ≤ A2.heap.size := hb.size
  refine ⟨⟨⟨h.base.os.trans hb.os, h.base.tape.trans hb.tape, h.base.output.trans hb.output, Nat.le_trans hz h.size, fun b hlt _ => ?_⟩, fun e he => h.ok e (hs.subset he), fun e he k hx => ?_, h.dis.sublist hs⟩, fun e he k hx => ?_⟩
  · exact (h.base.block b (by omega) (.inl hlt)).trans (hb.block b hlt)
  · have h1 := h.rng e (hs.subset he) k hx
    exact ⟨h1.1, fun hlt _ => h1.2 (by omega) (.inl hlt)⟩
  · have h1 := h.rng e (hs.subset he) k hx
    rcases Nat.lt_or_ge k A2.heap.size with hlt | hge
    · have := h1.2 hlt
      unfold staysR at this
      omega
    · exact .inr (by omega)

theorem put_frame {ps : List Tmp} {vs : List Value} {tm : Array Value} : ∀ {L : List (Nat × Value)}, Fr N L { tmps := tm, defers := N.d } → (ps.all fun p => Nat.ble (p + 1) N.n) = true → Fr N ((ps.zip vs).foldl (fun L p => p :: L) L) { tmps := (ps.zip vs).foldl (fun t (p : Tmp × Value) => t.setIfInBounds p.1 p.2) tm, defers := N.d } := by
  induction ps generalizing vs tm with
  | nil => intro L h _; simpa using h
  | cons p ps ih =>
    intro L h hp
    cases vs with
    | nil => simpa using h
    | cons v vs =>
      simp only [List.all_cons, Bool.and_eq_true] at hp
      simp only [List.zip_cons_cons, List.foldl_cons]
      exact ih (h.put hp.1 v) hp.2

/-- Behind the assignments of a round's variables. -/
structure AsgK (P : Program) (l : Nat) (body : Code) (N : FS) (w0 : World) (M E : Nat) (H : List Ent) (A : World) (QB : World → Exit → Act → World → Prop) (a1 : Act) (A1 : World) : Prop where
  go : ∃ L1 Hn, Fr N L1 a1 ∧ St0 All A A1 Hn ∧ ∀ A2, St0 (staysR w0.heap.size M E) A2 A2 (Hn ++ H) → Below w0.heap.size w0 A2 → E ≤ A2.heap.size → wpC P (some l) body (QB A2) N L1 A2
theorem QH_asg {l : Nat} {body : Code} {M E : Nat} {A A1 : World} {QB : World → Exit → Act → World → Prop} {Q' : Exit → Act → World → Prop} {Hn : List Ent} (hS : St0 All A A1 Hn)
    (k : ∀ A2, St0 (staysR w0.heap.size M E) A2 A2 (Hn ++ H) → Below w0.heap.size w0 A2 → E ≤ A2.heap.size → wpC P (some l) body (QB A2) N L A2) : QH (Exit.then (AsgK P l body N w0 M E H A QB) Q') .normal N L A1 := ⟨fun a hF => ⟨L, Hn, hF, hS, k⟩⟩

/-- The law. -/
theorem wpC_range {α X : Type} {g : Operand} {ps : Array Tmp} {assign body : Code} {gf : Nat} {lb : Array Value} (hg : ev L g = some (.func (.func gf) #[] lb)) (eg : enterB P gf = true)
    {encs : α → List Value} {xs : List α} {M : Nat} (hit : IterP P gf lb (fun x => (encs x).toArray) xs w0.heap.size M w) (hM : w0.heap.size ≤ M ∧ M ≤ w.heap.size) (hps : ∀ x, (encs x).length = ps.size) (hpn : (ps.toList.all fun p => Nat.ble (p + 1) N.n) = true)
    (Hk : Nat → X → List Ent) (Jk : Nat → X → Prop) (Hx : Code → X → List Ent) (Jx : Code → X → Prop) (Ip : List PanicEntry → Prop)
    (x0 : X) (h0 : Rnd w0 M (w.heap.size + 2) w (Hk 0 x0)) (j0 : Jk 0 x0)
    (hround : ∀ l k e x A, xs[k]? = some e → Jk k x → w.heap.size + 2 ≤ A.heap.size → Rnd w0 M (w.heap.size + 2) A (Hk k x) → St0 All A A [] →
      wpC P (some l) assign (Exit.then (AsgK P l body ⟨N.n, []⟩ w0 M (w.heap.size + 2) (Hk k x) A (fun A2 => roundEndP (staysR w0.heap.size M (w.heap.size + 2)) (fun B => ∃ x', Rnd w0 M (w.heap.size + 2) B (Hk (k + 1) x') ∧ Jk (k + 1) x') (fun c B => ∃ x', Rnd w0 M (w.heap.size + 2) B (Hx c x') ∧ Jx c x') (fun c B => Below w0.heap.size w0 B ∧ Ip c) A2)) (fun _ _ _ => False))
        ⟨N.n, []⟩ ((ps.toList.zip (encs e)).foldl (fun L p => p :: L) L) A)
    (hdone : ∀ x A, Jk xs.length x → St0 All w0 A (.obj w.heap.size (.deferred (some [])) :: Hk xs.length x) → QH Q .normal ⟨N.n, { target := .collected w.heap.size, args := #[] } :: N.d⟩ L A)
    (hstop : ∀ c x A, Jx c x → St0 All w0 A (.obj w.heap.size (.deferred (some [])) :: Hx c x) → wpC P none c Q ⟨N.n, { target := .collected w.heap.size, args := #[] } :: N.d⟩ L A)
    (hpan : ∀ c A, Ip c → St0 All w0 A [.obj w.heap.size (.deferred (some []))] → QH Q (.panic c) ⟨N.n, { target := .collected w.heap.size, args := #[] } :: N.d⟩ L A) :
    wpC P none (.rangeFunc g ps assign body) Q N L w := ⟨fun a hF => by
  have hmark : ∀ A H1, Rnd w0 M (w.heap.size + 2) A H1 → A.heap[w.heap.size]? = some (.deferred (some [])) → St0 All w0 A (.obj w.heap.size (.deferred (some [])) :: H1) := fun A H1 hR hd => by
    refine ⟨hR.st.base, fun e he => ?_, fun e he k hx => ?_, List.pairwise_cons.2 ⟨fun e he k hx hx' => ?_, hR.st.dis⟩⟩
    · rcases List.mem_cons.1 he with rfl | he
      · exact hd
      · exact hR.st.ok e he
    · rcases List.mem_cons.1 he with rfl | he
      · obtain rfl : k = w.heap.size := hx
        exact ⟨(Array.getElem?_eq_some_iff.1 hd).1, fun hlt => (by omega)⟩
      · exact hR.st.rng e he k hx
    · obtain rfl : k = w.heap.size := hx
      have := hR.off e he _ hx'
      omega
  have hF' : ∀ A : World, Fr ⟨N.n, { target := .collected w.heap.size, args := #[] } :: N.d⟩ L { a with defers := { target := .collected w.heap.size, args := #[] } :: a.defers } := fun A => ⟨hF.size, by rw [hF.defers], hF.at_⟩
  refine range_o (n0 := w0.heap.size) (M := M) (hF.eval hg) (fun args w => callFunc_enter eg args) hit hM.1 hM.2 (fun x => by simp [hps x])
    (fun k A => ∃ x, Rnd w0 M (w.heap.size + 2) A (Hk k x) ∧ Jk k x) (fun c A => ∃ x, Rnd w0 M (w.heap.size + 2) A (Hx c x) ∧ Jx c x) (fun c A => Below w0.heap.size w0 A ∧ Ip c)
    (fun k A B h hk => h.imp fun x h => ⟨h.1.keep hM.1 hk, h.2⟩) (fun c A B h hk => h.imp fun x h => ⟨h.1.keep hM.1 hk, h.2⟩)
    (fun c A B h hk => ⟨h.1.trans (hk.to_below h.1.size (fun _ hb => .inl (by omega))), h.2⟩) ⟨x0, h0, j0⟩ ?_ ?_ ?_ ?_
  · rintro l k e A hxk ⟨x, hR, hJ⟩ hsz
    have hfr : Fr ⟨N.n, []⟩ ((ps.toList.zip (encs e)).foldl (fun L p => p :: L) L) { tmps := (ps.zip (encs e).toArray).foldl (fun t (p, v) => t.setIfInBounds p v) a.tmps, defers := [] } := by
      have := put_frame (N := ⟨N.n, []⟩) (ps := ps.toList) (vs := encs e) (tm := a.tmps) (L := L) ⟨hF.size, rfl, hF.at_⟩ hpn
      have e1 : (ps.zip (encs e).toArray) = (ps.toList.zip (encs e)).toArray := by
        rw [← Array.toList_inj]; simp
      rw [e1]
      simpa using this
    refine wpo_mono ((hround l k e x A hxk hJ hsz hR (St0.start _ _)).go _ hfr) ?_
    rintro ex a1 A1 hp
    cases ex with
    | normal =>
      obtain ⟨L1, Hn, hF1, hSn, hbody⟩ := hp.go
      refine ⟨hSn.base, fun A2 hk _ => ?_⟩
      have hk' : KeepB (fun b => b < M ∨ w.heap.size + 2 ≤ b) A1 A2 := hk.sub (fun b _ h => by omega)
      obtain ⟨h1, h2⟩ := hR.begin hM.1 hsz hSn hk'
      exact (hbody A2 h1 h2 (by have := hSn.size; have := hk.size; omega)).go _ hF1
    | _ => exact hp.elim
  · rintro A ⟨x, hR, hJ⟩ hd
    exact (hdone x A hJ (hmark _ _ hR hd)).go _ (hF' A)
  · rintro c A ⟨x, hR, hJ⟩ hd
    exact (hstop c x A hJ (hmark _ _ hR hd)).go _ (hF' A)
  · rintro c A ⟨hb, hc⟩ hd
    have hR : Rnd w0 M (w.heap.size + 2) A [] := ⟨⟨KeepB.of_below hb (fun _ hk _ => hk), fun _ h => (by cases h), fun _ h => (by cases h), List.Pairwise.nil⟩, fun _ h => (by cases h)⟩
    exact (hpan c A hc (hmark _ _ hR hd)).go _ (hF' A)⟩

/-! ### The ends of a round -/
theorem NL.round {S' : Nat → Prop} {I' : World → Prop} {Ix : Code → World → Prop} {Ip : List PanicEntry → World → Prop} {A : World} : NL (roundEndP S' I' Ix Ip A) := ⟨fun _ _ h => h⟩
theorem NL.body {fn : Func} {R : Ending → World → Prop} (h : ∀ w, ¬ R .outgrown w) : NL (bodyO P fn R) := ⟨fun _ w hw => h w hw⟩
theorem NL.false : NL (fun _ _ _ => False) := ⟨fun _ _ h => h⟩
theorem PF.round {S' : Nat → Prop} {I' : World → Prop} {Ix : Code → World → Prop} {Ip : List PanicEntry → World → Prop} {A : World} : PF (roundEndP S' I' Ix Ip A) := ⟨fun c a d v w h => ⟨(put_defers a d v) ▸ h.1, h.2⟩⟩
theorem QH_round {X : Type} {Hk : X → List Ent} {Jk : X → Prop} {Ix : Code → World → Prop} {Ip : List PanicEntry → World → Prop} {M E : Nat} {A2 B : World} (hb : Below w0.heap.size w0 A2) (hE : E ≤ A2.heap.size) (hS : St0 (staysR w0.heap.size M E) A2 B H) (x' : X) (hs : List.Sublist (Hk x') H) (hJ : Jk x') :
    QH (roundEndP (staysR w0.heap.size M E) (fun B => ∃ x', Rnd w0 M E B (Hk x') ∧ Jk x') Ix Ip A2) .normal N L B := ⟨fun _ _ => ⟨hS.base, x', Rnd.end_ hb hE hS hs, hJ⟩⟩
theorem QH_round_ret {X : Type} {I' : World → Prop} {Hx : Code → X → List Ent} {Jx : Code → X → Prop} {Ip : List PanicEntry → World → Prop} {M E : Nat} {A2 B : World} (hb : Below w0.heap.size w0 A2) (hE : E ≤ A2.heap.size) (hS : St0 (staysR w0.heap.size M E) A2 B H) (x' : X) (hs : List.Sublist (Hx .ret x') H) (hJ : Jx .ret x') :
    QH (roundEndP (staysR w0.heap.size M E) I' (fun c B => ∃ x', Rnd w0 M E B (Hx c x') ∧ Jx c x') Ip A2) .ret N L B := ⟨fun _ _ => ⟨hS.base, x', Rnd.end_ hb hE hS hs, hJ⟩⟩
theorem QH_round_panic {I' : World → Prop} {Ix : Code → World → Prop} {Ip : List PanicEntry → Prop} {M E : Nat} {A2 B : World} {c : List PanicEntry} (hb : Below w0.heap.size w0 A2) (hS : St0 (staysR w0.heap.size M E) A2 B H) (hN : N.d = []) (hc : Ip c) :
    QH (roundEndP (staysR w0.heap.size M E) I' Ix (fun c B => Below w0.heap.size w0 B ∧ Ip c) A2) (.panic c) N L B := ⟨fun a hF => ⟨hF.defers.trans hN, hS.base, hb.trans (hS.base.to_below hb.size (fun _ h => .inl h)), hc⟩⟩

/-! ### Leaving with a mark -/
theorem PosO.set {b : Nat} {o o' : Obj} (hp : Pos H (.obj b o) H' (.obj b o')) (hS : St0 S w0 w H) : St0 S w0 (w.putObj b o') H' := by
  obtain ⟨i, hi, rfl⟩ := hp.set
  have hok : w.heap[b]? = some o := hS.ok _ (List.mem_of_getElem? hi)
  have hk : KeepB (fun k => k ≠ b) w (w.putObj b o') := (KeepB.refl _ _).putObj _ _ (by simp)
  exact hS.change i hi hk.size ⟨hk.os, hk.tape, hk.output⟩ (fun k h1 h2 => hk.block k h2 (fun h0 => h1 h0)) (World.putObj_heap_same (Array.getElem?_eq_some_iff.1 hok).1) (fun k h0 => .inl h0)
theorem bodyO_shut {fn : Func} {R : Ending → World → Prop} {e : Exit} {a : Act} {b : Nat} {D : List Deferred} (ha : a.defers = { target := .collected b, args := #[] } :: D) (hb : w.heap[b]? = some (.deferred (some []))) (he : e = .ret ∨ e = .normal ∨ ∃ c, e = .panic c) (h : bodyO P fn R e { a with defers := D } (w.putObj b (.deferred none))) : bodyO P fn R e a w := by
  rcases he with rfl | rfl | ⟨c, rfl⟩
  · obtain ⟨w', h1, h2⟩ := h; exact ⟨w', by rw [ha]; exact ⟨b, _, rfl, run_takeDeferred hb, h1⟩, h2⟩
  · obtain ⟨w', h1, h2⟩ := h; exact ⟨w', by rw [ha]; exact ⟨b, _, rfl, run_takeDeferred hb, h1⟩, h2⟩
  · obtain ⟨w', h1, h2⟩ := h; exact ⟨w', by rw [ha]; exact ⟨b, _, rfl, run_takeDeferred hb, h1⟩, h2⟩
theorem QH_shut {fn : Func} {R : Ending → World → Prop} {e : Exit} {b m : Nat} {D : List Deferred} (he : e = .ret ∨ e = .normal ∨ ∃ c, e = .panic c) (hS : St0 S w0 w H) (hp : Pos H (.obj b (.deferred (some []))) H' (.obj b (.deferred none))) (k : ∀ w', St0 S w0 w' H' → QH (bodyO P fn R) e ⟨m, D⟩ L w') :
    QH (bodyO P fn R) e ⟨m, { target := .collected b, args := #[] } :: D⟩ L w := ⟨fun a hF => by
  obtain ⟨i, hi, _⟩ := hp.set
  exact bodyO_shut hF.defers (hS.ok _ (List.mem_of_getElem? hi)) he ((k _ (PosO.set hp hS)).go _ ⟨hF.size, rfl, hF.at_⟩)⟩
end
end Go.Proofs.Ythngkojbokknfaa
/- A walk by laws alone. Seventh part: rows that grow, slices laid out, jumps back, '==' of structs. -/
namespace Go.Proofs.Ythngkojbokknfaa
open Go Go.RowKit

section
variable {P : Program} {ro : Option Nat} {Q : Exit → Act → World → Prop} {a : Act} {w : World}
theorem wpo_scope {c rest : Code} (l : Nat) (J : Act → World → Prop) (μ : Act → World → Nat) (hf : findLabel c l = some rest)
    (first : wpo P none c (Exit.jump l J Q) a w)
    (pass : ∀ a w, J a w → wpo P none rest (Exit.jump l (fun a' w' => J a' w' ∧ μ a' w' < μ a w) Q) a w) : wpo P none (.scope c) Q a w := by
  intro b k cs hb hreal
  have hI : ∀ m m', StepsIn (Machine.fenced P Fence.wide) P m m' ↔ Steps P m m' := fun _ _ => stepsIn_wide
  have hg : gotoIn l (.inScope c :: k) = some (.code rest :: .inScope c :: k) := by simp [gotoIn, hf]
  have key : ∀ n a w, μ a w = n → J a w → ∃ e a' w', Q e a' w' ∧ Arrives P (lone (b.at a (.code rest :: .inScope c :: k)) cs w) b k cs e a' w' := by
    intro n
    induction n using Nat.strongRecOn with
    | _ n ih =>
      intro a w hn hJ
      obtain ⟨e, a1, w1, hq, harr⟩ := pass a w hJ b (.inScope c :: k) cs hb hreal
      rw [Frame.atR_of_none hb, arrivesIn_iff hI hb] at harr
      cases e with
      | normal => exact ⟨.normal, a1, w1, hq, Steps.trans harr (.one step_inScope)⟩
      | exit id => exact ⟨.exit id, a1, w1, hq, fun k' hk => harr k' (by simp [exitTo, hk])⟩
      | goto l' =>
        obtain ⟨rfl, hJ', hlt⟩ := hq
        obtain ⟨e2, a2, w2, hq2, harr2⟩ := ih _ (by omega) a1 w1 rfl hJ'
        exact ⟨e2, a2, w2, hq2, .of_steps (harr _ hg) harr2⟩
      | ret => exact ⟨_, a1, w1, hq, harr⟩
      | panic ch => exact ⟨_, a1, w1, hq, harr⟩
      | outgrown => exact ⟨_, a1, w1, hq, harr⟩
  obtain ⟨e, a1, w1, hq, harr⟩ := first b (.inScope c :: k) cs hb hreal
  rw [Frame.atR_of_none hb, arrivesIn_iff hI hb] at harr
  rw [Frame.atR_of_none hb]
  simp only [arrivesIn_iff hI hb]
  cases e with
  | normal => exact ⟨.normal, a1, w1, hq, .head step_scope (Steps.trans harr (.one step_inScope))⟩
  | exit id => exact ⟨.exit id, a1, w1, hq, fun k' hk => .head step_scope (harr k' (by simp [exitTo, hk]))⟩
  | goto l' =>
    obtain ⟨rfl, hJ'⟩ := hq
    obtain ⟨e2, a2, w2, hq2, harr2⟩ := key _ a1 w1 rfl hJ'
    exact ⟨e2, a2, w2, hq2, .of_steps (.head step_scope (harr _ hg)) harr2⟩
  | ret => exact ⟨_, a1, w1, hq, .of_steps (.one step_scope) harr⟩
  | panic ch => exact ⟨_, a1, w1, hq, .of_steps (.one step_scope) harr⟩
  | outgrown => exact ⟨_, a1, w1, hq, .of_steps (.one step_scope) harr⟩

variable {N : FS} {L : List (Nat × Value)} {w0 : World} {S : Nat → Prop} {H H' : List Ent}
/-- Where a scope's jumps come to. -/
structure JmpK {X : Type} (N : FS) (Lx : X → List (Nat × Value)) (J : X → World → Prop) (a : Act) (w : World) : Prop where
  go : ∃ x, Fr N (Lx x) a ∧ J x w
structure JmpM {X : Type} (N : FS) (Lx : X → List (Nat × Value)) (J : X → World → Prop) (μ : X → Nat) (x : X) (a : Act) (w : World) : Prop where
  go : ∃ x', Fr N (Lx x') a ∧ J x' w ∧ μ x' < μ x
/-- A scope with one label to which the run jumps back; what is met at the first arrival is met as at each other. -/
theorem wpC_scope {X : Type} {c rest : Code} (l : Nat) (Lx : X → List (Nat × Value)) (J : X → World → Prop) (μ : X → Nat) (hf : findLabel c l = some rest)
    (pass : ∀ x w, J x w → wpC P none rest (Exit.jump l (JmpM N Lx J μ x) Q) N (Lx x) w)
    (first : (∀ x w, J x w → wpC P none rest (Exit.jump l (JmpK N Lx J) Q) N (Lx x) w) → wpC P none c (Exit.jump l (JmpK N Lx J) Q) N L w) : wpC P none (.scope c) Q N L w := ⟨fun a hF => by
  classical
  let p : Act → World → Nat → Prop := fun a w n => ∃ x, Fr N (Lx x) a ∧ J x w ∧ μ x = n
  have hmin : ∀ a w, (∃ n, p a w n) → ∃ m, p a w m ∧ ∀ k, p a w k → m ≤ k := fun a w ⟨n, hn⟩ => by
    induction n using Nat.strongRecOn with
    | _ n ih =>
      by_cases h : ∃ k, k < n ∧ p a w k
      · obtain ⟨k, hk, hp⟩ := h; exact ih k hk hp
      · exact ⟨n, hn, fun k hk => Nat.le_of_not_lt fun hlt => h ⟨k, hlt, hk⟩⟩
  let M : Act → World → Nat := fun a w => if h : ∃ n, p a w n then (hmin a w h).choose else 0
  refine wpo_scope l (JmpK N Lx J) M hf ((first fun x w hj => ⟨fun a hx => wpo_mono ((pass x w hj).go a hx) fun e a' w' he => ?_⟩).go a hF) fun a w ⟨x, hx, hj⟩ => ?_
  · cases e with
    | goto l' =>
      obtain ⟨h1, ⟨x', h2, h3, _⟩⟩ := he
      exact ⟨h1, ⟨x', h2, h3⟩⟩
    | _ => exact he
  · have hex : ∃ n, p a w n := ⟨μ x, x, hx, hj, rfl⟩
    obtain ⟨⟨y, hy, hjy, hM⟩, _⟩ := (hmin a w hex).choose_spec
    have hMa : M a w = μ y := by simp only [M, dif_pos hex]; exact hM.symm
    refine wpo_mono ((pass y w hjy).go a hy) fun e a' w' he => ?_
    cases e with
    | goto l' =>
      obtain ⟨h1, ⟨x', hF', hJ', hlt⟩⟩ := he
      refine ⟨h1, ⟨x', hF', hJ'⟩, ?_⟩
      have hex' : ∃ n, p a' w' n := ⟨μ x', x', hF', hJ', rfl⟩
      have := (hmin a' w' hex').choose_spec.2 (μ x') ⟨x', hF', hJ', rfl⟩
      have hMa' : M a' w' = (hmin a' w' hex').choose := by simp only [M, dif_pos hex']
      omega
    | _ => exact he⟩
theorem QH_jump {X : Type} {Lx : X → List (Nat × Value)} {J : X → World → Prop} {μ : X → Nat} {x : X} {l : Nat} (x' : X) (hs : Sub (Lx x') L) (hJ : J x' w) (hm : μ x' < μ x) : QH (Exit.jump l (JmpM N Lx J μ x) Q) (.goto l) N L w := ⟨fun a hF => ⟨rfl, ⟨x', hF.sub hs, hJ, hm⟩⟩⟩
theorem QH_jump0 {X : Type} {Lx : X → List (Nat × Value)} {J : X → World → Prop} {l : Nat} (x' : X) (hs : Sub (Lx x') L) (hJ : J x' w) : QH (Exit.jump l (JmpK N Lx J) Q) (.goto l) N L w := ⟨fun a hF => ⟨rfl, ⟨x', hF.sub hs, hJ⟩⟩⟩
theorem QH_jmp_normal {l : Nat} {J : Act → World → Prop} (k : QH Q .normal N L w) : QH (Exit.jump l J Q) .normal N L w := ⟨k.go⟩
theorem QH_jmp_ret {l : Nat} {J : Act → World → Prop} (k : QH Q .ret N L w) : QH (Exit.jump l J Q) .ret N L w := ⟨k.go⟩
theorem QH_jmp_exit {l id : Nat} {J : Act → World → Prop} (k : QH Q (.exit id) N L w) : QH (Exit.jump l J Q) (.exit id) N L w := ⟨k.go⟩
theorem QH_jmp_panic {l : Nat} {c : List PanicEntry} {J : Act → World → Prop} (k : QH Q (.panic c) N L w) : QH (Exit.jump l J Q) (.panic c) N L w := ⟨k.go⟩
theorem NL.jump {l : Nat} {J : Act → World → Prop} (h : NL Q) : NL (Exit.jump l J Q) := ⟨h.no⟩
theorem PF.jump {l : Nat} {J : Act → World → Prop} (h : PF Q) : PF (Exit.jump l J Q) := ⟨fun c a d v w hq => h.put c a d v w hq⟩

variable {ops : Array Oper} {rest : List Oper} {dn : Nat} {ty : TypeId} {pos : String} {af : Array Edge} {g : Option (Nat × Bool)}
/-! ### Rows -/
theorem row_block {v : Value} {e size n : Nat} {xs : List Value} (h : w.ownsRow 0 e size v n xs) {k : Nat} (hk : v.ownBlock = some k) : k < w.heap.size := (h.lt k hk).2
/-- append onto a row of one's own. -/
theorem wpS_append {t e size bytes n m c n' : Nat} {z : Value} {s x : Operand} {v : Value} {A : Option Addr} {xs news : List Value} {Hf : Value → List Ent} (E : Elem P t e z size bytes)
    (hg : wantB ops L g = some true) (hN : Nat.ble (dn + 1) N.n = true) (hs : ev L s = some v) (hx : ev L x = some (.slice A m c)) (hS : St0 S w0 w H) (hH : ∀ v', Pos H (.row v e size n xs) (Hf v') (.row v' e size n' (xs ++ news)))
    (hr : Rd w A news) (hlen : news.length = m * size) (h1 : ∀ u ∈ news, u.oneCell' = true) (hn : n' = n + m) (h63 : n' ≤ maxLen) (hbytes : n' * bytes ≤ 140737488355328)
    (k : ∀ A' c' w', n' ≤ c' → c' ≤ maxLen → St0 S w0 w' (Hf (.slice A' n' c')) → wpS P ops Q rest N ((dn, .slice A' n' c') :: L) w') :
    wpS P ops Q (⟨some dn, .call { callee := .builtin .append, args := #[s, x], argTypes := #[t, t] }, ty, pos, af, g⟩ :: rest) N L w := by
  subst hn
  obtain ⟨i, hi, _⟩ := (hH v).set
  have hown : w.ownsRow 0 e size v n xs := hS.ok _ (List.mem_of_getElem? hi)
  obtain ⟨v', w', hrun, h2, h3, h4⟩ := run_append_rd (P := P) E ty hown c hlen hr h1 h63 hbytes (Nat.zero_le _)
  obtain ⟨A', c', rfl, hc1, hc2⟩ := own_slice h2
  obtain ⟨j, hj, hHj⟩ := (hH (.slice A' (n + m) c')).set
  refine wpS_run hg rfl hN (fun ρ hρ => ?_) (k A' c' w' hc1 hc2 ?_)
  · simp only [execOp, resolve, invoke, builtin, Sem.run_bind, Sem.run_pure, Result.andThen_ok, List.map_toArray, List.map_cons, List.map_nil, hρ s v hs, hρ x _ hx, hrun]
  · rw [hHj]
    refine hS.change j hj h3.size ⟨h3.os, h3.tape, h3.output⟩ (fun k h5 h6 => h3.block k h6 (fun h7 => h5 h7.symm)) h2 (fun k hk => ?_)
    rcases h4 with h4 | h4
    · left; show v.ownBlock = some k; rw [← h4]; exact hk
    · right
      have h5 : (Value.slice A' (n + m) c').ownBlock = some k := hk
      rw [h4] at h5
      injection h5 with h5
      subst h5
      exact ⟨Nat.le_refl _, row_block h2 h4⟩
/-- append onto nil. -/
theorem wpS_append_nil {t e size bytes m c : Nat} {z : Value} {s x : Operand} {A : Option Addr} {news : List Value} (E : Elem P t e z size bytes)
    (hg : wantB ops L g = some true) (hN : Nat.ble (dn + 1) N.n = true) (hs : ev L s = some (.slice none 0 0)) (hx : ev L x = some (.slice A m c)) (hS : St0 S w0 w H)
    (hr : Rd w A news) (hlen : news.length = m * size) (h1 : ∀ u ∈ news, u.oneCell' = true) (h63 : m ≤ maxLen) (hbytes : m * bytes ≤ 140737488355328)
    (k : ∀ A' c' w', m ≤ c' → c' ≤ maxLen → St0 S w0 w' (.row (.slice A' m c') e size m news :: H) → wpS P ops Q rest N ((dn, .slice A' m c') :: L) w') :
    wpS P ops Q (⟨some dn, .call { callee := .builtin .append, args := #[s, x], argTypes := #[t, t] }, ty, pos, af, g⟩ :: rest) N L w := by
  obtain ⟨v', w', hrun, h2, h3, h4⟩ := run_append_rd (P := P) E ty (World.ownsRow_nil w w.heap.size e size) c hlen hr h1 (by omega) (by simpa using hbytes) (Nat.le_refl _)
  rw [Nat.zero_add] at h2
  rw [List.nil_append] at h2
  obtain ⟨A', c', rfl, hc1, hc2⟩ := own_slice h2
  have hb : Below w.heap.size w w' := (Below.refl _ _).grown h3 (Nat.le_refl _) (fun k hk => by cases hk)
  refine wpS_run hg rfl hN (fun ρ hρ => ?_) (k A' c' w' hc1 hc2 (hS.add hb (own_base h2 (Nat.zero_le _)) (fun k hk => ?_)))
  · simp only [execOp, resolve, invoke, builtin, Sem.run_bind, Sem.run_pure, Result.andThen_ok, List.map_toArray, List.map_cons, List.map_nil, hρ s _ hs, hρ x _ hx, hrun]
  · exact ⟨(h2.lt k hk).1, (h2.lt k hk).2⟩
/-- An empty slice that is none of nil. -/
theorem wpS_slice0 {t e size : Nat} (ht0 : ElC P t e size) (hg : wantB ops L g = some true) (hN : Nat.ble (dn + 1) N.n = true) (hS : St0 S w0 w H)
    (k : ∀ b w', St0 S w0 w' (.row (.slice (some ⟨b, 0, none⟩) 0 0) e size 0 [] :: H) → Below w.heap.size w w' → wpS P ops Q rest N ((dn, .slice (some ⟨b, 0, none⟩) 0 0) :: L) w') :
    wpS P ops Q (⟨some dn, .buildSlice t 0 #[], ty, pos, af, g⟩ :: rest) N L w := by
  have hb : Below w.heap.size w (w.alloc (.cells #[] e)) := (Below.refl _ _).alloc (Nat.le_refl _) _
  refine wpS_run hg rfl hN (fun ρ hρ => ?_) (k w.heap.size (w.alloc (.cells #[] e)) (hS.add hb ⟨by simp, .inr ⟨w.heap.size, 0, #[], rfl, Nat.zero_le _, heap_alloc_new w _, Nat.le_refl _, by simp, by simp, by simp⟩⟩ (fun k hk => ?_)) hb)
  · have ht := ht0.h
    unfold elemOfSlice at ht
    split at ht
    · rename_i e' hu
      split at ht
      · rename_i i hi
        simp only [Option.some.injEq, Prod.mk.injEq] at ht
        obtain ⟨rfl, rfl⟩ := ht
        have h0 : Array.range 0 = #[] := Array.eq_empty_of_size_eq_zero (by simp)
        simp [execOp, Instr.buildSlice, run_underlying hu, sizeOf, typeInfo, hi, Instr.fill, newRow, h0]
      · cases ht
    · cases ht
  · have : k = w.heap.size := by have h5 : (Value.slice (some ⟨w.heap.size, 0, none⟩) 0 0).ownBlock = some k := hk; injection h5 with h5; exact h5.symm
    subst this; simp
/-- A slice laid out: its cells. -/
inductive Flat : List Value → List Value → Prop
  | nil : Flat [] []
  | agg {cs : List Value} {vs rs : List Value} (h : Flat vs rs) : Flat (.agg cs.toArray :: vs) (cs ++ rs)
  | one {v : Value} {vs rs : List Value} (hv : v.oneCell' = true) (h : Flat vs rs) : Flat (v :: vs) (v :: rs)
theorem wpS_sliceN {t e size n : Nat} {ps : List (Nat × Operand)} {vs cells zs : List Value} {z : Value} {ie : TypeInfo} (hg : wantB ops L g = some true) (hN : Nat.ble (dn + 1) N.n = true) (hu : P.underlying t = some (.slice e)) (hie : P.info? e = some ie) (hz : ie.zero = some z)
    (hp : evs L (ps.map (·.2)) = some vs) (hsm : ¬ n * ie.size > 2 ^ 24) (hp0 : ¬ n * ie.size = 0)
    (hfill : Instr.fill (fun i => some (i * ie.size, ie.size)) ((Array.range (n * ie.size)).map (z.cells[· % z.cells.size]!)) ((ps.map (·.1)).zip vs) = some cells.toArray) (hS : St0 S w0 w H)
    (k : ∀ b w', St0 S w0 w' (.box b cells e :: H) → Below w.heap.size w w' → wpS P ops Q rest N ((dn, .slice (some ⟨b, 0, none⟩) n n) :: L) w') :
    wpS P ops Q (⟨some dn, .buildSlice t n ps.toArray, ty, pos, af, g⟩ :: rest) N L w := by
  refine wpS_run hg rfl hN (fun ρ hρ => ?_) (k w.heap.size (w.alloc (.cells cells.toArray e (0, 0))) (hS.box cells e) ((Below.refl _ _).alloc (Nat.le_refl _) _))
  have e1 : ∀ (ps : List (Nat × Operand)) (vs : List Value), evs L (ps.map (·.2)) = some vs → ps.map (fun (i, x) => (i, ρ x)) = (ps.map (·.1)).zip vs := by
    intro ps
    induction ps with
    | nil => intro vs h; simp
    | cons p ps ih =>
      intro vs h
      obtain ⟨i, x⟩ := p
      simp only [List.map_cons, evs] at h
      cases h1 : ev L x with
      | none => simp [h1] at h
      | some v =>
        cases h2 : evs L (ps.map (·.2)) with
        | none => simp [h1, h2] at h
        | some us =>
          simp only [h1, h2, Option.some.injEq] at h
          subst h
          simp [ih us h2, hρ x v h1]
  have hl : (ps.toArray.map fun (i, x) => (i, ρ x)) = ((ps.map (·.1)).zip vs).toArray := by rw [← e1 ps vs hp]; simp
  have hrun := run_buildSlice (P := P) w t e n ((ps.map (·.1)).zip vs).toArray cells.toArray ie z hu hie hz hsm hp0 (by simpa using hfill)
  simp only [execOp, hl, Sem.run_bind, hrun, Result.andThen_ok, Sem.run_pure]
theorem St0.box_rd {b T : Nat} {cs : List Value} (hS : St0 S w0 w H) (hH : Has H (.box b cs T)) : Rd w (some ⟨b, 0, none⟩) cs := fun j u hj => by
  have hok : w.heap[b]? = some (.cells cs.toArray T (0, 0)) := hS.ok _ hH.mem
  exact ⟨b, 0, rfl, (Array.getElem?_eq_some_iff.1 hok).1, by rw [Nat.zero_add, box_cell (T := T) hok]; exact hj⟩
theorem St0.row_rd {A : Option Addr} {n c e size : Nat} {xs : List Value} (hS : St0 S w0 w H) (hH : Has H (.row (.slice A n c) e size n xs)) : Rd w A xs := Rd.of_own (hS.ok _ hH.mem)
/-- A row goes back. -/
theorem St0.row_sl {A : Option Addr} {n c e size : Nat} {xs : List Value} (hS : St0 All w0 w H) (hH : Has H (.row (.slice A n c) e size n xs)) (hc : n ≤ c ∧ c ≤ maxLen) : Sl w0 w A n c size xs := by
  have hok : w.ownsRow 0 e size (.slice A n c) n xs := hS.ok _ hH.mem
  refine ⟨hok.1, hc.1, hc.2, Rd.of_own hok, fun a ha => ?_⟩
  have := hS.rng _ hH.mem a.block (by subst ha; rfl)
  exact ⟨Nat.le_of_not_lt fun hlt => this.2 hlt trivial, this.1⟩

theorem yv_eqlNil {L : List (Nat × Value)} {R : World → Prop} {d : Option Nat} {x y : Operand} {t t' e n c : Nat} {A : Option Addr} (ht : P.underlying t = some (.slice e)) (hx : ev L x = some (.slice A n c)) (hy : ev L y = some (.slice none 0 0)) : Yv P L R ⟨d, .binOp .eql t x y t', ty, pos, af, g⟩ (.bool A.isNone) := Yv.mk fun w1 _ ρ hρ => by
  simp only [execOp, hρ x _ hx, hρ y _ hy, eqGuard]
  simp [binOp, run_equal_slice_nil w1 t e A n c ht]
theorem yv_cap {L : List (Nat × Value)} {R : World → Prop} {d : Option Nat} {x : Operand} {t e n c k : Nat} {A : Option Addr} (ht0 : ElC P t e k) (hx : ev L x = some (.slice A n c)) : Yv P L R ⟨d, .call { callee := .builtin .cap, args := #[x], argTypes := #[t] }, ty, pos, af, g⟩ (.int .i64 c) := Yv.mk fun w1 _ ρ hρ => by
  have ht := ht0.h
  unfold elemOfSlice at ht
  split at ht
  · rename_i e' hu
    simp [execOp, resolve, invoke, builtin, hρ x _ hx, Builtin.cap_, run_underlying hu, goInt]
  · cases ht
/-! ### '==' of structs -/
theorem yv_eqlS {L : List (Nat × Value)} {R : World → Prop} {d : Option Nat} {x y : Operand} {t t' : TypeId} {xs ys : Array Value} {b : Bool} (hm : P.eqGuardType P.depth t = false) (hx : ev L x = some (.agg xs)) (hy : ev L y = some (.agg ys)) (hE : ∀ w, (Op.equalIn 10000 t (.agg xs) (.agg ys)).run P w = .ok b w) : Yv P L R ⟨d, .binOp .eql t x y t', ty, pos, af, g⟩ (.bool b) := Yv.mk fun w1 _ ρ hρ => by
  simp only [execOp, hρ x _ hx, hρ y _ hy, Sem.run_bind, run_eqGuard_agg w1 .eql t x y xs ys hm, Result.andThen_ok, run_eql_struct, hE w1, Sem.run_pure]
theorem yv_neqS {L : List (Nat × Value)} {R : World → Prop} {d : Option Nat} {x y : Operand} {t t' : TypeId} {xs ys : Array Value} {b : Bool} (hm : P.eqGuardType P.depth t = false) (hx : ev L x = some (.agg xs)) (hy : ev L y = some (.agg ys)) (hE : ∀ w, (Op.equalIn 10000 t (.agg xs) (.agg ys)).run P w = .ok b w) : Yv P L R ⟨d, .binOp .neq t x y t', ty, pos, af, g⟩ (.bool (!b)) := Yv.mk fun w1 _ ρ hρ => by
  simp only [execOp, hρ x _ hx, hρ y _ hy, Sem.run_bind, run_eqGuard_agg w1 .neq t x y xs ys hm, Result.andThen_ok, run_neq_struct, hE w1, Sem.run_pure]
end
end Go.Proofs.Ythngkojbokknfaa
/- Facts of the program's types. -/
namespace Go.Proofs.Ythngkojbokknfaa
open Go
theorem sc_1 : ScC Try.prog 1 := ⟨by kernel_rfl⟩
theorem sc_2 : ScC Try.prog 2 := ⟨by kernel_rfl⟩
theorem sc_3 : ScC Try.prog 3 := ⟨by kernel_rfl⟩
theorem sc_4 : ScC Try.prog 4 := ⟨by kernel_rfl⟩
theorem sc_5 : ScC Try.prog 5 := ⟨by kernel_rfl⟩
theorem sc_9 : ScC Try.prog 9 := ⟨by kernel_rfl⟩
theorem sc_12 : ScC Try.prog 12 := ⟨by kernel_rfl⟩
theorem sc_15 : ScC Try.prog 15 := ⟨by kernel_rfl⟩
theorem sc_16 : ScC Try.prog 16 := ⟨by kernel_rfl⟩
theorem sc_17 : ScC Try.prog 17 := ⟨by kernel_rfl⟩
theorem sc_21 : ScC Try.prog 21 := ⟨by kernel_rfl⟩
theorem sc_24 : ScC Try.prog 24 := ⟨by kernel_rfl⟩
theorem sc_27 : ScC Try.prog 27 := ⟨by kernel_rfl⟩
theorem sc_28 : ScC Try.prog 28 := ⟨by kernel_rfl⟩
theorem sc_29 : ScC Try.prog 29 := ⟨by kernel_rfl⟩
theorem sc_32 : ScC Try.prog 32 := ⟨by kernel_rfl⟩
theorem sc_34 : ScC Try.prog 34 := ⟨by kernel_rfl⟩
theorem sc_35 : ScC Try.prog 35 := ⟨by kernel_rfl⟩
theorem sc_36 : ScC Try.prog 36 := ⟨by kernel_rfl⟩
theorem sc_38 : ScC Try.prog 38 := ⟨by kernel_rfl⟩
theorem sc_39 : ScC Try.prog 39 := ⟨by kernel_rfl⟩
theorem sc_41 : ScC Try.prog 41 := ⟨by kernel_rfl⟩
theorem sc_42 : ScC Try.prog 42 := ⟨by kernel_rfl⟩
theorem sc_43 : ScC Try.prog 43 := ⟨by kernel_rfl⟩
theorem sc_44 : ScC Try.prog 44 := ⟨by kernel_rfl⟩
theorem sc_45 : ScC Try.prog 45 := ⟨by kernel_rfl⟩
theorem sc_46 : ScC Try.prog 46 := ⟨by kernel_rfl⟩
theorem sc_47 : ScC Try.prog 47 := ⟨by kernel_rfl⟩
theorem sc_48 : ScC Try.prog 48 := ⟨by kernel_rfl⟩
theorem sc_51 : ScC Try.prog 51 := ⟨by kernel_rfl⟩
theorem sc_52 : ScC Try.prog 52 := ⟨by kernel_rfl⟩
theorem sc_54 : ScC Try.prog 54 := ⟨by kernel_rfl⟩
theorem sc_55 : ScC Try.prog 55 := ⟨by kernel_rfl⟩
theorem sc_56 : ScC Try.prog 56 := ⟨by kernel_rfl⟩
theorem sc_57 : ScC Try.prog 57 := ⟨by kernel_rfl⟩
theorem sc_58 : ScC Try.prog 58 := ⟨by kernel_rfl⟩
theorem sc_59 : ScC Try.prog 59 := ⟨by kernel_rfl⟩
theorem sc_60 : ScC Try.prog 60 := ⟨by kernel_rfl⟩
theorem sc_61 : ScC Try.prog 61 := ⟨by kernel_rfl⟩
theorem sc_62 : ScC Try.prog 62 := ⟨by kernel_rfl⟩
theorem sc_63 : ScC Try.prog 63 := ⟨by kernel_rfl⟩
theorem sc_64 : ScC Try.prog 64 := ⟨by kernel_rfl⟩
theorem sc_65 : ScC Try.prog 65 := ⟨by kernel_rfl⟩
theorem sc_66 : ScC Try.prog 66 := ⟨by kernel_rfl⟩
theorem sc_67 : ScC Try.prog 67 := ⟨by kernel_rfl⟩
theorem sc_68 : ScC Try.prog 68 := ⟨by kernel_rfl⟩
theorem sc_69 : ScC Try.prog 69 := ⟨by kernel_rfl⟩
theorem sc_70 : ScC Try.prog 70 := ⟨by kernel_rfl⟩
theorem sc_71 : ScC Try.prog 71 := ⟨by kernel_rfl⟩
theorem sc_72 : ScC Try.prog 72 := ⟨by kernel_rfl⟩
theorem sc_73 : ScC Try.prog 73 := ⟨by kernel_rfl⟩
theorem sc_74 : ScC Try.prog 74 := ⟨by kernel_rfl⟩
theorem sc_75 : ScC Try.prog 75 := ⟨by kernel_rfl⟩
theorem sc_76 : ScC Try.prog 76 := ⟨by kernel_rfl⟩
theorem sc_77 : ScC Try.prog 77 := ⟨by kernel_rfl⟩
theorem sc_78 : ScC Try.prog 78 := ⟨by kernel_rfl⟩
theorem sc_79 : ScC Try.prog 79 := ⟨by kernel_rfl⟩
theorem sc_80 : ScC Try.prog 80 := ⟨by kernel_rfl⟩
theorem sc_82 : ScC Try.prog 82 := ⟨by kernel_rfl⟩
theorem sc_84 : ScC Try.prog 84 := ⟨by kernel_rfl⟩
theorem sc_86 : ScC Try.prog 86 := ⟨by kernel_rfl⟩
theorem sc_87 : ScC Try.prog 87 := ⟨by kernel_rfl⟩
theorem sc_93 : ScC Try.prog 93 := ⟨by kernel_rfl⟩
theorem sc_94 : ScC Try.prog 94 := ⟨by kernel_rfl⟩
theorem sc_97 : ScC Try.prog 97 := ⟨by kernel_rfl⟩
theorem sc_98 : ScC Try.prog 98 := ⟨by kernel_rfl⟩
theorem sc_103 : ScC Try.prog 103 := ⟨by kernel_rfl⟩
theorem zc_2 : ZcC Try.prog 2 [.int .i64 0] := ⟨by kernel_rfl⟩
theorem zc_3 : ZcC Try.prog 3 [.int .i64 0] := ⟨by kernel_rfl⟩
theorem zc_4 : ZcC Try.prog 4 [.bool false] := ⟨by kernel_rfl⟩
theorem zc_5 : ZcC Try.prog 5 [.int .u8 0] := ⟨by kernel_rfl⟩
theorem zc_12 : ZcC Try.prog 12 [.int .u64 0] := ⟨by kernel_rfl⟩
theorem zc_15 : ZcC Try.prog 15 [.pointer none] := ⟨by kernel_rfl⟩
theorem zc_16 : ZcC Try.prog 16 [.pointer none] := ⟨by kernel_rfl⟩
theorem zc_17 : ZcC Try.prog 17 [.pointer none] := ⟨by kernel_rfl⟩
theorem zc_21 : ZcC Try.prog 21 [.int .i32 0] := ⟨by kernel_rfl⟩
theorem ag_23 : AgC Try.prog 23 5 := ⟨by kernel_rfl⟩
theorem fo_23_0 : FoC Try.prog 23 0 0 := ⟨by kernel_rfl⟩
theorem fo_23_1 : FoC Try.prog 23 1 1 := ⟨by kernel_rfl⟩
theorem fo_23_2 : FoC Try.prog 23 2 2 := ⟨by kernel_rfl⟩
theorem fo_23_3 : FoC Try.prog 23 3 3 := ⟨by kernel_rfl⟩
theorem fo_23_4 : FoC Try.prog 23 4 4 := ⟨by kernel_rfl⟩
theorem zc_23 : ZcC Try.prog 23 [.int .i64 0, .int .i64 0, .int .i64 0, .int .i64 0, .bool false] := ⟨by kernel_rfl⟩
theorem el_24 : ElC Try.prog 24 50 3 := ⟨by kernel_rfl⟩
theorem zc_24 : ZcC Try.prog 24 [.slice none 0 0] := ⟨by kernel_rfl⟩
theorem ag_26 : AgC Try.prog 26 8 := ⟨by kernel_rfl⟩
theorem fo_26_0 : FoC Try.prog 26 0 0 := ⟨by kernel_rfl⟩
theorem fo_26_1 : FoC Try.prog 26 1 5 := ⟨by kernel_rfl⟩
theorem fo_26_2 : FoC Try.prog 26 2 6 := ⟨by kernel_rfl⟩
theorem fo_26_3 : FoC Try.prog 26 3 7 := ⟨by kernel_rfl⟩
theorem zc_26 : ZcC Try.prog 26 [.int .i64 0, .int .i64 0, .int .i64 0, .int .i64 0, .bool false, .slice none 0 0, .int .i64 0, .int .i64 0] := ⟨by kernel_rfl⟩
theorem el_27 : ElC Try.prog 27 31 10 := ⟨by kernel_rfl⟩
theorem zc_27 : ZcC Try.prog 27 [.slice none 0 0] := ⟨by kernel_rfl⟩
theorem ag_31 : AgC Try.prog 31 10 := ⟨by kernel_rfl⟩
theorem fo_31_0 : FoC Try.prog 31 0 0 := ⟨by kernel_rfl⟩
theorem fo_31_1 : FoC Try.prog 31 1 1 := ⟨by kernel_rfl⟩
theorem fo_31_2 : FoC Try.prog 31 2 2 := ⟨by kernel_rfl⟩
theorem fo_31_3 : FoC Try.prog 31 3 3 := ⟨by kernel_rfl⟩
theorem fo_31_4 : FoC Try.prog 31 4 8 := ⟨by kernel_rfl⟩
theorem fo_31_5 : FoC Try.prog 31 5 9 := ⟨by kernel_rfl⟩
theorem zc_31 : ZcC Try.prog 31 [.int .u8 0, .slice none 0 0, .int .i64 0, .int .i64 0, .int .i64 0, .int .i64 0, .int .i64 0, .bool false, .int .i64 0, .int .i64 0] := ⟨by kernel_rfl⟩
theorem zc_32 : ZcC Try.prog 32 [.int .i64 0] := ⟨by kernel_rfl⟩
theorem ag_50 : AgC Try.prog 50 3 := ⟨by kernel_rfl⟩
theorem fo_50_0 : FoC Try.prog 50 0 0 := ⟨by kernel_rfl⟩
theorem fo_50_1 : FoC Try.prog 50 1 1 := ⟨by kernel_rfl⟩
theorem fo_50_2 : FoC Try.prog 50 2 2 := ⟨by kernel_rfl⟩
theorem zc_50 : ZcC Try.prog 50 [.int .i64 0, .int .i64 0, .int .i64 0] := ⟨by kernel_rfl⟩
theorem zc_62 : ZcC Try.prog 62 [.pointer none] := ⟨by kernel_rfl⟩
theorem el_74 : ElC Try.prog 74 3 1 := ⟨by kernel_rfl⟩
theorem zc_74 : ZcC Try.prog 74 [.slice none 0 0] := ⟨by kernel_rfl⟩
theorem zc_76 : ZcC Try.prog 76 [.map none] := ⟨by kernel_rfl⟩
theorem zc_78 : ZcC Try.prog 78 [.pointer none] := ⟨by kernel_rfl⟩
theorem el_79 : ElC Try.prog 79 24 1 := ⟨by kernel_rfl⟩
theorem zc_79 : ZcC Try.prog 79 [.slice none 0 0] := ⟨by kernel_rfl⟩
theorem ag_90 : AgC Try.prog 90 0 := ⟨by kernel_rfl⟩
theorem zc_90 : ZcC Try.prog 90 [] := ⟨by kernel_rfl⟩
theorem zc_94 : ZcC Try.prog 94 [.int .u32 0] := ⟨by kernel_rfl⟩
theorem zc_98 : ZcC Try.prog 98 [.pointer none] := ⟨by kernel_rfl⟩
end Go.Proofs.Ythngkojbokknfaa
/- Tuples, as plain numbers. -/
namespace Go.Proofs.Ythngkojbokknfaa
open Go Go.RowKit

structure Tu where
  snap : St
  log : List En
  term : Int
  vote : Int
deriving DecidableEq
/-- The term of the last entry, or t. -/
def lastT (t : Int) : List En → Int
  | [] => t
  | e :: l => lastT e.term l
def logB (t : Int) : List En → Bool
  | [] => true
  | e :: l => rightB e && decide (t ≤ e.term) && logB e.term l
def tupB (t : Tu) : Bool := fineB t.snap && decide (t.snap.index ≤ 1073740824 ∧ t.log.length ≤ 200 ∧ 0 ≤ t.vote ∧ t.vote ≤ 5 ∧ t.term ≤ 1073741824) && logB t.snap.term t.log && decide (lastT t.snap.term t.log ≤ t.term)
/-- The last index. -/
def Tu.last (t : Tu) : Int := t.snap.index + t.log.length
theorem lastT_snoc (t : Int) (l : List En) (e : En) : lastT t (l ++ [e]) = e.term := by
  induction l generalizing t with
  | nil => rfl
  | cons d l ih => exact ih _
theorem logB_snoc (t : Int) (l : List En) (e : En) : logB t (l ++ [e]) = (logB t l && (rightB e && decide (lastT t l ≤ e.term))) := by
  induction l generalizing t with
  | nil => rw [Bool.eq_iff_iff]; simp [logB, lastT]; intro _; exact ⟨fun h => decide_eq_true h, fun h => of_decide_eq_true h⟩
  | cons d l ih => rw [Bool.eq_iff_iff]; simp [logB, lastT, ih, and_assoc]; intro _ _ _ _; exact ⟨fun h => decide_eq_true h, fun h => of_decide_eq_true h⟩
theorem logB_take (t : Int) (l : List En) (k : Nat) (h : logB t l = true) : logB t (l.take k) = true := by
  induction l generalizing t k with
  | nil => simpa using h
  | cons d l ih =>
    cases k with
    | zero => rfl
    | succ k =>
      simp only [logB, Bool.and_eq_true] at h
      simp only [List.take_succ_cons, logB, Bool.and_eq_true]
      exact ⟨h.1, ih _ _ h.2⟩
/-- At a place a log is not right. -/
theorem logB_false (t : Int) (l : List En) (h : logB t l = false) : ∃ k, ∃ e, l[k]? = some e ∧ logB t (l.take k) = true ∧ (rightB e && decide (lastT t (l.take k) ≤ e.term)) = false := by
  induction l generalizing t with
  | nil => simp [logB] at h
  | cons d l ih =>
    cases hd : (rightB d && decide (t ≤ d.term)) with
    | false => exact ⟨0, d, rfl, rfl, by simpa [lastT] using hd⟩
    | true =>
      have : logB d.term l = false := by simpa [logB, hd] using h
      obtain ⟨k, e, h1, h2, h3⟩ := ih _ this
      exact ⟨k + 1, e, by simpa using h1, by simp [logB, hd, h2], by simpa [lastT] using h3⟩
/-- What must leaves by. -/
def badP : List PanicEntry := [{ v := .iface 32 (.int .i64 2), recovered := false }]
/-- A tuple's cells. -/
def tcs (s : St) (A : Option Addr) (n c : Nat) (t v : Int) : List Value := [.int .i64 s.index, .int .i64 s.term, .int .i64 s.sum, .int .i64 s.level, .bool s.final, .slice A n c, .int .i64 t, .int .i64 v]
theorem Rd.entR {w : World} {A : Option Addr} {l : List En} (h : Rd w A (ens l)) {k : Nat} {e : En} (hk : l[k]? = some e) : ∃ b o, A = some ⟨b, o, none⟩ ∧ b < w.heap.size ∧ w.rangeAt b (o + k * 3) [.int .i64 e.term, .int .i64 e.kind, .int .i64 e.value] := by
  obtain ⟨b, o, e', hA, hb, he, d0, d1, d2⟩ := h.entry (k := k) (List.getElem?_eq_some_iff.1 hk).1
  rw [hk] at he
  injection he with he
  subst he
  refine ⟨b, o, hA, hb, fun j v hj => ?_⟩
  match j, hj with
  | 0, hj => simp at hj; subst hj; exact d0
  | 1, hj => simp at hj; subst hj; exact d1
  | 2, hj => simp at hj; subst hj; exact d2
end Go.Proofs.Ythngkojbokknfaa
/- Arguments opened: tuples, and what is done. -/
namespace Go.Proofs.Ythngkojbokknfaa
open Go Go.ChangeShapes Go.WideShapes Go.ChangeAt Go.RowKit

/-- A row's cell. -/
theorem flat_get {α β : Type} (f : α → List β) (k : Nat) (hf : ∀ a, (f a).length = k) (l : List α) (i : Nat) (a : α) (ha : l[i]? = some a) (j : Nat) (hj : j < k) : (l.flatMap f)[i * k + j]? = (f a)[j]? := by
  induction l generalizing i with
  | nil => simp at ha
  | cons b l ih =>
    cases i with
    | zero =>
      simp only [List.getElem?_cons_zero, Option.some.injEq] at ha
      subst ha
      rw [List.flatMap_cons, List.getElem?_append_left (by rw [hf]; omega)]
      simp
    | succ i =>
      rw [List.getElem?_cons_succ] at ha
      rw [List.flatMap_cons, List.getElem?_append_right (by rw [hf, Nat.succ_mul]; omega), hf]
      have : (i + 1) * k + j - k = i * k + j := by rw [Nat.succ_mul]; omega
      rw [this]
      exact ih i ha
theorem flat_len {α β : Type} (f : α → List β) (k : Nat) (hf : ∀ a, (f a).length = k) (l : List α) : (l.flatMap f).length = l.length * k := by
  induction l with
  | nil => simp
  | cons b l ih => rw [List.flatMap_cons, List.length_append, hf, ih, List.length_cons, Nat.succ_mul]; omega
/-- A row of things that lie in so many cells each: one of them. -/
theorem Rd.flat {α : Type} {w : World} {A : Option Addr} {f : α → List Value} {k : Nat} (hk : 0 < k) (hf : ∀ a, (f a).length = k) {l : List α} (h : Rd w A (l.flatMap f)) {i : Nat} {a : α} (ha : l[i]? = some a) :
    ∃ b o, A = some ⟨b, o, none⟩ ∧ b < w.heap.size ∧ w.rangeAt b (o + i * k) (f a) := by
  have hl := hf a
  obtain ⟨v0, hv0⟩ : ∃ v0, (f a)[0]? = some v0 := ⟨_, List.getElem?_eq_getElem (by omega)⟩
  obtain ⟨b, o, hA, hb, _⟩ := h (i * k + 0) v0 (by rw [flat_get f k hf l i a ha 0 hk]; exact hv0)
  refine ⟨b, o, hA, hb, fun j v hj => ?_⟩
  have hjk := (List.getElem?_eq_some_iff.1 hj).1
  obtain ⟨b', o', hA', _, hc⟩ := h (i * k + j) v (by rw [flat_get f k hf l i a ha j (by omega)]; exact hj)
  rw [hA] at hA'
  injection hA' with hA'
  injection hA' with h1 h2
  subst h1 h2
  rw [Nat.add_assoc]
  exact hc

section
variable {P : Program} {H : Type} {enc : TypeId × Value → H} {W : World} {base0 : Nat} {sp : Nat → Bool} {held : Bool} {base : Nat}

/-- A slice opened, whatever its elements are. -/
theorem trod_rows {α : Type} [Inhabited α] (f : α → List Value) (p : α → Prop) (k : Nat) (hk : 0 < k) (hf : ∀ x, (f x).length = k) {T E : TypeId} (hT : P.underlying T = some (.slice E)) (hc : P.cellsOf E = k)
    (hE : ∀ n cs y, DataW.trod enc P W base0 sp held n E cs = some y → ∃ x, p x ∧ cs = f x) {fuel : Nat} {cs : List Value} {x : DataW H × List MemPlace} (h : DataW.trod enc P W base0 sp held fuel T cs = some x) :
    ∃ A c, ∃ l : List α, cs = [.slice A l.length c] ∧ l.length ≤ c ∧ c ≤ maxLen ∧ Rd W A (l.flatMap f) ∧ ∀ e ∈ l, p e := by
  rcases DataW.trod_slice hT h with ⟨rfl, _⟩ | ⟨a, len, cap, elems, rest, n, _, rfl, _, _, hlc, hcm, hel, hi, _⟩
  · exact ⟨none, 0, [], rfl, Nat.le_refl _, Nat.zero_le _, Rd.nil _ _, by simp⟩
  · rw [hc] at hi
    have each : ∀ r, r < len → ∃ e : α, p e ∧ ∀ j, j < k → W.cell? ((a.add (r * k)).add j) = (f e)[j]? := fun r hr => by
      have h2 := hi r hr
      have h3 : elems[r]? = some (elems[r]'(by omega)) := List.getElem?_eq_getElem (by omega)
      rw [h3, Option.bind_eq_some_iff] at h2
      obtain ⟨cs, hcs, ht⟩ := h2
      obtain ⟨_, _, hcell⟩ := World.cells?_some hcs
      obtain ⟨e, he, rfl⟩ := hE _ _ _ ht
      exact ⟨e, he, hcell⟩
    obtain ⟨g, hgs⟩ := choose_below each
    have hlen : ((List.range len).map g).length = len := by simp
    obtain ⟨ab, ao, spot⟩ := a
    refine ⟨some ⟨ab, ao, spot⟩, cap, (List.range len).map g, by rw [hlen], by omega, hcm, fun j u hj => ?_, fun e he => ?_⟩
    · have hjl : j < len * k := by
        have := (List.getElem?_eq_some_iff.1 hj).1
        rw [flat_len f k hf, hlen] at this
        exact this
      have hr : j / k < len := Nat.div_lt_of_lt_mul (by rw [Nat.mul_comm]; exact hjl)
      have hm : j % k < k := Nat.mod_lt _ hk
      have hjd : j / k * k + j % k = j := by rw [Nat.mul_comm]; exact Nat.div_add_mod j k
      obtain ⟨_, gc⟩ := hgs (j / k) hr
      have gj := gc (j % k) hm
      have hg : ((List.range len).map g)[j / k]? = some (g (j / k)) := by simp [hr]
      have hj2 := flat_get f k hf _ _ _ hg (j % k) hm
      rw [hjd, hj] at hj2
      rw [← hj2] at gj
      have hspot : spot = none := by
        have g0 := (hgs 0 (Nat.lt_of_le_of_lt (Nat.zero_le _) hr)).2 0 hk
        rw [List.getElem?_eq_getElem (by rw [hf]; exact hk)] at g0
        have := World.cell?_spot g0
        simpa [Addr.add] using this
      subst hspot
      simp only [Addr.add_lit] at gj
      refine ⟨ab, ao, rfl, World.block_lt_of_cell? W _ gj, ?_⟩
      rw [Nat.add_assoc, hjd] at gj
      exact gj
    · obtain ⟨r, hr, rfl⟩ := List.mem_map.1 he
      exact (hgs r (by simpa using hr)).1
/-- A slice that is a part of a struct lies in the world. -/
theorem okWide_part {t u e : TypeId} {fs : Array Field} {ts : List TypeId} {l : List Value} {i n c : Nat} {a : Addr} (ht : P.underlying t = some (.struct fs)) (hts : P.cellTypes P.depth t = some ts) (hu : ts[i]? = some u) (hlen : l.length = ts.length) (hs : P.underlying u = some (.slice e))
    (h : Value.okWide P W .any base t (.agg l.toArray)) (hi : l[i]? = some (.slice (some a) n c)) : a.block < W.heap.size := by
  simp only [Value.okWide, ht] at h
  obtain ⟨cs, h1, _, ts', h3, _, h5⟩ := h
  injection h1 with h1
  subst h1
  rw [hts] at h3
  injection h3 with h3
  subst h3
  obtain ⟨u', hu', hc⟩ := h5 i _ (by simpa using hi)
  have hil := (List.getElem?_eq_some_iff.1 hi).1
  rw [Nat.mod_eq_of_lt (by omega), hu] at hu'
  injection hu' with hu'
  subst hu'
  simp only [Cell.okWide, hs, Cell.ok, World.has] at hc
  obtain ⟨_, _, _, _, row, cells, hsh, _⟩ := hc
  unfold World.shape? at hsh
  rcases Nat.lt_or_ge a.block W.heap.size with hlt | hge
  · exact hlt
  · rw [Array.getElem?_eq_none hge] at hsh
    simp at hsh
end

section
variable {H : Type} {enc : TypeId × Value → H} {W : World} {base0 : Nat} {sp : Nat → Bool} {held : Bool} {base : Nat}

theorem trod_tuple {fuel : Nat} {cs : List Value} {x : DataW H × List MemPlace} (h : DataW.trod enc Try.prog W base0 sp held fuel 26 cs = some x) :
    ∃ A c, ∃ x : Tu, cs = [.int .i64 x.snap.index, .int .i64 x.snap.term, .int .i64 x.snap.sum, .int .i64 x.snap.level, .bool x.snap.final, .slice A x.log.length c, .int .i64 x.term, .int .i64 x.vote] ∧ x.log.length ≤ c ∧ c ≤ maxLen ∧ Rd W A (ens x.log) ∧ x.snap.ok ∧ (∀ e ∈ x.log, e.ok) ∧ I64 x.term ∧ I64 x.vote := by
  obtain ⟨xs, n, _, _, hl, hlen, hf⟩ := DataW.trod_struct Try.underlying26 h
  rw [show Try.prog.cellsOf 26 = 8 by kernel_rfl] at hl
  have hlen' : xs.length = 4 := hlen
  have hc : Try.prog.cellsOf 3 = 1 := by kernel_rfl
  have hcs : Try.prog.cellsOf 23 = 5 := by kernel_rfl
  have hce : Try.prog.cellsOf 24 = 1 := by kernel_rfl
  match cs, hl with
  | [c0, c1, c2, c3, c4, c5, c6, c7], _ =>
    match xs, hlen' with
    | [y0, y1, y2, y3], _ =>
      have h0 : DataW.trod enc Try.prog W base0 sp held n 23 [c0, c1, c2, c3, c4] = some y0 := by simpa [hcs] using hf 0 _ rfl
      have h1 : DataW.trod enc Try.prog W base0 sp held n 24 [c5] = some y1 := by simpa [hce] using hf 1 _ rfl
      have h2 : DataW.trod enc Try.prog W base0 sp held n 3 [c6] = some y2 := by simpa [hc] using hf 2 _ rfl
      have h3 : DataW.trod enc Try.prog W base0 sp held n 3 [c7] = some y3 := by simpa [hc] using hf 3 _ rfl
      obtain ⟨s, hs, e0⟩ := trod_state h0
      obtain ⟨A, c, l, e1, g1, g2, g3, g4⟩ := trod_entries h1
      obtain ⟨a2, e2, _, w2⟩ := DataW.trod_int Try.underlying3 h2
      obtain ⟨a3, e3, _, w3⟩ := DataW.trod_int Try.underlying3 h3
      simp only [List.cons.injEq, and_true] at e0 e1 e2 e3
      obtain ⟨rfl, rfl, rfl, rfl, rfl⟩ := e0
      subst e1 e2 e3
      exact ⟨A, c, ⟨s, l, a2, a3⟩, rfl, g1, g2, g3, hs, g4, bounds_i64 w2, bounds_i64 w3⟩
theorem open_tuple {v : Value} {d : DataW H} {p : List MemPlace} (hval : Value.okWide Try.prog W .any base 26 v) (h1 : DataW.Trod enc Try.prog W base0 sp held 26 v d p) :
    ∃ A c, ∃ x : Tu, v = .agg #[.int .i64 x.snap.index, .int .i64 x.snap.term, .int .i64 x.snap.sum, .int .i64 x.snap.level, .bool x.snap.final, .slice A x.log.length c, .int .i64 x.term, .int .i64 x.vote] ∧ x.log.length ≤ c ∧ c ≤ maxLen ∧ Rd W A (ens x.log) ∧ (∀ a, A = some a → a.block < W.heap.size) ∧ x.snap.ok ∧ (∀ e ∈ x.log, e.ok) ∧ I64 x.term ∧ I64 x.vote := by
  obtain ⟨cs, rfl, hsz⟩ := okWide_struct Try.underlying26 hval
  obtain ⟨fuel, hf⟩ := h1
  obtain ⟨A, c, x, he, g1, g2, g3, g4⟩ := trod_tuple hf
  simp only [Value.cells] at he
  obtain ⟨l⟩ := cs
  simp only at he
  subst he
  refine ⟨A, c, x, rfl, g1, g2, g3, fun a ha => ?_, g4⟩
  subst ha
  exact okWide_part (i := 5) Try.underlying26 (by kernel_rfl : Try.prog.cellTypes Try.prog.depth 26 = some [3, 3, 3, 3, 4, 24, 3, 3]) rfl rfl Try.underlying24 hval rfl

/-- What is done. -/
structure De where
  k : Int
  A : Option Addr
  c : Nat
  l : List En
  i : Int
  s : St
  t : Int
  v : Int
instance : Inhabited De := ⟨⟨0, none, 0, [], 0, default, 0, 0⟩⟩
def De.cells (d : De) : List Value := [.int .u8 d.k, .slice d.A d.l.length d.c, .int .i64 d.i, .int .i64 d.s.index, .int .i64 d.s.term, .int .i64 d.s.sum, .int .i64 d.s.level, .bool d.s.final, .int .i64 d.t, .int .i64 d.v]
def De.ok (w : World) (d : De) : Prop := 0 ≤ d.k ∧ d.l.length ≤ d.c ∧ d.c ≤ maxLen ∧ Rd w d.A (ens d.l)
theorem trod_deed {fuel : Nat} {cs : List Value} {x : DataW H × List MemPlace} (h : DataW.trod enc Try.prog W base0 sp held fuel 31 cs = some x) : ∃ d : De, d.ok W ∧ cs = d.cells := by
  obtain ⟨xs, n, _, _, hl, hlen, hf⟩ := DataW.trod_struct Try.underlying31 h
  rw [show Try.prog.cellsOf 31 = 10 by kernel_rfl] at hl
  have hlen' : xs.length = 6 := hlen
  have hc : Try.prog.cellsOf 3 = 1 := by kernel_rfl
  have hc8 : Try.prog.cellsOf 5 = 1 := by kernel_rfl
  have hcs : Try.prog.cellsOf 23 = 5 := by kernel_rfl
  have hce : Try.prog.cellsOf 24 = 1 := by kernel_rfl
  match cs, hl with
  | [c0, c1, c2, c3, c4, c5, c6, c7, c8, c9], _ =>
    match xs, hlen' with
    | [y0, y1, y2, y3, y4, y5], _ =>
      have h0 : DataW.trod enc Try.prog W base0 sp held n 5 [c0] = some y0 := by simpa [hc8] using hf 0 _ rfl
      have h1 : DataW.trod enc Try.prog W base0 sp held n 24 [c1] = some y1 := by simpa [hce] using hf 1 _ rfl
      have h2 : DataW.trod enc Try.prog W base0 sp held n 3 [c2] = some y2 := by simpa [hc] using hf 2 _ rfl
      have h3 : DataW.trod enc Try.prog W base0 sp held n 23 [c3, c4, c5, c6, c7] = some y3 := by simpa [hcs] using hf 3 _ rfl
      have h4 : DataW.trod enc Try.prog W base0 sp held n 3 [c8] = some y4 := by simpa [hc] using hf 4 _ rfl
      have h5 : DataW.trod enc Try.prog W base0 sp held n 3 [c9] = some y5 := by simpa [hc] using hf 5 _ rfl
      obtain ⟨a0, e0, _, w0⟩ := DataW.trod_int Try.underlying5 h0
      obtain ⟨A, c, l, e1, g1, g2, g3, g4⟩ := trod_entries h1
      obtain ⟨a2, e2, _, _⟩ := DataW.trod_int Try.underlying3 h2
      obtain ⟨s, hs, e3⟩ := trod_state h3
      obtain ⟨a4, e4, _, _⟩ := DataW.trod_int Try.underlying3 h4
      obtain ⟨a5, e5, _, _⟩ := DataW.trod_int Try.underlying3 h5
      simp only [List.cons.injEq, and_true] at e0 e1 e2 e3 e4 e5
      obtain ⟨rfl, rfl, rfl, rfl, rfl⟩ := e3
      subst e0 e1 e2 e4 e5
      exact ⟨⟨a0, A, c, l, a2, s, a4, a5⟩, ⟨(bounds_u8 w0).1, g1, g2, g3⟩, rfl⟩
theorem open_deeds {v : Value} {d : DataW H} {p : List MemPlace} (hval : Value.okWide Try.prog W .any base 27 v) (h1 : DataW.Trod enc Try.prog W base0 sp held 27 v d p) :
    ∃ A c, ∃ l : List De, v = .slice A l.length c ∧ l.length ≤ c ∧ c ≤ maxLen ∧ Rd W A (l.flatMap De.cells) ∧ ∀ e ∈ l, e.ok W := by
  obtain ⟨a1, len, cap, rfl⟩ := okWide_slice Try.underlying27 hval
  obtain ⟨fuel, hf⟩ := h1
  obtain ⟨A, c, l, h, r⟩ := trod_rows De.cells (De.ok W) 10 (by omega) (fun _ => rfl) Try.underlying27 (by kernel_rfl) (fun _ _ _ h => trod_deed h) hf
  simp only [Value.cells, List.cons.injEq, and_true] at h
  exact ⟨A, c, l, h, r⟩
end
end Go.Proofs.Ythngkojbokknfaa
/- A walk by laws alone. Eighth part: more of lists of blocks. -/
namespace Go.Proofs.Ythngkojbokknfaa
open Go Go.RowKit
section
variable {P : Program} {w w0 : World} {S : Nat → Prop} {H H' : List Ent}
theorem St0.sub (h : St0 S w0 w H) (hs : List.Sublist H' H) : St0 S w0 w H' := ⟨h.base, fun e he => h.ok e (hs.subset he), fun e he => h.rng e (hs.subset he), h.dis.sublist hs⟩
theorem St0.addE {e : Ent} (h : St0 S w0 w H) (ho : e.ok w) (hr : ∀ k, e.occ k → k < w.heap.size ∧ (k < w0.heap.size → ¬ S k)) (hd : ∀ e' ∈ H, ∀ k, e.occ k → e'.occ k → False) : St0 S w0 w (e :: H) :=
  ⟨h.base, fun x hx => (List.mem_cons.1 hx).elim (fun hx => by subst hx; exact ho) (h.ok x), fun x hx => (List.mem_cons.1 hx).elim (fun hx => by subst hx; exact hr) (h.rng x), List.pairwise_cons.2 ⟨hd, h.dis⟩⟩
/-- Two entries are apart. -/
theorem St0.apart (h : St0 S w0 w H) (i j : Nat) {e e' : Ent} (hi : H[i]? = some e) (hj : H[j]? = some e') (hij : Nat.beq i j = false) : ∀ k, e.occ k → e'.occ k → False := fun k h1 h2 => by
  have hne : i ≠ j := fun h0 => by subst h0; simp at hij
  obtain ⟨a1, a2⟩ := List.getElem?_eq_some_iff.1 hi
  obtain ⟨b1, b2⟩ := List.getElem?_eq_some_iff.1 hj
  rcases Nat.lt_or_ge i j with hlt | hge
  · have := (List.pairwise_iff_getElem.1 h.dis) i j a1 b1 hlt k
    rw [a2, b2] at this
    exact this h1 h2
  · have := (List.pairwise_iff_getElem.1 h.dis) j i b1 a1 (by omega) k
    rw [a2, b2] at this
    exact this h2 h1
theorem St0.rd_ne {A : Option Addr} {xs cs : List Value} {b T : Nat} (h : St0 S w0 w H) (i j : Nat) (hi : H[i]? = some (.rd A xs)) (hj : H[j]? = some (.box b cs T)) (hij : Nat.beq i j = false) : ∀ a, A = some a → a.block ≠ b := fun a ha hb => h.apart i j hi hj hij b ⟨a, ha, hb⟩ rfl
theorem St0.rd_rng {A : Option Addr} {xs : List Value} (h : St0 All w0 w H) (hH : Has H (.rd A xs)) : ∀ a, A = some a → w0.heap.size ≤ a.block ∧ a.block < w.heap.size := fun a ha => by
  have := h.rng _ hH.mem a.block ⟨a, ha, rfl⟩
  exact ⟨Nat.le_of_not_lt fun hlt => this.2 hlt trivial, this.1⟩
theorem St0.box_ge {b T : Nat} {cs : List Value} (h : St0 All w0 w H) (hH : Has H (.box b cs T)) : w0.heap.size ≤ b ∧ b < w.heap.size ∧ w.heap[b]? = some (.cells cs.toArray T (0, 0)) := by
  have := h.rng _ hH.mem b rfl
  exact ⟨Nat.le_of_not_lt fun hlt => this.2 hlt trivial, this.1, h.ok _ hH.mem⟩
/-- A slice that is kept goes back. -/
theorem St0.giveS {A : Option Addr} {n c k : Nat} {xs : List Value} (h : St0 All w0 w H) (hH : Has H (.rd A xs)) (hl : xs.length = n * k) (hc : n ≤ c) (hm : c ≤ maxLen) : Sl w0 w A n c k xs := ⟨hl, hc, hm, h.rd hH, h.rd_rng hH⟩
theorem St0.box_cell {b o T : Nat} {cs : List Value} {v : Value} (h : St0 S w0 w H) (hH : Has H (.box b cs T)) (hc : Seg cs o 1 [v]) : w.cell? ⟨b, o, none⟩ = some v := by
  have hok : Ent.ok w (.box b cs T) := h.ok _ hH.mem
  rw [Go.Proofs.Ythngkojbokknfaa.box_cell hok]
  have h2 : ((cs.drop o).take 1)[0]? = some v := by rw [← hc.spec.1]; rfl
  simpa using h2
variable {ops : Array Oper} {Q : Exit → Act → World → Prop} {rest : List Oper} {N : FS} {L : List (Nat × Value)} {dn : Nat} {ty : TypeId} {pos : String} {af : Array Edge} {g : Option (Nat × Bool)}
/-- A slice laid out: its cells are given. -/
theorem wpS_sliceM {t e size n : Nat} {ps : List (Nat × Operand)} {vs zs : List Value} (cells : List Value) (ht0 : ElC P t e size) (hz0 : ZcC P e zs) (hg : wantB ops L g = some true) (hN : Nat.ble (dn + 1) N.n = true)
    (hp : evs L (ps.map (·.2)) = some vs) (hsm : Nat.ble (n * size) 16777216 = true) (hp0 : Nat.beq (n * size) 0 = false)
    (hfill : Instr.fill (fun i => some (i * size, size)) ((Array.range (n * size)).map (zs.toArray[· % zs.toArray.size]!)) ((ps.map (·.1)).zip vs) = some cells.toArray) (hS : St0 S w0 w H)
    (k : ∀ b w', St0 S w0 w' (.box b cells e :: H) → Below w.heap.size w w' → wpS P ops Q rest N ((dn, .slice (some ⟨b, 0, none⟩) n n) :: L) w') :
    wpS P ops Q (⟨some dn, .buildSlice t n ps.toArray, ty, pos, af, g⟩ :: rest) N L w := by
  have ht := ht0.h
  unfold elemOfSlice at ht
  split at ht
  · rename_i e' hu
    split at ht
    · rename_i i hi
      simp only [Option.some.injEq, Prod.mk.injEq] at ht
      obtain ⟨rfl, rfl⟩ := ht
      have hz := hz0.h
      unfold zeroCells at hz
      rw [hi] at hz
      cases hzz : i.zero with
      | none => simp [hzz] at hz
      | some z =>
        simp only [hzz, Option.bind_some, Option.map_some, Option.some.injEq] at hz
        subst hz
        refine wpS_sliceN (z := z) (ie := i) (zs := []) (size := 0) hg hN hu hi hzz hp (by have := Nat.le_of_ble_eq_true hsm; omega) (fun h => by rw [h] at hp0; simp at hp0) ?_ hS k
        simpa using hfill
    · cases ht
  · cases ht
end
end Go.Proofs.Ythngkojbokknfaa
/- A walk by laws alone. Ninth part: two operations that may come up next; where ways meet. -/
namespace Go.Proofs.Ythngkojbokknfaa
open Go Go.RowKit
section
variable {P : Program} {ro : Option Nat} {Q : Exit → Act → World → Prop} {w w0 : World} {S : Nat → Prop} {H H' : List Ent} {N : FS} {L : List (Nat × Value)} {md : Region.Mode} {G : Nat → Nat → Prop} {sl : List Nat}
theorem wpR_two (m n : List Bool) (i j : Nat) {o o' : Oper} {l : List Oper} {f : Nat} {listed : Array Bool}
    (hr : (0 < f ∧ Region.ready md l.toArray listed = [i, j] ∧ sl.contains i = false ∧ sl.contains j = false)) (ho : pickL m l = [o]) (hi : l.toArray[i]? = some o) (ho' : pickL n l = [o']) (hj : l.toArray[j]? = some o')
    (k : wpS P l.toArray (Exit.then (StepC P md l.toArray G sl Q (f - 1) (listed.setIfInBounds i true) w) Q) (pickL m l) N L w)
    (k' : wpS P l.toArray (Exit.then (StepC P md l.toArray G sl Q (f - 1) (listed.setIfInBounds j true) w) Q) (pickL n l) N L w) : wpR P md l.toArray G sl Q f listed N L w := ⟨fun a hF => by
  obtain ⟨hf, hr, hs, hs'⟩ := hr
  have hs : i ∉ sl := by simpa using hs
  have hs' : j ∉ sl := by simpa using hs'
  obtain ⟨f, rfl⟩ : ∃ g, f = g + 1 := ⟨f - 1, by omega⟩
  refine ⟨fun h0 => (by rw [hr] at h0; cases h0), fun x hx => ?_⟩
  rw [hr] at hx
  have hx : x = i ∨ x = j := by simpa using hx
  rcases hx with rfl | rfl
  · have k := k.go a hF
    rw [ho] at k
    exact wpOp_mono (fun a' w' h => ⟨⟨fun hh => (hs hh).elim, fun _ => h.below⟩, h.go⟩) (op_of_list hi k)
  · have k := k'.go a hF
    rw [ho'] at k
    exact wpOp_mono (fun a' w' h => ⟨⟨fun hh => (hs' hh).elim, fun _ => h.below⟩, h.go⟩) (op_of_list hj k)⟩
/-- Where ways meet. -/
structure Arr {X : Type} (N : FS) (Lx : X → List (Nat × Value)) (J : X → World → Prop) (a : Act) (w : World) : Prop where
  go : ∃ x, Fr N (Lx x) a ∧ J x w
theorem wpC_meet {X : Type} {c y : Code} {K : Act → World → Prop} (Lx : X → List (Nat × Value)) (J : X → World → Prop) (hK : ∀ a w, wpo P ro y Q a w → K a w)
    (hx : wpC P ro c (Exit.then (Arr N Lx J) Q) N L w) (hy : ∀ x w, J x w → wpC P ro y Q N (Lx x) w) : wpC P ro c (Exit.then K Q) N L w := .mk fun a hF =>
  wpo_mono (hx.go a hF) fun e a' w' he => by
    cases e with
    | normal => obtain ⟨x, h1, h2⟩ := he.go; exact hK _ _ ((hy x w' h2).go a' h1)
    | _ => exact he
theorem QH_arr {X : Type} {Lx : X → List (Nat × Value)} {J : X → World → Prop} {Q' : Exit → Act → World → Prop} (x : X) (hs : Sub (Lx x) L) (hJ : J x w) : QH (Exit.then (Arr N Lx J) Q') .normal N L w := ⟨fun a hF => ⟨x, hF.sub hs, hJ⟩⟩
theorem yv_g_build {R : World → Prop} {d : Option Nat} {t : TypeId} {ps : Array (Nat × Operand)} {v : Value} {ty : TypeId} {pos : String} {af : Array Edge} {g : Option (Nat × Bool)} (h : Yv P L R ⟨d, .build t ps, ty, pos, af, g⟩ v) : Yv P L R ⟨d, .build t ps, ty, pos, af, g⟩ v := h
theorem St0.reord (h : St0 S w0 w H) (hp : H.Perm H') : St0 S w0 w H' := ⟨h.base, fun e he => h.ok e (hp.mem_iff.2 he), fun e he => h.rng e (hp.mem_iff.2 he), (hp.pairwise_iff (fun hR k h1 h2 => hR k h2 h1)).1 h.dis⟩
theorem St0.subSwap {e e' : Ent} (h : St0 S w0 w H) (hs : List.Sublist (e' :: e :: H') H) : St0 S w0 w (e :: e' :: H') := (h.sub hs).reord (.swap _ _ _)
end
end Go.Proofs.Ythngkojbokknfaa
/- Laws for walks that a program of mine prints: values as the program reckons them, every test left open. -/
namespace Go.Proofs.Ythngkojbokknfaa
open Go Go.RowKit

/-! ### What is said in plain terms -/
/-- A number as an int holds it. -/
abbrev w64 (n : Int) : Int := IntKind.wrap .i64 n
/-- The element at a place. -/
def idx {α : Type} (l : List α) (i : Int) : Option α := if 0 ≤ i then l[i.toNat]? else none
/-- The same list but for one place. -/
def setI {α : Type} (l : List α) (i : Int) (x : α) : List α := l.set i.toNat x
/-- l[:h], if there are as many. -/
def takeI {α : Type} (l : List α) (h : Int) : Option (List α) := if 0 ≤ h ∧ h ≤ (l.length : Int) then some (l.take h.toNat) else none
/-- l[k:], if there are as many. -/
def dropI {α : Type} (l : List α) (k : Int) : Option (List α) := if 0 ≤ k ∧ k ≤ (l.length : Int) then some (l.drop k.toNat) else none
/-- So many at most that no append can fail. -/
def fewI {α : Type} (l : List α) : Option (List α) := if l.length ≤ 1000000000 then some l else none
/-- x rem y, y not nought. -/
def remI (m n : Int) : Option Int := if n ≠ 0 then some (m.tmod n) else none
/-- How often a loop is gone through at most. -/
def fuelN : Nat := 100000000
theorem idx_some {α : Type} {l : List α} {i : Int} {x : α} (h : idx l i = some x) : ∃ k : Nat, i = (k : Int) ∧ l[k]? = some x ∧ k < l.length := by
  unfold idx at h
  split at h
  · rename_i h0
    exact ⟨i.toNat, by omega, h, (List.getElem?_eq_some_iff.1 h).1⟩
  · cases h
theorem takeI_some {α : Type} {l r : List α} {i : Int} (h : takeI l i = some r) : ∃ k : Nat, i = (k : Int) ∧ r = l.take k ∧ k ≤ l.length ∧ r.length = k := by
  unfold takeI at h
  split at h
  · rename_i h0
    injection h with h
    exact ⟨i.toNat, by omega, h.symm, by omega, by rw [← h, List.length_take]; omega⟩
  · cases h
theorem dropI_some {α : Type} {l r : List α} {i : Int} (h : dropI l i = some r) : ∃ k : Nat, i = (k : Int) ∧ r = l.drop k ∧ k ≤ l.length ∧ r.length = l.length - k := by
  unfold dropI at h
  split at h
  · rename_i h0
    injection h with h
    exact ⟨i.toNat, by omega, h.symm, by omega, by rw [← h, List.length_drop]⟩
  · cases h
theorem fewI_some {α : Type} {l r : List α} (h : fewI l = some r) : r = l ∧ l.length ≤ 1000000000 := by
  unfold fewI at h
  split at h
  · rename_i h0; injection h with h; exact ⟨h.symm, h0⟩
  · cases h
theorem remI_some {m n r : Int} (h : remI m n = some r) : n ≠ 0 ∧ r = m.tmod n := by
  unfold remI at h
  split at h
  · rename_i h0; injection h with h; exact ⟨h0, h.symm⟩
  · cases h
theorem bind_some {α β : Type} {o : Option α} {f : α → Option β} {r : β} (h : o.bind f = some r) : ∃ v, o = some v ∧ f v = some r := by
  cases o with
  | none => cases h
  | some v => exact ⟨v, rfl, h⟩
theorem cond_t {α : Type} {b : Bool} {x y : Option α} {r : α} (h : cond b x y = some r) (hb : b = true) : x = some r := by subst hb; exact h
theorem cond_f {α : Type} {b : Bool} {x y : Option α} {r : α} (h : cond b x y = some r) (hb : b = false) : y = some r := by subst hb; exact h

/-! ### Rows of elements -/
/-- The cells of a list's elements. -/
def encs {α : Type} (e : α → List Value) (l : List α) : List Value := l.flatMap e
def enE (e : En) : List Value := [.int .i64 e.term, .int .i64 e.kind, .int .i64 e.value]
def enI (n : Int) : List Value := [.int .i64 n]
def enO (b : Bool) : List Value := [.bool b]
def enY (b : UInt8) : List Value := [.int .u8 b.toNat]
theorem ens_encs (l : List En) : ens l = encs enE l := rfl
theorem encs_length {α : Type} {e : α → List Value} {k : Nat} (he : ∀ x, (e x).length = k) (l : List α) : (encs e l).length = l.length * k := by
  induction l with
  | nil => simp [encs]
  | cons x l ih =>
    have : encs e (x :: l) = e x ++ encs e l := by simp [encs]
    rw [this, List.length_append, he, ih, List.length_cons, Nat.succ_mul, Nat.add_comm]
theorem encs_app {α : Type} (e : α → List Value) (l m : List α) : encs e (l ++ m) = encs e l ++ encs e m := by simp [encs]
theorem encs_cons {α : Type} (e : α → List Value) (x : α) (l : List α) : encs e (x :: l) = e x ++ encs e l := by simp [encs]
theorem encs_drop {α : Type} {e : α → List Value} {k : Nat} (he : ∀ x, (e x).length = k) (l : List α) (j : Nat) : encs e (l.drop j) = (encs e l).drop (j * k) := by
  induction l generalizing j with
  | nil => simp [encs]
  | cons x l ih =>
    cases j with
    | zero => simp
    | succ j =>
      rw [List.drop_succ_cons, ih, encs_cons, Nat.succ_mul, Nat.add_comm, List.drop_append, he]
      have : (e x).drop (k + j * k) = [] := List.drop_eq_nil_of_le (by rw [he]; omega)
      rw [this, List.nil_append]; congr 1; omega
theorem encs_take {α : Type} {e : α → List Value} {k : Nat} (he : ∀ x, (e x).length = k) (l : List α) (j : Nat) : encs e (l.take j) = (encs e l).take (j * k) := by
  induction l generalizing j with
  | nil => simp [encs]
  | cons x l ih =>
    cases j with
    | zero => simp [encs]
    | succ j =>
      rw [List.take_succ_cons, encs_cons, ih, encs_cons, Nat.succ_mul, Nat.add_comm, List.take_append, he]
      have h1 : (e x).take (k + j * k) = e x := List.take_of_length_le (by rw [he]; omega)
      have h2 : k + j * k - k = j * k := by omega
      rw [h1, h2]
theorem encs_at {α : Type} {e : α → List Value} {k : Nat} (he : ∀ x, (e x).length = k) {l : List α} {j : Nat} {x : α} (h : l[j]? = some x) (f : Nat) (hf : f < k) : (encs e l)[j * k + f]? = (e x)[f]? := by
  have hj := (List.getElem?_eq_some_iff.1 h).1
  have h1 : l.drop j = x :: l.drop (j + 1) := by
    rw [List.drop_eq_getElem_cons hj]; congr 1; exact (List.getElem?_eq_some_iff.1 h).2
  have h2 := encs_drop he l j
  rw [h1, encs_cons] at h2
  have h3 : (encs e l)[j * k + f]? = ((encs e l).drop (j * k))[f]? := by rw [List.getElem?_drop]
  rw [h3, ← h2, List.getElem?_append_left (by rw [he]; exact hf)]

/-- A slice's elements, at a world. -/
structure SlI {α : Type} (w : World) (e : α → List Value) (A : Option Addr) (c : Nat) (l : List α) : Prop where
  le : l.length ≤ c
  cap : c ≤ maxLen
  rd : Rd w A (encs e l)
  blk : ∀ a, A = some a → a.block < w.heap.size
theorem SlI.nil {α : Type} (w : World) (e : α → List Value) : SlI w e none 0 [] := ⟨Nat.le_refl _, Nat.zero_le _, Rd.nil _ _, fun _ h => by cases h⟩
/-- An element's cells. -/
structure El (w : World) (A : Option Addr) (o : Nat) (cs : List Value) : Prop where
  adr : ∃ b q, A = some ⟨b, q, none⟩
  at_ : ∀ f v, cs[f]? = some v → ∀ b q, A = some ⟨b, q, none⟩ → w.cell? ⟨b, q + (o + f), none⟩ = some v
theorem Rd.el {α : Type} {w : World} {A : Option Addr} {e : α → List Value} {k : Nat} {l : List α} (hr : Rd w A (encs e l)) (he : ∀ x, (e x).length = k + 1) {j : Nat} {x : α} (h : l[j]? = some x) : El w A (j * (k + 1)) (e x) := by
  have h0 : ∀ f v, (e x)[f]? = some v → (encs e l)[j * (k + 1) + f]? = some v := fun f v hv => by
    have hf := (List.getElem?_eq_some_iff.1 hv).1
    rw [he] at hf
    rw [encs_at he h f hf]; exact hv
  refine ⟨?_, fun f v hv b q hA => ?_⟩
  · obtain ⟨v, hv⟩ : ∃ v, (e x)[0]? = some v := ⟨_, List.getElem?_eq_getElem (by rw [he]; omega)⟩
    obtain ⟨b, q, hA, _⟩ := hr _ _ (h0 0 v hv)
    exact ⟨b, q, hA⟩
  · obtain ⟨b', q', hA', _, hc⟩ := hr _ _ (h0 f v hv)
    rw [hA'] at hA
    injection hA with hA
    injection hA with h1 h2
    subst h1; subst h2
    exact hc

section
variable {P : Program} {L : List (Nat × Value)} {R : World → Prop} {d : Option Nat} {ty : TypeId} {pos : String} {af : Array Edge} {g : Option (Nat × Bool)} {w : World}
/-! ### Numbers -/
theorem yx_add {x y : Operand} {t t' : TypeId} {k : IntKind} {m n : Int} (hx : ev L x = some (.int k m)) (hy : ev L y = some (.int k n)) : Yv P L R ⟨d, .binOp .add t x y t', ty, pos, af, g⟩ (.int k (k.wrap (m + n))) := Yv.mk fun w1 _ ρ hρ => by
  simp only [execOp, hρ x _ hx, hρ y _ hy, eqGuard]
  simp [binOp, Op.intArith]
theorem yx_sub {x y : Operand} {t t' : TypeId} {k : IntKind} {m n : Int} (hx : ev L x = some (.int k m)) (hy : ev L y = some (.int k n)) : Yv P L R ⟨d, .binOp .sub t x y t', ty, pos, af, g⟩ (.int k (k.wrap (m - n))) := Yv.mk fun w1 _ ρ hρ => by
  simp only [execOp, hρ x _ hx, hρ y _ hy, eqGuard]
  simp [binOp, Op.intArith]
theorem yx_mul {x y : Operand} {t t' : TypeId} {k : IntKind} {m n : Int} (hx : ev L x = some (.int k m)) (hy : ev L y = some (.int k n)) : Yv P L R ⟨d, .binOp .mul t x y t', ty, pos, af, g⟩ (.int k (k.wrap (m * n))) := Yv.mk fun w1 _ ρ hρ => by
  simp only [execOp, hρ x _ hx, hρ y _ hy, eqGuard]
  simp [binOp, Op.intArith]
theorem yx_neg {x : Operand} {t : TypeId} {k : IntKind} {n : Int} (hx : ev L x = some (.int k n)) : Yv P L R ⟨d, .unOp .neg t x, ty, pos, af, g⟩ (.int k (k.wrap (0 - n))) := Yv.mk fun w1 _ ρ hρ => by
  simp only [execOp, hρ x _ hx]
  simp only [Op.unary, Op.intArith, Sem.run_bind, Sem.run_pure, Result.andThen_ok]
theorem yx_rem {x y : Operand} {t t' : TypeId} {k : IntKind} {m n : Int} (hx : ev L x = some (.int k m)) (hy : ev L y = some (.int k n)) (h : n ≠ 0) : Yv P L R ⟨d, .binOp .rem t x y t', ty, pos, af, g⟩ (.int k (m.tmod n)) := Yv.mk fun w1 _ ρ hρ => by
  simp only [execOp, hρ x _ hx, hρ y _ hy, eqGuard]
  simp [binOp, Op.intDiv, h]
theorem yx_quo {x y : Operand} {t t' : TypeId} {k : IntKind} {m n : Int} (hx : ev L x = some (.int k m)) (hy : ev L y = some (.int k n)) (h : n ≠ 0) : Yv P L R ⟨d, .binOp .quo t x y t', ty, pos, af, g⟩ (.int k (k.wrap (m.tdiv n))) := Yv.mk fun w1 _ ρ hρ => by
  simp only [execOp, hρ x _ hx, hρ y _ hy, eqGuard]
  simp [binOp, Op.intDiv, h]
theorem yx_conv {x : Operand} {s t : TypeId} {k k' : IntKind} {n : Int} (hs : (P.underlying s).isSome = true) (ht : P.underlying t = some (.int k')) (hx : ev L x = some (.int k n)) : Yv P L R ⟨d, .convert s t x, ty, pos, af, g⟩ (.int k' (k'.wrap n)) := Yv.mk fun w1 _ ρ hρ => by
  obtain ⟨ds, hs⟩ := Option.isSome_iff_exists.1 hs
  simp only [execOp, hρ x _ hx, convert, Sem.run_bind, run_underlying hs, run_underlying ht, Result.andThen_ok]
  cases ds <;> simp [Conv.intToInt]
/-! ### Elements of slices -/
theorem yx_idx {x y : Operand} {t e n c k j : Nat} {q : IntKind} {i : Int} {A : Option Addr} (ht0 : ElC P t e k) (hx : ev L x = some (.slice A n c)) (hy : ev L y = some (.int q i)) (hi : i = (j : Int)) (hj : j < n) {w' : World} {cs : List Value} (hA : El w' A (j * k) cs) : Yv P L R ⟨d, .indexAddr t x y, ty, pos, af, g⟩ (.pointer (A.map (·.add (j * k)))) := by
  obtain ⟨b, o, rfl⟩ := hA.adr
  have := yv_indexAddr (P := P) (L := L) (R := R) (d := d) (ty := ty) (pos := pos) (af := af) (g := g) (x := x) (y := y) (j := j) ht0 hx hy hi hj
  simpa [Addr.add_mid] using this
theorem yx_fieldAddr {x : Operand} {s f k o : Nat} {A : Option Addr} {w' : World} {cs : List Value} {o' : Nat} (hk0 : FoC P s f k) (hx : ev L x = some (.pointer (A.map (·.add o)))) (hA : El w' A o' cs) : Yv P L R ⟨d, .fieldAddr s x f, ty, pos, af, g⟩ (.pointer (A.map (·.add (o + k)))) := by
  obtain ⟨b, q, rfl⟩ := hA.adr
  simp only [Option.map_some, Addr.add_mid] at hx ⊢
  have := yv_fieldAddr (P := P) (L := L) (R := R) (d := d) (ty := ty) (pos := pos) (af := af) (g := g) hk0 hx
  rw [← Nat.add_assoc]; exact this
theorem yx_ld {x : Operand} {t : TypeId} {o f : Nat} {A : Option Addr} {v : Value} {cs : List Value} (hs0 : ScC P t) (hx : ev L x = some (.pointer (A.map (·.add (o + f))))) (hR : RW R (fun _ => True) w) (hE : El w A o cs) (hv : cs[f]? = some v) : Yv P L R ⟨d, .load t x, ty, pos, af, g⟩ v := by
  obtain ⟨b, q, rfl⟩ := hE.adr
  simp only [Option.map_some, Addr.add_mid] at hx
  exact yv_load hs0 hx hR trivial (hE.at_ f v hv b q rfl)
theorem yx_ld0 {x : Operand} {t : TypeId} {o : Nat} {A : Option Addr} {v : Value} {cs : List Value} (hs0 : ScC P t) (hx : ev L x = some (.pointer (A.map (·.add o)))) (hR : RW R (fun _ => True) w) (hE : El w A o cs) (hv : cs[0]? = some v) : Yv P L R ⟨d, .load t x, ty, pos, af, g⟩ v := yx_ld (o := o) (f := 0) hs0 hx hR hE hv
theorem yx_ldA {x : Operand} {t : TypeId} {o f n : Nat} {A : Option Addr} {vs cs : List Value} (hn0 : AgC P t n) (hx : ev L x = some (.pointer (A.map (·.add (o + f))))) (hR : RW R (fun _ => True) w) (hE : El w A o cs) (hv : Seg cs f n vs) : Yv P L R ⟨d, .load t x, ty, pos, af, g⟩ (.agg vs.toArray) := by
  obtain ⟨b, q, rfl⟩ := hE.adr
  simp only [Option.map_some, Addr.add_mid] at hx
  refine yv_loadA hn0 hx hR trivial (fun j v hj => ?_) hv.spec.2
  have h1 := hv.spec.1
  have : cs[f + j]? = some v := by
    rw [h1, List.getElem?_take] at hj
    split at hj
    · rwa [List.getElem?_drop] at hj
    · cases hj
  have := hE.at_ (f + j) v this b q rfl
  rw [show q + (o + f) + j = q + (o + (f + j)) by omega]; exact this
theorem yx_ldA0 {x : Operand} {t : TypeId} {o n : Nat} {A : Option Addr} {vs cs : List Value} (hn0 : AgC P t n) (hx : ev L x = some (.pointer (A.map (·.add o)))) (hR : RW R (fun _ => True) w) (hE : El w A o cs) (hv : Seg cs 0 n vs) : Yv P L R ⟨d, .load t x, ty, pos, af, g⟩ (.agg vs.toArray) := yx_ldA (o := o) (f := 0) hn0 hx hR hE hv
/-! ### Parts of slices -/
theorem yx_slice_h {α : Type} {x y : Operand} {t e c k : Nat} {q : IntKind} {i : Int} {A : Option Addr} {l r : List α} (ht0 : ElC P t e k) (hx : ev L x = some (.slice A l.length c)) (hy : ev L y = some (.int q i)) (hc : l.length ≤ c) (h : takeI l i = some r) : Yv P L R ⟨d, .slice t x none (some y) none, ty, pos, af, g⟩ (.slice A r.length c) := by
  obtain ⟨k, hi, _, hk, hl⟩ := takeI_some h
  rw [hl]
  exact yv_slice_h ht0 hx hy hi (by omega)
/-- Where a slice's rest begins. -/
def cutA (A : Option Addr) (c k s : Nat) : Option Addr := if c = k then A else A.map (·.add (k * s))
theorem yx_slice_l {α : Type} {x y : Operand} {t e c k : Nat} {q : IntKind} {i : Int} {A : Option Addr} {l r : List α} (ht0 : ElC P t e k) (hx : ev L x = some (.slice A l.length c)) (hy : ev L y = some (.int q i)) (h : dropI l i = some r) : Yv P L R ⟨d, .slice t x (some y) none none, ty, pos, af, g⟩ (.slice (cutA A c i.toNat k) r.length (c - i.toNat)) := by
  obtain ⟨j, hi, _, hk, hl⟩ := dropI_some h
  rw [hl]
  have := yv_slice_l (P := P) (L := L) (R := R) (d := d) (ty := ty) (pos := pos) (af := af) (g := g) ht0 hx hy hi hk
  subst hi
  exact this
theorem yx_slice_lh {α : Type} {x y z : Operand} {t e c k : Nat} {q r' : IntKind} {i m : Int} {A : Option Addr} {l u r : List α} (ht0 : ElC P t e k) (hx : ev L x = some (.slice A l.length c)) (hy : ev L y = some (.int q i)) (hz : ev L z = some (.int r' m)) (hc : l.length ≤ c) (h1 : takeI l m = some u) (h2 : dropI u i = some r) : Yv P L R ⟨d, .slice t x (some y) (some z) none, ty, pos, af, g⟩ (.slice (cutA A c i.toNat k) r.length (c - i.toNat)) := by
  obtain ⟨j, hi, _, hk, hl⟩ := dropI_some h2
  obtain ⟨j', hi', _, hk', hl'⟩ := takeI_some h1
  rw [hl, hl']
  have := yv_slice_lh (P := P) (L := L) (R := R) (d := d) (ty := ty) (pos := pos) (af := af) (g := g) ht0 hx hy hz hi hi' (by omega) (by omega)
  subst hi
  exact this
theorem Rd.takeI {α : Type} {w : World} {A : Option Addr} {e : α → List Value} {k : Nat} (he : ∀ x, (e x).length = k) {l r : List α} {i : Int} (hr : Rd w A (encs e l)) (h : takeI l i = some r) : Rd w A (encs e r) := by
  obtain ⟨j, _, rfl, _⟩ := takeI_some h
  rw [encs_take he]; exact hr.take _
theorem Rd.dropI {α : Type} {w : World} {A : Option Addr} {e : α → List Value} {k c : Nat} (he : ∀ x, (e x).length = k) {l r : List α} {i : Int} (hr : Rd w A (encs e l)) (hc : l.length ≤ c) (h : dropI l i = some r) : Rd w (cutA A c i.toNat k) (encs e r) := by
  obtain ⟨j, rfl, rfl, hj, _⟩ := dropI_some h
  unfold cutA
  split
  · rename_i h0
    have : l.drop j = [] := List.drop_eq_nil_of_le (by have : (j : Int).toNat = j := by simp
                                                       omega)
    rw [this]; exact Rd.nil _ _
  · rw [encs_drop he]; exact hr.drop _
theorem cutA_blk {A : Option Addr} {c k s n : Nat} (h : ∀ a, A = some a → a.block < n) : ∀ a, cutA A c k s = some a → a.block < n := fun a ha => by
  unfold cutA at ha
  split at ha
  · exact h a ha
  · cases A with
    | none => cases ha
    | some b =>
      injection ha with ha
      subst ha
      have := h b rfl
      obtain ⟨b1, o1, sp⟩ := b
      simp only [Addr.add]
      split <;> exact this
end
end Go.Proofs.Ythngkojbokknfaa
/- Laws for walks that a program of mine prints, second part: splitting, blocks, loops, what is given back. -/
namespace Go.Proofs.Ythngkojbokknfaa
open Go Go.RowKit
section
variable {P : Program} {ro : Option Nat} {ops : Array Oper} {Q : Exit → Act → World → Prop} {l : List Oper} {N : FS} {L : List (Nat × Value)} {w w0 w1 : World} {S : Nat → Prop} {H H' : List Ent}
theorem Fr.again {a : Act} {t : Nat} {v : Value} (h : Fr N L a) (hx : lk L t = some v) : Fr N ((t, v) :: L) a := ⟨h.size, h.defers, fun d u hd => by
  simp only [lk] at hd
  cases hb : Nat.beq t d with
  | true =>
    rw [hb] at hd
    simp only [cond_true, Option.some.injEq] at hd
    subst hd
    rw [← Nat.eq_of_beq_eq_true hb]
    exact h.at_ t _ hx
  | false => rw [hb] at hd; exact h.at_ d u hd⟩
theorem wpS_case (t : Nat) {b : Bool} (hx : lk L t = some (.bool b)) (kt : b = true → wpS P ops Q l N ((t, .bool true) :: L) w) (kf : b = false → wpS P ops Q l N ((t, .bool false) :: L) w) : wpS P ops Q l N L w := ⟨fun a hF => by
  have h := hF.again hx
  cases b with
  | true => exact (kt rfl).go a h
  | false => exact (kf rfl).go a h⟩
theorem wpR_case {md : Region.Mode} {G : Nat → Nat → Prop} {sl : List Nat} {f : Nat} {listed : Array Bool} (t : Nat) {b : Bool} (hx : lk L t = some (.bool b)) (kt : b = true → wpR P md ops G sl Q f listed N ((t, .bool true) :: L) w) (kf : b = false → wpR P md ops G sl Q f listed N ((t, .bool false) :: L) w) : wpR P md ops G sl Q f listed N L w := ⟨fun a hF => by
  have h := hF.again hx
  cases b with
  | true => exact (kt rfl).go a h
  | false => exact (kf rfl).go a h⟩
theorem wpC_case {c : Code} (t : Nat) {b : Bool} (hx : lk L t = some (.bool b)) (kt : b = true → wpC P ro c Q N ((t, .bool true) :: L) w) (kf : b = false → wpC P ro c Q N ((t, .bool false) :: L) w) : wpC P ro c Q N L w := ⟨fun a hF => by
  have h := hF.again hx
  cases b with
  | true => exact (kt rfl).go a h
  | false => exact (kf rfl).go a h⟩
/-- A call walked in place. -/
theorem wpS_in {dst : Option Nat} {ty : TypeId} {pos : String} {af : Array Edge} {g : Option (Nat × Bool)} {rest : List Oper} {x : Operand} {f : FuncId} {cap : Array Value} {xs : List Operand} {ts : Array TypeId} {d : Nat} {vs : List Value}
    (hg : wantB ops L g = some true) (hd : dst = some d) (hN : Nat.ble (d + 1) N.n = true) (hx : ev L x = some (.func (.func f) #[] cap)) (he : enterB P f = true) (ha : evs L xs = some vs)
    (k : Calls P f (vs.toArray ++ cap) w fun e w' => ∃ v, e = .returned v ∧ wpS P ops Q rest N ((d, v) :: L) w') :
    wpS P ops Q (⟨dst, .call { callee := .value x, args := xs.toArray, argTypes := ts }, ty, pos, af, g⟩ :: rest) N L w := wpS_call hg hd hN hx he ha k fun _ _ h => h
/-! ### What is of one's own -/
theorem St0.eqv (h : St0 S w0 w H) (e : H = H') : St0 S w0 w H' := e ▸ h
/-- What a call made. -/
theorem St0.join {Hn : List Ent} (h : St0 S w0 w H) (hn : St0 All w w1 Hn) : St0 S w0 w1 (Hn ++ H) := by
  have hb := hn.pure
  have h' := h.below hb
  refine ⟨h'.base, fun e he => ?_, fun e he k hk => ?_, List.pairwise_append.2 ⟨hn.dis, h.dis, fun x hx y hy k h1 h2 => ?_⟩⟩
  · rcases List.mem_append.1 he with h1 | h1
    · exact hn.ok e h1
    · exact h'.ok e h1
  · rcases List.mem_append.1 he with h1 | h1
    · have h2 := hn.rng e h1 k hk
      refine ⟨h2.1, fun h3 => (h2.2 (Nat.lt_of_lt_of_le h3 h.size) trivial).elim⟩
    · exact h'.rng e h1 k hk
  · have h3 := (h.rng y hy k h2).1
    exact (hn.rng x hx k h1).2 h3 trivial
theorem perm_front {α : Type} : ∀ (H : List α) (i : Nat) (e : α), H[i]? = some e → H.Perm (e :: H.eraseIdx i)
  | [], i, e, h => by simp at h
  | x :: H, 0, e, h => by simp at h; subst h; exact List.Perm.refl _
  | x :: H, i + 1, e, h => by
    have := perm_front H i e (by simpa using h)
    exact (this.cons x).trans (.swap _ _ _)
theorem St0.front (i : Nat) {e : Ent} (h : St0 S w0 w H) (hi : H[i]? = some e) : St0 S w0 w (e :: H.eraseIdx i) := by
  exact h.reord (perm_front H i e hi)
/-- One entry says less. -/
structure Weak (w : World) (e e' : Ent) : Prop where
  ok : e.ok w → e'.ok w
  occ : ∀ k, e'.occ k → e.occ k
theorem Weak.boxRd {b T : Nat} {cs : List Value} : Weak w (.box b cs T) (.rd (some ⟨b, 0, none⟩) cs) := ⟨fun h j u hj => ⟨b, 0, rfl, (Array.getElem?_eq_some_iff.1 (show w.heap[b]? = some (.cells cs.toArray T (0, 0)) from h)).1, by rw [Nat.zero_add, box_cell (T := T) h]; exact hj⟩, fun k ⟨a, ha, hk⟩ => by injection ha with ha; subst ha; exact hk.symm⟩
theorem Weak.rowRd {A : Option Addr} {n c e size : Nat} {xs : List Value} : Weak w (.row (.slice A n c) e size n xs) (.rd A xs) := ⟨fun h => Rd.of_own h, fun k ⟨a, ha, hk⟩ => by subst ha; show (Value.slice (some a) n c).ownBlock = some k; simp [Value.ownBlock, hk]⟩
theorem Weak.rdCut {A B : Option Addr} {xs ys : List Value} (h : Rd w A xs → Rd w B ys) (hb : ∀ b, B = some b → ∃ a, A = some a ∧ a.block = b.block) : Weak w (.rd A xs) (.rd B ys) := ⟨h, fun k ⟨b, hb', hk⟩ => by obtain ⟨a, ha, he⟩ := hb b hb'; exact ⟨a, ha, he.trans hk⟩⟩
theorem Weak.rdTake {α : Type} {A : Option Addr} {e : α → List Value} {k : Nat} (he : ∀ x, (e x).length = k) {l r : List α} {i : Int} (h : Go.Proofs.Ythngkojbokknfaa.takeI l i = some r) : Weak w (.rd A (encs e l)) (.rd A (encs e r)) := ⟨fun hr => Rd.takeI he hr h, fun _ h => h⟩
theorem Weak.rdDrop {α : Type} {A : Option Addr} {c : Nat} {e : α → List Value} {k : Nat} (he : ∀ x, (e x).length = k) {l r : List α} {i : Int} (hc : l.length ≤ c) (h : Go.Proofs.Ythngkojbokknfaa.dropI l i = some r) : Weak w (.rd A (encs e l)) (.rd (cutA A c i.toNat k) (encs e r)) := ⟨fun hr => Rd.dropI he hr hc h, fun q ⟨a, ha, hq⟩ => by
  unfold cutA at ha
  split at ha
  · exact ⟨a, ha, hq⟩
  · cases A with
    | none => cases ha
    | some b =>
      injection ha with ha
      refine ⟨b, rfl, ?_⟩
      subst ha
      obtain ⟨b1, o1, sp⟩ := b
      rw [← hq]
      simp only [Addr.add]
      split <;> rfl⟩
theorem St0.weak {e e' : Ent} (h : St0 S w0 w (e :: H)) (hw : Weak w e e') : St0 S w0 w (e' :: H) := by
  refine ⟨h.base, fun x hx => ?_, fun x hx k hk => ?_, List.pairwise_cons.2 ⟨fun y hy k h1 h2 => ?_, h.dis.tail⟩⟩
  · rcases List.mem_cons.1 hx with rfl | hx
    · exact hw.ok (h.ok e (by simp))
    · exact h.ok x (by simp [hx])
  · rcases List.mem_cons.1 hx with rfl | hx
    · exact h.rng e (by simp) k (hw.occ k hk)
    · exact h.rng x (by simp [hx]) k hk
  · exact (List.pairwise_cons.1 h.dis).1 y hy k (hw.occ k h1) h2
theorem St0.nilRd (h : St0 S w0 w H) : St0 S w0 w (.rd none [] :: H) :=
  h.addE (Rd.nil _ _) (fun k ⟨a, ha, _⟩ => by cases ha) (fun _ _ k ⟨a, ha, _⟩ => by cases ha)
theorem St0.nilRow (e size : Nat) (h : St0 S w0 w H) : St0 S w0 w (.row (.slice none 0 0) e size 0 [] :: H) :=
  h.addE ⟨by simp, .inl ⟨rfl, rfl⟩⟩ (fun k hk => by cases hk) (fun _ _ k hk => by cases hk)
theorem St0.cut (n : Nat) (h : St0 S w0 w H) : St0 S w0 w (H.take n) := h.sub (List.take_sublist n H)
theorem SlI.of_rd {α : Type} {e : α → List Value} {A : Option Addr} {c : Nat} {xs : List α} (k : xs.length ≤ c ∧ c ≤ maxLen) (h : Rd w A (encs e xs)) (hb : ∀ a, A = some a → a.block < w.heap.size) : SlI w e A c xs := ⟨k.1, k.2, h, hb⟩
theorem St0.blk0 {A : Option Addr} (h : St0 S w0 w H) (hb : ∀ a, A = some a → a.block < w0.heap.size) : ∀ a, A = some a → a.block < w.heap.size := fun a ha => Nat.lt_of_lt_of_le (hb a ha) h.size
theorem St0.rd_blk {A : Option Addr} {xs : List Value} (h : St0 S w0 w H) (hH : Has H (.rd A xs)) : ∀ a, A = some a → a.block < w.heap.size := fun a ha => (h.rng _ hH.mem a.block ⟨a, ha, rfl⟩).1
theorem St0.row_blk {A : Option Addr} {n c e size : Nat} {xs : List Value} (h : St0 S w0 w H) (hH : Has H (.row (.slice A n c) e size n xs)) : ∀ a, A = some a → a.block < w.heap.size := fun a ha => (h.rng _ hH.mem a.block (by subst ha; rfl)).1
theorem St0.box_blk {b T : Nat} {cs : List Value} (h : St0 S w0 w H) (hH : Has H (.box b cs T)) : ∀ a, some (⟨b, 0, none⟩ : Addr) = some a → a.block < w.heap.size := fun a ha => by injection ha with ha; subst ha; exact (h.rng _ hH.mem b rfl).1
theorem nil_blk {n : Nat} : ∀ a, (none : Option Addr) = some a → a.block < n := fun _ h => by cases h
theorem SlI.k {α : Type} {e : α → List Value} {A : Option Addr} {c : Nat} {xs : List α} (h : SlI w e A c xs) : xs.length ≤ c ∧ c ≤ maxLen := ⟨h.le, h.cap⟩
theorem SlI.takeI {α : Type} {e : α → List Value} {k c : Nat} (he : ∀ x, (e x).length = k) {A : Option Addr} {xs r : List α} {i : Int} (s : SlI w e A c xs) (h : takeI xs i = some r) : SlI w e A c r := by
  obtain ⟨j, _, _, h1, h2⟩ := takeI_some h
  exact ⟨by have := s.le; omega, s.cap, Rd.takeI he s.rd h, s.blk⟩
theorem SlI.dropI {α : Type} {e : α → List Value} {k c : Nat} (he : ∀ x, (e x).length = k) {A : Option Addr} {xs r : List α} {i : Int} (s : SlI w e A c xs) (h : dropI xs i = some r) : SlI w e (cutA A c i.toNat k) (c - i.toNat) r := by
  obtain ⟨j, h0, _, h1, h2⟩ := dropI_some h
  exact ⟨by have := s.le; omega, by have := s.cap; omega, Rd.dropI he s.rd s.le h, cutA_blk s.blk⟩
theorem k_take {α : Type} {c : Nat} {xs r : List α} {i : Int} (k : xs.length ≤ c ∧ c ≤ maxLen) (h : takeI xs i = some r) : r.length ≤ c ∧ c ≤ maxLen := by obtain ⟨j, _, _, h1, h2⟩ := takeI_some h; exact ⟨by omega, k.2⟩
theorem k_drop {α : Type} {c : Nat} {xs r : List α} {i : Int} (k : xs.length ≤ c ∧ c ≤ maxLen) (h : dropI xs i = some r) : r.length ≤ c - i.toNat ∧ c - i.toNat ≤ maxLen := by obtain ⟨j, h0, _, h1, h2⟩ := dropI_some h; exact ⟨by omega, by omega⟩
variable {dn : Nat} {ty : TypeId} {pos : String} {af : Array Edge} {g : Option (Nat × Bool)} {rest : List Oper}
/-! ### append -/
theorem wpX_append {α : Type} {e : α → List Value} {t te size bytes c0 c : Nat} {z : Value} {s x : Operand} {A0 A : Option Addr} {xs ys zs : List α} {Hf : Value → List Ent} (he : ∀ x, (e x).length = size) (h1 : ∀ l : List α, ∀ u ∈ encs e l, u.oneCell' = true) (E : Elem P t te z size bytes) (hbz : bytes ≤ 100000)
    (hg : wantB ops L g = some true) (hN : Nat.ble (dn + 1) N.n = true) (hs : ev L s = some (.slice A0 xs.length c0)) (hx : ev L x = some (.slice A ys.length c)) (hS : St0 S w0 w H) (hH : ∀ v', Pos H (.row (.slice A0 xs.length c0) te size xs.length (encs e xs)) (Hf v') (.row v' te size zs.length (encs e zs)))
    (hr : Rd w A (encs e ys)) (hf : fewI (xs ++ ys) = some zs)
    (k : ∀ A' c' w', (zs.length ≤ c' ∧ c' ≤ maxLen) → St0 S w0 w' (Hf (.slice A' zs.length c')) → wpS P ops Q rest N ((dn, .slice A' zs.length c') :: L) w') :
    wpS P ops Q (⟨some dn, .call { callee := .builtin .append, args := #[s, x], argTypes := #[t, t] }, ty, pos, af, g⟩ :: rest) N L w := by
  obtain ⟨rfl, hl⟩ := fewI_some hf
  rw [List.length_append] at hl
  have hb : (xs.length + ys.length) * bytes ≤ 140737488355328 := Nat.le_trans (Nat.mul_le_mul hl hbz) (by omega)
  have hH' : ∀ v', Pos H (.row (.slice A0 xs.length c0) te size xs.length (encs e xs)) (Hf v') (.row v' te size (xs ++ ys).length (encs e xs ++ encs e ys)) := fun v' => by have := hH v'; rwa [encs_app] at this
  refine wpS_append (n' := (xs ++ ys).length) E hg hN hs hx hS hH' hr (encs_length he ys) (h1 ys) (List.length_append ..) (by rw [List.length_append]; unfold maxLen; omega) (by rw [List.length_append]; exact hb) (fun A' c' w' k1 k2 hS => k A' c' w' ⟨k1, k2⟩ hS)
theorem wpX_append_nil {α : Type} {e : α → List Value} {t te size bytes c : Nat} {z : Value} {s x : Operand} {A : Option Addr} {ys zs : List α} (he : ∀ x, (e x).length = size) (h1 : ∀ l : List α, ∀ u ∈ encs e l, u.oneCell' = true) (E : Elem P t te z size bytes) (hbz : bytes ≤ 100000)
    (hg : wantB ops L g = some true) (hN : Nat.ble (dn + 1) N.n = true) (hs : ev L s = some (.slice none 0 0)) (hx : ev L x = some (.slice A ys.length c)) (hS : St0 S w0 w H)
    (hr : Rd w A (encs e ys)) (hf : fewI ys = some zs)
    (k : ∀ A' c' w', (zs.length ≤ c' ∧ c' ≤ maxLen) → St0 S w0 w' (.row (.slice A' zs.length c') te size zs.length (encs e zs) :: H) → wpS P ops Q rest N ((dn, .slice A' zs.length c') :: L) w') :
    wpS P ops Q (⟨some dn, .call { callee := .builtin .append, args := #[s, x], argTypes := #[t, t] }, ty, pos, af, g⟩ :: rest) N L w := by
  obtain ⟨rfl, hl⟩ := fewI_some hf
  have hb : zs.length * bytes ≤ 140737488355328 := Nat.le_trans (Nat.mul_le_mul hl hbz) (by omega)
  exact wpS_append_nil E hg hN hs hx hS hr (encs_length he zs) (h1 zs) (by unfold maxLen; omega) hb (fun A' c' w' k1 k2 hS => k A' c' w' ⟨k1, k2⟩ hS)
theorem setI_len {α : Type} {l : List α} {i : Int} {a : α} {n : Nat} (h : l.length = n) : (setI l i a).length = n := by unfold setI; rw [List.length_set]; exact h
theorem k_set {α : Type} {l : List α} {i : Int} {a : α} {c : Nat} (h : l.length ≤ c ∧ c ≤ maxLen) : (setI l i a).length ≤ c ∧ c ≤ maxLen := by rw [setI_len rfl]; exact h
theorem absK {κ ρ : Type} {F : κ → Option ρ} {K : κ} {r : ρ} (h : F K = some r) : ∃ kk, kk = K ∧ F kk = some r := ⟨K, rfl, h⟩
theorem he_enE : ∀ x, (enE x).length = 2 + 1 := fun _ => rfl
theorem he_enI : ∀ x, (enI x).length = 0 + 1 := fun _ => rfl
theorem he_enO : ∀ x, (enO x).length = 0 + 1 := fun _ => rfl
theorem he_enY : ∀ x, (enY x).length = 0 + 1 := fun _ => rfl
theorem oc_of {α : Type} {e : α → List Value} (h : ∀ x, (e x).all (·.oneCell') = true) (l : List α) : ∀ u ∈ encs e l, u.oneCell' = true := fun u hu => by
  obtain ⟨x, _, hx⟩ := List.mem_flatMap.1 hu
  exact List.all_eq_true.1 (h x) u hx
theorem oc_enE : ∀ l : List En, ∀ u ∈ encs enE l, u.oneCell' = true := oc_of fun _ => rfl
theorem oc_enI : ∀ l : List Int, ∀ u ∈ encs enI l, u.oneCell' = true := oc_of fun _ => rfl
theorem oc_enO : ∀ l : List Bool, ∀ u ∈ encs enO l, u.oneCell' = true := oc_of fun _ => rfl
theorem oc_enY : ∀ l : List UInt8, ∀ u ∈ encs enY l, u.oneCell' = true := oc_of fun _ => rfl
end
end Go.Proofs.Ythngkojbokknfaa
/- What layer 12's rows share. -/
namespace Go.Proofs.Ythngkojbokknfaa
open Go Go.ChangeShapes Go.WideShapes Go.ChangeAt Go.RowKit
theorem own : ownKnob Try.prog.godebug = none := by kernel_rfl
theorem laidOut : laidOutB Try.prog = true := by kernel_rfl
/-- A slice that is an argument lies in the world. -/
theorem okWide_blk {P : Program} {W : World} {base : Nat} {t e : TypeId} {n c : Nat} {A : Option Addr} (ht : P.underlying t = some (.slice e)) (h : Value.okWide P W .any base t (.slice A n c)) : ∀ a, A = some a → a.block < W.heap.size := by
  intro a ha
  subst ha
  simp only [Value.okWide, ht, Cell.okWide, Cell.ok, World.has] at h
  obtain ⟨_, _, _, _, row, cells, hsh, _⟩ := h
  unfold World.shape? at hsh
  rcases Nat.lt_or_ge a.block W.heap.size with hlt | hge
  · exact hlt
  · rw [Array.getElem?_eq_none hge] at hsh
    simp at hsh
theorem Calls.pure0 {P : Program} {f : Nat} {args : Array Value} {w : World} {v : Value} (h : Calls P f args w fun e w' => e = .returned v ∧ St0 All w w' []) : Calls P f args w fun e w' => e = .returned v ∧ Below w.heap.size w w' := h.mono fun _ _ h => ⟨h.1, h.2.pure⟩
end Go.Proofs.Ythngkojbokknfaa
/- The walks of tuples: what may be. -/
namespace Go.Proofs.Ythngkojbokknfaa
open Go Go.RowKit
set_option maxRecDepth 10000

theorem must_t (w : World) : PureC Try.prog 45 #[.bool true] w (.tuple #[]) := by
  refine PureC.mk ?_
  refine gw_enter1 Try.func45 rfl Try.ntmps45 rfl ?_
  have hS := St0.start All w
  repeat (first | apply wpS_nil | (apply QH_seq_k; assumption) | (apply wpC_seq_k; intro K hK) | apply wpC_region | (apply wpS_g; refine wpS_put rfl rfl rfl (by first | exact yv_move rfl | exact yv_not rfl) ?_) | apply wpC_cond_f rfl rfl | apply wpC_skip)
  refine QH_end rfl (by first | exact RV.nil) rfl ?_
  exact ⟨rfl, hS.pure⟩
theorem must_f (w : World) : Calls Try.prog 45 #[.bool false] w fun e w' => e = .panicked badP ∧ Below w.heap.size w w' := by
  refine gw_enter1 Try.func45 rfl Try.ntmps45 rfl ?_
  have hS := St0.start All w
  repeat (first | apply wpS_nil | (apply QH_seq_k; assumption) | (apply wpC_seq_k; intro K hK) | apply wpC_region | (apply wpS_g; refine wpS_put rfl rfl rfl (by first | exact yv_move rfl | exact yv_not rfl | exact yv_makeInterface (by kernel_rfl) rfl) ?_) | apply wpC_cond_t rfl rfl | (apply wpS_g; refine wpS_panic rfl (fun _ => rfl) ?_))
  refine QH_panic rfl ⟨rfl, hS.pure⟩

theorem entries1_iter (bt : Nat) (s : St) (A : Option Addr) (c : Nat) (l : List En) (t v : Int) (hlc : l.length ≤ c ∧ c ≤ maxLen) (hl9 : l.length ≤ 1000000000) (n0 M : Nat) (w : World) (hA : Rd w A (ens l)) (hi : -2000000000000 ≤ s.index ∧ s.index ≤ 2000000000000) (hb : w.heap[bt]? = some (.cells #[.int .i64 s.index, .int .i64 s.term, .int .i64 s.sum, .int .i64 s.level, .bool s.final, .slice A l.length c, .int .i64 t, .int .i64 v] 26)) (hbM : M ≤ bt) (hn : n0 ≤ M) (hAn : ∀ a, A = some a → a.block < n0) :
    IterP Try.prog 75 #[.pointer (some ⟨bt, 0, none⟩)] (fun p : Int × En => [Value.int .i64 p.1, .agg #[.int .i64 p.2.term, .int .i64 p.2.kind, .int .i64 p.2.value]].toArray) (l.mapIdx fun i e => (s.index + 1 + i, e)) n0 M w := by
  intro lo J Jx Jp W hW hJ hJx hJp hy h0
  have hbl : bt < w.heap.size := (Array.getElem?_eq_some_iff.1 hb).1
  have hbW : W.heap[bt]? = some (.cells #[.int .i64 s.index, .int .i64 s.term, .int .i64 s.sum, .int .i64 s.level, .bool s.final, .slice A l.length c, .int .i64 t, .int .i64 v] 26) := (hW.block bt hbl).trans hb
  have hAW := hA.below hW
  show Calls _ _ #[_, _] _ _
  refine gw_enter2 Try.func75 rfl Try.ntmps75 rfl ?_
  have hS := St0.start All W
  repeat (first | apply wpS_nil | (apply QH_seq_k; assumption) | (apply wpC_seq_k; intro K hK) | apply wpC_region | (apply wpS_g; refine wpS_put rfl rfl rfl (by first | exact yv_move rfl | exact yv_fieldAddr (by first | exact fo_23_0 | exact fo_26_1) rfl | (apply yv_g_load; first | exact yv_load_ob (by first | exact sc_24) rfl (RW.here _) hS (by first | trivial) (by first | trivial) (by assumption) (by repeat (first | exact Seg.here (Pre.succ Pre.zero) | apply Seg.succ))) | (apply yv_g_bi; first | exact yv_len (by first | exact el_24) rfl)) ?_) | apply wpC_block)
  refine wpC_loop (X := Nat) (fun k => [(8, .int .i64 k), (7, .int .i64 l.length), (6, .slice A l.length c), (1, .pointer (some ⟨bt, 0, none⟩)), (0, .func (.yield lo) #[] #[])])
    (fun k B => k ≤ l.length ∧ J k B ∧ B.heap[bt]? = some (.cells #[.int .i64 s.index, .int .i64 s.term, .int .i64 s.sum, .int .i64 s.level, .bool s.final, .slice A l.length c, .int .i64 t, .int .i64 v] 26) ∧ Rd B A (ens l) ∧ w.heap.size ≤ B.heap.size) (fun k => l.length - k) 0 (by repeat (first | exact Sub.nil | refine Sub.cons rfl ?_)) ⟨Nat.zero_le _, h0, hbW, hAW, hW.size⟩ ?_
  rintro k B ⟨hk, hJk, hbB, hAB, hz⟩
  clear hbW hAW hS h0
  have hS := St0.start All B
  rcases Nat.lt_or_ge k l.length with hlt | hge
  · obtain ⟨e, he⟩ : ∃ e, l[k]? = some e := ⟨_, List.getElem?_eq_getElem hlt⟩
    obtain ⟨b1, o1, rfl, hb1, hr⟩ := hAB.entR he
    repeat (first | (apply wpC_seq_k; intro K hK))
    apply wpC_region
    repeat (first | apply wpS_nil | (apply QH_seq_k; assumption) | (apply wpC_seq_k; intro K hK) | (apply wpS_g; refine wpS_put rfl rfl rfl (by first | (apply yv_g_bin; first | exact yv_lss_t rfl rfl (by omega))) ?_) | apply wpC_cond_t rfl rfl | apply wpC_skip | apply wpC_block)
    apply wpC_region
    repeat (first | apply wpS_nil | (apply QH_seq_k; assumption) | (apply wpC_seq_k; intro K hK) | (apply wpS_g_store; refine wpS_store rfl rfl rfl (by first | exact CellsOf.agg) hS (by repeat (first | exact Pos.head)) (by repeat (first | exact SetC.here (by repeat (first | exact Ovr.nil | apply Ovr.cons)))) (by kernel_rfl) rfl (fun w hS hB => ?_)) | (apply wpS_g_alloc; refine wpS_alloc rfl rfl (by first | exact zc_50) hS (fun b w hS hB => ?_)) | (apply wpS_g; refine wpS_put rfl rfl rfl (by first | exact yv_move rfl | exact yv_assign rfl | (apply yv_g_load; first | exact yv_loadA_old (by first | exact ag_50) rfl (RW.here _) hS (by first | trivial) (by first | trivial) (by assumption) (by rfl)) | exact yv_indexAddr (by first | exact el_24) rfl rfl rfl (by omega)) ?_))
    refine wpC_regionY 8 (by repeat (first | exact NL.body (by intro _ h; simp at h) | apply NL.then | apply NL.inBlock)) (by kernel_rfl) ?_
    dsimp only [List.take, List.drop]
    repeat (first | apply wpS_nil | (apply wpS_g; refine wpS_put rfl rfl rfl (by first | exact yv_move rfl | exact yv_fieldAddr (by first | exact fo_23_0 | exact fo_26_0) rfl | (apply yv_g_load; first | exact yv_load_boxA (by first | exact ag_50) rfl (RW.here _) hS (by repeat (first | exact Has.head)) (by first | trivial) (by repeat (first | exact Seg.here (by repeat (first | exact Pre.zero | apply Pre.succ)))) | exact yv_load_ob (by first | exact sc_3) rfl (RW.here _) hS (by first | trivial) (by first | trivial) (by assumption) (by repeat (first | exact Seg.here (Pre.succ Pre.zero)))) | (apply yv_g_bin; first | exact yv_add rfl rfl (by omega))) ?_))
    refine QH_Y ?_
    have hk1 : KeepB All B w := hS.base
    refine wpSI_yield rfl rfl rfl rfl (hy k (s.index + 1 + k, e) w (by simp [he]) (hJ k B w hJk (hk1.sub fun _ _ _ => trivial)) (Nat.le_trans hz hk1.size)) ?_
    rintro ex w2 (⟨rfl, hJ2, hk2⟩ | ⟨rfl, hJ2, hk2⟩ | ⟨ch, rfl, hJ2⟩)
    · refine .inl ⟨_, rfl, wpSI_rest (by repeat (first | exact NL.body (by intro _ h; simp at h) | apply NL.then | apply NL.inBlock)) (by kernel_rfl) ?_⟩
      have hS := St0.start All w2
      repeat (first | apply wpS_nil | (apply QH_seq_k; assumption) | apply wpC_region | (apply wpS_g; refine wpS_put rfl rfl rfl (by first | exact yv_move rfl | (apply yv_g_bin; first | exact yv_add rfl rfl (by omega)) | exact yv_not rfl) ?_) | apply wpC_cond_f rfl rfl | apply wpC_skip | apply QH_block_normal)
      refine QH_again (k + 1) (by repeat (first | exact Sub.nil | refine Sub.cons rfl ?_)) ⟨hlt, hJ2, ?_, ?_, ?_⟩ (by show l.length - (k + 1) < l.length - k; omega)
      · exact (hk2.block bt (Nat.lt_of_lt_of_le hbl (Nat.le_trans hz hk1.size)) (.inr ⟨hbM, hbl⟩)).trans ((hk1.block bt (Nat.lt_of_lt_of_le hbl hz) trivial).trans hbB)
      · exact hk2.rd (hk1.rd hAB (fun _ _ => trivial)) (fun p hp => .inl (hAn p hp))
      · exact Nat.le_trans hz (Nat.le_trans hk1.size hk2.size)
    · refine .inl ⟨_, rfl, wpSI_rest (by repeat (first | exact NL.body (by intro _ h; simp at h) | apply NL.then | apply NL.inBlock)) (by kernel_rfl) ?_⟩
      have hS := St0.start All w2
      repeat (first | apply wpS_nil | (apply QH_seq_k; assumption) | (apply wpS_g; refine wpS_put rfl rfl rfl (by first | exact yv_not rfl) ?_) | apply wpC_cond_t rfl rfl | apply wpC_ret | apply QH_then_ret | apply QH_block_ret)
      refine QH_ret rfl (by first | exact RV.nil) rfl ?_
      exact .inl ⟨⟨_, rfl⟩, .inr hJ2⟩
    · refine .inr ⟨ch, rfl, ?_⟩
      repeat (first | apply QH_then_panic | apply QH_block_panic)
      exact QH_panic rfl (.inr ⟨ch, rfl, hJ2⟩)
  · obtain rfl : k = l.length := by omega
    repeat (first | apply wpS_nil | (apply QH_seq_k; assumption) | (apply wpC_seq_k; intro K hK) | apply wpC_region | (apply wpS_g; refine wpS_put rfl rfl rfl (by first | (apply yv_g_bin; first | exact yv_lss_f rfl rfl (by omega))) ?_) | apply wpC_cond_f rfl rfl | apply wpC_exit | apply QH_then_exit | apply QH_block_hit)
    refine QH_end rfl (by first | exact RV.nil) rfl ?_
    refine .inl ⟨⟨_, rfl⟩, .inl ?_⟩
    rw [List.length_mapIdx]
    exact hJ _ _ _ hJk (hS.base.sub fun _ _ _ => trivial)

theorem fine_b (s : St) (w : World) (b : Bool) (h : fineB s = b) : PureC Try.prog 62 #[.agg #[.int .i64 s.index, .int .i64 s.term, .int .i64 s.sum, .int .i64 s.level, .bool s.final]] w (.bool b) := ⟨by subst h; exact fine_any s w⟩
theorem right_b (e : En) (w : World) (b : Bool) (h : rightB e = b) : PureC Try.prog 61 #[.agg #[.int .i64 e.term, .int .i64 e.kind, .int .i64 e.value]] w (.bool b) := ⟨by subst h; exact right_any e w⟩
theorem entries_any (s : St) (A : Option Addr) (n c : Nat) (t v : Int) (w : World) :
    Calls Try.prog 68 #[.agg #[.int .i64 s.index, .int .i64 s.term, .int .i64 s.sum, .int .i64 s.level, .bool s.final, .slice A n c, .int .i64 t, .int .i64 v]] w fun e w' => ∃ b, (e = .returned (.func (.func 75) #[] #[.pointer (some ⟨b, 0, none⟩)]) ∧ w'.heap[b]? = some (.cells #[.int .i64 s.index, .int .i64 s.term, .int .i64 s.sum, .int .i64 s.level, .bool s.final, .slice A n c, .int .i64 t, .int .i64 v] 26) ∧ w.heap.size ≤ b) ∧ Below w.heap.size w w' := by
  refine gw_enter1 Try.func68 rfl Try.ntmps68 rfl ?_
  have hS := St0.start All w
  repeat (first | apply wpS_nil | (apply QH_seq_k; assumption) | (apply wpC_seq_k; intro K hK) | apply wpC_region | (apply wpS_g_box; refine wpS_box rfl rfl rfl (by first | exact CellsOf.agg) hS (fun b w hS hB => ?_)) | (apply wpS_g; refine wpS_put rfl rfl rfl (by first | exact yv_assign rfl | exact yv_makeFunc rfl rfl) ?_) | apply wpC_ret)
  refine QH_ret rfl (by first | exact RV.tmp rfl RV.nil) rfl ?_
  have h := hS.get 0 rfl
  refine ⟨_, ⟨rfl, h.1, ?_⟩, hS.pure⟩
  have := hS.rng _ (List.mem_cons_self ..) _ rfl
  exact Nat.le_of_not_lt fun hlt => this.2 hlt trivial

set_option maxHeartbeats 1000000 in
theorem check_any (s : St) (A : Option Addr) (c : Nat) (l : List En) (t v : Int) (w0 : World) (hA : Rd w0 A (ens l)) (hlc : l.length ≤ c ∧ c ≤ maxLen) (hl9 : l.length ≤ 1000000000) (hAw : ∀ a, A = some a → a.block < w0.heap.size) :
    Calls Try.prog 57 #[.agg #[.int .i64 s.index, .int .i64 s.term, .int .i64 s.sum, .int .i64 s.level, .bool s.final, .slice A l.length c, .int .i64 t, .int .i64 v]] w0 fun e w' => ((tupB ⟨s, l, t, v⟩ = true ∧ e = .returned (.tuple #[])) ∨ (tupB ⟨s, l, t, v⟩ = false ∧ e = .panicked badP)) ∧ Below w0.heap.size w0 w' := by
  by_cases hc : fineB s = true ∧ s.index ≤ 1073740824 ∧ l.length ≤ 200 ∧ 0 ≤ v ∧ v ≤ 5 ∧ t ≤ 1073741824
  · obtain ⟨h1, h2, h3, h4, h5, h6⟩ := hc
    have hi : -2000000000000 ≤ s.index ∧ s.index ≤ 2000000000000 := by
      rcases (fineB_iff s).1 h1 with h | h
      · rw [h]; decide
      · omega
    refine gw_enter1 Try.func57 rfl Try.ntmps57 rfl ?_
    have hS := St0.start All w0
    repeat (first | (apply wpC_seq_k; intro K hK) | apply wpC_region)
    first | (apply wpS_g_box; refine wpS_box rfl rfl rfl (by first | exact CellsOf.agg) hS (fun bT w hS hB => ?_))
    repeat (first | apply wpS_nil | (apply QH_seq_k; assumption) | (apply wpC_seq_k; intro K hK) | apply wpC_region | (apply wpS_g_call; first | refine wpS_callP rfl rfl rfl (by kernel_rfl) rfl (fine_b _ _ true h1) hS (fun w hS hB => ?_) | refine wpS_callP rfl rfl rfl (by kernel_rfl) rfl (must_t _) hS (fun w hS hB => ?_)) | (apply wpS_g; refine wpS_put rfl rfl rfl (by first | exact yv_move rfl | exact yv_fieldAddr (by first | exact fo_23_0 | exact fo_23_1 | exact fo_26_0 | exact fo_26_1 | exact fo_26_2 | exact fo_26_3) rfl | (apply yv_g_load; first | exact yv_load_box (by first | exact sc_3 | exact sc_24) rfl (RW.here _) hS (by repeat (first | exact Has.head)) (by first | trivial) (by repeat (first | exact Seg.here (Pre.succ Pre.zero) | apply Seg.succ)) | exact yv_load_boxA (by first | exact ag_23) rfl (RW.here _) hS (by repeat (first | exact Has.head)) (by first | trivial) (by repeat (first | exact Seg.here (by repeat (first | exact Pre.zero | apply Pre.succ))))) | (apply yv_g_bin; first | exact yv_leq_t rfl rfl (by omega) | exact yv_geq_t rfl rfl (by omega)) | (apply yv_g_pick; first | exact yv_pick_t rfl rfl rfl) | (apply yv_g_bi; first | exact yv_len (by first | exact el_24) rfl)) ?_))
    first | (apply wpS_g_alloc; refine wpS_alloc rfl rfl (by first | exact zc_3) hS (fun bL w hS hB => ?_))
    repeat (first | apply wpS_nil | (apply QH_seq_k; assumption) | (apply wpC_seq_k; intro K hK) | apply wpC_region | (apply wpS_g_store; refine wpS_store rfl rfl rfl (by first | exact CellsOf.int) hS (by repeat (first | exact Pos.head)) (by repeat (first | exact SetC.here (by repeat (first | exact Ovr.nil | apply Ovr.cons)))) (by kernel_rfl) rfl (fun w hS hB => ?_)) | (apply wpS_g; refine wpS_put rfl rfl rfl (by first | (apply yv_g_load; first | exact yv_load_boxA (by first | exact ag_26) rfl (RW.here _) hS (by repeat (first | exact Has.head | apply Has.tail)) (by first | trivial) (by repeat (first | exact Seg.here (by repeat (first | exact Pre.zero | apply Pre.succ)))))) ?_))
    refine wpS_call rfl rfl rfl rfl (by kernel_rfl) rfl (entries_any s A l.length c t v _) ?_
    rintro e w1 ⟨be, ⟨rfl, hbe, hbl⟩, hB1⟩
    refine ⟨_, rfl, ?_⟩
    have hz := hB1.size
    have hS1 := hS.below hB1
    repeat (first | apply wpS_nil | (apply QH_seq_k; assumption) | apply wpC_block)
    have hR1 : Rnd w0 w.heap.size (w1.heap.size + 2) w1 [.box bL [.int .i64 s.term] 3, .box bT [.int .i64 s.index, .int .i64 s.term, .int .i64 s.sum, .int .i64 s.level, .bool s.final, .slice A l.length c, .int .i64 t, .int .i64 v] 26] :=
      ⟨hS1, fun e he k hk => .inl (hS.rng e he k hk).1⟩
    refine wpC_range (w0 := w0) (M := w.heap.size) (X := Int) rfl (by kernel_rfl) (entries1_iter be s A c l t v hlc hl9 w0.heap.size w.heap.size w1 (hA.below hS1.pure) hi hbe hbl hS.size hAw) ⟨hS.size, hz⟩ (fun _ => rfl) (by kernel_rfl)
      (fun k x => [.box bL [.int .i64 x] 3, .box bT [.int .i64 s.index, .int .i64 s.term, .int .i64 s.sum, .int .i64 s.level, .bool s.final, .slice A l.length c, .int .i64 t, .int .i64 v] 26]) (fun k x => x = lastT s.term (l.take k) ∧ logB s.term (l.take k) = true) (fun _ _ => []) (fun _ _ => False) (fun ch => ch = badP ∧ logB s.term l = false)
      s.term hR1 ⟨by simp [lastT], by simp [logB]⟩ ?_ ?_ (fun _ _ _ h _ => h.elim) ?_
    · rintro lo k e x B hk ⟨hx, hlog⟩ hzB hRB hS
      rw [List.getElem?_mapIdx] at hk
      obtain ⟨y, hy, rfl⟩ := Option.map_eq_some_iff.1 hk
      clear hk
      dsimp only [List.zip, List.zipWith, List.foldl]
      repeat (first | (refine wpC_regionR (by repeat (first | exact NL.false | apply NL.then)) (by kernel_rfl) ?_))
      first | (apply wpS_g_alloc; refine wpS_alloc rfl rfl (by first | exact zc_50) hS (fun bE w hS hB => ?_))
      repeat (first | apply wpS_nil | (apply wpS_g_store; refine wpS_store rfl rfl rfl (by first | exact CellsOf.agg) hS (by repeat (first | exact Pos.head)) (by repeat (first | exact SetC.here (by repeat (first | exact Ovr.nil | apply Ovr.cons)))) (by kernel_rfl) rfl (fun w hS hB => ?_)))
      refine QH_asg hS ?_
      rintro A2 hS hBase hE
      dsimp only [List.cons_append, List.nil_append] at hS
      have hkl := (List.getElem?_eq_some_iff.1 hy).1
      have htk : l.take (k + 1) = l.take k ++ [y] := by rw [List.take_add_one, hy]; rfl
      cases hry : rightB y with
      | false =>
        repeat (first | (apply wpC_seq_k; intro K hK) | (refine wpC_regionR (by repeat (first | exact NL.round | exact NL.false | apply NL.then | apply NL.inBlock)) (by kernel_rfl) ?_) | (apply wpS_g; refine wpS_skip rfl rfl rfl ?_) | (apply wpS_g_call; first | refine wpS_callP rfl rfl rfl (by kernel_rfl) rfl (right_b _ _ false hry) hS (fun w hS hB => ?_) | (refine wpS_callPanic rfl rfl (by kernel_rfl) rfl (must_f _) ?_; rintro e w2 ⟨rfl, hB2⟩; refine ⟨_, rfl, ?_⟩)) | (apply wpS_g; refine wpS_put rfl rfl rfl (by first | exact yv_move rfl | (apply yv_g_load; first | exact yv_load_boxA (by first | exact ag_50) rfl (RW.here _) hS (by repeat (first | exact Has.head)) (by first | trivial) (by repeat (first | exact Seg.here (by repeat (first | exact Pre.zero | apply Pre.succ))))) | (apply yv_g_pick; first | exact yv_pick_f rfl rfl rfl)) ?_) | apply wpC_block | apply QH_then_panic | apply QH_block_panic)
        refine QH_round_panic hBase (hS.below hB2) rfl ⟨rfl, ?_⟩
        have : logB s.term (l.take (k + 1)) = false := by rw [htk, logB_snoc, hry]; simp
        cases hl : logB s.term l with
        | false => rfl
        | true => rw [logB_take _ _ _ hl] at this; cases this
      | true =>
        by_cases hle : x ≤ y.term
        · repeat (first | apply wpS_nil | (apply QH_seq_k; assumption) | (apply wpC_seq_k; intro K hK) | (refine wpC_regionR (by repeat (first | exact NL.round | exact NL.false | apply NL.then | apply NL.inBlock)) (by kernel_rfl) ?_) | (apply wpS_g_store; refine wpS_store rfl rfl rfl (by first | exact CellsOf.int) hS (by repeat (first | exact Pos.head | apply Pos.tail)) (by repeat (first | exact SetC.here (by repeat (first | exact Ovr.nil | apply Ovr.cons)))) (by kernel_rfl) rfl (fun w hS hB => ?_)) | (apply wpS_g_call; first | refine wpS_callP rfl rfl rfl (by kernel_rfl) rfl (right_b _ _ true hry) hS (fun w hS hB => ?_) | refine wpS_callP rfl rfl rfl (by kernel_rfl) rfl (must_t _) hS (fun w hS hB => ?_)) | (apply wpS_g; refine wpS_put rfl rfl rfl (by first | exact yv_move rfl | exact yv_fieldAddr (by first | exact fo_23_0 | exact fo_50_0) rfl | (apply yv_g_load; first | exact yv_load_box (by first | exact sc_3) rfl (RW.here _) hS (by repeat (first | exact Has.head | apply Has.tail)) (by first | trivial) (by repeat (first | exact Seg.here (Pre.succ Pre.zero))) | exact yv_load_boxA (by first | exact ag_50) rfl (RW.here _) hS (by repeat (first | exact Has.head)) (by first | trivial) (by repeat (first | exact Seg.here (by repeat (first | exact Pre.zero | apply Pre.succ))))) | (apply yv_g_bin; first | exact yv_geq_t rfl rfl (by omega)) | (apply yv_g_pick; first | exact yv_pick_t rfl rfl rfl)) ?_) | apply wpC_block | apply QH_block_normal)
          refine QH_round hBase hE hS y.term (by first | ((try dsimp only); repeat (first | exact List.Sublist.refl _ | (refine List.Sublist.cons _ ?_)))) ⟨?_, ?_⟩
          · rw [htk, lastT_snoc]
          · rw [htk, logB_snoc, hlog, hry, ← hx]; simp [hle]
        · repeat (first | (apply wpC_seq_k; intro K hK) | (refine wpC_regionR (by repeat (first | exact NL.round | exact NL.false | apply NL.then | apply NL.inBlock)) (by kernel_rfl) ?_) | (apply wpS_g_call; first | refine wpS_callP rfl rfl rfl (by kernel_rfl) rfl (right_b _ _ true hry) hS (fun w hS hB => ?_) | (refine wpS_callPanic rfl rfl (by kernel_rfl) rfl (must_f _) ?_; rintro e w2 ⟨rfl, hB2⟩; refine ⟨_, rfl, ?_⟩)) | (apply wpS_g; refine wpS_put rfl rfl rfl (by first | exact yv_move rfl | exact yv_fieldAddr (by first | exact fo_23_0 | exact fo_50_0) rfl | (apply yv_g_load; first | exact yv_load_box (by first | exact sc_3) rfl (RW.here _) hS (by repeat (first | exact Has.head | apply Has.tail)) (by first | trivial) (by repeat (first | exact Seg.here (Pre.succ Pre.zero))) | exact yv_load_boxA (by first | exact ag_50) rfl (RW.here _) hS (by repeat (first | exact Has.head)) (by first | trivial) (by repeat (first | exact Seg.here (by repeat (first | exact Pre.zero | apply Pre.succ))))) | (apply yv_g_bin; first | exact yv_geq_f rfl rfl (by omega)) | (apply yv_g_pick; first | exact yv_pick_t rfl rfl rfl)) ?_) | apply wpC_block | apply QH_then_panic | apply QH_block_panic)
          refine QH_round_panic hBase (hS.below hB2) rfl ⟨rfl, ?_⟩
          have : logB s.term (l.take (k + 1)) = false := by rw [htk, logB_snoc, ← hx]; simp [hle]
          cases hl : logB s.term l with
          | false => rfl
          | true => rw [logB_take _ _ _ hl] at this; cases this
    · rintro x B ⟨hx, hlog⟩ hS
      rw [List.length_mapIdx, List.take_length] at hx hlog
      by_cases hxt : x ≤ t
      · repeat (first | apply wpS_nil | (apply QH_seq_k; assumption) | apply wpC_region | (apply wpS_g_call; first | refine wpS_callP rfl rfl rfl (by kernel_rfl) rfl (must_t _) hS (fun w hS hB => ?_)) | (apply wpS_g; refine wpS_put rfl rfl rfl (by first | exact yv_fieldAddr (by first | exact fo_23_0 | exact fo_26_2) rfl | (apply yv_g_load; first | exact yv_load_box (by first | exact sc_3) rfl (RW.here _) hS (by repeat (first | exact Has.head | apply Has.tail)) (by first | trivial) (by repeat (first | exact Seg.here (Pre.succ Pre.zero) | apply Seg.succ))) | (apply yv_g_bin; first | exact yv_geq_t rfl rfl (by omega))) ?_) | apply QH_block_normal)
        refine QH_shut (.inr (.inl rfl)) hS Pos.head (fun w' hS => ?_)
        refine QH_end rfl (by first | exact RV.nil) rfl ?_
        refine ⟨.inl ⟨?_, rfl⟩, hS.pure⟩
        unfold tupB
        simp only [h1, hlog, ← hx, Bool.true_and, Bool.and_eq_true, decide_eq_true_eq]
        exact ⟨⟨⟨h2, h3, h4, h5, h6⟩, trivial⟩, hxt⟩
      · repeat (first | (apply QH_seq_k; assumption) | apply wpC_region | (apply wpS_g_call; first | (refine wpS_callPanic rfl rfl (by kernel_rfl) rfl (must_f _) ?_; rintro e w2 ⟨rfl, hB2⟩; refine ⟨_, rfl, ?_⟩)) | (apply wpS_g; refine wpS_put rfl rfl rfl (by first | exact yv_fieldAddr (by first | exact fo_23_0 | exact fo_26_2) rfl | (apply yv_g_load; first | exact yv_load_box (by first | exact sc_3) rfl (RW.here _) hS (by repeat (first | exact Has.head | apply Has.tail)) (by first | trivial) (by repeat (first | exact Seg.here (Pre.succ Pre.zero) | apply Seg.succ))) | (apply yv_g_bin; first | exact yv_geq_f rfl rfl (by omega))) ?_) | apply QH_block_normal)
        refine QH_shut (.inr (.inr ⟨_, rfl⟩)) (hS.below hB2) Pos.head (fun w' hS => ?_)
        refine QH_panic rfl ⟨.inr ⟨?_, rfl⟩, hS.pure⟩
        unfold tupB
        simp [← hx, hxt]
    · rintro ch B ⟨rfl, hlog⟩ hS
      repeat (first | apply QH_then_panic | apply QH_block_panic)
      refine QH_shut (.inr (.inr ⟨_, rfl⟩)) hS Pos.head (fun w' hS => ?_)
      refine QH_panic rfl ⟨.inr ⟨?_, rfl⟩, hS.pure⟩
      unfold tupB
      simp [hlog]
  · have hF : tupB ⟨s, l, t, v⟩ = false := by
      unfold tupB
      by_cases h1 : fineB s = true
      · have : ¬ (s.index ≤ 1073740824 ∧ l.length ≤ 200 ∧ 0 ≤ v ∧ v ≤ 5 ∧ t ≤ 1073741824) := fun h => hc ⟨h1, h⟩
        simp only [h1, decide_eq_false this]; rfl
      · simp [h1]
    cases h1 : fineB s with
    | false =>
      clear hc
      refine gw_enter1 Try.func57 rfl Try.ntmps57 rfl ?_
      have hS := St0.start All w0
      repeat (first | apply wpS_nil | (apply QH_seq_k; assumption) | (apply wpC_seq_k; intro K hK) | apply wpC_region | (apply wpS_g; refine wpS_skip rfl rfl rfl ?_) | (apply wpS_g_call; first | refine wpS_callP rfl rfl rfl (by kernel_rfl) rfl (fine_b _ _ false h1) hS (fun w hS hB => ?_) | (refine wpS_callPanic rfl rfl (by kernel_rfl) rfl (must_f _) ?_; rintro e w2 ⟨rfl, hB2⟩; refine ⟨_, rfl, ?_⟩)) | (apply wpS_g_box; refine wpS_box rfl rfl rfl (by first | exact CellsOf.agg) hS (fun b w hS hB => ?_)) | (apply wpS_g; refine wpS_put rfl rfl rfl (by first | exact yv_move rfl | exact yv_fieldAddr (by first | exact fo_23_0 | exact fo_26_0) rfl | (apply yv_g_load; first | exact yv_load_boxA (by first | exact ag_23) rfl (RW.here _) hS (by repeat (first | exact Has.head)) (by first | trivial) (by repeat (first | exact Seg.here (by repeat (first | exact Pre.zero | apply Pre.succ))))) | (apply yv_g_pick; first | exact yv_pick_f rfl rfl rfl)) ?_) | apply QH_then_panic)
      exact QH_panic rfl ⟨.inr ⟨hF, rfl⟩, bTr hS.pure hB2⟩
    | true =>
      have hc' : ¬ (s.index ≤ 1073740824 ∧ l.length ≤ 200 ∧ 0 ≤ v ∧ v ≤ 5 ∧ t ≤ 1073741824) := fun h => hc ⟨h1, h⟩
      clear hc
      by_cases h2 : s.index ≤ 1073740824
      · by_cases h3 : l.length ≤ 200
        · by_cases h4 : 0 ≤ v
          · by_cases h5 : v ≤ 5
            · have h6 : ¬ t ≤ 1073741824 := fun h => hc' ⟨h2, h3, h4, h5, h⟩
              clear hc'
              refine gw_enter1 Try.func57 rfl Try.ntmps57 rfl ?_
              have hS := St0.start All w0
              repeat (first | apply wpS_nil | (apply QH_seq_k; assumption) | (apply wpC_seq_k; intro K hK) | apply wpC_region | (apply wpS_g_call; first | refine wpS_callP rfl rfl rfl (by kernel_rfl) rfl (fine_b _ _ true h1) hS (fun w hS hB => ?_) | refine wpS_callP rfl rfl rfl (by kernel_rfl) rfl (must_t _) hS (fun w hS hB => ?_) | (refine wpS_callPanic rfl rfl (by kernel_rfl) rfl (must_f _) ?_; rintro e w2 ⟨rfl, hB2⟩; refine ⟨_, rfl, ?_⟩)) | (apply wpS_g_box; refine wpS_box rfl rfl rfl (by first | exact CellsOf.agg) hS (fun b w hS hB => ?_)) | (apply wpS_g; refine wpS_put rfl rfl rfl (by first | exact yv_move rfl | exact yv_fieldAddr (by first | exact fo_23_0 | exact fo_26_0 | exact fo_26_1 | exact fo_26_2 | exact fo_26_3) rfl | (apply yv_g_load; first | exact yv_load_box (by first | exact sc_3 | exact sc_24) rfl (RW.here _) hS (by repeat (first | exact Has.head)) (by first | trivial) (by repeat (first | exact Seg.here (Pre.succ Pre.zero) | apply Seg.succ)) | exact yv_load_boxA (by first | exact ag_23) rfl (RW.here _) hS (by repeat (first | exact Has.head)) (by first | trivial) (by repeat (first | exact Seg.here (by repeat (first | exact Pre.zero | apply Pre.succ))))) | (apply yv_g_bin; first | exact yv_leq_t rfl rfl (by omega) | exact yv_leq_f rfl rfl (by omega) | exact yv_geq_t rfl rfl (by omega)) | (apply yv_g_pick; first | exact yv_pick_t rfl rfl rfl) | (apply yv_g_bi; first | exact yv_len (by first | exact el_24) rfl)) ?_) | apply QH_then_panic)
              exact QH_panic rfl ⟨.inr ⟨hF, rfl⟩, bTr hS.pure hB2⟩
            · clear hc'
              refine gw_enter1 Try.func57 rfl Try.ntmps57 rfl ?_
              have hS := St0.start All w0
              repeat (first | apply wpS_nil | (apply QH_seq_k; assumption) | (apply wpC_seq_k; intro K hK) | apply wpC_region | (apply wpS_g; refine wpS_skip rfl rfl rfl ?_) | (apply wpS_g_call; first | refine wpS_callP rfl rfl rfl (by kernel_rfl) rfl (fine_b _ _ true h1) hS (fun w hS hB => ?_) | refine wpS_callP rfl rfl rfl (by kernel_rfl) rfl (must_t _) hS (fun w hS hB => ?_) | (refine wpS_callPanic rfl rfl (by kernel_rfl) rfl (must_f _) ?_; rintro e w2 ⟨rfl, hB2⟩; refine ⟨_, rfl, ?_⟩)) | (apply wpS_g_box; refine wpS_box rfl rfl rfl (by first | exact CellsOf.agg) hS (fun b w hS hB => ?_)) | (apply wpS_g; refine wpS_put rfl rfl rfl (by first | exact yv_move rfl | exact yv_fieldAddr (by first | exact fo_23_0 | exact fo_26_0 | exact fo_26_1 | exact fo_26_3) rfl | (apply yv_g_load; first | exact yv_load_box (by first | exact sc_3 | exact sc_24) rfl (RW.here _) hS (by repeat (first | exact Has.head)) (by first | trivial) (by repeat (first | exact Seg.here (Pre.succ Pre.zero) | apply Seg.succ)) | exact yv_load_boxA (by first | exact ag_23) rfl (RW.here _) hS (by repeat (first | exact Has.head)) (by first | trivial) (by repeat (first | exact Seg.here (by repeat (first | exact Pre.zero | apply Pre.succ))))) | (apply yv_g_bin; first | exact yv_leq_t rfl rfl (by omega) | exact yv_leq_f rfl rfl (by omega) | exact yv_geq_t rfl rfl (by omega)) | (apply yv_g_pick; first | exact yv_pick_t rfl rfl rfl | exact yv_pick_f rfl rfl rfl) | (apply yv_g_bi; first | exact yv_len (by first | exact el_24) rfl)) ?_) | apply QH_then_panic)
              exact QH_panic rfl ⟨.inr ⟨hF, rfl⟩, bTr hS.pure hB2⟩
          · clear hc'
            refine gw_enter1 Try.func57 rfl Try.ntmps57 rfl ?_
            have hS := St0.start All w0
            repeat (first | apply wpS_nil | (apply QH_seq_k; assumption) | (apply wpC_seq_k; intro K hK) | apply wpC_region | (apply wpS_g; refine wpS_skip rfl rfl rfl ?_) | (apply wpS_g_call; first | refine wpS_callP rfl rfl rfl (by kernel_rfl) rfl (fine_b _ _ true h1) hS (fun w hS hB => ?_) | refine wpS_callP rfl rfl rfl (by kernel_rfl) rfl (must_t _) hS (fun w hS hB => ?_) | (refine wpS_callPanic rfl rfl (by kernel_rfl) rfl (must_f _) ?_; rintro e w2 ⟨rfl, hB2⟩; refine ⟨_, rfl, ?_⟩)) | (apply wpS_g_box; refine wpS_box rfl rfl rfl (by first | exact CellsOf.agg) hS (fun b w hS hB => ?_)) | (apply wpS_g; refine wpS_put rfl rfl rfl (by first | exact yv_move rfl | exact yv_fieldAddr (by first | exact fo_23_0 | exact fo_26_0 | exact fo_26_1 | exact fo_26_3) rfl | (apply yv_g_load; first | exact yv_load_box (by first | exact sc_3 | exact sc_24) rfl (RW.here _) hS (by repeat (first | exact Has.head)) (by first | trivial) (by repeat (first | exact Seg.here (Pre.succ Pre.zero) | apply Seg.succ)) | exact yv_load_boxA (by first | exact ag_23) rfl (RW.here _) hS (by repeat (first | exact Has.head)) (by first | trivial) (by repeat (first | exact Seg.here (by repeat (first | exact Pre.zero | apply Pre.succ))))) | (apply yv_g_bin; first | exact yv_leq_t rfl rfl (by omega) | exact yv_geq_f rfl rfl (by omega)) | (apply yv_g_pick; first | exact yv_pick_t rfl rfl rfl | exact yv_pick_f rfl rfl rfl) | (apply yv_g_bi; first | exact yv_len (by first | exact el_24) rfl)) ?_) | apply QH_then_panic)
            exact QH_panic rfl ⟨.inr ⟨hF, rfl⟩, bTr hS.pure hB2⟩
        · clear hc'
          refine gw_enter1 Try.func57 rfl Try.ntmps57 rfl ?_
          have hS := St0.start All w0
          repeat (first | apply wpS_nil | (apply QH_seq_k; assumption) | (apply wpC_seq_k; intro K hK) | apply wpC_region | (apply wpS_g_call; first | refine wpS_callP rfl rfl rfl (by kernel_rfl) rfl (fine_b _ _ true h1) hS (fun w hS hB => ?_) | (refine wpS_callPanic rfl rfl (by kernel_rfl) rfl (must_f _) ?_; rintro e w2 ⟨rfl, hB2⟩; refine ⟨_, rfl, ?_⟩)) | (apply wpS_g_box; refine wpS_box rfl rfl rfl (by first | exact CellsOf.agg) hS (fun b w hS hB => ?_)) | (apply wpS_g; refine wpS_put rfl rfl rfl (by first | exact yv_move rfl | exact yv_fieldAddr (by first | exact fo_23_0 | exact fo_26_0 | exact fo_26_1) rfl | (apply yv_g_load; first | exact yv_load_box (by first | exact sc_3 | exact sc_24) rfl (RW.here _) hS (by repeat (first | exact Has.head)) (by first | trivial) (by repeat (first | exact Seg.here (Pre.succ Pre.zero) | apply Seg.succ)) | exact yv_load_boxA (by first | exact ag_23) rfl (RW.here _) hS (by repeat (first | exact Has.head)) (by first | trivial) (by repeat (first | exact Seg.here (by repeat (first | exact Pre.zero | apply Pre.succ))))) | (apply yv_g_bin; first | exact yv_leq_t rfl rfl (by omega) | exact yv_leq_f rfl rfl (by omega)) | (apply yv_g_pick; first | exact yv_pick_t rfl rfl rfl) | (apply yv_g_bi; first | exact yv_len (by first | exact el_24) rfl)) ?_) | apply QH_then_panic)
          exact QH_panic rfl ⟨.inr ⟨hF, rfl⟩, bTr hS.pure hB2⟩
      · clear hc'
        refine gw_enter1 Try.func57 rfl Try.ntmps57 rfl ?_
        have hS := St0.start All w0
        repeat (first | apply wpS_nil | (apply QH_seq_k; assumption) | (apply wpC_seq_k; intro K hK) | apply wpC_region | (apply wpS_g; refine wpS_skip rfl rfl rfl ?_) | (apply wpS_g_call; first | refine wpS_callP rfl rfl rfl (by kernel_rfl) rfl (fine_b _ _ true h1) hS (fun w hS hB => ?_) | (refine wpS_callPanic rfl rfl (by kernel_rfl) rfl (must_f _) ?_; rintro e w2 ⟨rfl, hB2⟩; refine ⟨_, rfl, ?_⟩)) | (apply wpS_g_box; refine wpS_box rfl rfl rfl (by first | exact CellsOf.agg) hS (fun b w hS hB => ?_)) | (apply wpS_g; refine wpS_put rfl rfl rfl (by first | exact yv_move rfl | exact yv_fieldAddr (by first | exact fo_23_0 | exact fo_26_0) rfl | (apply yv_g_load; first | exact yv_load_box (by first | exact sc_3) rfl (RW.here _) hS (by repeat (first | exact Has.head)) (by first | trivial) (by repeat (first | exact Seg.here (Pre.succ Pre.zero))) | exact yv_load_boxA (by first | exact ag_23) rfl (RW.here _) hS (by repeat (first | exact Has.head)) (by first | trivial) (by repeat (first | exact Seg.here (by repeat (first | exact Pre.zero | apply Pre.succ))))) | (apply yv_g_bin; first | exact yv_leq_f rfl rfl (by omega)) | (apply yv_g_pick; first | exact yv_pick_t rfl rfl rfl | exact yv_pick_f rfl rfl rfl)) ?_) | apply QH_then_panic)
        exact QH_panic rfl ⟨.inr ⟨hF, rfl⟩, bTr hS.pure hB2⟩
end Go.Proofs.Ythngkojbokknfaa
/- The walks of tuples: what is told of a panic. -/
namespace Go.Proofs.Ythngkojbokknfaa
open Go Go.RowKit

theorem told1_pan (b : Nat) (x : Int) (w : World) (hc : w.cell? ⟨b, 0, none⟩ = some (.int .i64 x)) (hz : w.frozen? ⟨b, 0, none⟩ = false) :
    CallsD Try.prog 67 #[.pointer (some ⟨b, 0, none⟩)] (.panicking badP) w fun e u' w' =>
      e = .returned (.tuple #[]) ∧ u' = .panicking [{ v := .iface 32 (.int .i64 2), recovered := true }] ∧ w' = w.setCell ⟨b, 0, none⟩ (.int .i64 2) := by
  refine callsD_of_wpS Try.func67 rfl fun c₀ cs hu => ?_
  unfold badP at hu
  have hk : ∀ w, (Instr.typeAssert (.iface 32 (.int .i64 2)) 20 32 true).run Try.prog w = .ok (.tuple #[.int .i64 2, .bool true]) w := fun w => by
    simp [Instr.typeAssert, run_underlying Try.underlying32]
  apply wpS_seq
  apply wpS_region
  simp [wpOpsS, go_sem, recoverD, hu, Try.ntmps67, Exit.thenS, hk]
  apply wpS_seq
  apply wpS_region
  simp [wpOpsS, go_sem, Exit.thenS]
  refine wpS_cond (t := true) (by simp [Act.eval]) ?_
  simp only [if_true]
  apply wpS_region
  simp [wpOpsS, go_sem, hc, hz, bodyPostS, results, Try.results67]
theorem told1_idle (b : Nat) (w : World) :
    CallsD Try.prog 67 #[.pointer (some ⟨b, 0, none⟩)] .returning w fun e u' w' => e = .returned (.tuple #[]) ∧ u' = .returning ∧ w' = w := by
  refine callsD_of_wpS Try.func67 rfl fun c₀ cs hu => ?_
  have hk : ∀ w, (Instr.typeAssert .nilIface 20 32 true).run Try.prog w = .ok (.tuple #[.int .i64 0, .bool false]) w := fun w => by
    have hz : (zeroValue 32).run Try.prog w = .ok (.int .i64 0) w := by kernel_rfl
    simp [Instr.typeAssert, run_underlying Try.underlying32, hz]
  apply wpS_seq
  apply wpS_region
  simp [wpOpsS, go_sem, recoverD, hu, Try.ntmps67, Exit.thenS, hk]
  apply wpS_seq
  apply wpS_region
  simp [wpOpsS, go_sem, Exit.thenS]
  refine wpS_cond (t := false) (by simp [Act.eval]) ?_
  simp only [Bool.false_eq_true, if_false]
  refine wpS_of_wp (wp_skip ?_)
  cases c₀
  simp_all [bodyPostS, results, Try.results67]

theorem below_trans_keep {S : Nat → Prop} {a b c : World} (h : Below a.heap.size a b) (k : KeepB (fun k => S k ∨ a.heap.size ≤ k) b c) : KeepB S a c :=
  ⟨k.os.trans h.os, k.tape.trans h.tape, k.output.trans h.output, Nat.le_trans h.size k.size, fun i hi hs => (k.block i (Nat.lt_of_lt_of_le hi h.size) (.inl hs)).trans (h.block i hi)⟩
theorem told_keep {S : Nat → Prop} {a b c : World} (h : KeepB S a b) (k : KeepB (fun k => k ≠ a.heap.size) b c) : KeepB S a c :=
  ⟨k.os.trans h.os, k.tape.trans h.tape, k.output.trans h.output, Nat.le_trans h.size k.size, fun i hi hs => (k.block i (Nat.lt_of_lt_of_le hi h.size) (by omega)).trans (h.block i hi hs)⟩

theorem told_any (g : Nat) (cap : Array Value) (w : World) (S : Nat → Prop) (R1 R2 : World → Prop) (he : enterB Try.prog g = true)
    (hc : ∀ W, W.heap.size = w.heap.size + 1 → Below w.heap.size w W → Calls Try.prog g cap W fun e w' => KeepB (fun k => S k ∨ w.heap.size ≤ k) W w' ∧ ((e = .returned (.tuple #[]) ∧ R1 w') ∨ (e = .panicked badP ∧ R2 w')))
    (hR1 : ∀ A B, R1 A → KeepB (fun k => k ≠ w.heap.size) A B → R1 B) (hR2 : ∀ A B, R2 A → KeepB (fun k => k ≠ w.heap.size) A B → R2 B) :
    Calls Try.prog 55 #[.func (.func g) #[] cap] w fun e w' => KeepB S w w' ∧ ((e = .returned (.int .i64 0) ∧ R1 w') ∨ (e = .returned (.int .i64 2) ∧ R2 w')) := by
  have hmf : ∀ (fn : Fn) (first cap : Array Value) (w : World), (Instr.makeFunc fn first cap).run Try.prog w = .ok (.func fn first cap) w := fun _ _ _ _ => rfl
  have hen : ∀ args w, (callFunc g args).run Try.prog w = .ok (.enter g args) w := fun args w => callFunc_enter he args
  have hB : Below w.heap.size w (w.alloc (.cells #[.int .i64 0] 32)) := (Below.refl _ _).alloc (Nat.le_refl _) _
  have h0 : ∀ A : World, KeepB (fun k => S k ∨ w.heap.size ≤ k) (w.alloc (.cells #[.int .i64 0] 32)) A → A.cell? ⟨w.heap.size, 0, none⟩ = some (.int .i64 0) ∧ A.frozen? ⟨w.heap.size, 0, none⟩ = false := fun A hk =>
    ⟨hk.cell (p := ⟨w.heap.size, 0, none⟩) (.inr (Nat.le_refl _)) (by simp), (hk.frozen (p := ⟨w.heap.size, 0, none⟩) (by simp) (.inr (Nat.le_refl _))).trans (by simp)⟩
  have hcc := hc _ (by simp) hB
  go_enter_defers Try.func55, Try.ntmps55
  go_wp2_with fail
  refine hcc.mono ?_
  rintro e A ⟨hk, (⟨rfl, h1⟩ | ⟨rfl, h2⟩)⟩
  · obtain ⟨c0, f0⟩ := h0 A hk
    dsimp only
    go_wp2
    refine leaves_cons (f := 67) (args := #[.pointer (some ⟨w.heap.size, 0, none⟩)]) (by simp) (by simp [go_sem]) ?_
    refine (told1_idle w.heap.size _).mono ?_
    rintro e u' w'' ⟨rfl, rfl, rfl⟩
    have hk2 : KeepB (fun k => k ≠ w.heap.size) A (A.setCell ⟨w.heap.size, 0, none⟩ (.int .i64 0)) := (KeepB.refl _ _).setCell (by simp) _
    have c1 : (A.setCell ⟨w.heap.size, 0, none⟩ (.int .i64 0)).cell? ⟨w.heap.size, 0, none⟩ = some (.int .i64 0) := World.cell?_setCell_same' _ _ _ (by rw [c0]; rfl)
    dsimp only [settle, Leaves]
    refine ⟨.int .i64 0, by simp [results, Try.results55, go_sem, c1], told_keep (below_trans_keep hB hk) hk2, .inl ⟨rfl, hR1 _ _ h1 hk2⟩⟩
  · obtain ⟨c0, f0⟩ := h0 A hk
    dsimp only
    go_wp2
    refine leaves_cons (f := 67) (args := #[.pointer (some ⟨w.heap.size, 0, none⟩)]) (by simp) (by simp [go_sem]) ?_
    refine (told1_pan w.heap.size _ _ c0 f0).mono ?_
    rintro e u' w'' ⟨rfl, rfl, rfl⟩
    have hk2 : KeepB (fun k => k ≠ w.heap.size) A (A.setCell ⟨w.heap.size, 0, none⟩ (.int .i64 2)) := (KeepB.refl _ _).setCell (by simp) _
    have c1 : (A.setCell ⟨w.heap.size, 0, none⟩ (.int .i64 2)).cell? ⟨w.heap.size, 0, none⟩ = some (.int .i64 2) := World.cell?_setCell_same' _ _ _ (by rw [c0]; rfl)
    dsimp only [settle, Leaves]
    refine ⟨.int .i64 2, by simp [results, Try.results55, go_sem, c1], told_keep (below_trans_keep hB hk) hk2, .inr ⟨rfl, hR2 _ _ h2 hk2⟩⟩
end Go.Proofs.Ythngkojbokknfaa
/- Slices of entries: copied, put together, compared. -/
namespace Go.Proofs.Ythngkojbokknfaa
open Go Go.RowKit
set_option maxRecDepth 10000

-- @EQ eqEn eqSt
theorem eqEn (w : World) (a b : En) : (Op.equalIn 10000 50 (.agg #[.int .i64 a.term, .int .i64 a.kind, .int .i64 a.value]) (.agg #[.int .i64 b.term, .int .i64 b.kind, .int .i64 b.value])).run Try.prog w = .ok (decide (a = b)) w := run_eq_entry w a b
theorem eqEn_t (w : World) (a b : En) (h : a = b) : (Op.equalIn 10000 50 (.agg #[.int .i64 a.term, .int .i64 a.kind, .int .i64 a.value]) (.agg #[.int .i64 b.term, .int .i64 b.kind, .int .i64 b.value])).run Try.prog w = .ok true w := by rw [eqEn, decide_eq_true h]
theorem eqEn_f (w : World) (a b : En) (h : a ≠ b) : (Op.equalIn 10000 50 (.agg #[.int .i64 a.term, .int .i64 a.kind, .int .i64 a.value]) (.agg #[.int .i64 b.term, .int .i64 b.kind, .int .i64 b.value])).run Try.prog w = .ok false w := by rw [eqEn, decide_eq_false h]
theorem eqSt (w : World) (a b : St) : (Op.equalIn 10000 23 (.agg #[.int .i64 a.index, .int .i64 a.term, .int .i64 a.sum, .int .i64 a.level, .bool a.final]) (.agg #[.int .i64 b.index, .int .i64 b.term, .int .i64 b.sum, .int .i64 b.level, .bool b.final])).run Try.prog w = .ok (decide (a = b)) w := run_eq_state w a b
theorem eqSt_t (w : World) (a b : St) (h : a = b) : (Op.equalIn 10000 23 (.agg #[.int .i64 a.index, .int .i64 a.term, .int .i64 a.sum, .int .i64 a.level, .bool a.final]) (.agg #[.int .i64 b.index, .int .i64 b.term, .int .i64 b.sum, .int .i64 b.level, .bool b.final])).run Try.prog w = .ok true w := by rw [eqSt, decide_eq_true h]
theorem eqSt_f (w : World) (a b : St) (h : a ≠ b) : (Op.equalIn 10000 23 (.agg #[.int .i64 a.index, .int .i64 a.term, .int .i64 a.sum, .int .i64 a.level, .bool a.final]) (.agg #[.int .i64 b.index, .int .i64 b.term, .int .i64 b.sum, .int .i64 b.level, .bool b.final])).run Try.prog w = .ok false w := by rw [eqSt, decide_eq_false h]
theorem clone_any (A : Option Addr) (n c : Nat) (l : List En) (w0 : World) (hl : l.length = n) (hn : n ≤ 1000000000) (hc : n ≤ c ∧ c ≤ maxLen) (hA : Rd w0 A (ens l)) :
    Calls Try.prog 60 #[.slice A n c] w0 fun e w' => ∃ A' c', (e = .returned (.slice A' n c') ∧ Sl w0 w' A' n c' 3 (ens l)) ∧ Below w0.heap.size w0 w' := by
  have hlen := ens_length l
  cases A with
  | none =>
    obtain rfl : n = 0 := by
      have h0 := hA.none_nil
      have : (ens l).length = 0 := by rw [h0]; rfl
      omega
    obtain rfl : l = [] := List.eq_nil_of_length_eq_zero hl
    refine gw_enter1 Try.func60 rfl Try.ntmps60 rfl ?_
    have hS := St0.start All w0
    repeat (first | apply wpS_nil | (apply QH_seq_k; assumption) | (apply wpC_seq_k; intro K hK) | apply wpC_region | (apply wpS_g; refine wpS_put rfl rfl rfl (yv_eqlNil Try.underlying24 rfl rfl) ?_) | (apply wpS_g; refine wpS_put rfl rfl rfl (by first | exact yv_move rfl | exact yv_assign rfl) ?_) | apply wpC_cond_t rfl rfl | apply wpC_ret | apply QH_then_ret)
    refine QH_ret rfl (by first | exact RV.tmp rfl RV.nil) rfl ?_
    exact ⟨_, _, ⟨rfl, Sl.nil _ _ _⟩, hS.pure⟩
  | some a =>
    refine gw_enter1 Try.func60 rfl Try.ntmps60 rfl ?_
    have hS := St0.start All w0
    repeat (first | apply wpS_nil | (apply QH_seq_k; assumption) | (apply wpC_seq_k; intro K hK) | apply wpC_region | (apply wpS_g; refine wpS_put rfl rfl rfl (yv_eqlNil Try.underlying24 rfl rfl) ?_) | (apply wpS_g; refine wpS_slice0 (by first | exact el_24) rfl rfl hS (fun b w hS hB => ?_)) | (apply wpS_g; refine wpS_put rfl rfl rfl (by first | exact yv_move rfl | exact yv_assign rfl) ?_) | apply wpC_cond_f rfl rfl | apply wpC_skip)
    refine wpS_append elemE rfl rfl rfl rfl hS (fun _ => (by repeat (first | exact Pos.head))) (hS.rd0 hA) (by omega) (ens_one l) (Nat.zero_add _).symm (by unfold maxLen; omega) (by omega) ?_
    intro A' c' w hc1 hc2 hS
    repeat (first | apply wpS_nil | (apply QH_seq_k; assumption) | (apply wpS_g; refine wpS_put rfl rfl rfl (by first | exact yv_assign rfl) ?_) | apply wpC_ret)
    refine QH_ret rfl (by first | exact RV.tmp rfl RV.nil) rfl ?_
    exact ⟨_, _, ⟨rfl, hS.row_sl (by repeat (first | exact Has.head)) ⟨hc1, hc2⟩⟩, hS.pure⟩

theorem run_append_make {P : Program} {w : World} {t e ti size bytes n : Nat} {z : Value} {k : IntKind} (E : Elem P t e z size bytes) (hti : P.underlying ti = some (.int k)) (ty : TypeId) (hn0 : 0 < n) (hn : n ≤ 1000000000000) (hb : n * bytes ≤ 140737488355328) :
    ∃ (cap : Nat) (cs : Array Value), (Builtin.append_ #[t, ti] ty #[.slice none 0 0, .int .i64 n]).run P w = .ok (.slice (some ⟨w.heap.size, 0, none⟩) n cap) ({ w with drawn := w.drawn + 1 }.alloc (.cells cs e)) ∧ n ≤ cap ∧ cap ≤ maxLen ∧ cs.size = cap * size := by
  obtain ⟨i, hi, hz, hsz, hby⟩ := info_parts E.info
  obtain ⟨cap, hcap⟩ : ∃ cap, (Question.appendCap n 0 e).cut (w.tape w.drawn (Question.appendCap n 0 e)) = cap := ⟨_, rfl⟩
  have hc1 : n ≤ cap ∧ cap ≤ maxLen := by
    simp only [Question.cut] at hcap
    have h63 : 0 < 2 ^ 63 - n := by omega
    have := Nat.mod_lt (w.tape w.drawn (Question.appendCap n 0 e)) h63
    unfold maxLen
    omega
  have hw : IntKind.i64.wrap (n : Int) = n := IntWalk.i64_in _ (by omega)
  have hzc : ∀ m, (Builtin.zeroCells z.cells m).size = m * size := fun m => by simp [Builtin.zeroCells, E.cells]
  have hns : ¬ n * size = 0 := by have := E.pos; have := Nat.mul_pos hn0 this; omega
  have hnc : Builtin.nextslicecap n 0 = n := by unfold Builtin.nextslicecap; rw [if_pos (by omega)]
  refine ⟨cap, Builtin.zeroCells z.cells n ++ Builtin.zeroCells z.cells (cap - n), ?_, hc1.1, hc1.2, ?_⟩
  · have h1 : ¬ ((n : Int) < 0) := by omega
    have h2' : ¬ ((281474976710656 : Int) < (n : Int) * (bytes : Int)) := by
      have h9 : ((n * bytes : Nat) : Int) ≤ 140737488355328 := by omega
      rw [Int.natCast_mul] at h9
      omega
    have h3 : ¬ (n ≤ 0) := by omega
    have h4 : ¬ ((9223372036854775807 : Int) < (n : Int)) := by omega
    have h6 : ¬ (n = 0) := by omega
    have h5 : ¬ (n * bytes > 2 ^ 48) := by omega
    have hask : ∀ (m : Nat) (w : World), (askRoom m).run P w = .ok () w := fun m w => by unfold askRoom; split <;> rfl
    simp [Builtin.append_, run_underlying E.under, run_underlying hti, sizeOf, typeInfo, hi, hsz, hby, asInt, asIntOf, hw, h1, h3, h4, h5, hns, hnc, zeroValue, hz, Builtin.firstCells, choose, hask, newRow]
    rw [if_neg h2', if_neg h6]
    simp [Sem.run, Question.forced, hcap]
  · have := E.cells
    simp only [Array.size_append, hzc]
    rw [← Nat.add_mul]
    congr 1
    omega

section
variable {P : Program} {ops : Array Oper} {Q : Exit → Act → World → Prop} {rest : List Oper} {N : FS} {L : List (Nat × Value)} {w w0 : World} {S : Nat → Prop} {H : List Ent} {dn : Nat} {ty : TypeId} {pos : String} {af : Array Edge} {g : Option (Nat × Bool)}
theorem wpS_append_make {t ti e size bytes n : Nat} {z : Value} {kk : IntKind} {i : Int} {s x : Operand} (E : Elem P t e z size bytes) (hti : P.underlying ti = some (.int kk))
    (hg : wantB ops L g = some true) (hN : Nat.ble (dn + 1) N.n = true) (hs : ev L s = some (.slice none 0 0)) (hx : ev L x = some (.int .i64 i)) (hi : i = (n : Int)) (hS : St0 S w0 w H) (hn0 : 0 < n) (hn : n ≤ 1000000000000) (hb : n * bytes ≤ 140737488355328)
    (k : ∀ b cap cs w', n ≤ cap → cap ≤ maxLen → cs.length = cap * size → St0 S w0 w' (.box b cs e :: H) → Below w.heap.size w w' → wpS P ops Q rest N ((dn, .slice (some ⟨b, 0, none⟩) n cap) :: L) w') :
    wpS P ops Q (⟨some dn, .call { callee := .builtin .append, args := #[s, x], argTypes := #[t, ti] }, ty, pos, af, g⟩ :: rest) N L w := by
  subst hi
  obtain ⟨cap, cs, hrun, h1, h2, h3⟩ := run_append_make (P := P) (w := w) E hti ty hn0 hn hb
  have hB1 : Below w.heap.size w w.drew := (Below.refl w.heap.size w).drew
  have hS1 := (hS.below hB1).box cs.toList e
  refine wpS_run hg rfl hN (fun ρ hρ => ?_) (k w.heap.size cap cs.toList _ h1 h2 (by simpa using h3) hS1 (bTr hB1 ((Below.refl _ _).alloc (Nat.le_refl _) _)))
  simp only [execOp, resolve, invoke, builtin, Sem.run_bind, Sem.run_pure, Result.andThen_ok, List.map_toArray, List.map_cons, List.map_nil, hρ s _ hs, hρ x _ hx, hrun]
  rw [Array.toArray_toList]
  rfl
end
theorem grow_nil (n : Nat) (w0 : World) (hn : n ≤ 1000000000) :
    Calls Try.prog 65 #[.slice none 0 0, .int .i64 n] w0 fun e w' => ∃ A' c', (e = .returned (.slice A' 0 c') ∧ w'.ownsRow w0.heap.size 50 3 (.slice A' 0 c') 0 []) ∧ Below w0.heap.size w0 w' := by
  rcases Nat.eq_zero_or_pos n with h0 | h0
  · subst h0
    refine gw_enter2 Try.func65 rfl Try.ntmps65 rfl ?_
    have hS := St0.start All w0
    repeat (first | apply wpS_nil | (apply QH_seq_k; assumption) | (apply wpC_seq_k; intro K hK) | apply wpC_region | (apply wpS_g; refine wpS_put rfl rfl rfl (by first | exact yv_move rfl | exact yv_assign rfl | (apply yv_g_bin; first | exact yv_lss_f rfl rfl (by omega) | exact yv_gtr_f rfl rfl (by omega) | exact yv_sub rfl rfl (by omega)) | (apply yv_g_bi; first | exact yv_len (by first | exact el_24) rfl | exact yv_cap (by first | exact el_24) rfl)) ?_) | apply wpC_cond_f rfl rfl | apply wpC_skip | apply wpC_ret)
    refine QH_ret rfl (by first | exact RV.tmp rfl RV.nil) rfl ?_
    exact ⟨_, _, ⟨rfl, World.ownsRow_nil _ _ _ _⟩, hS.pure⟩
  · refine gw_enter2 Try.func65 rfl Try.ntmps65 rfl ?_
    have hS := St0.start All w0
    repeat (first | apply wpS_nil | (apply QH_seq_k; assumption) | (apply wpC_seq_k; intro K hK) | apply wpC_region | (apply wpS_g; refine wpS_put rfl rfl rfl (by first | exact yv_move rfl | exact yv_assign rfl | (apply yv_g_bin; first | exact yv_lss_f rfl rfl (by omega) | exact yv_gtr_t rfl rfl (by omega) | exact yv_sub rfl rfl (by omega)) | (apply yv_g_bi; first | exact yv_len (by first | exact el_24) rfl | exact yv_cap (by first | exact el_24) rfl) | (apply yv_g_slice; first | exact yv_slice_h (by first | exact el_24) rfl rfl rfl (by omega))) ?_) | apply wpC_cond_t rfl rfl | apply wpC_cond_f rfl rfl | apply wpC_skip)
    refine wpS_append_make elemE Try.underlying3 rfl rfl rfl rfl (n := n) (by omega) hS h0 (by omega) (by omega) ?_
    rintro b cap cs w h1 h2 h3 hS hB
    repeat (first | apply wpS_nil | (apply QH_seq_k; assumption) | (apply wpC_seq_k; intro K hK) | apply wpC_region | (apply wpS_g; refine wpS_put rfl rfl rfl (by first | exact yv_move rfl | exact yv_assign rfl | (apply yv_g_bi; first | exact yv_len (by first | exact el_24) rfl) | (apply yv_g_slice; first | exact yv_slice_h (by first | exact el_24) rfl rfl rfl (by omega))) ?_) | apply wpC_ret)
    refine QH_ret rfl (by first | exact RV.tmp rfl RV.nil) rfl ?_
    have hok : w.heap[b]? = some (.cells cs.toArray 50 (0, 0)) := hS.ok _ (List.mem_cons_self ..)
    refine ⟨_, _, ⟨rfl, by simp, .inr ⟨b, cap, cs.toArray, rfl, ?_, hok, Nat.zero_le _, h2, by simpa using h3, by simp⟩⟩, hS.pure⟩
    exact Nat.le_of_not_lt fun hlt => (hS.rng _ (List.mem_cons_self ..) b rfl).2 hlt trivial

/-- The first k of two put together. -/
def catK (l m : List En) : Nat → List En
  | 0 => []
  | 1 => l
  | _ => l ++ m
theorem concat_any (bq c2 : Nat) (A B : Option Addr) (n m c d : Nat) (l k : List En) (w0 : World) (hl : l.length = n) (hk : k.length = m) (hn : n ≤ 100000000 ∧ m ≤ 100000000) (hA : Rd w0 A (ens l)) (hB : Rd w0 B (ens k))
    (hq0 : w0.cell? ⟨bq, 0 + 0 * 1, none⟩ = some (.slice A n c)) (hq1 : w0.cell? ⟨bq, 0 + 1 * 1, none⟩ = some (.slice B m d)) (h2 : 2 ≤ c2) :
    Calls Try.prog 47 #[.slice (some ⟨bq, 0, none⟩) 2 c2] w0 fun e w' => ∃ A' c', (e = .returned (.slice A' (n + m) c') ∧ Sl w0 w' A' (n + m) c' 3 (ens (l ++ k))) ∧ Below w0.heap.size w0 w' := by
  subst hl hk
  have hlen := ens_length l
  have hlen2 := ens_length k
  have k0 : (catK l k 0).length = 0 := rfl
  have k1 : (catK l k 1).length = l.length := rfl
  have k2 : (catK l k 2).length = l.length + k.length := by simp [catK]
  have f1 : ((catK l k 0).length : Int) + (l.length : Int) = ((catK l k 1).length : Int) := by omega
  have f2 : ((catK l k 1).length : Int) + (k.length : Int) = ((catK l k 2).length : Int) := by omega
  refine gw_enter1 Try.func47 rfl Try.ntmps47 rfl ?_
  have hS := St0.start All w0
  repeat (first | apply wpS_nil | (apply QH_seq_k; assumption) | (apply wpC_seq_k; intro K hK) | apply wpC_region | (apply wpS_g; refine wpS_put rfl rfl rfl (by first | exact yv_move rfl | exact yv_assign rfl | (apply yv_g_bi; first | exact yv_len (by first | exact el_79) rfl)) ?_) | apply wpC_block)
  refine wpC_loop (X := Nat) (fun i => [(11, .int .i64 i), (10, .int .i64 2), (9, .slice (some ⟨bq, 0, none⟩) 2 c2), (3, .int .i64 (((catK l k i).length : Nat) : Int)), (0, .slice (some ⟨bq, 0, none⟩) 2 c2)]) (fun i w => i ≤ 2 ∧ St0 All w0 w []) (fun i => 2 - i) 0 (by repeat (first | exact Sub.nil | refine Sub.cons rfl ?_)) ⟨by omega, hS⟩ ?_
  rintro i w ⟨hi, hS⟩
  obtain rfl | rfl | rfl : i = 0 ∨ i = 1 ∨ i = 2 := by omega
  · repeat (first | apply wpS_nil | (apply QH_seq_k; assumption) | (apply wpC_seq_k; intro K hK) | apply wpC_region | (apply wpS_g; refine wpS_put rfl rfl rfl (by first | exact yv_move rfl | exact yv_assign rfl | (apply yv_g_load; first | exact yv_load_old (by first | exact sc_24) rfl (RW.here _) hS (by first | trivial) (by first | trivial) (by assumption)) | (apply yv_g_bin; first | exact yv_lss_t rfl rfl (by omega) | exact yv_lss_f rfl rfl (by omega) | exact yv_add rfl rfl (by omega)) | (apply yv_g_bi; first | exact yv_len (by first | exact el_24) rfl) | exact yv_indexAddr (by first | exact el_79) rfl rfl rfl (by omega)) ?_) | apply wpC_cond_t rfl rfl | apply wpC_cond_f rfl rfl | apply wpC_skip | apply wpC_block | apply QH_block_normal)
    rw [f1]
    refine QH_again 1 (by repeat (first | exact Sub.nil | refine Sub.cons rfl ?_)) ⟨by omega, hS⟩ (by omega)
  · repeat (first | apply wpS_nil | (apply QH_seq_k; assumption) | (apply wpC_seq_k; intro K hK) | apply wpC_region | (apply wpS_g; refine wpS_put rfl rfl rfl (by first | exact yv_move rfl | exact yv_assign rfl | (apply yv_g_load; first | exact yv_load_old (by first | exact sc_24) rfl (RW.here _) hS (by first | trivial) (by first | trivial) (by assumption)) | (apply yv_g_bin; first | exact yv_lss_t rfl rfl (by omega) | exact yv_lss_f rfl rfl (by omega) | exact yv_add rfl rfl (by omega)) | (apply yv_g_bi; first | exact yv_len (by first | exact el_24) rfl) | exact yv_indexAddr (by first | exact el_79) rfl rfl rfl (by omega)) ?_) | apply wpC_cond_t rfl rfl | apply wpC_cond_f rfl rfl | apply wpC_skip | apply wpC_block | apply QH_block_normal)
    rw [f2]
    refine QH_again 2 (by repeat (first | exact Sub.nil | refine Sub.cons rfl ?_)) ⟨by omega, hS⟩ (by omega)
  · repeat (first | apply wpS_nil | (apply QH_seq_k; assumption) | (apply wpC_seq_k; intro K hK) | apply wpC_region | (apply wpS_g; refine wpS_put rfl rfl rfl (by first | exact yv_move rfl | (apply yv_g_bin; first | exact yv_lss_f rfl rfl (by omega))) ?_) | apply wpC_cond_f rfl rfl | apply wpC_exit | apply QH_then_exit | apply QH_block_hit)
    refine wpS_call rfl rfl rfl rfl (by kernel_rfl) rfl (grow_nil (catK l k 2).length _ (by omega)) ?_
    rintro e w1 ⟨Ag, cg, ⟨rfl, hown⟩, hB1⟩
    refine ⟨_, rfl, ?_⟩
    have hS1 : St0 All w0 w1 [.row (.slice Ag 0 cg) 50 3 0 []] := hS.add hB1 (own_base hown (Nat.zero_le _)) (fun k hk => hown.lt k hk)
    have hcg : cg ≤ maxLen := by obtain ⟨_, _, h1, _, h3⟩ := own_slice hown; injection h1 with _ _ h1; subst h1; exact h3
    replace hS := hS1
    repeat (first | apply wpS_nil | (apply QH_seq_k; assumption) | (apply wpC_seq_k; intro K hK) | apply wpC_region | (apply wpS_g; refine wpS_put rfl rfl rfl (by first | exact yv_move rfl | exact yv_assign rfl | (apply yv_g_bi; first | exact yv_len (by first | exact el_79) rfl)) ?_) | apply wpC_block)
    refine wpC_loop (X := Nat × Option Addr × Nat) (fun x => [(27, .int .i64 x.1), (26, .int .i64 2), (25, .slice (some ⟨bq, 0, none⟩) 2 c2), (6, .slice x.2.1 (catK l k x.1).length x.2.2)])
      (fun x w => x.1 ≤ 2 ∧ St0 All w0 w [.row (.slice x.2.1 (catK l k x.1).length x.2.2) 50 3 (catK l k x.1).length (ens (catK l k x.1))] ∧ (catK l k x.1).length ≤ x.2.2 ∧ x.2.2 ≤ maxLen) (fun x => 2 - x.1) (0, Ag, cg) (by repeat (first | exact Sub.nil | refine Sub.cons rfl ?_)) ⟨by omega, hS, Nat.zero_le _, hcg⟩ ?_
    rintro ⟨i, A1, c1⟩ w ⟨hi, hS, hc1, hc1'⟩
    dsimp only at hi hS hc1 hc1' ⊢
    obtain rfl | rfl | rfl : i = 0 ∨ i = 1 ∨ i = 2 := by omega
    · repeat (first | apply wpS_nil | (apply QH_seq_k; assumption) | (apply wpC_seq_k; intro K hK) | apply wpC_region | (apply wpS_g; refine wpS_put rfl rfl rfl (by first | exact yv_move rfl | exact yv_assign rfl | (apply yv_g_load; first | exact yv_load_old (by first | exact sc_24) rfl (RW.here _) hS (by first | trivial) (by first | trivial) (by assumption)) | (apply yv_g_bin; first | exact yv_lss_t rfl rfl (by omega)) | exact yv_indexAddr (by first | exact el_24 | exact el_79) rfl rfl rfl (by omega)) ?_) | apply wpC_cond_t rfl rfl | apply wpC_skip | apply wpC_block)
      refine wpS_append (n' := (catK l k 1).length) elemE rfl rfl rfl rfl hS (fun _ => (by repeat (first | exact Pos.head))) (hS.rd0 hA) (by omega) (ens_one l) (by omega) (by unfold maxLen; omega) (by omega) ?_
      intro A2 c3 w hc3 hc4 hS
      rw [show ens (catK l k 0) ++ ens l = ens (catK l k 1) from rfl] at hS
      repeat (first | apply wpS_nil | (apply QH_seq_k; assumption) | apply wpC_region | (apply wpS_g; refine wpS_put rfl rfl rfl (by first | exact yv_move rfl | exact yv_assign rfl | (apply yv_g_bin; first | exact yv_add rfl rfl (by omega))) ?_) | apply QH_block_normal)
      refine QH_again (1, A2, c3) (by repeat (first | exact Sub.nil | refine Sub.cons rfl ?_)) ⟨by omega, hS, hc3, hc4⟩ (by show 2 - 1 < 2 - 0; omega)
    · repeat (first | apply wpS_nil | (apply QH_seq_k; assumption) | (apply wpC_seq_k; intro K hK) | apply wpC_region | (apply wpS_g; refine wpS_put rfl rfl rfl (by first | exact yv_move rfl | exact yv_assign rfl | (apply yv_g_load; first | exact yv_load_old (by first | exact sc_24) rfl (RW.here _) hS (by first | trivial) (by first | trivial) (by assumption)) | (apply yv_g_bin; first | exact yv_lss_t rfl rfl (by omega)) | exact yv_indexAddr (by first | exact el_24 | exact el_79) rfl rfl rfl (by omega)) ?_) | apply wpC_cond_t rfl rfl | apply wpC_skip | apply wpC_block)
      refine wpS_append (n' := (catK l k 2).length) elemE rfl rfl rfl rfl hS (fun _ => (by repeat (first | exact Pos.head))) (hS.rd0 hB) (by omega) (ens_one k) (by omega) (by unfold maxLen; omega) (by omega) ?_
      intro A2 c3 w hc3 hc4 hS
      rw [show ens (catK l k 1) ++ ens k = ens (catK l k 2) from (ens_app l k).symm] at hS
      repeat (first | apply wpS_nil | (apply QH_seq_k; assumption) | apply wpC_region | (apply wpS_g; refine wpS_put rfl rfl rfl (by first | exact yv_move rfl | exact yv_assign rfl | (apply yv_g_bin; first | exact yv_add rfl rfl (by omega))) ?_) | apply QH_block_normal)
      refine QH_again (2, A2, c3) (by repeat (first | exact Sub.nil | refine Sub.cons rfl ?_)) ⟨by omega, hS, hc3, hc4⟩ (by show 2 - 2 < 2 - 1; omega)
    · repeat (first | apply wpS_nil | (apply QH_seq_k; assumption) | (apply wpC_seq_k; intro K hK) | apply wpC_region | (apply wpS_g; refine wpS_put rfl rfl rfl (by first | exact yv_move rfl | exact yv_assign rfl | (apply yv_g_bin; first | exact yv_lss_f rfl rfl (by omega))) ?_) | apply wpC_cond_f rfl rfl | apply wpC_ret | apply wpC_exit | apply QH_then_exit | apply QH_block_hit)
      refine QH_ret rfl (by first | exact RV.tmp rfl RV.nil) rfl ?_
      have h := hS.row_sl (by repeat (first | exact Has.head)) ⟨hc1, hc1'⟩
      rw [k2] at h
      refine ⟨A1, c1, ⟨?_, h⟩, hS.pure⟩
      show Ending.returned (.slice A1 (catK l k 2).length c1) = _
      rw [k2]
end Go.Proofs.Ythngkojbokknfaa
/- The walks of tuples: a copy, what may be, what is changed. -/
namespace Go.Proofs.Ythngkojbokknfaa
open Go Go.RowKit
set_option maxRecDepth 10000

/-- A log as it lies in memory. -/
structure LI (w : World) (A : Option Addr) (n c : Nat) (l : List En) : Prop where
  len : l.length = n
  small : n ≤ 1000000
  le : n ≤ c
  cap : c ≤ maxLen
  rd : Rd w A (ens l)
theorem LI.below {w w' : World} {A : Option Addr} {n c : Nat} {l : List En} (h : LI w A n c l) (hb : Below w.heap.size w w') : LI w' A n c l := ⟨h.len, h.small, h.le, h.cap, h.rd.below hb⟩
theorem LI.keep {w w' : World} {S : Nat → Prop} {A : Option Addr} {n c : Nat} {l : List En} (h : LI w A n c l) (hk : KeepB S w w') (hs : ∀ a, A = some a → S a.block) : LI w' A n c l := ⟨h.len, h.small, h.le, h.cap, hk.rd h.rd hs⟩
theorem Sl.li {w w' : World} {A : Option Addr} {n c : Nat} {l : List En} (h : Sl w w' A n c 3 (ens l)) (hn : n ≤ 1000000) : LI w' A n c l := ⟨by have := h.len; rw [ens_length] at this; omega, hn, h.le, h.cap, h.rd⟩

theorem own_any (s : St) (A : Option Addr) (n c : Nat) (l : List En) (t v : Int) (w0 : World) (h : LI w0 A n c l) :
    Calls Try.prog 37 #[.agg #[.int .i64 s.index, .int .i64 s.term, .int .i64 s.sum, .int .i64 s.level, .bool s.final, .slice A n c, .int .i64 t, .int .i64 v]] w0 fun e w' => ∃ A' c', (e = .returned (.agg #[.int .i64 s.index, .int .i64 s.term, .int .i64 s.sum, .int .i64 s.level, .bool s.final, .slice A' n c', .int .i64 t, .int .i64 v]) ∧ Sl w0 w' A' n c' 3 (ens l)) ∧ Below w0.heap.size w0 w' := by
  have h1 := h.small
  refine gw_enter1 Try.func37 rfl Try.ntmps37 rfl ?_
  have hS := St0.start All w0
  repeat (first | apply wpS_nil | (apply QH_seq_k; assumption) | (apply wpC_seq_k; intro K hK) | apply wpC_region | (apply wpS_g_box; refine wpS_box rfl rfl rfl (by first | exact CellsOf.agg) hS (fun b w hS hB => ?_)) | (apply wpS_g_alloc; refine wpS_alloc rfl rfl (by first | exact zc_26) hS (fun b w hS hB => ?_)) | (apply wpS_g; refine wpS_put rfl rfl rfl (by first | exact yv_fieldAddr (by first | exact fo_23_0 | exact fo_26_1) rfl | (apply yv_g_load; first | exact yv_load_box (by first | exact sc_24) rfl (RW.here _) hS (by repeat (first | exact Has.head | apply Has.tail)) (by first | trivial) (by repeat (first | exact Seg.here (Pre.succ Pre.zero) | apply Seg.succ)))) ?_))
  refine wpS_call rfl rfl rfl rfl (by kernel_rfl) rfl (clone_any A n c l _ h.len (by omega) ⟨h.le, h.cap⟩ (hS.rd0 h.rd)) ?_
  rintro e w1 ⟨A', c', ⟨rfl, hs⟩, hB⟩
  refine ⟨_, rfl, ?_⟩
  replace hS := hS.slice hs hB
  repeat (first | apply wpS_nil | (apply QH_seq_k; assumption) | (apply wpC_seq_k; intro K hK) | apply wpC_region | (apply wpS_g_store; refine wpS_store rfl rfl rfl (by first | exact CellsOf.slice | exact CellsOf.agg) hS (by repeat (first | exact Pos.head | apply Pos.tail)) (by repeat (first | exact SetC.here (by repeat (first | exact Ovr.nil | apply Ovr.cons)) | apply SetC.succ)) (by kernel_rfl) rfl (fun w hS hB => ?_)) | (apply wpS_g; refine wpS_put rfl rfl rfl (by first | exact yv_fieldAddr (by first | exact fo_23_0 | exact fo_26_1) rfl | (apply yv_g_load; first | exact yv_load_boxA (by first | exact ag_26) rfl (RW.here _) hS (by repeat (first | exact Has.head | apply Has.tail)) (by first | trivial) (by repeat (first | exact Seg.here (by repeat (first | exact Pre.zero | apply Pre.succ)))))) ?_) | apply wpC_ret)
  refine QH_ret rfl (by first | exact RV.cell rfl (load_boxA (by first | exact ag_26) hS (by repeat (first | exact Has.head | apply Has.tail)) (by repeat (first | exact Seg.here (by repeat (first | exact Pre.zero | apply Pre.succ))))) RV.nil) rfl ?_
  refine ⟨_, _, ⟨rfl, hs.len, hs.le, hs.cap, hS.rd (by repeat (first | exact Has.head)), fun a ha => ?_⟩, hS.pure⟩
  have := hS.rng (.rd A' (ens l)) (Has.mem (by repeat (first | exact Has.head))) a.block ⟨a, ha, rfl⟩
  exact ⟨Nat.le_of_not_lt fun hlt => this.2 hlt trivial, this.1⟩

theorem right1_any (s : St) (A : Option Addr) (n c : Nat) (l : List En) (t v : Int) (b : Nat) (w0 : World) (h : LI w0 A n c l) (hi : -2000000000000 ≤ s.index ∧ s.index ≤ 2000000000000) (hAw : ∀ a, A = some a → a.block < w0.heap.size) (hb : w0.heap[b]? = some (.cells #[.int .i64 s.index, .int .i64 s.term, .int .i64 s.sum, .int .i64 s.level, .bool s.final, .slice A n c, .int .i64 t, .int .i64 v] 26)) :
    Calls Try.prog 56 #[.pointer (some ⟨b, 0, none⟩)] w0 fun e w' => ((tupB ⟨s, l, t, v⟩ = true ∧ e = .returned (.tuple #[])) ∨ (tupB ⟨s, l, t, v⟩ = false ∧ e = .panicked badP)) ∧ Below w0.heap.size w0 w' := by
  obtain ⟨rfl, hsm, hle, hcap, hrd⟩ := h
  have hch := fun W => check_any s A c l t v W
  cases hT : tupB ⟨s, l, t, v⟩ with
  | true =>
    refine gw_enter1 Try.func56 rfl Try.ntmps56 rfl ?_
    have hS := St0.start All w0
    repeat (first | apply wpC_region | (apply wpS_g; refine wpS_put rfl rfl rfl (by first | (apply yv_g_load; first | exact yv_load_obA (by first | exact ag_26) rfl (RW.here _) hS (by first | trivial) (by first | trivial) (by assumption) (by repeat (first | exact Seg.here (by repeat (first | exact Pre.zero | apply Pre.succ)))))) ?_))
    refine wpS_call rfl rfl rfl rfl (by kernel_rfl) rfl (check_any s A c l t v _ (hS.rd0 hrd) ⟨hle, hcap⟩ (by omega) (fun a ha => Nat.lt_of_lt_of_le (hAw a ha) hS.size)) ?_
    rintro e w1 ⟨h1, hB⟩
    rcases h1 with ⟨_, rfl⟩ | ⟨h1, _⟩
    · refine ⟨_, rfl, ?_⟩
      replace hS := hS.below hB
      repeat (first | apply wpS_nil)
      refine QH_end rfl (by first | exact RV.nil) rfl ?_
      exact ⟨.inl ⟨rfl, rfl⟩, hS.pure⟩
    · rw [hT] at h1; cases h1
  | false =>
    refine gw_enter1 Try.func56 rfl Try.ntmps56 rfl ?_
    have hS := St0.start All w0
    repeat (first | apply wpC_region | (apply wpS_g; refine wpS_put rfl rfl rfl (by first | (apply yv_g_load; first | exact yv_load_obA (by first | exact ag_26) rfl (RW.here _) hS (by first | trivial) (by first | trivial) (by assumption) (by repeat (first | exact Seg.here (by repeat (first | exact Pre.zero | apply Pre.succ)))))) ?_))
    refine wpS_callPanic rfl rfl (by kernel_rfl) rfl (check_any s A c l t v _ (hS.rd0 hrd) ⟨hle, hcap⟩ (by omega) (fun a ha => Nat.lt_of_lt_of_le (hAw a ha) hS.size)) ?_
    rintro e w1 ⟨h1, hB⟩
    rcases h1 with ⟨h1, _⟩ | ⟨_, rfl⟩
    · rw [hT] at h1; cases h1
    · refine ⟨_, rfl, ?_⟩
      exact QH_panic rfl ⟨.inr ⟨rfl, rfl⟩, (hS.below hB).pure⟩
theorem right_any2 (s : St) (A : Option Addr) (n c : Nat) (l : List En) (t v : Int) (w0 : World) (h : LI w0 A n c l) (hi : -2000000000000 ≤ s.index ∧ s.index ≤ 2000000000000) (hAw : ∀ a, A = some a → a.block < w0.heap.size) :
    PureC Try.prog 32 #[.agg #[.int .i64 s.index, .int .i64 s.term, .int .i64 s.sum, .int .i64 s.level, .bool s.final, .slice A n c, .int .i64 t, .int .i64 v]] w0 (.bool (tupB ⟨s, l, t, v⟩)) := by
  refine PureC.mk ?_
  refine gw_enter1 Try.func32 rfl Try.ntmps32 rfl ?_
  have hS := St0.start All w0
  repeat (first | (apply wpC_seq_k; intro K hK) | apply wpC_region)
  first | (apply wpS_g_box; refine wpS_box rfl rfl rfl (by first | exact CellsOf.agg) hS (fun b w hS hB => ?_))
  repeat (first | apply wpS_nil | (apply QH_seq_k; assumption) | (apply wpC_seq_k; intro K hK) | apply wpC_region | (apply wpS_g; refine wpS_put rfl rfl rfl (by first | exact yv_assign rfl | exact yv_makeFunc rfl rfl) ?_))
  have hbox := hS.get 0 rfl
  have hbw : b < w.heap.size := hbox.2 b rfl
  have hbx : w.heap[b]? = some (.cells #[.int .i64 s.index, .int .i64 s.term, .int .i64 s.sum, .int .i64 s.level, .bool s.final, .slice A n c, .int .i64 t, .int .i64 v] 26) := hbox.1
  refine wpS_call rfl rfl rfl rfl (by kernel_rfl) rfl (told_any 56 #[.pointer (some ⟨b, 0, none⟩)] w All (fun _ => tupB ⟨s, l, t, v⟩ = true) (fun _ => tupB ⟨s, l, t, v⟩ = false) (by kernel_rfl) (fun W hz hBW => ?_) (fun _ _ h _ => h) (fun _ _ h _ => h)) ?_
  · refine (right1_any s A n c l t v b W ((h.below hS.pure).below hBW) hi (fun a ha => Nat.lt_of_lt_of_le (hAw a ha) (Nat.le_trans hS.size hBW.size)) ((hBW.block b hbw).trans hbx)).mono fun e w' h1 => ?_
    refine ⟨KeepB.of_below h1.2 (fun _ hk _ => hk), ?_⟩
    rcases h1.1 with ⟨h2, h3⟩ | ⟨h2, h3⟩
    · exact .inl ⟨h3, h2⟩
    · exact .inr ⟨h3, h2⟩
  rintro e w1 ⟨hk, (⟨rfl, hT⟩ | ⟨rfl, hT⟩)⟩
  · refine ⟨_, rfl, ?_⟩
    replace hS := hS.below (hk.to_below (Nat.le_refl _) (fun _ _ => trivial))
    repeat (first | apply wpS_nil | (apply QH_seq_k; assumption) | (apply wpS_g; refine wpS_put rfl rfl rfl (by first | exact yv_assign rfl | (apply yv_g_bin; first | exact yv_eql_t rfl rfl (by omega))) ?_) | apply wpC_ret)
    refine QH_ret rfl (by first | exact RV.tmp rfl RV.nil) rfl ?_
    exact ⟨by rw [hT]; rfl, hS.pure⟩
  · refine ⟨_, rfl, ?_⟩
    replace hS := hS.below (hk.to_below (Nat.le_refl _) (fun _ _ => trivial))
    repeat (first | apply wpS_nil | (apply QH_seq_k; assumption) | (apply wpS_g; refine wpS_put rfl rfl rfl (by first | exact yv_assign rfl | (apply yv_g_bin; first | exact yv_eql_f rfl rfl (by omega))) ?_) | apply wpC_ret)
    refine QH_ret rfl (by first | exact RV.tmp rfl RV.nil) rfl ?_
    exact ⟨by rw [hT]; rfl, hS.pure⟩
end Go.Proofs.Ythngkojbokknfaa
