/- The iterator over the states behind entries. -/
import Derived.Test.YtefpagijgiggmaaDoorEntWe
namespace Go.Proofs.YtefpagijgiggmaaDoor
open Go Go.RowKit Go.Shelf
attribute [local go_sem] Oper.semAt_some

/-- Entries as cells. -/
def ens (l : List En) : List Value := l.flatMap fun e => [.int .i64 e.term, .int .i64 e.kind, .int .i64 e.value]
theorem ens_length (l : List En) : (ens l).length = 3 * l.length := by
  induction l with
  | nil => rfl
  | cons e l ih => simp only [ens, List.flatMap_cons, List.length_append, List.length_cons, List.length_nil] at ih ⊢; omega
theorem ens_drop (l : List En) (k : Nat) : ens (l.drop k) = (ens l).drop (3 * k) := by
  induction l generalizing k with
  | nil => simp [ens]
  | cons e l ih =>
    cases k with
    | zero => rfl
    | succ k =>
      rw [List.drop_succ_cons, ih, show 3 * (k + 1) = 3 * k + 3 by omega]
      simp [ens]
theorem ens_app (l m : List En) : ens (l ++ m) = ens l ++ ens m := by simp [ens]
theorem Rd.entry {w : World} {A : Option Addr} {l : List En} (h : Rd w A (ens l)) {k : Nat} (hk : k < l.length) :
    ∃ b o e, A = some ⟨b, o, none⟩ ∧ b < w.heap.size ∧ l[k]? = some e ∧ w.cell? ⟨b, o + k * 3, none⟩ = some (.int .i64 e.term) ∧ w.cell? ⟨b, o + k * 3 + 1, none⟩ = some (.int .i64 e.kind) ∧ w.cell? ⟨b, o + k * 3 + 2, none⟩ = some (.int .i64 e.value) := by
  have hd : (ens l).drop (3 * k) = ens (l.drop k) := (ens_drop l k).symm
  rw [List.drop_eq_getElem_cons hk] at hd
  have e0 : (ens l)[k * 3]? = some (.int .i64 l[k].term) := by
    have := List.getElem?_drop (xs := ens l) (i := 3 * k) (j := 0)
    rw [hd] at this
    rw [show k * 3 = 3 * k + 0 by omega, ← this]; rfl
  have e1 : (ens l)[k * 3 + 1]? = some (.int .i64 l[k].kind) := by
    have := List.getElem?_drop (xs := ens l) (i := 3 * k) (j := 1)
    rw [hd] at this
    rw [show k * 3 + 1 = 3 * k + 1 by omega, ← this]; rfl
  have e2 : (ens l)[k * 3 + 2]? = some (.int .i64 l[k].value) := by
    have := List.getElem?_drop (xs := ens l) (i := 3 * k) (j := 2)
    rw [hd] at this
    rw [show k * 3 + 2 = 3 * k + 2 by omega, ← this]; rfl
  obtain ⟨b, o, rfl, hb, c0⟩ := h _ _ e0
  obtain ⟨b1, o1, h1, _, c1⟩ := h _ _ e1
  obtain ⟨b2, o2, h2, _, c2⟩ := h _ _ e2
  simp only [Option.some.injEq, Addr.mk.injEq, and_true] at h1 h2
  obtain ⟨rfl, rfl⟩ := h1
  obtain ⟨rfl, rfl⟩ := h2
  exact ⟨b, o, l[k], rfl, hb, List.getElem?_eq_getElem hk, c0, by rw [Nat.add_assoc]; exact c1, by rw [Nat.add_assoc]; exact c2⟩
/-- The states behind each. -/
def scanS (s : St) : List En → List St
  | [] => []
  | e :: l => nextS s e :: scanS (nextS s e) l
theorem scanS_length (s : St) (l : List En) : (scanS s l).length = l.length := by
  induction l generalizing s with
  | nil => rfl
  | cons e l ih => simp [scanS, ih]
theorem scanS_at (s : St) (l : List En) (k : Nat) (e : En) (h : l[k]? = some e) : (scanS s l)[k]? = some (nextS (allS s (l.take k)) e) := by
  induction l generalizing s k with
  | nil => simp at h
  | cons d l ih =>
    cases k with
    | zero => simp at h; subst h; rfl
    | succ k => simpa [scanS, allS] using ih (nextS s d) k (by simpa using h)
theorem allS_take (s : St) (l : List En) (k : Nat) (e : En) (h : l[k]? = some e) : allS s (l.take (k + 1)) = nextS (allS s (l.take k)) e := by
  rw [List.take_add_one, h]; exact allS_snoc _ _ _

theorem slice1 (b o m ck : Nat) (h : 1 ≤ m) (h2 : m ≤ ck) (h3 : ck ≤ maxLen) (W : World) : (Instr.sliceAt 24 (.slice (some ⟨b, o, none⟩) m ck) (some (.int .i64 1)) none none).run Tryd.prog W = .ok (.slice (if ck = 1 then some ⟨b, o, none⟩ else some (Addr.add ⟨b, o, none⟩ (1 * 3))) (m - 1) (ck - 1)) W := by
  unfold maxLen at h3
  have h1 : (1 : Int) ≤ m := by omega
  have h2 : (m : Int) ≤ ck := by omega
  by_cases hc : ck = 1
  · subst hc
    go_simp
  · go_simp
/-- How many are left, as the iterator's slice says. -/
def leftOf (w : World) (b : Nat) : Nat := match w.cell? ⟨b, 0, none⟩ with | some (.slice _ n _) => n | _ => 0

set_option maxHeartbeats 2000000 in
theorem states1_iter (bS bL : Nat) (A : Option Addr) (c : Nat) (l : List En) (s : St) (hlc : l.length ≤ c) (hcm : c ≤ maxLen) (w0 : World) (M : Nat) (w : World) (hA : Rd w0 A (ens l)) (hB0 : Below w0.heap.size w0 w) (hn : w0.heap.size ≤ M) (hMS : M ≤ bS) (hML : M ≤ bL) (hne : bS ≠ bL)
    (hbL : bL < w.heap.size) (h5 : Box5 w bS s) (hL : Box w bL (.slice A l.length c)) :
    Iter Tryd.prog 28 #[.pointer (some ⟨bL, 0, none⟩), .pointer (some ⟨bS, 0, none⟩)] (fun s : St => #[s.v]) (scanS s l) w0.heap.size M w := by
  have hbS := h5.lt
  intro lr J Jx W hB hJ hJx hY h0
  have HY := Lib.hid hY
  have HJ := Lib.hid hJ
  have HJx := Lib.hid hJx
  clear hY hJ hJx
  refine callsIn_of_wp Tryd.func28 rfl trivial ?_ rfl
  simp only [Tryd.ntmps28, List.size_toArray, List.length_cons, List.length_nil, Nat.reduceAdd, Nat.reduceSub, Array.replicate_succ, Array.replicate_zero, List.push_toArray, List.append_toArray, List.nil_append, List.cons_append]
  refine scope_goto 0 (fun a w' => ∃ k : Nat, k ≤ l.length ∧ (∃ u3 u4 u5 u6 u7 u8 u9 u10 u11 u12 u13 u14 u15 u16 : Value, a = ⟨#[.func (.yield lr) #[] #[], .pointer (some ⟨bL, 0, none⟩), .pointer (some ⟨bS, 0, none⟩), u3, u4, u5, u6, u7, u8, u9, u10, u11, u12, u13, u14, u15, u16], []⟩) ∧ J k w' ∧ KeepB (fun b => b < w0.heap.size ∨ (M ≤ b ∧ b < w.heap.size ∧ b ≠ bS ∧ b ≠ bL)) w w' ∧ Box5 w' bS (allS s (l.take k)) ∧
      ∃ Ak ck, Box w' bL (.slice Ak (l.length - k) ck) ∧ l.length - k ≤ ck ∧ ck ≤ maxLen ∧ Rd w0 Ak (ens (l.drop k))) (fun _ w => leftOf w bL) rfl ?pass ?first
  case first =>
    intro hX
    have HX := Lib.hid hX
    clear hX
    gi_wp2
    refine wpIn_label ?_
    rename_i hgo
    refine hgo _ _ ?_
    have hk : KeepB (fun b => b < w.heap.size) w W := KeepB.of_below hB fun _ h _ => h
    exact HX.out _ _ ⟨0, by omega, ⟨_, _, _, _, _, _, _, _, _, _, _, _, _, _, rfl⟩, h0, KeepB.of_below hB (fun _ h _ => h), h5.keep hk hbS, A, c, hL.keep hk hbL, by omega, hcm, hA⟩
  case pass =>
    rintro a w' ⟨k, hk, ⟨u3, u4, u5, u6, u7, u8, u9, u10, u11, u12, u13, u14, u15, u16, rfl⟩, hJk, hK, h5k, Ak, ck, hLk, hnc, hck, hAk⟩
    obtain ⟨cL, fL⟩ := hLk
    obtain ⟨m, hm⟩ : ∃ m, m = l.length - k := ⟨_, rfl⟩
    rw [← hm] at cL hnc
    have hkm : k + m = l.length := by omega
    clear hm
    have hleft : leftOf w' bL = m := by unfold leftOf; rw [cL]
    by_cases hlt : k < l.length
    · have hd : (l.drop k).length = m := by rw [List.length_drop]; omega
      obtain ⟨b, o, e, rfl, hb, he, d0, d1, d2⟩ := hAk.entry (k := 0) (by omega)
      simp only [Nat.zero_mul, Nat.add_zero] at d0 d1 d2
      have hel : l[k]? = some e := by rw [List.getElem?_drop] at he; simpa using he
      have hcut : Rd w0 (if ck = 1 then some ⟨b, o, none⟩ else some (Addr.add ⟨b, o, none⟩ (1 * 3))) (ens (l.drop (k + 1))) := by
        have h3 : (ens (l.drop k)).drop 3 = ens (l.drop (k + 1)) := by rw [← List.drop_drop, ens_drop (l.drop k) 1]
        split
        · rw [List.drop_eq_nil_of_le (show l.length ≤ k + 1 by omega)]; exact Rd.nil _ _
        · rw [← h3]; exact hAk.drop 3
      have hB' : Below w0.heap.size w0 w' := below_keep hB0 hK hB0.size (fun _ h => .inl h)
      have hz := hB'.size
      replace d0 := (hB'.cell (p := ⟨b, o, none⟩) hb).trans d0
      replace d1 := (hB'.cell (p := ⟨b, o + 1, none⟩) hb).trans d1
      replace d2 := (hB'.cell (p := ⟨b, o + 2, none⟩) hb).trans d2
      have hsa := scanS_at s l k e hel
      have htk := allS_take s l k e hel
      have hsl := slice1 b o m ck (by omega) hnc hck
      obtain ⟨X, hX⟩ : ∃ X, (if ck = 1 then some (⟨b, o, none⟩ : Addr) else some (Addr.add ⟨b, o, none⟩ (1 * 3))) = X := ⟨_, rfl⟩
      rw [hX] at hcut
      simp only [hX] at hsl
      clear hX
      generalize allS s (l.take k) = sk at *
      have hm0 : (m == 0) = false := by simp; omega
      have hb' : b < w'.heap.size := by omega
      have hbS' := h5k.lt
      have hbL' : bL < w'.heap.size := World.block_lt_of_cell? w' _ cL
      obtain ⟨t, kd, v⟩ := e
      obtain ⟨a1, a2, a3, a4, a5⟩ := sk
      have h5k' := h5k
      obtain ⟨⟨s0, s1, s2, s3, s4⟩, sf⟩ := h5k'
      dsimp only at s0 s1 s2 s3 s4 d0 d1 d2
      clear hAk he
      gi_wp2
      refine wpIn_wide.2 ?_
      refine region_flow 9 [7, 8] (fun i b => if i = 7 then b ≠ bS else b ≠ bL) ⟨by kernel_rfl, by kernel_rfl⟩ (fun wf HB => ?_)
      refine' wpF_lights [true, true, true, true] 17 _ (by decide +kernel) rfl (fun W hW => ?_) ?_
      rotate_left
      · obtain ⟨hcW, hfW⟩ := bCells (bTr HB hW)
        dsimp only [pickL]
        go_wp2
        exact Lend.ok
      refine' wpF_lightsG [false, false, false, false, false, true, true] 17 [7] (fun b => b ≠ bS) _ (by decide +kernel) (by simp) rfl (fun W hW => ?_) ?_
      rotate_left
      · skip
        have hk2 := ((keepT HB).sub (T := fun b => b ≠ bS) (fun _ _ _ => trivial)).trans hW
        have cLW := hk2.cell (p := ⟨bL, 0, none⟩) (Ne.symm hne) cL
        dsimp only [pickL]
        go_wp2
        exact Lend.ok
      refine wpF_call [false, false, false, false, true] 4 (by decide +kernel) rfl rfl ?_
      dsimp only [pickL]
      go_wp2_with fail
      refine (next_any ⟨a1, a2, a3, a4, a5⟩ ⟨t, kd, v⟩ _).mono ?_
      rintro e w2 ⟨rfl, hB⟩
      generalize nextS ⟨a1, a2, a3, a4, a5⟩ ⟨t, kd, v⟩ = ns at *
      obtain ⟨n1, n2, n3, n4, n5⟩ := ns
      dsimp only [St.v]
      go_wp2
      replace HB := bTr HB hB
      have h52 := h5k.keep (keepT HB) trivial
      have cL2 := ((bCells HB).1 bL 0 hbL').trans cL
      have fL2 := ((bCells HB).2 bL 0 hbL').trans fL
      have h52' := h52
      obtain ⟨⟨r0, r1, r2, r3, r4⟩, rf⟩ := h52'
      dsimp only at r0 r1 r2 r3 r4
      have rf0 := rf 0
      have rf1 := rf 1
      have rf2 := rf 2
      have rf3 := rf 3
      have rf4 := rf 4
      clear s0 s1 s2 s3 s4 sf d0 d1 d2 hsl h5k cL fL
      have hk7 : KeepB (fun b => b ≠ bS) w2 (((((w2.setCell ⟨bS, 0, none⟩ (.int .i64 n1)).setCell ⟨bS, 1, none⟩ (.int .i64 n2)).setCell ⟨bS, 2, none⟩ (.int .i64 n3)).setCell ⟨bS, 3, none⟩ (.int .i64 n4)).setCell ⟨bS, 4, none⟩ (.bool n5)) := (((((KeepB.refl _ _).setCell (by simp) _).setCell (by simp) _).setCell (by simp) _).setCell (by simp) _).setCell (by simp) _
      have h57 : Box5 (((((w2.setCell ⟨bS, 0, none⟩ (.int .i64 n1)).setCell ⟨bS, 1, none⟩ (.int .i64 n2)).setCell ⟨bS, 2, none⟩ (.int .i64 n3)).setCell ⟨bS, 3, none⟩ (.int .i64 n4)).setCell ⟨bS, 4, none⟩ (.bool n5)) bS ⟨n1, n2, n3, n4, n5⟩ := by
        have g0 := h52.set (s' := ⟨n1, a2, a3, a4, a5⟩) 0 (.int .i64 n1) ⟨_, h52.1.1⟩ rfl rfl rfl rfl rfl
        have g1 := g0.set (s' := ⟨n1, n2, a3, a4, a5⟩) 1 (.int .i64 n2) ⟨_, g0.1.2.1⟩ rfl rfl rfl rfl rfl
        have g2 := g1.set (s' := ⟨n1, n2, n3, a4, a5⟩) 2 (.int .i64 n3) ⟨_, g1.1.2.2.1⟩ rfl rfl rfl rfl rfl
        have g3 := g2.set (s' := ⟨n1, n2, n3, n4, a5⟩) 3 (.int .i64 n4) ⟨_, g2.1.2.2.2.1⟩ rfl rfl rfl rfl rfl
        exact g3.set (s' := ⟨n1, n2, n3, n4, n5⟩) 4 (.bool n5) ⟨_, g3.1.2.2.2.2⟩ rfl rfl rfl rfl rfl
      refine wpF_seal [false, false, false, false, false, false, false, true] 7 (by decide +kernel) rfl rfl ?_
      dsimp only [pickL]
      go_wp2_with fail
      have cL7 := hk7.cell (p := ⟨bL, 0, none⟩) (Ne.symm hne) cL2
      have fL7 := (hk7.frozen (p := ⟨bL, 0, none⟩) (World.block_lt_of_cell? w2 _ cL2) (Ne.symm hne)).trans fL2
      generalize ((((w2.setCell ⟨bS, 0, none⟩ (.int .i64 n1)).setCell ⟨bS, 1, none⟩ (.int .i64 n2)).setCell ⟨bS, 2, none⟩ (.int .i64 n3)).setCell ⟨bS, 3, none⟩ (.int .i64 n4)).setCell ⟨bS, 4, none⟩ (.bool n5) = w7 at *
      clear r0 r1 r2 r3 r4 rf rf0 rf1 rf2 rf3 rf4 h52 cL2 fL2
      have hk8 : KeepB (fun b => b ≠ bL) w7 (w7.setCell ⟨bL, 0, none⟩ (.slice X (m - 1) (ck - 1))) := (KeepB.refl _ _).setCell (by simp) _
      have hL8 : Box (w7.setCell ⟨bL, 0, none⟩ (.slice X (m - 1) (ck - 1))) bL (.slice X (m - 1) (ck - 1)) := Box.set ⟨cL7, fL7⟩ _
      have h58 := h57.keep hk8 hne
      have HL8 := Lib.hid hL8
      clear hL8
      refine wpF_seal [false, false, false, false, false, false, false, false, true] 8 (by decide +kernel) rfl rfl ?_
      dsimp only [pickL]
      go_wp2_with fail
      refine wpF_end (by kernel_rfl) ?_
      generalize w7.setCell ⟨bL, 0, none⟩ (.slice X (m - 1) (ck - 1)) = w8 at *
      have hk38 : KeepB (fun x => x ≠ bS ∧ x ≠ bL) w' w8 := (((keepT HB).sub (fun _ _ _ => trivial)).trans (hk7.sub (fun _ _ h => h.1))).trans (hk8.sub (fun _ _ h => h.2))
      have hJ8 : J k w8 := HJ.out k _ _ hJk (hk38.sub fun x _ hx => ⟨by omega, by omega⟩)
      have hz1 := hK.size
      have hz2 := hk38.size
      obtain ⟨fn, tmps, assign, body, hy, hR⟩ := HY.out k _ w8 hsa hJ8 (by omega)
      dsimp only [St.v] at hy
      have h58' := h58
      obtain ⟨⟨r0, r1, r2, r3, r4⟩, rf⟩ := h58'
      dsimp only at r0 r1 r2 r3 r4
      have hKK := hK.trans (hk38.sub (T := fun b => b < w0.heap.size ∨ M ≤ b ∧ b < w.heap.size ∧ b ≠ bS ∧ b ≠ bL) fun x _ hx => ⟨by omega, by omega⟩)
      clear h57 hk7 hk8 cL7 fL7 HB hB
      gi_wp2
      refine hR.mono ?_
      rintro e W3 (⟨rfl, hJ3, hk3⟩ | ⟨rfl, hJx3, hk3⟩)
      · gi_wp2
        refine wpIn_goto ?_
        have hL3 := HL8.out.keep hk3 (.inr ⟨hML, hbL⟩)
        refine ⟨rfl, ⟨k + 1, by omega, ⟨_, _, _, _, _, _, _, _, _, _, _, _, _, _, rfl⟩, hJ3, hKK.trans (hk3.sub fun x _ hx => by omega), ?_, X, ck - 1, ?_, by omega, by omega, hcut⟩, ?_⟩
        · rw [htk]; exact h58.keep hk3 (.inr ⟨hMS, hbS⟩)
        · rw [show l.length - (k + 1) = m - 1 by omega]; exact hL3
        · rw [hleft]; unfold leftOf; rw [hL3.1]; show m - 1 < m; omega
      · gi_wp2
        simp only [Exit.jump]
        refine bodyPost_end (results_none rfl _ _ _) rfl ⟨⟨_, rfl⟩, .inr hJx3⟩
    · obtain rfl : m = 0 := by omega
      gi_wp2
      obtain rfl : k = l.length := by omega
      simp only [Exit.jump]
      refine bodyPost_ret (results_none rfl _ _ _) rfl ⟨⟨_, rfl⟩, .inl ?_⟩
      rw [scanS_length]
      exact hJk
end Go.Proofs.YtefpagijgiggmaaDoor
