/- The walks of level: the iterator over stages. -/
import Derived.Test.YtoehcmddfpompaaLevWc
namespace Go.Proofs.Ytoehcmddfpompaa
open Go Go.RowKit Go.Shelf
attribute [local go_sem] Oper.semAt_some

set_option maxHeartbeats 4000000 in
theorem stages1_iter (bS bL : Nat) (A : Option Addr) (n c : Nat) (l : List En) (hn : l.length = n) (s : St) (hlc : n ≤ c) (hcm : c ≤ maxLen) (w0 : World) (M : Nat) (w : World) (hA : Rd w0 A (ens l)) (hB0 : Below w0.heap.size w0 w) (hnM : w0.heap.size ≤ M) (hMS : M ≤ bS) (hML : M ≤ bL) (_hne : bS ≠ bL)
    (hbL : bL < w.heap.size) (h5 : Box5 w bS s) (hL : Box w bL (.slice A n c)) :
    Iter Try.prog 32 #[.pointer (some ⟨bS, 0, none⟩), .pointer (some ⟨bL, 0, none⟩)] (fun n : Int => #[.int .i64 n]) (stagesS s l) w0.heap.size M w := by
  have hbS := h5.lt
  have hcm2 := hcm
  unfold maxLen at hcm2
  intro lr J Jx W hB hJ hJx hY h0
  have HY := Lib.hid hY
  have HJ := Lib.hid hJ
  have HJx := Lib.hid hJx
  have Hn := Lib.hid hn
  have HL := Lib.hid (stagesS_len s l)
  clear hY hJ hJx hn
  have hk0 : KeepB (fun b => b < w.heap.size) w W := KeepB.of_below hB fun _ h _ => h
  have h5W := h5.keep hk0 hbS
  have hLW := hL.keep hk0 hbL
  refine callsIn_of_wp Try.func32 rfl trivial ?_ rfl
  simp only [Try.ntmps32, List.size_toArray, List.length_cons, List.length_nil, Nat.reduceAdd, Nat.reduceSub, Array.replicate_succ, Array.replicate_zero, List.push_toArray, List.append_toArray, List.nil_append, List.cons_append]
  have h5a := h5W
  obtain ⟨a1, a2, a3, a4, a5⟩ := s
  obtain ⟨⟨c0, c1, c2, c3, c4⟩, _⟩ := h5a
  dsimp only at c0 c1 c2 c3 c4
  gi_wp2_with fail
  refine ⟨trivial, (callsIn_wide.2 (stage_any ⟨a1, a2, a3, a4, a5⟩ W)).mono ?_⟩
  rintro e W1 ⟨rfl, hB1⟩
  have hJ0 : J 0 W1 := HJ.out 0 _ _ h0 (KeepB.of_below hB1 fun _ h _ => h)
  have hsz : w.heap.size ≤ W1.heap.size := Nat.le_trans hB.size hB1.size
  obtain ⟨fn, tmps, assign, body, hy, hR⟩ := HY.out 0 _ W1 rfl hJ0 hsz
  have h51 := h5W.keep (keepT hB1) trivial
  have hL1 := hLW.keep (keepT hB1) trivial
  have hkk : KeepB (fun b => b < w.heap.size) w W1 := hk0.trans (KeepB.of_below hB1 fun _ h1 h2 => Nat.lt_of_lt_of_le h2 hB.size)
  clear c0 c1 c2 c3 c4 h5W hLW h0
  gi_wp2
  refine hR.mono ?_
  clear hR
  rintro e W2 hend
  obtain ⟨f, rfl, hst, hk2⟩ : ∃ f : Bool, e = .returned (.bool f) ∧ Hid ((f = true ∧ J 1 W2) ∨ (f = false ∧ Jx W2)) ∧ KeepB (fun b => b < w0.heap.size ∨ (M ≤ b ∧ b < w.heap.size)) W1 W2 := by
    rcases hend with ⟨rfl, h1, h2⟩ | ⟨rfl, h1, h2⟩
    · exact ⟨true, rfl, Lib.hid (.inl ⟨rfl, h1⟩), h2⟩
    · exact ⟨false, rfl, Lib.hid (.inr ⟨rfl, h1⟩), h2⟩
  clear hend
  have h52 := h51.keep hk2 (.inr ⟨hMS, hbS⟩)
  have hL2 := hL1.keep hk2 (.inr ⟨hML, hbL⟩)
  have hK2 : KeepB (fun b => b < w0.heap.size ∨ (M ≤ b ∧ b < w.heap.size)) w W2 := (hkk.sub fun _ h _ => h).trans hk2
  clear h51 hL1 hkk hk2 hk0
  obtain ⟨cL, _⟩ := hL2
  gi_wp2
  gi_loopw [4, 13] (fun on i wr => ∃ (k : Nat) (f : Bool), k ≤ n ∧ i = .int .i64 k ∧ on = .bool f ∧ Hid ((f = true ∧ J (k + 1) wr) ∨ (f = false ∧ Jx wr)) ∧ KeepB (fun b => b < w0.heap.size ∨ (M ≤ b ∧ b < w.heap.size ∧ b ≠ bS)) w wr ∧ Box5 wr bS (allS ⟨a1, a2, a3, a4, a5⟩ (l.take k))) (fun _ i _ => n - (intOf i).toNat)
  case atStart => exact ⟨0, f, by omega, rfl, rfl, hst, hK2.sub (fun b _ h => by omega), h52⟩
  case round =>
    obtain ⟨k, f, hk, rfl, rfl, hst, hK, h5k⟩ := hrel
    have hzz := hK.size
    by_cases hlt : k < n
    · have hBw : Below w0.heap.size w0 wr := below_keep hB0 hK hB0.size (fun _ h => .inl h)
      obtain ⟨b, o, e, rfl, hb, he, d0, d1, d2⟩ := (hA.below hBw).entry (k := k) (by rw [Hn.out]; exact hlt)
      have hbl : b < w0.heap.size := by obtain ⟨b', o', _, he', hb', _⟩ := hA.entry (k := k) (by rw [Hn.out]; exact hlt); injection he' with he'; injection he' with he' _; omega
      have hxa := stagesS_at ⟨a1, a2, a3, a4, a5⟩ l k e he
      have htk := allS_take ⟨a1, a2, a3, a4, a5⟩ l k e he
      have Htk := Lib.hid htk
      rw [htk] at hxa
      have Hxa := Lib.hid hxa
      clear htk hxa he
      generalize allS ⟨a1, a2, a3, a4, a5⟩ (l.take k) = sk at *
      have hbSl := h5k.lt
      obtain ⟨t, kd, v⟩ := e
      obtain ⟨q1, q2, q3, q4, q5⟩ := sk
      have h5k' := h5k
      obtain ⟨⟨s0, s1, s2, s3, s4⟩, _⟩ := h5k'
      dsimp only at s0 s1 s2 s3 s4 d0 d1 d2
      have t1 : (0 : Int) ≤ (k : Int) := by omega
      gi_wp2_with fail
      refine ⟨trivial, (callsIn_wide.2 (next_any ⟨q1, q2, q3, q4, q5⟩ ⟨t, kd, v⟩ _)).mono ?_⟩
      rintro e w2 ⟨rfl, hB2⟩
      have hB3 : Below wr.heap.size wr w2 := ((Below.refl _ _).alloc (Nat.le_refl _) _).trans (hB2.mono (by simp))
      clear hB2
      generalize nextS ⟨q1, q2, q3, q4, q5⟩ ⟨t, kd, v⟩ = ns at *
      have h53 := h5k.keep (keepT hB3) trivial
      have hset := Lib.hid (h53.setAll ns)
      have HST := Lib.hid (fun W => stage_any ns W)
      obtain ⟨⟨r0, r1, r2, r3, r4⟩, rf⟩ := h53
      obtain ⟨n1, n2, n3, n4, n5⟩ := ns
      dsimp only [St.v] at *
      have rf0 := rf 0
      have rf1 := rf 1
      have rf2 := rf 2
      have rf3 := rf 3
      have rf4 := rf 4
      clear rf s0 s1 s2 s3 s4 d0 d1 d2
      have hk3 : KeepB (fun b => b < w.heap.size) wr w2 := KeepB.of_below hB3 fun _ h _ => h
      have hz3 := hB3.size
      cases f
      · have hjx : Jx wr := by rcases hst.out with ⟨h, _⟩ | ⟨_, h⟩; cases h; exact h
        gi_wp2
        obtain ⟨g1, g2⟩ := hset.out
        generalize ((((w2.setCell ⟨bS, 0, none⟩ (.int .i64 n1)).setCell ⟨bS, 1, none⟩ (.int .i64 n2)).setCell ⟨bS, 2, none⟩ (.int .i64 n3)).setCell ⟨bS, 3, none⟩ (.int .i64 n4)).setCell ⟨bS, 4, none⟩ (.bool n5) = w4 at *
        have hk34 : KeepB (fun b => b ≠ bS) wr w4 := (keepT hB3).sub (fun _ _ _ => trivial) |>.trans g2
        refine ⟨trivial, ?_⟩
        gi_wp2
        try ((first | refine ⟨trivial, ?_⟩ | refine ⟨fun _ h => (by cases h), ?_⟩); gi_wp2)
        go_roundw
        case rel => exact ⟨k + 1, false, by omega, by go_num, rfl, Lib.hid (.inr ⟨rfl, HJx.out _ _ hjx (hk34.sub fun b _ h => (by omega : b ≠ bS))⟩), hK.trans (hk34.sub fun b _ h => (by omega : b ≠ bS)), by rw [Htk.out]; exact g1⟩
        case measure => simp [intOf]; omega
      · have hj : J (k + 1) wr := by rcases hst.out with ⟨_, h⟩ | ⟨h, _⟩; exact h; cases h
        gi_wp2_with fail
        obtain ⟨g1, g2⟩ := hset.out
        generalize ((((w2.setCell ⟨bS, 0, none⟩ (.int .i64 n1)).setCell ⟨bS, 1, none⟩ (.int .i64 n2)).setCell ⟨bS, 2, none⟩ (.int .i64 n3)).setCell ⟨bS, 3, none⟩ (.int .i64 n4)).setCell ⟨bS, 4, none⟩ (.bool n5) = w4 at *
        have hk34 : KeepB (fun b => b ≠ bS) wr w4 := (keepT hB3).sub (fun _ _ _ => trivial) |>.trans g2
        clear hset r0 r1 r2 r3 r4 rf0 rf1 rf2 rf3 rf4
        refine ⟨trivial, (callsIn_wide.2 (HST.out w4)).mono ?_⟩
        rintro e w5 ⟨rfl, hB5⟩
        have hk35 : KeepB (fun b => b ≠ bS) wr w5 := hk34.trans ((keepT hB5).sub fun _ _ _ => trivial)
        have h55 := g1.keep (keepT hB5) trivial
        have hj5 : J (k + 1) w5 := HJ.out _ _ _ hj (hk35.sub fun b _ h => (by omega : b ≠ bS))
        obtain ⟨fn, tmps, assign, body, hy, hR⟩ := HY.out (k + 1) _ w5 Hxa.out hj5 (by have := hk35.size; omega)
        have HR := Lib.hid hR
        clear hR
        gi_wp2
        refine HR.out.mono ?_
        rintro e W6 hend
        obtain ⟨f, rfl, hst6, hk6⟩ : ∃ f : Bool, e = .returned (.bool f) ∧ Hid ((f = true ∧ J (k + 1 + 1) W6) ∨ (f = false ∧ Jx W6)) ∧ KeepB (fun b => b < w0.heap.size ∨ (M ≤ b ∧ b < w.heap.size)) w5 W6 := by
          rcases hend with ⟨rfl, h1, h2⟩ | ⟨rfl, h1, h2⟩
          · exact ⟨true, rfl, Lib.hid (.inl ⟨rfl, h1⟩), h2⟩
          · exact ⟨false, rfl, Lib.hid (.inr ⟨rfl, h1⟩), h2⟩
        clear hend
        have h56 := h55.keep hk6 (.inr ⟨hMS, hbS⟩)
        have hK6 : KeepB (fun b => b < w0.heap.size ∨ (M ≤ b ∧ b < w.heap.size ∧ b ≠ bS)) w W6 := hK.trans ((hk35.sub fun b _ h => (by omega : b ≠ bS)).trans (hk6.sub fun b _ h => by omega))
        gi_wp2
        go_roundw
        case rel => exact ⟨k + 1, f, by omega, by go_num, rfl, hst6, hK6, by rw [Htk.out]; exact h56⟩
        case measure => simp [intOf]; omega
    · obtain rfl : k = n := by omega
      gi_wp2
      refine bodyPost_end (results_none rfl _ _ _) rfl ⟨⟨_, rfl⟩, ?_⟩
      rw [HL.out, Hn.out]
      rcases hst.out with ⟨_, h⟩ | ⟨_, h⟩
      · exact .inl h
      · exact .inr h
end Go.Proofs.Ytoehcmddfpompaa
