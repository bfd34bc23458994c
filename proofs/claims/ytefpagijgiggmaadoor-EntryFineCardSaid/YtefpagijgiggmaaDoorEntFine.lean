/- The walk of EntryFine. -/
import Derived.Test.YtefpagijgiggmaaDoorEntWi
import Derived.Test.YtefpagijgiggmaaDoorEntFinePl
namespace Go.Proofs.YtefpagijgiggmaaDoor
open Go Go.RowKit

set_option maxRecDepth 100000 in
set_option maxHeartbeats 4000000 in
theorem fine_bad (s : St) (A : Option Addr) (n c : Nat) (w : World) (hr : NamesOK w) (hb : 100 < n ∨ fineB s = false ∨ 1073741624 < s.index) :
    Calls Tryd.prog 3 #[s.v, .slice A n c] w fun e w' => e = .returned (.bool true) ∧ Below w.heap.size w w' := by
  have hs0 := Box5.new w s 23
  have hBs : Below w.heap.size w (w.alloc (.cells #[.int .i64 s.index, .int .i64 s.term, .int .i64 s.sum, .int .i64 s.level, .bool s.final] 23)) := (Below.refl _ _).alloc (Nat.le_refl _) _
  have hr0 : NamesOK (w.alloc (.cells #[.int .i64 s.index, .int .i64 s.term, .int .i64 s.sum, .int .i64 s.level, .bool s.final] 23)) := hr.below hBs
  obtain ⟨a1, a2, a3, a4, a5⟩ := s
  dsimp only [St.v] at *
  by_cases h3 : 100 < n
  · go_enter Tryd.func3, Tryd.ntmps3
    go_wp2_with (first | (go_at_call 7; refine (fineR_any ⟨a1, a2, a3, a4, a5⟩ _).mono ?_; rintro e w1 ⟨rfl, hB1⟩; have hz := hB1.size; have k1 := keepT hB1; have hs1 := hs0.keep k1 trivial; obtain ⟨⟨c0, c1, c2, c3, c4⟩, _⟩ := hs1; dsimp only at c0 c1 c2 c3 c4; have hr1 := hr.below (bTr hBs hB1); rw [hf]) | (go_at_call 8; refine (wakes_any _ (by assumption)).mono ?_; rintro e w2 ⟨rfl, hB2⟩))
    go_returns
    exact ⟨rfl, bTr hBs hB2⟩
  cases hf : fineB ⟨a1, a2, a3, a4, a5⟩ with
  | false =>
    go_enter Tryd.func3, Tryd.ntmps3
    go_wp2_with (first | (go_at_call 7; refine (fineR_any ⟨a1, a2, a3, a4, a5⟩ _).mono ?_; rintro e w1 ⟨rfl, hB1⟩; have hz := hB1.size; have k1 := keepT hB1; have hs1 := hs0.keep k1 trivial; obtain ⟨⟨c0, c1, c2, c3, c4⟩, _⟩ := hs1; dsimp only at c0 c1 c2 c3 c4; have hr1 := hr.below (bTr hBs hB1); rw [hf]) | (go_at_call 8; refine (wakes_any _ (by assumption)).mono ?_; rintro e w2 ⟨rfl, hB2⟩))
    go_returns
    exact ⟨rfl, bTr hBs (bTr hB1 hB2)⟩
  | true =>
    have hi : 1073741624 < a1 := by simp [hf] at hb; omega
    go_enter Tryd.func3, Tryd.ntmps3
    go_wp2_with (first | (go_at_call 7; refine (fineR_any ⟨a1, a2, a3, a4, a5⟩ _).mono ?_; rintro e w1 ⟨rfl, hB1⟩; have hz := hB1.size; have k1 := keepT hB1; have hs1 := hs0.keep k1 trivial; obtain ⟨⟨c0, c1, c2, c3, c4⟩, _⟩ := hs1; dsimp only at c0 c1 c2 c3 c4; have hr1 := hr.below (bTr hBs hB1); rw [hf]) | (go_at_call 8; refine (wakes_any _ (by assumption)).mono ?_; rintro e w2 ⟨rfl, hB2⟩))
    go_returns
    exact ⟨rfl, bTr hBs (bTr hB1 hB2)⟩

theorem set_from {w : World} {b b' : Nat} {a o : St} (ha : Box5 w b a) (_ : Box5 w b' o) : Box5 (((((w.setCell ⟨b, 0, none⟩ (.int .i64 o.index)).setCell ⟨b, 1, none⟩ (.int .i64 o.term)).setCell ⟨b, 2, none⟩ (.int .i64 o.sum)).setCell ⟨b, 3, none⟩ (.int .i64 o.level)).setCell ⟨b, 4, none⟩ (.bool o.final)) b o ∧
    KeepB (fun x => x ≠ b) w (((((w.setCell ⟨b, 0, none⟩ (.int .i64 o.index)).setCell ⟨b, 1, none⟩ (.int .i64 o.term)).setCell ⟨b, 2, none⟩ (.int .i64 o.sum)).setCell ⟨b, 3, none⟩ (.int .i64 o.level)).setCell ⟨b, 4, none⟩ (.bool o.final)) := ha.setAll o
/-- What a round has at hand. -/
structure FineW (w0 w : World) (h bo b p : Nat) (a o : St) (e : En) : Prop where
  below : Below w0.heap.size w0 w
  sa : Box5 w h a
  so : Box5 w bo o
  e0 : w.cell? ⟨b, p, none⟩ = some (.int .i64 e.term)
  e1 : w.cell? ⟨b, p + 1, none⟩ = some (.int .i64 e.kind)
  e2 : w.cell? ⟨b, p + 2, none⟩ = some (.int .i64 e.value)
theorem FineW.keep {w0 w w' : World} {h bo b p : Nat} {a o : St} {e : En} (H : FineW w0 w h bo b p a o e) (hb : Below w.heap.size w w') : FineW w0 w' h bo b p a o e :=
  ⟨bTr H.below hb, H.sa.keep (keepT hb) trivial, H.so.keep (keepT hb) trivial, (keepT hb).cell (p := ⟨b, p, none⟩) trivial H.e0, (keepT hb).cell (p := ⟨b, p + 1, none⟩) trivial H.e1, (keepT hb).cell (p := ⟨b, p + 2, none⟩) trivial H.e2⟩

set_option maxRecDepth 100000 in
set_option maxHeartbeats 40000000 in
theorem fine_good (s : St) (A : Option Addr) (n c : Nat) (l : List En) (w : World) (hr : NamesOK w) (hln : l.length = n) (hA : Rd w A (ens l)) (hn : n ≤ 100) (hf : fineB s = true) (hi : s.index ≤ 1073741624) :
    Calls Tryd.prog 3 #[s.v, .slice A n c] w fun e w' => e = .returned (.bool true) ∧ Below w.heap.size w w' := by
  have hs0 := Box5.new w s 23
  have hBs : Below w.heap.size w (w.alloc (.cells #[.int .i64 s.index, .int .i64 s.term, .int .i64 s.sum, .int .i64 s.level, .bool s.final] 23)) := (Below.refl _ _).alloc (Nat.le_refl _) _
  have hF := (fineB_iff s).1 hf
  obtain ⟨a1, a2, a3, a4, a5⟩ := s
  dsimp only [St.v] at *
  go_enter Tryd.func3, Tryd.ntmps3
  go_upto_region 3 with (go_at_call 7; refine (fineR_any ⟨a1, a2, a3, a4, a5⟩ _).mono ?_; rintro e w1 ⟨rfl, hB1⟩; have hz := hB1.size; have k1 := keepT hB1; have hs1 := hs0.keep k1 trivial; have hs1' := hs1; obtain ⟨⟨c0, c1, c2, c3, c4⟩, _⟩ := hs1'; dsimp only at c0 c1 c2 c3 c4; rw [hf])
  have hB1' := bTr hBs hB1
  clear hs0 hB1 k1 hBs hz c0 c1 c2 c3 c4 hf
  go_wp2_with fail
  go_loopw [5, 6] (fun n5 i wr => ∃ (k : Nat) (a : St) (nn : Int), k ≤ n ∧ i = .int .i64 k ∧ n5 = .int .i64 nn ∧ 0 ≤ nn ∧ nn ≤ k ∧ Box5 wr w.heap.size a ∧ FineP a ∧ a.index ≤ 1073741624 + k ∧ Below w.heap.size w wr) (fun _ i _ => n - (intOf i).toNat)
  case atStart => exact ⟨0, _, 0, by omega, rfl, rfl, by omega, by omega, hs1, hF, by simpa using hi, hB1'⟩
  case round =>
    clear hs1 hF hi hB1'
    obtain ⟨k, a, nn, hk, rfl, rfl, hnn0, hnn1, ha, hF, hix, hB⟩ := hrel
    by_cases hlt : k < n
    · obtain ⟨b, o, e, rfl, hb, he, d0, d1, d2⟩ := (hA.below hB).entry (k := k) (by omega)
      have t1 : (0 : Int) ≤ (k : Int) := by omega
      have t2 : (k : Int) < (n : Int) := by omega
      have hla := ha.lt
      have ha' := ha
      obtain ⟨⟨c0, c1, c2, c3, c4⟩, _⟩ := ha'
      obtain ⟨t, kd, v⟩ := e
      dsimp only at d0 d1 d2
      have HD := Lib.hid (And.intro d0 (And.intro d1 d2))
      have hstore := fun (w : World) (b : Nat) (x : St) (h : Box5 w b x) (n : St) => Lib.hid (h.setAll n)
      clear hA
      go_upto_region 7 with fail
      go_cut [7] (fun v7 wx => ∃ bo : Nat, v7 = .pointer (some ⟨bo, 0, none⟩) ∧ wr.heap.size ≤ bo ∧ Box5 wx bo (nextS a ⟨t, kd, v⟩) ∧ Below wr.heap.size wr wx)
      case first =>
        have HST := Lib.hid hstore
        clear hstore hr
        go_wp2
        refine region_flow 8 [7] (fun _ _ => False) ⟨by kernel_rfl, by kernel_rfl⟩ (fun wf HB => ?_)
        refine' wpF_lights [true, true, true, true, true] 125 _ (by decide +kernel) rfl (fun W hW => ?_) ?_
        rotate_left
        · obtain ⟨hcW, hfW⟩ := bCells (bTr HB hW)
          dsimp only [pickL]
          go_wp2
          exact Lend.ok
        refine wpF_two [false, false, false, false, false, true] [false, false, false, false, false, false, true] 5 6 (by decide +kernel) rfl rfl rfl rfl ?_ ?_
        all_goals dsimp only [pickL]
        all_goals go_wp2_with fail
        · refine (next_any a ⟨t, kd, v⟩ _).mono ?_
          rintro e w2 ⟨rfl, hB2⟩
          generalize nextS a ⟨t, kd, v⟩ = na at *
          dsimp only [St.v]
          go_wp2
          have hBa := bTr HB hB2
          have hnew := Box5.new w2 na 23
          refine wpF_call [false, false, false, false, false, false, true] 6 (by decide +kernel) rfl rfl ?_
          dsimp only [pickL]
          go_wp2_with fail
          refine ⟨(Below.refl _ _).alloc (Nat.le_refl _) _, ?_⟩
          refine wpF_seal [false, false, false, false, false, false, false, true] 7 (by decide +kernel) rfl rfl ?_
          dsimp only [pickL]
          go_wp2_with fail
          refine ⟨⟨rfl, rfl, rfl, by simp, fun _ _ h => h.elim⟩, ?_⟩
          refine wpF_end (by kernel_rfl) ?_
          go_wp2
          go_meet
          exact ⟨_, rfl, hBa.size, hnew, hBa.alloc hBa.size _⟩
        · have hz5 := Box5.new wf ⟨0, 0, 0, 0, false⟩ 23
          dsimp only at hz5
          have hBa : Below wr.heap.size wr (wf.alloc (.cells #[.int .i64 0, .int .i64 0, .int .i64 0, .int .i64 0, .bool false] 23)) := HB.alloc HB.size _
          have hsz : wf.heap.size < (wf.alloc (.cells #[.int .i64 0, .int .i64 0, .int .i64 0, .int .i64 0, .bool false] 23)).heap.size := by simp
          refine ⟨(Below.refl _ _).alloc (Nat.le_refl _) _, ?_⟩
          generalize wf.alloc (.cells #[.int .i64 0, .int .i64 0, .int .i64 0, .int .i64 0, .bool false] 23) = w2 at *
          refine wpF_call [false, false, false, false, false, true] 5 (by decide +kernel) rfl rfl ?_
          dsimp only [pickL]
          go_wp2_with fail
          refine (next_any a ⟨t, kd, v⟩ _).mono ?_
          rintro e w3 ⟨rfl, hB3⟩
          generalize nextS a ⟨t, kd, v⟩ = na at *
          dsimp only [St.v]
          go_wp2
          have hz3 := hz5.keep (keepT hB3) trivial
          have hB4 := bTr hBa hB3
          have hfs := HB.size
          have hset := HST.out _ _ _ hz3 na
          obtain ⟨⟨z0, z1, z2, z3, z4⟩, zf⟩ := hz3
          dsimp only at z0 z1 z2 z3 z4
          have zf0 := zf 0
          have zf1 := zf 1
          have zf2 := zf 2
          have zf3 := zf 3
          have zf4 := zf 4
          clear zf
          refine wpF_seal [false, false, false, false, false, false, false, true] 7 (by decide +kernel) rfl rfl ?_
          dsimp only [pickL]
          go_wp2_with fail
          obtain ⟨g1, g2⟩ := hset.out
          refine ⟨g2.sub fun _ _ h => h.elim, ?_⟩
          refine wpF_end (by kernel_rfl) ?_
          go_wp2
          go_meet
          exact ⟨_, rfl, hfs, g1, below_keep hB4 g2 hB4.size (fun _ _ => by omega)⟩
      case rest =>
        clear hstore c0 c1 c2 c3 c4 d0 d1 d2
        obtain ⟨bo, rfl, hbo, ho, hBo⟩ := hcut
        have hlt2 : a.index < 1073741824 := by omega
        have hpos : 0 ≤ a.index := hF.bounds.1
        have HN : FineW w wc w.heap.size bo b (o + k * 3) a (nextS a ⟨t, kd, v⟩) ⟨t, kd, v⟩ := ⟨bTr hB (hBo.mono (by omega)), ha.keep (keepT hBo) trivial, ho, (keepT hBo).cell (p := ⟨b, o + k * 3, none⟩) trivial HD.out.1, (keepT hBo).cell (p := ⟨b, o + k * 3 + 1, none⟩) trivial HD.out.2.1, (keepT hBo).cell (p := ⟨b, o + k * 3 + 2, none⟩) trivial HD.out.2.2⟩
        have HF := nextS_fine a ⟨t, kd, v⟩ hF
        have hfi := (fineB_iff _).2 HF
        have hix2 := next_index a ⟨t, kd, v⟩
        have hne : bo ≠ w.heap.size := by have := hB.size; omega
        have Hfin := Lib.hid (next_final a ⟨t, kd, v⟩ hF hlt2)
        have Hpar := Lib.hid (next_parts a ⟨t, kd, v⟩ hF hlt2)
        have Hwr := Lib.hid (next_wrong a ⟨t, kd, v⟩)
        generalize nextS a ⟨t, kd, v⟩ = na at *
        clear ha ho HD hBo
        obtain ⟨⟨c0, c1, c2, c3, c4⟩, _⟩ := HN.sa
        obtain ⟨⟨n0, n1, n2, n3, n4⟩, _⟩ := HN.so
        have d0 := HN.e0
        have d1 := HN.e1
        have d2 := HN.e2
        have l0 := HN.sa.lt
        have l1 := HN.so.lt
        have l2 := World.block_lt_of_cell? _ _ d0
        dsimp only at d0 d1 d2
        go_wp2_with fail
        refine (fineR_any na _).mono ?_
        rintro e w2 ⟨rfl, hB2⟩
        rw [hfi]
        replace HN := HN.keep hB2
        clear c0 c1 c2 c3 c4 n0 n1 n2 n3 n4 d0 d1 d2 l0 l1 l2
        obtain ⟨⟨c0, c1, c2, c3, c4⟩, _⟩ := HN.sa
        obtain ⟨⟨n0, n1, n2, n3, n4⟩, _⟩ := HN.so
        have d0 := HN.e0
        have d1 := HN.e1
        have d2 := HN.e2
        have l0 := HN.sa.lt
        have l1 := HN.so.lt
        have l2 := World.block_lt_of_cell? _ _ d0
        dsimp only at d0 d1 d2
        have hffin : a.final = true → na.final = true ∧ na.level = 2 := Hfin.out
        obtain ⟨o1, o2, o3, o4, o5⟩ := na
        obtain ⟨s1, s2, s3, s4, s5⟩ := a
        dsimp only at *
        cases hrt : rightB ⟨t, kd, v⟩ with
        | false =>
          have heq := Hwr.out hrt
          injection heq with g1 g2 g3 g4 g5
          subst g1 g2 g3 g4 g5
          cases o5
          all_goals
            (try obtain rfl : o4 = 2 := (hffin rfl).2)
            clear hffin Hfin Hpar Hwr
            go_wp2_with fail
            refine (rightR_any ⟨_, _, _⟩ _).mono ?_
            rintro e w3 ⟨rfl, hB3⟩
            rw [hrt]
            replace HN := HN.keep hB3
            clear c0 c1 c2 c3 c4 n0 n1 n2 n3 n4 d0 d1 d2 l0 l1 l2
            obtain ⟨⟨c0, c1, c2, c3, c4⟩, _⟩ := HN.sa
            obtain ⟨⟨n0, n1, n2, n3, n4⟩, _⟩ := HN.so
            have d0 := HN.e0
            have d1 := HN.e1
            have d2 := HN.e2
            have l0 := HN.sa.lt
            have l1 := HN.so.lt
            have l2 := World.block_lt_of_cell? _ _ d0
            dsimp only at d0 d1 d2
            dsimp only at *
            go_wp2
            go_roundw
            case rel => exact ⟨k + 1, _, nn, by omega, by go_num, rfl, hnn0, by omega, HN.sa, HF, by push_cast; omega, HN.below⟩
            case measure => simp [intOf]; omega
        | true =>
          obtain ⟨p1, p2, p3, p4⟩ := Hpar.out hrt
          subst p1 p2
          have hkd : kd = 1 ∨ kd = 0 ∨ (kd ≠ 1 ∧ kd ≠ 0) := by omega
          rcases hkd with rfl | rfl | ⟨q1, q0⟩
          · obtain ⟨rfl, rfl⟩ := p4 (.inr rfl)
            cases o5
            all_goals
              (try (obtain ⟨_, z4⟩ := hffin rfl; subst z4))
              clear hffin Hfin Hpar Hwr p3 p4 hix2
              go_wp2_with fail
              refine (rightR_any ⟨_, _, _⟩ _).mono ?_
              rintro e w3 ⟨rfl, hB3⟩
              rw [hrt]
              replace HN := HN.keep hB3
              clear c0 c1 c2 c3 c4 n0 n1 n2 n3 n4 d0 d1 d2 l0 l1 l2
              obtain ⟨⟨c0, c1, c2, c3, c4⟩, _⟩ := HN.sa
              obtain ⟨⟨n0, n1, n2, n3, n4⟩, _⟩ := HN.so
              have d0 := HN.e0
              have d1 := HN.e1
              have d2 := HN.e2
              have l0 := HN.sa.lt
              have l1 := HN.so.lt
              have l2 := World.block_lt_of_cell? _ _ d0
              dsimp only at d0 d1 d2
              dsimp only at *
              go_wp2
              refine region_flow0 61 ⟨by kernel_rfl, by kernel_rfl⟩ (fun wf HB => ?_)
              refine' wpF_lights [true, true, true, true, true, true, true, true, true, true, true, true, true, true, true, true, true, true, true, true, true, true, true, true, true, true, true, true, true, true, true, true, true, true, true, true, true, true, true, true, true, true, true, true, true, true, true, true, true, true, true, true, true, true, true, true, true, true, true, true, true] 125 _ (by decide +kernel) rfl (fun W hW => ?_) ?_
              rotate_left
              · obtain ⟨hcW, hfW⟩ := bCells (bTr HB hW)
                dsimp only [pickL]
                go_wp2
                exact Lend.ok
              refine wpF_end (by kernel_rfl) ?_
              replace HN := HN.keep HB
              clear c0 c1 c2 c3 c4 n0 n1 n2 n3 n4 d0 d1 d2 l0 l1 l2
              obtain ⟨⟨c0, c1, c2, c3, c4⟩, _⟩ := HN.sa
              obtain ⟨⟨n0, n1, n2, n3, n4⟩, _⟩ := HN.so
              have d0 := HN.e0
              have d1 := HN.e1
              have d2 := HN.e2
              have l0 := HN.sa.lt
              have l1 := HN.so.lt
              have l2 := World.block_lt_of_cell? _ _ d0
              dsimp only at d0 d1 d2
              dsimp only at *
              have hset := Lib.hid (set_from HN.sa HN.so)
              have sf0 := HN.sa.2 0
              have sf1 := HN.sa.2 1
              have sf2 := HN.sa.2 2
              have sf3 := HN.sa.2 3
              have sf4 := HN.sa.2 4
              go_wp2
              obtain ⟨g1, g2⟩ := hset.out
              go_roundw
              case rel => exact ⟨k + 1, _, nn + 1, by omega, by go_num, rfl, by omega, by push_cast; omega, g1, HF, by push_cast; omega, below_keep HN.below g2 HN.below.size (fun _ _ => by omega)⟩
              case measure => simp [intOf]; omega
          · obtain rfl := p3 (by decide)
            obtain ⟨rfl, rfl⟩ := p4 (.inl rfl)
            cases o5
            all_goals
              (try (obtain ⟨_, z4⟩ := hffin rfl; subst z4))
              clear hffin Hfin Hpar Hwr p3 p4 hix2
              go_wp2_with fail
              refine (rightR_any ⟨_, _, _⟩ _).mono ?_
              rintro e w3 ⟨rfl, hB3⟩
              rw [hrt]
              replace HN := HN.keep hB3
              clear c0 c1 c2 c3 c4 n0 n1 n2 n3 n4 d0 d1 d2 l0 l1 l2
              obtain ⟨⟨c0, c1, c2, c3, c4⟩, _⟩ := HN.sa
              obtain ⟨⟨n0, n1, n2, n3, n4⟩, _⟩ := HN.so
              have d0 := HN.e0
              have d1 := HN.e1
              have d2 := HN.e2
              have l0 := HN.sa.lt
              have l1 := HN.so.lt
              have l2 := World.block_lt_of_cell? _ _ d0
              dsimp only at d0 d1 d2
              dsimp only at *
              go_wp2
              refine region_flow0 61 ⟨by kernel_rfl, by kernel_rfl⟩ (fun wf HB => ?_)
              refine' wpF_lights [true, true, true, true, true, true, true, true, true, true, true, true, true, true, true, true, true, true, true, true, true, true, true, true, true, true, true, true, true, true, true, true, true, true, true, true, true, true, true, true, true, true, true, true, true, true, true, true, true, true, true, true, true, true, true, true, true, true, true, true, true] 125 _ (by decide +kernel) rfl (fun W hW => ?_) ?_
              rotate_left
              · obtain ⟨hcW, hfW⟩ := bCells (bTr HB hW)
                dsimp only [pickL]
                go_wp2
                exact Lend.ok
              refine wpF_end (by kernel_rfl) ?_
              replace HN := HN.keep HB
              clear c0 c1 c2 c3 c4 n0 n1 n2 n3 n4 d0 d1 d2 l0 l1 l2
              obtain ⟨⟨c0, c1, c2, c3, c4⟩, _⟩ := HN.sa
              obtain ⟨⟨n0, n1, n2, n3, n4⟩, _⟩ := HN.so
              have d0 := HN.e0
              have d1 := HN.e1
              have d2 := HN.e2
              have l0 := HN.sa.lt
              have l1 := HN.so.lt
              have l2 := World.block_lt_of_cell? _ _ d0
              dsimp only at d0 d1 d2
              dsimp only at *
              have hset := Lib.hid (set_from HN.sa HN.so)
              have sf0 := HN.sa.2 0
              have sf1 := HN.sa.2 1
              have sf2 := HN.sa.2 2
              have sf3 := HN.sa.2 3
              have sf4 := HN.sa.2 4
              go_wp2
              obtain ⟨g1, g2⟩ := hset.out
              go_roundw
              case rel => exact ⟨k + 1, _, nn + 1, by omega, by go_num, rfl, by omega, by push_cast; omega, g1, HF, by push_cast; omega, below_keep HN.below g2 HN.below.size (fun _ _ => by omega)⟩
              case measure => simp [intOf]; omega
          · obtain rfl := p3 q1
            have g1 : (kd == 1) = false := by simpa using q1
            have g2 : (kd != 1) = true := by simpa using q1
            have g0 : (kd == 0) = false := by simpa using q0
            clear q1 q0
            cases s5
            all_goals
              (try (obtain ⟨z5, z4⟩ := hffin rfl; subst z5 z4))
              clear hffin Hfin Hpar Hwr p3 p4 hix2
              go_wp2_with fail
              refine (rightR_any ⟨_, _, _⟩ _).mono ?_
              rintro e w3 ⟨rfl, hB3⟩
              rw [hrt]
              replace HN := HN.keep hB3
              clear c0 c1 c2 c3 c4 n0 n1 n2 n3 n4 d0 d1 d2 l0 l1 l2
              obtain ⟨⟨c0, c1, c2, c3, c4⟩, _⟩ := HN.sa
              obtain ⟨⟨n0, n1, n2, n3, n4⟩, _⟩ := HN.so
              have d0 := HN.e0
              have d1 := HN.e1
              have d2 := HN.e2
              have l0 := HN.sa.lt
              have l1 := HN.so.lt
              have l2 := World.block_lt_of_cell? _ _ d0
              dsimp only at d0 d1 d2
              dsimp only at *
              go_wp2
              refine region_flow0 61 ⟨by kernel_rfl, by kernel_rfl⟩ (fun wf HB => ?_)
              refine' wpF_lights [true, true, true, true, true, true, true, true, true, true, true, true, true, true, true, true, true, true, true, true, true, true, true, true, true, true, true, true, true, true, true, true, true, true, true, true, true, true, true, true, true, true, true, true, true, true, true, true, true, true, true, true, true, true, true, true, true, true, true, true, true] 125 _ (by decide +kernel) rfl (fun W hW => ?_) ?_
              rotate_left
              · obtain ⟨hcW, hfW⟩ := bCells (bTr HB hW)
                dsimp only [pickL]
                go_wp2
                exact Lend.ok
              refine wpF_end (by kernel_rfl) ?_
              replace HN := HN.keep HB
              clear c0 c1 c2 c3 c4 n0 n1 n2 n3 n4 d0 d1 d2 l0 l1 l2
              obtain ⟨⟨c0, c1, c2, c3, c4⟩, _⟩ := HN.sa
              obtain ⟨⟨n0, n1, n2, n3, n4⟩, _⟩ := HN.so
              have d0 := HN.e0
              have d1 := HN.e1
              have d2 := HN.e2
              have l0 := HN.sa.lt
              have l1 := HN.so.lt
              have l2 := World.block_lt_of_cell? _ _ d0
              dsimp only at d0 d1 d2
              dsimp only at *
              have hset := Lib.hid (set_from HN.sa HN.so)
              have sf0 := HN.sa.2 0
              have sf1 := HN.sa.2 1
              have sf2 := HN.sa.2 2
              have sf3 := HN.sa.2 3
              have sf4 := HN.sa.2 4
              go_wp2
              obtain ⟨g1, g2⟩ := hset.out
              go_roundw
              case rel => exact ⟨k + 1, _, nn + 1, by omega, by go_num, rfl, by omega, by push_cast; omega, g1, HF, by push_cast; omega, below_keep HN.below g2 HN.below.size (fun _ _ => by omega)⟩
              case measure => simp [intOf]; omega
    · obtain rfl : k = n := by omega
      go_wp2_with (go_at_call 8; refine (wakes_any _ (hr.below hB)).mono ?_; rintro e w2 ⟨rfl, hB2⟩)
      go_returns
      exact ⟨rfl, bTr hB hB2⟩
theorem fine_all (s : St) (A : Option Addr) (c : Nat) (l : List En) (w : World) (hr : NamesOK w) (hA : Rd w A (ens l)) :
    Calls Tryd.prog 3 #[s.v, .slice A l.length c] w fun e w' => e = .returned (.bool true) ∧ Below w.heap.size w w' := by
  by_cases hb : 100 < l.length ∨ fineB s = false ∨ 1073741624 < s.index
  · exact fine_bad s A l.length c w hr hb
  · exact fine_good s A l.length c l w hr rfl hA (by omega) (by cases hf : fineB s; simp [hf] at hb; rfl) (by omega)
end Go.Proofs.YtefpagijgiggmaaDoor
