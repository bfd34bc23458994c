/- The walks of the sum of bytes: the program's Next, over its iterator. -/
import Derived.Test.YtdhgiflmimonlaaDoorCrcWb
import Derived.Test.YtdhgiflmimonlaaDoorRange
namespace Go.Proofs.YtdhgiflmimonlaaDoor
open Go Go.RowKit Go.Shelf
attribute [local go_sem] Oper.semAt_some

/-- A row's halves, the lower one of each byte first. -/
def halvesN (l : List UInt8) : List Nat := l.flatMap fun c => [c.toNat % 16, c.toNat / 16]
theorem halvesN_length (l : List UInt8) : (halvesN l).length = 2 * l.length := by
  induction l with
  | nil => rfl
  | cons c l ih => simp only [halvesN, List.flatMap_cons, List.length_append, List.length_cons, List.length_nil] at ih ⊢; omega
theorem halvesN_even (l : List UInt8) (k : Nat) (c : UInt8) (h : l[k]? = some c) : (halvesN l)[2 * k]? = some (c.toNat % 16) ∧ (halvesN l)[2 * k + 1]? = some (c.toNat / 16) := by
  induction l generalizing k with
  | nil => simp at h
  | cons d l ih =>
    cases k with
    | zero => simp at h; subst h; simp [halvesN]
    | succ k =>
      have := ih k (by simpa using h)
      have e : 2 * (k + 1) = 2 * k + 1 + 1 := by omega
      rw [e]
      simpa [halvesN] using this

theorem bit0 (k : Nat) (h : k % 2 = 0) (hk : k < 9223372036854775808) : bits BinOp.and IntKind.i64 (k : Int) 1 = 0 := by
  have := bits_mask .i64 63 (by decide) (fun n h0 h1 => by rw [IntKind.wrap_i64]; omega) 1 (by decide) k (by omega) (by omega)
  simp only [Int.pow_one] at this
  rw [show (1 : Int) = 2 - 1 from rfl, this]; omega
theorem bit1 (k : Nat) (h : k % 2 = 1) (hk : k < 9223372036854775808) : bits BinOp.and IntKind.i64 (k : Int) 1 = 1 := by
  have := bits_mask .i64 63 (by decide) (fun n h0 h1 => by rw [IntKind.wrap_i64]; omega) 1 (by decide) k (by omega) (by omega)
  simp only [Int.pow_one] at this
  rw [show (1 : Int) = 2 - 1 from rfl, this]; omega
theorem halvesN_at0 (l : List UInt8) (k : Nat) (c : UInt8) (h : l[k / 2]? = some c) (h2 : k % 2 = 0) : (halvesN l)[k]? = some (c.toNat % 16) := by
  have := (halvesN_even l _ c h).1
  rwa [show 2 * (k / 2) = k from by omega] at this
theorem halvesN_at1 (l : List UInt8) (k : Nat) (c : UInt8) (h : l[k / 2]? = some c) (h2 : k % 2 = 1) : (halvesN l)[k]? = some (c.toNat / 16) := by
  have := (halvesN_even l _ c h).2
  rwa [show 2 * (k / 2) + 1 = k from by omega] at this

set_option maxHeartbeats 1000000 in
theorem halves1_iter (b : Nat) (A : Option Addr) (c : Nat) (l : List UInt8) (hl : l.length ≤ 1099511627776) (w0 : World) (M : Nat) (w : World) (hA : Rd w0 A (bvs l)) (hB0 : Below w0.heap.size w0 w) (hn : w0.heap.size ≤ M) (hM : M ≤ b)
    (hb : b < w.heap.size) (hc : w.cell? ⟨b, 0, none⟩ = some (.slice A l.length c)) :
    Iter Tryd.prog 25 #[.pointer (some ⟨b, 0, none⟩)] (fun h : Nat => #[.int .u8 h]) (halvesN l) w0.heap.size M w := by
  intro lr J Jx W hB hJ hJx hY h0
  have HY := Lib.hid hY
  have HJ := Lib.hid hJ
  have HJx := Lib.hid hJx
  clear hY hJ hJx
  refine callsIn_of_wp Tryd.func25 rfl trivial ?_ rfl
  simp only [Tryd.ntmps25, List.size_toArray, List.length_cons, List.length_nil, Nat.reduceAdd, Nat.reduceSub, Array.replicate_succ, Array.replicate_zero, List.push_toArray, List.append_toArray, List.nil_append, List.cons_append]
  refine scope_goto 0 (fun a w' => ∃ k : Nat, k ≤ 2 * l.length ∧ (∃ u4 u5 u6 u7 u8 u9 u10 u11 u12 u13 u14 u15 u16 u17 u18 u19 u20 u21 u22 u23 u24 : Value, a = ⟨#[.func (.yield lr) #[] #[], .pointer (some ⟨b, 0, none⟩), undef, .int .i64 (k : Int), u4, u5, u6, u7, u8, u9, u10, u11, u12, u13, u14, u15, u16, u17, u18, u19, u20, u21, u22, u23, u24], []⟩) ∧ J k w' ∧ KeepB (fun b => b < w0.heap.size ∨ (M ≤ b ∧ b < w.heap.size)) w w') (fun a _ => 2 * l.length - (intOf (a.tmps.getD 3 undef)).toNat) rfl ?pass ?first
  case first =>
    intro hX
    have HX := Lib.hid hX
    clear hX
    gi_wp2
    refine wpIn_label ?_
    rename_i hgo
    refine hgo _ _ ?_
    exact HX.out _ _ ⟨0, by omega, ⟨_, _, _, _, _, _, _, _, _, _, _, _, _, _, _, _, _, _, _, _, _, rfl⟩, h0, KeepB.of_below hB (fun _ h _ => h)⟩
  case pass =>
    rintro a w' ⟨k, hk, ⟨u4, u5, u6, u7, u8, u9, u10, u11, u12, u13, u14, u15, u16, u17, u18, u19, u20, u21, u22, u23, u24, rfl⟩, hJk, hK⟩
    have hc' := hK.cell (p := ⟨b, 0, none⟩) (by right; exact ⟨hM, hb⟩) hc
    by_cases hlt : k < 2 * l.length
    · have hk2 : k / 2 < l.length := by omega
      obtain ⟨b', o, ch, rfl, hb', hcell, hch, hlk⟩ := (hA.below (below_keep hB0 hK hB0.size (fun _ h => .inl h))).byte hk2
      rcases Nat.mod_two_eq_zero_or_one k with h2 | h2
      · have e1 : bits BinOp.and IntKind.i64 (k : Int) 1 = 0 := bit0 k h2 (by omega)
        obtain ⟨fn, tmps, assign, body, hy, hR⟩ := HY.out k _ w' (halvesN_at0 l k ch hlk h2) hJk hK.size
        have e2 : ((ch.toNat % 16 : Nat) : Int) = (ch.toNat : Int) % 16 := by omega
        dsimp only at hy
        rw [e2] at hy
        clear h2 hlk e2
        gi_wp2
        refine hR.mono ?_
        rintro e W3 (⟨rfl, hJ3, hk3⟩ | ⟨rfl, hJx3, hk3⟩)
        · gi_wp2
          refine wpIn_goto ?_
          exact ⟨rfl, ⟨k + 1, by omega, ⟨_, _, _, _, _, _, _, _, _, _, _, _, _, _, _, _, _, _, _, _, _, rfl⟩, hJ3, hK.trans (hk3.sub (fun b _ h => h))⟩, by simp [intOf]; omega⟩
        · gi_wp2
          simp only [Exit.jump]
          refine bodyPost_end (results_none rfl _ _ _) rfl ⟨⟨_, rfl⟩, .inr hJx3⟩
      · have e1 : bits BinOp.and IntKind.i64 (k : Int) 1 = 1 := bit1 k h2 (by omega)
        obtain ⟨fn, tmps, assign, body, hy, hR⟩ := HY.out k _ w' (halvesN_at1 l k ch hlk h2) hJk hK.size
        have e2 : ((ch.toNat / 16 : Nat) : Int) = (ch.toNat : Int) / 16 % 16 := by omega
        dsimp only at hy
        rw [e2] at hy
        clear h2 hlk e2
        gi_wp2
        refine hR.mono ?_
        rintro e W3 (⟨rfl, hJ3, hk3⟩ | ⟨rfl, hJx3, hk3⟩)
        · gi_wp2
          refine wpIn_goto ?_
          exact ⟨rfl, ⟨k + 1, by omega, ⟨_, _, _, _, _, _, _, _, _, _, _, _, _, _, _, _, _, _, _, _, _, rfl⟩, hJ3, hK.trans (hk3.sub (fun b _ h => h))⟩, by simp [intOf]; omega⟩
        · gi_wp2
          simp only [Exit.jump]
          refine bodyPost_end (results_none rfl _ _ _) rfl ⟨⟨_, rfl⟩, .inr hJx3⟩
    · have hd : decide ((k : Int) < 2 * (l.length : Int)) = false := by simp; omega
      gi_wp2
      refine ⟨fun _ h => (by cases h), ?_⟩
      gi_wp2
      obtain rfl : k = 2 * l.length := by omega
      simp only [Exit.jump]
      refine bodyPost_end (results_none rfl _ _ _) rfl ⟨⟨_, rfl⟩, .inl ?_⟩
      rw [halvesN_length]
      exact hJk
end Go.Proofs.YtdhgiflmimonlaaDoor
