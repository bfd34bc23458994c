/- The walks of tuples: some entries. -/
import Derived.Test.YthngkojbokknfaaTupWiMg
import Derived.Test.YthngkojbokknfaaMg2
import Derived.Test.YthngkojbokknfaaMg1
namespace Go.Proofs.Ythngkojbokknfaa
open Go Go.RowKit
set_option maxRecDepth 10000

/-- Some entries of a term. -/
def someL (t : Int) (vs : List Int) : List En := vs.map fun v => ⟨t, 1, v⟩
structure IA where
  i : Nat
  A : Option Addr
  c : Nat
theorem built_entry (a b c : Int) : Try.prog.built 50 [(0, .int .i64 a), (1, .int .i64 b), (2, .int .i64 c)] = some [.int .i64 a, .int .i64 b, .int .i64 c].toArray := by kernel_rfl
theorem some_any (t : Int) (B : Option Addr) (m d : Nat) (vs : List Int) (w0 : World) (hm : vs.length = m) (hm9 : m ≤ 100000) (hB : Rd w0 B (ivs vs)) :
    Calls Try.prog 39 #[.int .i64 t, .slice B m d] w0 fun e w' => ∃ A' c', (e = .returned (.slice A' m c') ∧ Sl w0 w' A' m c' 3 (ens (someL t vs))) ∧ Below w0.heap.size w0 w' := by
  subst hm
  refine gw_enter2 Try.func39 rfl Try.ntmps39 rfl ?_
  have hS := St0.start All w0
  repeat (first | apply wpS_nil | (apply QH_seq_k; assumption) | (apply wpC_seq_k; intro K hK) | apply wpC_region | (apply wpS_g; refine wpS_put rfl rfl rfl (by first | exact yv_assign rfl) ?_) | apply wpC_block)
  have hS0 : St0 All w0 w0 [.row (.slice none 0 0) 50 3 0 []] := hS.addE (World.ownsRow_nil _ _ _ _) (fun k hk => by cases hk) (fun _ h => by cases h)
  refine wpC_loop (X := IA) (fun z => [(6, .int .i64 z.i), (5, .slice z.A z.i z.c), (1, .slice B vs.length d), (0, .int .i64 t)])
    (fun z w => z.i ≤ vs.length ∧ St0 All w0 w [.row (.slice z.A z.i z.c) 50 3 z.i (ens (someL t (vs.take z.i)))] ∧ z.i ≤ z.c ∧ z.c ≤ maxLen) (fun z => vs.length - z.i) ⟨0, none, 0⟩ (by repeat (first | exact Sub.nil | refine Sub.cons rfl ?_)) ⟨Nat.zero_le _, hS0, Nat.le_refl _, Nat.zero_le _⟩ ?_
  clear hS hS0
  rintro ⟨i, A, c⟩ w ⟨hi, hS, hc1, hc2⟩
  dsimp only at hi hS hc1 hc2 ⊢
  rcases Nat.lt_or_ge i vs.length with hlt | hge
  · obtain ⟨b1, o1, y, hB1, hb1, hr1, hy⟩ := hB.int hlt
    subst hB1
    have hr2 : w0.cell? ⟨b1, o1 + i * 1, none⟩ = some (.int .i64 y) := by rw [Nat.mul_one]; exact hr1
    have htk : vs.take (i + 1) = vs.take i ++ [y] := by rw [List.take_add_one, hy]; rfl
    repeat (first | apply wpS_nil | (apply QH_seq_k; assumption) | (apply wpC_seq_k; intro K hK) | apply wpC_region | (apply wpS_g; refine wpS_put rfl rfl rfl (by apply yv_g_build; exact yv_build rfl (built_entry _ _ _)) ?_) | (apply wpS_g; refine wpS_sliceM [.int .i64 t, .int .i64 1, .int .i64 y] (by first | exact el_24) (by first | exact zc_50) rfl rfl rfl rfl rfl (by kernel_rfl) hS ?_; rintro bq w hS hB) | (apply wpS_g; refine wpS_put rfl rfl rfl (by first | exact yv_indexAddr (j := i) (by first | exact el_24 | exact el_74) rfl rfl (by omega) (by omega) | exact yv_move rfl | (apply yv_g_load; first | exact yv_load_old (by first | exact sc_3) rfl (RW.here _) hS (by first | trivial) (by first | trivial) (by assumption)) | (apply yv_g_bin; first | exact yv_lss_t rfl rfl (by omega)) | (apply yv_g_bi; first | exact yv_len (by first | exact el_24 | exact el_74) rfl)) ?_) | apply wpC_cond_t rfl rfl | apply wpC_skip | apply wpC_block)
    refine wpS_append (n' := i + 1) elemE rfl rfl rfl rfl hS (fun _ => (by repeat (first | exact Pos.head | apply Pos.tail))) (hS.box_rd (b := bq) (by repeat (first | exact Has.head))) rfl (ens_one [⟨t, 1, y⟩]) (by omega) (by unfold maxLen; omega) (by omega) ?_
    intro A2 c3 w hc3 hc4 hS
    repeat (first | apply wpS_nil | (apply QH_seq_k; assumption) | apply wpC_region | (apply wpS_g; refine wpS_put rfl rfl rfl (by first | exact yv_move rfl | exact yv_assign rfl | (apply yv_g_bin; first | exact yv_add rfl rfl (by omega))) ?_) | apply QH_block_normal)
    refine QH_again ⟨i + 1, A2, c3⟩ (by repeat (first | exact Sub.nil | refine Sub.cons rfl ?_)) ⟨hlt, ?_, hc3, hc4⟩ (by dsimp only; omega)
    dsimp only
    have e1 : ens (someL t (vs.take (i + 1))) = ens (someL t (vs.take i)) ++ ens [⟨t, 1, y⟩] := by rw [htk, ← ens_app]; simp [someL]
    rw [e1]
    exact hS.sub (.cons _ (.refl _))
  · obtain rfl : i = vs.length := by omega
    rw [List.take_length] at hS
    repeat (first | apply wpS_nil | (apply QH_seq_k; assumption) | (apply wpC_seq_k; intro K hK) | apply wpC_region | (apply wpS_g; refine wpS_put rfl rfl rfl (by first | exact yv_move rfl | exact yv_assign rfl | (apply yv_g_bin; first | exact yv_lss_f rfl rfl (by omega)) | (apply yv_g_bi; first | exact yv_len (by first | exact el_74) rfl)) ?_) | apply wpC_cond_f rfl rfl | apply wpC_ret | apply wpC_exit | apply QH_then_exit | apply QH_block_hit)
    refine QH_ret rfl (by first | exact RV.tmp rfl RV.nil) rfl ?_
    exact ⟨A, c, ⟨rfl, hS.row_sl (by repeat (first | exact Has.head)) ⟨hc1, hc2⟩⟩, hS.pure⟩
end Go.Proofs.Ythngkojbokknfaa
