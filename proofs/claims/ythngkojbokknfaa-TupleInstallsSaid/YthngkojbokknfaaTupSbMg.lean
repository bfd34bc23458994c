/- Slices of entries compared. -/
import Derived.Test.YthngkojbokknfaaMg1
namespace Go.Proofs.Ythngkojbokknfaa
open Go Go.RowKit
set_option maxRecDepth 10000
-- @EQ eqEn eqSt
theorem take_eq_snoc {α : Type} {l k : List α} {i : Nat} {x y : α} (h : l.take i = k.take i) (hx : l[i]? = some x) (hy : k[i]? = some y) (e : x = y) : l.take (i + 1) = k.take (i + 1) := by
  rw [List.take_add_one, List.take_add_one, hx, hy, h, e]

theorem sameE_any (A B : Option Addr) (n m c d : Nat) (l k : List En) (w0 : World) (hl : l.length = n) (hk : k.length = m) (hn : n ≤ 1000000000 ∧ m ≤ 1000000000) (hA : Rd w0 A (ens l)) (hB : Rd w0 B (ens k)) :
    PureC Try.prog 18 #[.slice A n c, .slice B m d] w0 (.bool (decide (l = k))) := by
  refine PureC.mk ?_
  by_cases hnm : n = m
  · subst hnm
    refine gw_enter2 Try.func18 rfl Try.ntmps18 rfl ?_
    have hS := St0.start All w0
    repeat (first | apply wpS_nil | (apply QH_seq_k; assumption) | (apply wpC_seq_k; intro K hK) | apply wpC_region | (apply wpS_g; refine wpS_put rfl rfl rfl (by first | exact yv_move rfl | exact yv_assign rfl | (apply yv_g_bin; first | exact yv_neq_f rfl rfl (by omega)) | (apply yv_g_bi; first | exact yv_len (by first | exact el_24) rfl)) ?_) | apply wpC_cond_f rfl rfl | apply wpC_skip | apply wpC_block)
    refine wpC_loop (X := Nat) (fun i => [(5, .int .i64 i), (1, .slice B n d), (0, .slice A n c)]) (fun i w => i ≤ n ∧ St0 All w0 w [] ∧ l.take i = k.take i) (fun i => n - i) 0 (by repeat (first | exact Sub.nil | refine Sub.cons rfl ?_)) ⟨by omega, hS, rfl⟩ ?_
    rintro i w ⟨hi, hS, heq⟩
    rcases Nat.lt_or_ge i n with hlt | hge
    · obtain ⟨x, hx⟩ : ∃ x, l[i]? = some x := ⟨_, List.getElem?_eq_getElem (by omega)⟩
      obtain ⟨y, hy⟩ : ∃ y, k[i]? = some y := ⟨_, List.getElem?_eq_getElem (by omega)⟩
      obtain ⟨b1, o1, rfl, hb1, hr1⟩ := hA.entR hx
      obtain ⟨b2, o2, rfl, hb2, hr2⟩ := hB.entR hy
      by_cases hxy : x = y
      · repeat (first | apply wpS_nil | (apply QH_seq_k; assumption) | (apply wpC_seq_k; intro K hK) | apply wpC_region | (apply wpS_g; refine wpS_put rfl rfl rfl (by first | exact yv_move rfl | (apply yv_g_bin; first | exact yv_lss_t rfl rfl (by omega)) | (apply yv_g_bi; first | exact yv_len (by first | exact el_24) rfl)) ?_) | apply wpC_cond_t rfl rfl | apply wpC_skip | apply wpC_block)
        refine wpC_draw 9 [] (fun _ _ => True) ⟨by kernel_rfl, by kernel_rfl⟩ hS (fun w hS hB => ?_)
        refine wpR_batch [true, true, true, true, true, true, true, true, true] (by decide +kernel) (by repeat (first | exact PF.body | apply PF.then | apply PF.inBlock)) ?_
        repeat (first | refine LtK.put rfl rfl rfl (by first | exact yv_move rfl | (apply yv_g_load; first | exact yv_loadA_old (by first | exact ag_23 | exact ag_50) rfl (RW.below _) hS (by first | trivial) (by first | trivial) (by assumption) (by rfl)) | (apply yv_g_bin; first | exact yv_neqS (by kernel_rfl) rfl rfl (fun w => eqEn_t w _ _ (by assumption))) | exact yv_indexAddr (by first | exact el_24) rfl rfl rfl (by omega)) ?_)
        refine LtK.nil ?_
        refine wpR_end (by kernel_rfl) ?_
        repeat (first | apply wpS_nil | (apply QH_seq_k; assumption) | apply wpC_region | (apply wpS_g; refine wpS_put rfl rfl rfl (by first | exact yv_move rfl | exact yv_assign rfl | (apply yv_g_bin; first | exact yv_add rfl rfl (by omega))) ?_) | apply wpC_cond_f rfl rfl | apply wpC_skip | apply QH_block_normal)
        refine QH_again (i + 1) (by repeat (first | exact Sub.nil | refine Sub.cons rfl ?_)) ⟨hlt, hS, take_eq_snoc heq hx hy hxy⟩ (by omega)
      · repeat (first | apply wpS_nil | (apply QH_seq_k; assumption) | (apply wpC_seq_k; intro K hK) | apply wpC_region | (apply wpS_g; refine wpS_put rfl rfl rfl (by first | exact yv_move rfl | (apply yv_g_bin; first | exact yv_lss_t rfl rfl (by omega)) | (apply yv_g_bi; first | exact yv_len (by first | exact el_24) rfl)) ?_) | apply wpC_cond_t rfl rfl | apply wpC_skip | apply wpC_block)
        refine wpC_draw 9 [] (fun _ _ => True) ⟨by kernel_rfl, by kernel_rfl⟩ hS (fun w hS hB => ?_)
        refine wpR_batch [true, true, true, true, true, true, true, true, true] (by decide +kernel) (by repeat (first | exact PF.body | apply PF.then | apply PF.inBlock)) ?_
        repeat (first | refine LtK.put rfl rfl rfl (by first | exact yv_move rfl | (apply yv_g_load; first | exact yv_loadA_old (by first | exact ag_23 | exact ag_50) rfl (RW.below _) hS (by first | trivial) (by first | trivial) (by assumption) (by rfl)) | (apply yv_g_bin; first | exact yv_neqS (by kernel_rfl) rfl rfl (fun w => eqEn_f w _ _ (by assumption))) | exact yv_indexAddr (by first | exact el_24) rfl rfl rfl (by omega)) ?_)
        refine LtK.nil ?_
        refine wpR_end (by kernel_rfl) ?_
        repeat (first | apply wpS_nil | (apply QH_seq_k; assumption) | (apply wpC_seq_k; intro K hK) | apply wpC_region | (apply wpS_g; refine wpS_put rfl rfl rfl (by first | exact yv_assign rfl) ?_) | apply wpC_cond_t rfl rfl | apply wpC_ret | apply QH_then_ret | apply QH_block_ret)
        refine QH_ret rfl (by first | exact RV.tmp rfl RV.nil) rfl ?_
        refine ⟨?_, hS.pure⟩
        rw [decide_eq_false]; · rfl
        rintro rfl
        rw [hx] at hy; injection hy with hy; exact hxy hy
    · obtain rfl : i = n := by omega
      repeat (first | apply wpS_nil | (apply QH_seq_k; assumption) | (apply wpC_seq_k; intro K hK) | apply wpC_region | (apply wpS_g; refine wpS_put rfl rfl rfl (by first | exact yv_move rfl | exact yv_assign rfl | (apply yv_g_bin; first | exact yv_lss_f rfl rfl (by omega)) | (apply yv_g_bi; first | exact yv_len (by first | exact el_24) rfl)) ?_) | apply wpC_cond_f rfl rfl | apply wpC_ret | apply wpC_exit | apply QH_then_exit | apply QH_block_hit)
      refine QH_ret rfl (by first | exact RV.tmp rfl RV.nil) rfl ?_
      refine ⟨?_, hS.pure⟩
      rw [List.take_of_length_le (by omega), List.take_of_length_le (by omega)] at heq
      rw [decide_eq_true heq]; rfl
  · refine gw_enter2 Try.func18 rfl Try.ntmps18 rfl ?_
    have hS := St0.start All w0
    repeat (first | apply wpS_nil | (apply QH_seq_k; assumption) | (apply wpC_seq_k; intro K hK) | apply wpC_region | (apply wpS_g; refine wpS_put rfl rfl rfl (by first | exact yv_move rfl | exact yv_assign rfl | (apply yv_g_bin; first | exact yv_neq_t rfl rfl (by omega)) | (apply yv_g_bi; first | exact yv_len (by first | exact el_24) rfl)) ?_) | apply wpC_cond_t rfl rfl | apply wpC_ret | apply QH_then_ret)
    refine QH_ret rfl (by first | exact RV.tmp rfl RV.nil) rfl ?_
    refine ⟨?_, hS.pure⟩
    rw [decide_eq_false]; · rfl
    rintro rfl; omega
end Go.Proofs.Ythngkojbokknfaa
