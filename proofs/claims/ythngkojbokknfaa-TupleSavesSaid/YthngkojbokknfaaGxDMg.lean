/- Laws for walks that a program of mine prints, fourth part: runs of steps that need no world, at once. -/
import Derived.Test.YthngkojbokknfaaGxCMg
namespace Go.Proofs.Ythngkojbokknfaa
open Go Go.RowKit
/-- Steps that are skipped, or only move what is there: so many, from these slots. -/
def quick (ops : Array Oper) (M : Nat) : Nat → List Oper → List (Nat × Value) → Option (List Oper × List (Nat × Value))
  | 0, l, L => some (l, L)
  | n + 1, o :: l, L =>
    match wantB ops L o.guard with
    | some false => match o.dst with
      | some d => bif Nat.ble (d + 1) M then quick ops M n l ((d, undef) :: L) else none
      | none => quick ops M n l L
    | some true => match o.dst with
      | some d => bif Nat.ble (d + 1) M then
          match o.op with
          | .move x => match ev L x with
            | some v => quick ops M n l ((d, v) :: L)
            | none => none
          | .assign x => match ev L x with
            | some v => quick ops M n l ((d, v) :: L)
            | none => none
          | .pick c x y => match ev L c with
            | some (.bool true) => match ev L x with
              | some v => quick ops M n l ((d, v) :: L)
              | none => none
            | some (.bool false) => match ev L y with
              | some v => quick ops M n l ((d, v) :: L)
              | none => none
            | _ => none
          | _ => none
        else none
      | none => none
    | none => none
  | _ + 1, [], _ => none
section
variable {P : Program} {ops : Array Oper} {Q : Exit → Act → World → Prop} {N : FS} {w : World}
theorem wpS_quick : ∀ (n : Nat) {l l' : List Oper} {L L' : List (Nat × Value)}, quick ops N.n n l L = some (l', L') → wpS P ops Q l' N L' w → wpS P ops Q l N L w
  | 0, l, l', L, L', h, k => by
    simp only [quick, Option.some.injEq, Prod.mk.injEq] at h
    obtain ⟨rfl, rfl⟩ := h
    exact k
  | n + 1, [], l', L, L', h, k => by cases h
  | n + 1, ⟨dst, op, ty, pos, af, g⟩ :: l, l', L, L', h, k => by
    unfold quick at h
    split at h
    · rename_i hg
      split at h
      · rename_i d hd
        cases hb : Nat.ble (d + 1) N.n with
        | false => rw [hb] at h; cases h
        | true =>
          rw [hb] at h
          exact wpS_skip hg hd hb (wpS_quick n h k)
      · rename_i hd
        exact wpS_skip0 hg hd (wpS_quick n h k)
    · rename_i hg
      split at h
      · rename_i d hd
        cases hb : Nat.ble (d + 1) N.n with
        | false => rw [hb] at h; cases h
        | true =>
          rw [hb] at h
          dsimp only [cond_true] at h
          split at h
          · rename_i x
            split at h
            · rename_i v hv
              exact wpS_put hg hd hb (yv_move hv) (wpS_quick n h k)
            · cases h
          · rename_i x
            split at h
            · rename_i v hv
              exact wpS_put hg hd hb (yv_assign hv) (wpS_quick n h k)
            · cases h
          · rename_i c x y
            split at h
            · rename_i hc
              split at h
              · rename_i v hv
                exact wpS_put hg hd hb (yv_pick_t hc rfl hv) (wpS_quick n h k)
              · cases h
            · rename_i hc
              split at h
              · rename_i v hv
                exact wpS_put hg hd hb (yv_pick_f hc rfl hv) (wpS_quick n h k)
              · cases h
            · cases h
          · cases h
      · cases h
    · cases h
end
end Go.Proofs.Ythngkojbokknfaa
