import Derived.Test.YtkibdolpapaflaaE1b
namespace Go.Proofs.Ytkibdolpapaflaa
open Go.RowKit

def six {α : Type} (a b c d e f : α) : Nat → α
  | 0 => a | 1 => b | 2 => c | 3 => d | 4 => e | _ => f

def row30 (V : Nat → Nat → Value) : Array Value :=
  #[V 0 0, V 0 1, V 0 2, V 0 3, V 0 4, V 1 0, V 1 1, V 1 2, V 1 3, V 1 4, V 2 0, V 2 1, V 2 2, V 2 3, V 2 4,
    V 3 0, V 3 1, V 3 2, V 3 3, V 3 4, V 4 0, V 4 1, V 4 2, V 4 3, V 4 4, V 5 0, V 5 1, V 5 2, V 5 3, V 5 4]

theorem row30_get (V : Nat → Nat → Value) (k j : Nat) (hk : k < 6) (hj : j < 5) : (row30 V)[k * 5 + j]? = some (V k j) := by
  rcases k with _ | _ | _ | _ | _ | _ | k <;> first | omega | (rcases j with _ | _ | _ | _ | _ | j <;> first | rfl | omega)

/-- What each operation of the region of the six copies has left: loads, copies, the literal. -/
def P12 (B : Nat) (V : Nat → Nat → Value) (N : Nat → Nat → Nat) (Z : Nat → Nat → List Int) (i : Nat) (x : Value) (_ : Act) (ws : World) : Prop :=
  if i < 12 then
    if i % 2 = 0 then x = .agg #[V (i / 2) 0, V (i / 2) 1, V (i / 2) 2, V (i / 2) 3, V (i / 2) 4]
    else ∃ u : Nat → Value, x = .agg #[u 0, u 1, u 2, u 3, u 4] ∧ COwn ws B u (N (i / 2)) (Z (i / 2))
  else ∃ (W : Nat → Nat → Value) (L : Nat), x = .slice (some ⟨L, 0, none⟩) 6 6 ∧ ws.heap[L]? = some (.cells (row30 W) 25 (0, 0)) ∧ B ≤ L ∧ ∀ j, j < 6 → COwn ws B (W j) (N j) (Z j)

theorem P12.below {B : Nat} {V : Nat → Nat → Value} {N : Nat → Nat → Nat} {Z : Nat → Nat → List Int} {i : Nat} {x : Value} {a a' : Act} {ws ws' : World} (h : P12 B V N Z i x a ws) (hB : Below ws.heap.size ws ws') : P12 B V N Z i x a' ws' := by
  unfold P12 at h ⊢
  split
  · rename_i h12
    rw [if_pos h12] at h
    split
    · rename_i h2
      rw [if_pos h2] at h
      exact h
    · rename_i h2
      rw [if_neg h2] at h
      obtain ⟨u, e, hC⟩ := h
      exact ⟨u, e, hC.below hB⟩
  · rename_i h12
    rw [if_neg h12] at h
    obtain ⟨W, L, e, hr, hL, hC⟩ := h
    exact ⟨W, L, e, row_keep hB hr, hL, fun j hj => (hC j hj).below hB⟩
end Go.Proofs.Ytkibdolpapaflaa
