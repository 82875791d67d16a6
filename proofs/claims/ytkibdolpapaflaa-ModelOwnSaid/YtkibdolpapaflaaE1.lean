import Derived.Test.YtkibdolpapaflaaD6
namespace Go.Proofs.Ytkibdolpapaflaa
open Go.RowKit

/-- The contents that the law holds in its hands: each owns its place, none shares another's. -/
structure Fam (w : World) (c : Nat) (V : Nat → Nat → Value) (N : Nat → Nat → Nat) (Z : Nat → Nat → List Int) (X : World) : Prop where
  own : ∀ p, p < c → COwn X w.heap.size (V p) (N p) (Z p)
  apart : ∀ p q, p < c → q < c → p ≠ q → ∀ i j, i < 5 → j < 5 → ∀ g, blk (V p i) = some g → blk (V q j) ≠ some g
  low : Below w.heap.size w X

def upd {α : Type} (k : Nat) (x : α) (f : Nat → α) (i : Nat) : α := if i = k then x else f i
theorem upd_same {α : Type} (k : Nat) (x : α) (f : Nat → α) : upd k x f k = x := if_pos rfl
theorem upd_ne {α : Type} {k i : Nat} (h : i ≠ k) (x : α) (f : Nat → α) : upd k x f i = f i := if_neg h

theorem Fam.zero (w X : World) (h : Below w.heap.size w X) (V : Nat → Nat → Value) (N : Nat → Nat → Nat) (Z : Nat → Nat → List Int) : Fam w 0 V N Z X := ⟨fun p hp => by omega, fun p q hp => by omega, h⟩

theorem COwn.below {w w' : World} {b : Nat} {u : Nat → Value} {n : Nat → Nat} {z : Nat → List Int} (h : COwn w b u n z) (hB : Below w.heap.size w w') : COwn w' b u n z :=
  h.of_block fun k _ hk => hB.block k hk

theorem Fam.below {w : World} {c : Nat} {V : Nat → Nat → Value} {N : Nat → Nat → Nat} {Z : Nat → Nat → List Int} {X X' : World} (h : Fam w c V N Z X) (hB : Below X.heap.size X X') : Fam w c V N Z X' :=
  ⟨fun p hp => (h.own p hp).below hB, h.apart, h.low.trans (hB.mono h.low.size)⟩

theorem Fam.add {w : World} {c : Nat} {V : Nat → Nat → Value} {N : Nat → Nat → Nat} {Z : Nat → Nat → List Int} {X X' : World} {b : Nat} {u : Nat → Value} {n : Nat → Nat} {z : Nat → List Int}
    (h : Fam w c V N Z X) (hB : Below X.heap.size X X') (hC : COwn X' b u n z) (hb : X.heap.size ≤ b) : Fam w (c + 1) (upd c u V) (upd c n N) (upd c z Z) X' := by
  refine ⟨fun p hp => ?_, fun p q hp hq hpq i j hi hj g hg => ?_, h.low.trans (hB.mono h.low.size)⟩
  · by_cases e : p = c
    · subst e
      rw [upd_same, upd_same, upd_same]
      exact ⟨fun i hi => (hC.own i hi).mono (Nat.le_trans h.low.size hb), hC.apart⟩
    · rw [upd_ne e, upd_ne e, upd_ne e]
      exact (h.own p (by omega)).below hB
  · by_cases ep : p = c
    · subst ep
      have eq : q ≠ p := fun e => hpq e.symm
      rw [upd_same] at hg
      rw [upd_ne eq]
      intro h2
      have h3 := (((h.own q (by omega)).own j hj).lt g h2).2
      have h4 := ((hC.own i hi).lt g hg).1
      omega
    · rw [upd_ne ep] at hg
      by_cases eq : q = c
      · subst eq
        rw [upd_same]
        intro h2
        have h3 := (((h.own p (by omega)).own i hi).lt g hg).2
        have h4 := ((hC.own j hj).lt g h2).1
        omega
      · rw [upd_ne eq]
        exact h.apart p q (by omega) (by omega) hpq i j hi hj g hg

theorem Fam.rd {w : World} {c : Nat} {V : Nat → Nat → Value} {N : Nat → Nat → Nat} {Z : Nat → Nat → List Int} {X : World} (h : Fam w c V N Z X) {p : Nat} (hp : p < c) : ∀ i, i < 5 → Rd X (V p i) (esz i) (N p i) (Z p i) := fun i hi => ((h.own p hp).own i hi).rd

/-- The blocks of the contents are none that holds boxes. -/
theorem COwn.off {w : World} {b : Nat} {u : Nat → Value} {n : Nat → Nat} {z : Nat → List Int} (h : COwn w b u n z) {A : Nat} {cs : Array Value} {T : TypeId} (hA : w.heap[A]? = some (.cells cs T (0, 0))) (hT : T ≠ 3 ∧ T ≠ 67) : ∀ i, i < 5 → blk (u i) ≠ some A := by
  intro i hi e
  refine (h.own i hi).ne_of_type hA ?_ A e rfl
  unfold ety
  split
  · exact fun e => hT.2 e.symm
  · exact fun e => hT.1 e.symm

theorem ansBox {w1 : World} {u : Nat → Value} :
    ((w1.alloc (.cells #[.slice none 0 0, .slice none 0 0, .slice none 0 0, .slice none 0 0, .slice none 0 0] 25)).setRow w1.heap.size #[u 0, u 1, u 2, u 3, u 4]).heap[w1.heap.size]? = some (.cells #[u 0, u 1, u 2, u 3, u 4] 25 (0, 0)) ∧
    Below w1.heap.size w1 ((w1.alloc (.cells #[.slice none 0 0, .slice none 0 0, .slice none 0 0, .slice none 0 0, .slice none 0 0] 25)).setRow w1.heap.size #[u 0, u 1, u 2, u 3, u 4]) :=
  ⟨setRow_heap _ w1.heap.size _ #[u 0, u 1, u 2, u 3, u 4] _ _ (heap_alloc_new w1 _), below_setRow ((Below.refl _ _).alloc (Nat.le_refl _) _) (Nat.le_refl _) _⟩

theorem ansBox2 {w1 : World} {u : Nat → Value} {k v : Int} {X : World}
    (hX : X = (((w1.alloc (.cells #[.slice none 0 0, .slice none 0 0, .slice none 0 0, .slice none 0 0, .slice none 0 0] 25)).alloc (.cells #[.int .i64 0, .int .i64 0] 33)).setRow w1.heap.size #[u 0, u 1, u 2, u 3, u 4]).setRow (w1.heap.size + 1) #[.int .i64 k, .int .i64 v]) :
    X.heap[w1.heap.size]? = some (.cells #[u 0, u 1, u 2, u 3, u 4] 25 (0, 0)) ∧ Below w1.heap.size w1 X := by
  obtain ⟨g1, g2, gB, _⟩ := box2 (Below.refl (w1.heap.size + 2) ((w1.alloc (.cells #[.slice none 0 0, .slice none 0 0, .slice none 0 0, .slice none 0 0, .slice none 0 0] 25)).alloc (.cells #[.int .i64 0, .int .i64 0] 33))) (Nat.le_refl _)
  subst hX
  refine ⟨(setRow_other _ _ _ _ (by omega)).trans (setRow_heap _ w1.heap.size _ #[u 0, u 1, u 2, u 3, u 4] _ _ g1), below_setRow (below_setRow gB (Nat.le_refl _) _) (by omega) _⟩

theorem row_keep {X X' : World} (hB : Below X.heap.size X X') {A : Nat} {o : Obj} (h : X.heap[A]? = some o) : X'.heap[A]? = some o :=
  (hB.block A (Array.getElem?_eq_some_iff.1 h).1).trans h

theorem isOp_obj {o : Int} (h : isOp o) : ∃ k : Nat, 1 ≤ k ∧ k ≤ 5 ∧ objOf o = k := by
  rcases h with rfl | rfl | rfl | rfl | rfl | rfl | rfl | rfl | rfl | rfl | rfl | rfl
  · exact ⟨1, by omega, by omega, rfl⟩
  · exact ⟨1, by omega, by omega, rfl⟩
  · exact ⟨2, by omega, by omega, rfl⟩
  · exact ⟨2, by omega, by omega, rfl⟩
  · exact ⟨3, by omega, by omega, rfl⟩
  · exact ⟨3, by omega, by omega, rfl⟩
  · exact ⟨4, by omega, by omega, rfl⟩
  · exact ⟨4, by omega, by omega, rfl⟩
  · exact ⟨4, by omega, by omega, rfl⟩
  · exact ⟨5, by omega, by omega, rfl⟩
  · exact ⟨5, by omega, by omega, rfl⟩
  · exact ⟨5, by omega, by omega, rfl⟩
end Go.Proofs.Ytkibdolpapaflaa
