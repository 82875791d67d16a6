import Derived.Test.YtkibdolpapaflaaD3
import Derived.Deep.MidRow
namespace Go.Proofs.Ytkibdolpapaflaa
open Go.RowKit

/-- What lies outside the blocks of u stands. -/
structure Fr (u : Nat → Value) (w w' : World) : Prop where
  os : w'.os = w.os
  tape : w'.tape = w.tape
  output : w'.output = w.output
  size : w.heap.size ≤ w'.heap.size
  block : ∀ k, k < w.heap.size → (∀ i, i < 5 → blk (u i) ≠ some k) → w'.heap[k]? = w.heap[k]?

theorem Fr.of_below {u : Nat → Value} {w w' : World} (h : Below w.heap.size w w') : Fr u w w' := ⟨h.os, h.tape, h.output, h.size, fun k hk _ => h.block k hk⟩
theorem Fr.trans {u : Nat → Value} {w w' w'' : World} (h : Fr u w w') (h' : Fr u w' w'') : Fr u w w'' :=
  ⟨h'.os.trans h.os, h'.tape.trans h.tape, h'.output.trans h.output, Nat.le_trans h.size h'.size, fun k hk hn => (h'.block k (Nat.lt_of_lt_of_le hk h.size) hn).trans (h.block k hk hn)⟩
theorem Fr.setCell {u : Nat → Value} {w w' : World} (h : Fr u w w') {g j i : Nat} (hi : i < 5) (hg : blk (u i) = some g) (x : Value) : Fr u w (w'.setCell ⟨g, j, none⟩ x) :=
  have hB : Below 0 w' (w'.setCell ⟨g, j, none⟩ x) := (Below.refl 0 w').setCell (Nat.zero_le _) _
  h.trans ⟨hB.os, hB.tape, hB.output, hB.size, fun k _ hn => Below.heap_setCell _ _ _ _ (fun e => hn i hi (by rw [hg]; exact congrArg some (by simpa using e.symm)))⟩

theorem own_blk {w : World} {base e size : Nat} {v : Value} {n : Nat} {zs : List Int} (h : Own w base e size v n zs) (hn : 0 < n) :
    ∃ g cap cur, v = .slice (some ⟨g, 0, none⟩) n cap ∧ blk v = some g ∧ w.heap[g]? = some (.cells cur e (0, 0)) ∧ n ≤ cap ∧ cap ≤ maxLen ∧ cur.size = cap * size ∧ cur.toList.take (n * size) = zs.map (Value.int .i64) := by
  rcases h.2 with ⟨h0, _⟩ | ⟨g, cap, cur, rfl, h0, hb, hg, hnc, hc, hs, ht⟩
  · omega
  · refine ⟨g, cap, cur, rfl, ?_, hg, hnc, hc, hs, ht⟩
    cases cap with
    | zero => omega
    | succ c => rfl

theorem take_set_map : ∀ (l : List Value) (zs : List Int) (k j : Nat) (y : Int), j < k → l.take k = zs.map (Value.int .i64) → (l.set j (.int .i64 y)).take k = (zs.set j y).map (Value.int .i64) := by
  intro l zs k j y hj h
  rw [List.take_set, h, List.map_set]

theorem Own.set {w : World} {base e size : Nat} {v : Value} {n : Nat} {zs : List Int} (h : Own w base e size v n zs) {g : Nat} (hg : blk v = some g) {j : Nat} (hj : j < n * size) (y : Int) :
    Own (w.setCell ⟨g, j, none⟩ (.int .i64 y)) base e size v n (zs.set j y) := by
  refine ⟨by rw [List.length_set]; exact h.1, ?_⟩
  have hn : 0 < n := by rcases n with _ | n <;> simp_all
  rcases h.2 with ⟨h0, _⟩ | ⟨g', cap, cur, rfl, h0, hb, hgg, hnc, hc, hs, ht⟩
  · omega
  · have : g' = g := by
      cases cap with
      | zero => omega
      | succ c => simpa [blk] using hg
    subst this
    refine .inr ⟨g', cap, cur.setIfInBounds j (.int .i64 y), rfl, h0, hb, ?_, hnc, hc, ?_, ?_⟩
    · rw [setCell_eq_setRow w g' j cur e (0, 0) _ hgg]
      exact setRow_heap w g' cur (cur.setIfInBounds j (.int .i64 y)) e (0, 0) hgg
    · simpa using hs
    · rw [Array.toList_setIfInBounds]
      exact take_set_map _ _ _ _ _ hj ht

theorem COwn.set {w : World} {b : Nat} {u : Nat → Value} {n : Nat → Nat} {z : Nat → List Int} (h : COwn w b u n z) {i g : Nat} (hi : i < 5) (hg : blk (u i) = some g) {j : Nat} (hj : j < n i * esz i) (y : Int) :
    COwn (w.setCell ⟨g, j, none⟩ (.int .i64 y)) b u n (updZ i ((z i).set j y) z) := by
  refine ⟨fun k hk => ?_, h.apart⟩
  by_cases hki : k = i
  · subst hki
    simp only [updZ, if_true]
    exact (h.own k hk).set hg hj y
  · simp only [updZ, if_neg hki]
    refine (h.own k hk).of_block fun q hq => Below.heap_setCell _ _ _ _ fun e => ?_
    simp at e
    rcases h.apart k i hk hi hki with hh | hh
    · rw [hh] at hq; cases hq
    · rw [hg, hq, e] at hh; exact hh rfl

theorem own_frozen {w : World} {g : Nat} {cs : Array Value} {t : TypeId} (h : w.heap[g]? = some (.cells cs t (0, 0))) (k : Nat) : w.frozen? ⟨g, k, none⟩ = false := frozen_row h k

theorem set_get (zs : List Int) (j k : Nat) (y : Int) (hj : j < zs.length) : (zs.set j y)[k]?.getD 0 = if k = j then y else zs[k]?.getD 0 := by
  rw [List.getElem?_set]
  by_cases h : j = k
  · subst h; simp [hj]
  · rw [if_neg h, if_neg (fun e => h e.symm)]

/-- The marks: lists before i wholly, list i up to j. -/
def MarkedTo (n : Nat → Nat) (z : Nat → List Int) (m i j : Nat) : Prop := (∀ i', i' < i → i' < 4 → ∀ j', j' < n i' → (z i')[j']?.getD 0 = m + 10 * i') ∧ (i < 4 → ∀ j', j' < j → (z i)[j']?.getD 0 = m + 10 * i)
def TableTo (n : Nat → Nat) (z : Nat → List Int) (m j : Nat) : Prop := ∀ j', j' < j → (z 4)[j' * 2]?.getD 0 = m + 50 ∧ (z 4)[j' * 2 + 1]?.getD 0 = m

theorem MarkedTo.step {n : Nat → Nat} {z : Nat → List Int} {m i j : Nat} (h : MarkedTo n z m i j) (hi : i < 4) (hj : j < (z i).length) : MarkedTo n (updZ i ((z i).set j ((m : Int) + 10 * i)) z) m i (j + 1) := by
  refine ⟨fun i' h1 h2 j' h3 => ?_, fun _ j' h3 => ?_⟩
  · simp only [updZ, if_neg (show ¬ i' = i by omega)]; exact h.1 i' h1 h2 j' h3
  · simp only [updZ, if_true]
    rw [set_get _ _ _ _ hj]
    split
    · rfl
    · exact h.2 hi j' (by omega)

theorem MarkedTo.next {n : Nat → Nat} {z : Nat → List Int} {m i j : Nat} (h : MarkedTo n z m i j) (hj : n i ≤ j) : MarkedTo n z m (i + 1) 0 := by
  refine ⟨fun i' h1 h2 j' h3 => ?_, fun _ j' h3 => by omega⟩
  by_cases hi : i' = i
  · subst hi; exact h.2 h2 j' (by omega)
  · exact h.1 i' (by omega) h2 j' h3

theorem MarkedTo.upd4 {n : Nat → Nat} {z : Nat → List Int} {m : Nat} (h : MarkedTo n z m 4 0) (x : List Int) : MarkedTo n (updZ 4 x z) m 4 0 :=
  ⟨fun i' h1 h2 j' h3 => by simp only [updZ, if_neg (show ¬ i' = 4 by omega)]; exact h.1 i' h1 h2 j' h3, fun h1 => by omega⟩

theorem TableTo.step {n : Nat → Nat} {z : Nat → List Int} {m j : Nat} (h : TableTo n z m j) (hj : j * 2 + 1 < (z 4).length) :
    TableTo n (updZ 4 (((updZ 4 ((z 4).set (j * 2) ((m : Int) + 50)) z) 4).set (j * 2 + 1) m) (updZ 4 ((z 4).set (j * 2) ((m : Int) + 50)) z)) m (j + 1) := by
  intro j' hj'
  simp only [updZ, if_true]
  have e1 : ∀ k, (((z 4).set (j * 2) ((m : Int) + 50)).set (j * 2 + 1) (m : Int))[k]?.getD 0 = if k = j * 2 + 1 then (m : Int) else if k = j * 2 then (m : Int) + 50 else (z 4)[k]?.getD 0 := by
    intro k
    rw [set_get _ _ _ _ (by rw [List.length_set]; omega), set_get _ _ _ _ (by omega)]
  rw [e1, e1]
  by_cases he : j' = j
  · subst he
    rw [if_neg (by omega), if_pos rfl, if_pos rfl]
    exact ⟨rfl, rfl⟩
  · rw [if_neg (by omega), if_neg (by omega), if_neg (by omega), if_neg (by omega)]
    exact h j' (by omega)

theorem row4 (u : Nat → Value) (i : Nat) (h : i < 4) : (#[u 0, u 1, u 2, u 3] : Array Value)[i]? = some (u i) := by
  rcases i with _ | _ | _ | _ | i <;> first | rfl | omega
end Go.Proofs.Ytkibdolpapaflaa
