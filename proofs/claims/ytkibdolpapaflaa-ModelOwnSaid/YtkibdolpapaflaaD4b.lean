import Derived.Test.YtkibdolpapaflaaD4
namespace Go.Proofs.Ytkibdolpapaflaa
open Go.RowKit

theorem rd_frame {w0 w w' : World} {b e size : Nat} {v : Value} {n : Nat} {z0 zs : List Int} (hO : Own w0 b e size v n z0) (h : Rd w v size n zs) (hk : ∀ g, blk v = some g → w'.heap[g]? = w.heap[g]?) : Rd w' v size n zs := by
  refine ⟨h.1, ?_⟩
  rcases h.2 with h0 | ⟨bb, off, c, e, hc⟩
  · exact .inl h0
  · rcases hO.2 with ⟨h0, a, rfl⟩ | ⟨g, cap, cur, rfl, h0, _⟩
    · exact .inl ⟨h0, a, 0, rfl⟩
    · cases e
      refine .inr ⟨_, _, _, rfl, fun j z hz => ?_⟩
      rw [World.cell?_of_block (w := w) (hk bb (by cases c with
        | zero => omega
        | succ c => rfl))]
      exact hc j z hz

/-- The lists grow: each owns its place; what stood first is still to be read. -/
structure Gr (w : World) (u : Nat → Value) (n : Nat → Nat) (z : Nat → List Int) (x : Nat → Value) (c : Nat → Nat) (wr : World) : Prop where
  own : ∀ i, i < 5 → ∃ t, Own wr 0 (ety i) (esz i) (x i) (n i + c i) (z i ++ t)
  apart : ∀ i j, i < 5 → j < 5 → i ≠ j → blk (x i) = none ∨ blk (x i) ≠ blk (x j)
  old : ∀ i, i < 5 → Rd wr (u i) (esz i) (n i) (z i)
  side : ∀ i, i < 5 → blk (x i) = blk (u i) ∨ ∃ g, blk (x i) = some g ∧ w.heap.size + 2 ≤ g
  fr : Fr u w wr
  big : w.heap.size + 2 ≤ wr.heap.size

theorem Gr.step {w wr wa w' : World} {b : Nat} {u x : Nat → Value} {n c : Nat → Nat} {z z0 : Nat → List Int} (h : Gr w u n z x c wr) (hu : COwn w b u n z0) (hB : Below wr.heap.size wr wa) {i : Nat} (hi : i < 5) {v' : Value} {t : List Int}
    (ho : Own w' 0 (ety i) (esz i) v' (n i + c i + 1) (z i ++ t))
    (hc : (blk v' = blk (x i) ∧ wa.grownBy w' (blk (x i))) ∨ (blk v' = some wa.heap.size ∧ wa.grownBy w' none ∧ wa.heap.size < w'.heap.size)) :
    Gr w u n z (updV i v' x) (updN i (c i + 1) c) w' ∧ ∀ k, w.heap.size ≤ k → k < w.heap.size + 2 → w'.heap[k]? = wr.heap[k]? := by
  have hult : ∀ k, k < 5 → ∀ g, blk (u k) = some g → g < w.heap.size := fun k hk g hg => ((hu.own k hk).lt g hg).2
  have hxlt : ∀ k, k < 5 → ∀ g, blk (x k) = some g → g < wr.heap.size := fun k hk g hg => by
    obtain ⟨t, ht⟩ := h.own k hk
    exact (ht.lt g hg).2
  have keep : ∀ k, k < wr.heap.size → blk (x i) ≠ some k → w'.heap[k]? = wr.heap[k]? := by
    intro k hk hne
    rcases hc with ⟨_, hg⟩ | ⟨_, hg, _⟩
    · exact (hg.block k (Nat.lt_of_lt_of_le hk hB.size) (fun e => hne e.symm)).trans (hB.block k hk)
    · exact (hg.block k (Nat.lt_of_lt_of_le hk hB.size) (by simp)).trans (hB.block k hk)
  have hv : blk v' = blk (x i) ∨ ∃ g, blk v' = some g ∧ wr.heap.size ≤ g := by
    rcases hc with ⟨e, _⟩ | ⟨e, _⟩
    · exact .inl e
    · exact .inr ⟨_, e, hB.size⟩
  have hsz : wr.heap.size ≤ w'.heap.size := by
    rcases hc with ⟨_, hg⟩ | ⟨_, hg, _⟩ <;> exact Nat.le_trans hB.size hg.size
  have hxu : ∀ k, k < 5 → k ≠ i → ∀ g, blk (u k) = some g → blk (x i) ≠ some g := by
    intro k hk hki g hg hx
    rcases h.side i hi with e | ⟨g', e, hge⟩
    · rcases hu.apart k i hk hi hki with e' | e'
      · rw [e'] at hg; cases hg
      · exact e' (by rw [hg, ← e, hx])
    · rw [hx] at e; cases e
      have := hult k hk g hg
      omega
  refine ⟨⟨?_, ?_, ?_, ?_, ?_, Nat.le_trans h.big hsz⟩, ?_⟩
  · intro k hk
    by_cases hki : k = i
    · subst hki
      simp only [updV, updN, if_true]
      exact ⟨t, ho⟩
    · simp only [updV, updN, if_neg hki]
      obtain ⟨t', ht'⟩ := h.own k hk
      refine ⟨t', ht'.of_block fun g hg => keep g (hxlt k hk g hg) fun e => ?_⟩
      rcases h.apart k i hk hi hki with hh | hh
      · rw [hh] at hg; cases hg
      · exact hh (by rw [hg, e])
  · intro p q hp hq hpq
    by_cases hpi : p = i
    · subst hpi
      have hqi : q ≠ p := fun e => hpq e.symm
      simp only [updV, if_true, if_neg hqi]
      rcases hv with e | ⟨g, e, hge⟩
      · rw [e]; exact h.apart p q hp hq hpq
      · refine .inr fun e2 => ?_
        rw [e] at e2
        have := hxlt q hq g e2.symm
        omega
    · by_cases hqi : q = i
      · subst hqi
        simp only [updV, if_true, if_neg hpi]
        rcases hv with e | ⟨g, e, hge⟩
        · rw [e]; exact h.apart p q hp hq hpq
        · by_cases hn : blk (x p) = none
          · exact .inl hn
          · refine .inr fun e2 => ?_
            rw [e] at e2
            have := hxlt p hp g e2
            omega
      · simp only [updV, if_neg hpi, if_neg hqi]
        exact h.apart p q hp hq hpq
  · intro k hk
    by_cases hki : k = i
    · subst hki
      by_cases hx : ∀ g, blk (u k) = some g → blk (x k) ≠ some g
      · exact rd_frame (hu.own k hk) (h.old k hk) fun g hg => keep g (Nat.lt_of_lt_of_le (hult k hk g hg) (by have := h.big; omega)) (hx g hg)
      · obtain ⟨g, hg, hxg⟩ : ∃ g, blk (u k) = some g ∧ blk (x k) = some g := by
          apply Classical.byContradiction
          intro hno
          exact hx fun g hg hxg => hno ⟨g, hg, hxg⟩
        rcases hc with ⟨e, hgr⟩ | ⟨e, hgr, _⟩
        · refine ⟨(h.old k hk).1, ?_⟩
          rcases (hu.own k hk).2 with ⟨h0, a, ea⟩ | ⟨g', cap, cur, ea, h0, _⟩
          · exact .inl ⟨h0, a, 0, ea⟩
          · have hg' : g' = g := by
              rw [ea] at hg
              cases cap with
              | zero => omega
              | succ cap => simpa [blk] using hg
            subst hg'
            refine .inr ⟨g', 0, cap, ea, fun j y hy => ?_⟩
            rcases ho.rd.2 with ⟨h1, _⟩ | ⟨b', off, c', ev, hcell⟩
            · omega
            · rcases ho.2 with ⟨h1, _⟩ | ⟨g2, cap2, cur2, ev2, h2, _⟩
              · omega
              · rw [ev2] at ev
                cases ev
                have hb2 : b' = g' := by
                  have e3 : blk v' = some g' := e.trans hxg
                  rw [ev2] at e3
                  cases c' with
                  | zero => omega
                  | succ c' => simpa [blk] using e3
                subst hb2
                have hj : j < (z k).length := (List.getElem?_eq_some_iff.1 hy).1
                exact hcell j y (by rw [List.getElem?_append_left hj]; exact hy)
        · exact rd_frame (hu.own k hk) (h.old k hk) fun g' hg' => (hgr.block g' (Nat.lt_of_lt_of_le (Nat.lt_of_lt_of_le (hult k hk g' hg') (by have := h.big; omega)) hB.size) (by simp)).trans (hB.block g' (Nat.lt_of_lt_of_le (hult k hk g' hg') (by have := h.big; omega)))
    · exact rd_frame (hu.own k hk) (h.old k hk) fun g hg => keep g (Nat.lt_of_lt_of_le (hult k hk g hg) (by have := h.big; omega)) (hxu k hk hki g hg)
  · intro k hk
    by_cases hki : k = i
    · subst hki
      simp only [updV, if_true]
      rcases hv with e | ⟨g, e, hge⟩
      · rw [e]; exact h.side k hk
      · exact .inr ⟨g, e, by have := h.big; omega⟩
    · simp only [updV, if_neg hki]
      exact h.side k hk
  · have hos : w'.os = wa.os ∧ w'.tape = wa.tape ∧ w'.output = wa.output := by rcases hc with ⟨_, hg⟩ | ⟨_, hg, _⟩ <;> exact ⟨hg.os, hg.tape, hg.output⟩
    refine ⟨hos.1.trans (hB.os.trans h.fr.os), hos.2.1.trans (hB.tape.trans h.fr.tape), hos.2.2.trans (hB.output.trans h.fr.output), Nat.le_trans h.fr.size hsz, fun k hk hn => ?_⟩
    refine (keep k (by have := h.big; omega) fun e => ?_).trans (h.fr.block k hk hn)
    rcases h.side i hi with e' | ⟨g, e', hge⟩
    · exact hn i hi (by rw [← e', e])
    · rw [e] at e'; cases e'; omega
  · intro k hk1 hk2
    refine keep k (by have := h.big; omega) fun e => ?_
    rcases h.side i hi with e' | ⟨g, e', hge⟩
    · have := hult i hi k (by rw [← e', e]); omega
    · rw [e] at e'; cases e'; omega

theorem Gr.other {w wr w' : World} {b : Nat} {u x : Nat → Value} {n c : Nat → Nat} {z z0 : Nat → List Int} (h : Gr w u n z x c wr) (hu : COwn w b u n z0) (k : Nat) (v : Value) (e : w' = wr.setCell ⟨w.heap.size + 1, k, none⟩ v) : Gr w u n z x c w' := by
  have hB : Below 0 wr w' := by rw [e]; exact (Below.refl 0 wr).setCell (Nat.zero_le _) _
  have hk : ∀ g, g ≠ w.heap.size + 1 → w'.heap[g]? = wr.heap[g]? := fun g hg => by rw [e]; exact Below.heap_setCell _ _ _ _ (by simpa using hg)
  have hult : ∀ k, k < 5 → ∀ g, blk (u k) = some g → g < w.heap.size := fun k hk g hg => ((hu.own k hk).lt g hg).2
  refine ⟨fun i hi => ?_, h.apart, fun i hi => rd_frame (hu.own i hi) (h.old i hi) fun g hg => hk g (by have := hult i hi g hg; omega), h.side, ⟨hB.os.trans h.fr.os, hB.tape.trans h.fr.tape, hB.output.trans h.fr.output, Nat.le_trans h.fr.size hB.size, fun k hk1 hn => (hk k (by omega)).trans (h.fr.block k hk1 hn)⟩, Nat.le_trans h.big hB.size⟩
  obtain ⟨t, ht⟩ := h.own i hi
  refine ⟨t, ht.of_block fun g hg => hk g ?_⟩
  rcases h.side i hi with e' | ⟨g', e', hge⟩
  · have := hult i hi g (by rw [← e', hg]); omega
  · rw [hg] at e'; cases e'; omega

theorem lists_set {wr : World} {L k : Nat} {x : Nat → Value} {v : Value} (hk : k < 4) (h : wr.heap[L]? = some (.cells #[x 0, x 1, x 2, x 3] 22 (0, 0))) :
    (wr.setCell ⟨L, k, none⟩ v).heap[L]? = some (.cells #[updV k v x 0, updV k v x 1, updV k v x 2, updV k v x 3] 22 (0, 0)) := by
  rw [setCell_eq_setRow wr L k _ _ _ v h]
  refine (setRow_heap wr L _ _ _ _ h).trans ?_
  rcases k with _ | _ | _ | _ | k <;> first | rfl | omega
end Go.Proofs.Ytkibdolpapaflaa
