import Derived.Test.YtkibdolpapaflaaLib
namespace Go.Proofs.Ytkibdolpapaflaa
open Go.RowKit

def esz (i : Nat) : Nat := if i = 4 then 2 else 1
def ety (i : Nat) : Nat := if i = 4 then 67 else 3
structure COwn (w : World) (base : Nat) (v : Nat → Value) (n : Nat → Nat) (z : Nat → List Int) : Prop where
  own : ∀ i, i < 5 → Own w base (ety i) (esz i) (v i) (n i) (z i)
  apart : ∀ i j, i < 5 → j < 5 → i ≠ j → blk (v i) = none ∨ blk (v i) ≠ blk (v j)

theorem Try.info3 : (Try.prog.info? 3).map (fun i => (i.zero, i.size, i.bytes)) = some (some (.int .i64 0), 1, 8) := by kernel_rfl
theorem Try.info67 : (Try.prog.info? 67).map (fun i => (i.zero, i.size, i.bytes)) = some (some (.agg #[.int .i64 0, .int .i64 0]), 2, 16) := by kernel_rfl
theorem Try.underlying22 : Try.prog.underlying 22 = some (.slice 3) := by kernel_rfl
theorem Try.underlying23 : Try.prog.underlying 23 = some (.slice 67) := by kernel_rfl


def phiC (B : Nat) (v : Nat → Value) (n : Nat → Nat) (z : Nat → List Int) (i : Nat) (x : Value) (ws : World) : Prop :=
  if i < 20 then
    if i % 4 = 0 then Own ws (B+2) (ety (i/4)) (esz (i/4)) x 0 [] ∧ x ≠ .slice none 0 0 ∧ blk x = none
    else if i % 4 = 1 then x = .pointer (some ⟨B, i/4, none⟩)
    else if i % 4 = 2 then x = v (i/4)
    else Own ws (B+2) (ety (i/4)) (esz (i/4)) x (n (i/4)) (z (i/4)) ∧ x ≠ .slice none 0 0
  else ∃ u : Nat → Value, COwn ws (B+2) u n z ∧ (∀ i, i < 5 → u i ≠ .slice none 0 0) ∧
    if i = 21 then ws.heap[B+1]? = some (.cells #[u 0, u 1, u 2, u 3, u 4] 25 (0, 0)) else x = .agg #[u 0, u 1, u 2, u 3, u 4]

theorem COwn.of_block {w w' : World} {base : Nat} {v : Nat → Value} {n : Nat → Nat} {z : Nat → List Int} (h : COwn w base v n z) (hb : ∀ k, base ≤ k → k < w.heap.size → w'.heap[k]? = w.heap[k]?) : COwn w' base v n z :=
  ⟨fun i hi => (h.own i hi).of_block fun k hk => hb k ((h.own i hi).lt k hk).1 ((h.own i hi).lt k hk).2, h.apart⟩

theorem phiC_mono {B : Nat} {v : Nat → Value} {n : Nat → Nat} {z : Nat → List Int} {i : Nat} {x : Value} {w w' : World} (h : phiC B v n z i x w) (hB : i ≠ 21 ∨ w'.heap[B+1]? = w.heap[B+1]?) (hb : ∀ k, B + 2 ≤ k → k < w.heap.size → w'.heap[k]? = w.heap[k]?) : phiC B v n z i x w' := by
  unfold phiC at h ⊢
  have ho : ∀ {e s m zs}, Own w (B+2) e s x m zs → Own w' (B+2) e s x m zs := fun h => h.of_block fun k hk => hb k (h.lt k hk).1 (h.lt k hk).2
  split
  · rename_i hi
    rw [if_pos hi] at h
    split
    · rename_i h0
      rw [if_pos h0] at h
      exact ⟨ho h.1, h.2⟩
    · rename_i h0
      rw [if_neg h0] at h
      split
      · rename_i h1; rw [if_pos h1] at h; exact h
      · rename_i h1
        rw [if_neg h1] at h
        split
        · rename_i h2; rw [if_pos h2] at h; exact h
        · rename_i h2; rw [if_neg h2] at h; exact ⟨ho h.1, h.2⟩
  · rename_i hi
    rw [if_neg hi] at h
    obtain ⟨u, hc, hn, hx⟩ := h
    refine ⟨u, hc.of_block hb, hn, ?_⟩
    split
    · rename_i h0; rw [if_pos h0] at hx; rw [hB.resolve_left (by omega)]; exact hx
    · rename_i h0; rw [if_neg h0] at hx; exact hx

set_option maxRecDepth 20000 in
set_option maxHeartbeats 400000 in
theorem copied_any (w : World) (v : Nat → Value) (n : Nat → Nat) (z : Nat → List Int) (hr : ∀ i, i < 5 → Rd w (v i) (esz i) (n i) (z i)) (hb : ∀ i, i < 5 → n i * (8 * esz i) ≤ 140737488355328) :
    Calls Try.prog 20 #[.agg #[v 0, v 1, v 2, v 3, v 4]] w fun e w' => ∃ u : Nat → Value, e = .returned (.agg #[u 0, u 1, u 2, u 3, u 4]) ∧ COwn w' w.heap.size u n z ∧ (∀ i, i < 5 → u i ≠ .slice none 0 0) ∧ Below w.heap.size w w' := by
  let Sx : World → Prop := fun ws => Below w.heap.size w ws ∧ ws.heap[w.heap.size]? = some (.cells #[v 0, v 1, v 2, v 3, v 4] 25 (0, 0)) ∧ ∃ cs, ws.heap[w.heap.size + 1]? = some (.cells cs 25 (0, 0)) ∧ cs.size = 5
  have hcell0 : ∀ ws, Sx ws → ∀ (k : Nat) (x : Value), (#[v 0, v 1, v 2, v 3, v 4] : Array Value)[k]? = some x → ws.cell? ⟨w.heap.size, k, none⟩ = some x := by
    intro ws hS k x hx
    rw [cell_of_row ws _ k _ _ _ hS.2.1]; exact hx
  have hS1 : ∀ ws, Sx ws → w.heap.size + 1 < ws.heap.size := by
    intro ws hS
    obtain ⟨cs, hcs, _⟩ := hS.2.2
    exact (Array.getElem?_eq_some_iff.1 hcs).1
  have hSg : ∀ ws, Sx ws → ∀ w', ws.grownBy w' none → Sx w' := by
    intro ws hS w' hg
    have hsz1 := hS1 ws hS
    refine ⟨hS.1.grown hg (by omega) (by simp), ?_, ?_⟩
    · rw [hg.block _ (by omega) (by simp)]; exact hS.2.1
    · rw [hg.block _ (by omega) (by simp)]; exact hS.2.2
  obtain ⟨i3, hi3, hz3, hs3, hby3⟩ := info_parts Try.info3
  obtain ⟨i67, hi67, hz67, hs67, hby67⟩ := info_parts Try.info67
  go_enter Try.func20, Try.ntmps20
  go_wp2
  refine wp_region_dep rfl Sx
    (phiC w.heap.size v n z) (fun i => decide (i < 20) && decide (i % 4 = 3)) (by kernel_rfl) (by kernel_rfl) (by decide +kernel) (by rfl) ?_ ?_ ?_
  · refine ⟨?_, ?_, ?_⟩
    · exact (((Below.refl _ _).alloc (Nat.le_refl _) _).alloc (by simp) _).drew
    · show ((w.alloc _).alloc _).heap[_]? = _
      rw [Below.heap_alloc _ _ _ (by simp)]
      exact heap_alloc_new w _
    · refine ⟨#[.slice none 0 0, .slice none 0 0, .slice none 0 0, .slice none 0 0, .slice none 0 0], ?_, ?_⟩
      · show ((w.alloc _).alloc _).heap[_]? = _
        rw [show w.heap.size + 1 = (w.alloc (.cells #[v 0, v 1, v 2, v 3, v 4] 25)).heap.size from by simp]
        exact heap_alloc_new _ _
      · rfl
  · refine ⟨?_, ?_, ?_, ?_, ?_, ?_, ?_, ?_, ?_, ?_, ?_, ?_, ?_, ?_, ?_, ?_, ?_, ?_, ?_, ?_, ?_, ?_, trivial⟩
    · intro a ws K hS _ hk hdep hap hK
      have hsz1 := hS1 ws hS
      have hSa := fun o => hSg ws hS _ (World.grownBy_alloc ws o none)
      clear hap hdep hk
      refine wp_value (v := .slice (some ⟨ws.heap.size, 0, none⟩) 0 0) (w' := ws.alloc (.cells #[] 3)) (by simp [execOp, go_sem]) ?_
      refine hK _ _ (hSa _) ?_ (fun j u _ h => phiC_mono h (.inr (Below.heap_alloc _ _ _ hsz1)) (fun k _ hk => Below.heap_alloc _ _ _ hk)) (by simp)
      simp only [phiC, Nat.reduceLT, if_true, Nat.reduceMod, Nat.reduceDiv]
      exact ⟨Own.empty _ _ _ _ _, by simp, rfl⟩
    · intro a ws K hS _ hk hdep hap hK
      have h1 := hk 1 (by kernel_rfl)
      clear hap hdep hk
      have h1' : a.tmps[1]?.getD undef = .pointer (some ⟨w.heap.size, 0, none⟩) := by simpa using h1
      clear h1
      exact wp_value (v := .pointer (some ⟨w.heap.size, 0, none⟩)) (w' := ws) (by simp [execOp, go_sem, h1']) (hK _ _ hS (by simp [phiC]) (fun j u _ h => h) (by simp))
    · intro a ws K hS _ hk hdep hap hK
      have hcell := hcell0 ws hS
      obtain ⟨x, hx, hxe⟩ := hdep ⟨1, .data⟩ (by simp) rfl _ rfl
      have hx' : a.tmps[4]?.getD undef = x := by simpa using hx 4 rfl
      simp [phiC] at hxe
      subst hxe
      clear hap hdep hk hx
      have hc := hcell 0 (v 0) rfl
      exact wp_value (v := v 0) (w' := ws) (by simp [execOp, go_sem, hx', hc]) (hK _ _ hS (by simp [phiC]) (fun j u _ h => h) (by simp))
    · intro a ws K hS _ hk hdep hap hK
      obtain ⟨x, hx, hxe⟩ := hdep ⟨0, .data⟩ (by simp) rfl _ rfl
      obtain ⟨y, hy, hye⟩ := hdep ⟨2, .data⟩ (by simp) rfl _ rfl
      have hx' : a.eval (.tmp 3) = x := hx 3 rfl
      have hy' : a.eval (.tmp 5) = y := hy 5 rfl
      simp only [phiC, Nat.reduceLT, if_true, Nat.reduceMod, Nat.reduceDiv, if_false, Nat.reduceEqDiff] at hxe hye
      subst hye
      clear hap hdep hk hx hy
      have hsz1 := hS1 ws hS
      have hbk := hb 0 (by omega)
      refine wp_app (.tmp 3) (.tmp 5) 22 22 rfl (w.heap.size + 2) 3 3 i3 (.int .i64 0) 1 8 Try.underlying22 Try.underlying22 hi3 hz3 hs3 hby3 rfl x 0 [] hx' hxe.1 _ (n 0) (z 0) hy' ((hr 0 (by omega)).below hS.1) (by unfold maxLen; simp [esz] at hbk; omega) (by simp [esz] at hbk; omega) (by omega) ?_
      intro v' w' hO hg hne
      rw [hxe.2.2] at hg
      have hgn : ws.grownBy w' none := by rcases hg with ⟨_, h⟩ | ⟨_, h, _⟩ <;> exact h
      refine hK _ _ (hSg ws hS _ hgn) ?_ (fun j u _ h => phiC_mono h (.inr (hgn.block _ hsz1 (by simp))) (fun k _ hk => hgn.block k hk (by simp))) ?_
      · simp only [phiC, Nat.reduceAdd, Nat.reduceLT, if_true, Nat.reduceMod, Nat.reduceDiv, if_false, Nat.reduceEqDiff]
        exact ⟨by simpa [ety, esz] using hO, hne hxe.2.1⟩
      · intro _ j u hj hs hφ
        rcases hg with ⟨h, _⟩ | ⟨h, _, _⟩
        · exact .inl h
        · right
          rw [h]
          simp only [Bool.and_eq_true, decide_eq_true_eq] at hs
          simp only [phiC, if_pos hs.1, hs.2, Nat.reduceEqDiff, if_false] at hφ
          intro e
          have := (hφ.1.lt _ e.symm).2
          omega
    · intro a ws K hS _ hk hdep hap hK
      have hsz1 := hS1 ws hS
      have hSa := fun o => hSg ws hS _ (World.grownBy_alloc ws o none)
      clear hap hdep hk
      refine wp_value (v := .slice (some ⟨ws.heap.size, 0, none⟩) 0 0) (w' := ws.alloc (.cells #[] 3)) (by simp [execOp, go_sem]) ?_
      refine hK _ _ (hSa _) ?_ (fun j u _ h => phiC_mono h (.inr (Below.heap_alloc _ _ _ hsz1)) (fun k _ hk => Below.heap_alloc _ _ _ hk)) (by simp)
      simp only [phiC, Nat.reduceLT, if_true, Nat.reduceMod, Nat.reduceDiv]
      exact ⟨Own.empty _ _ _ _ _, by simp, rfl⟩
    · intro a ws K hS _ hk hdep hap hK
      have h1 := hk 1 (by kernel_rfl)
      clear hap hdep hk
      have h1' : a.tmps[1]?.getD undef = .pointer (some ⟨w.heap.size, 0, none⟩) := by simpa using h1
      clear h1
      exact wp_value (v := .pointer (some ⟨w.heap.size, 1, none⟩)) (w' := ws) (by simp [execOp, go_sem, h1']) (hK _ _ hS (by simp [phiC]) (fun j u _ h => h) (by simp))
    · intro a ws K hS _ hk hdep hap hK
      have hcell := hcell0 ws hS
      obtain ⟨x, hx, hxe⟩ := hdep ⟨5, .data⟩ (by simp) rfl _ rfl
      have hx' : a.tmps[8]?.getD undef = x := by simpa using hx 8 rfl
      simp [phiC] at hxe
      subst hxe
      clear hap hdep hk hx
      have hc := hcell 1 (v 1) rfl
      exact wp_value (v := v 1) (w' := ws) (by simp [execOp, go_sem, hx', hc]) (hK _ _ hS (by simp [phiC]) (fun j u _ h => h) (by simp))
    · intro a ws K hS _ hk hdep hap hK
      obtain ⟨x, hx, hxe⟩ := hdep ⟨4, .data⟩ (by simp) rfl _ rfl
      obtain ⟨y, hy, hye⟩ := hdep ⟨6, .data⟩ (by simp) rfl _ rfl
      have hx' : a.eval (.tmp 7) = x := hx 7 rfl
      have hy' : a.eval (.tmp 9) = y := hy 9 rfl
      simp only [phiC, Nat.reduceLT, if_true, Nat.reduceMod, Nat.reduceDiv, if_false, Nat.reduceEqDiff] at hxe hye
      subst hye
      clear hap hdep hk hx hy
      have hsz1 := hS1 ws hS
      have hbk := hb 1 (by omega)
      refine wp_app (.tmp 7) (.tmp 9) 22 22 rfl (w.heap.size + 2) 3 3 i3 (.int .i64 0) 1 8 Try.underlying22 Try.underlying22 hi3 hz3 hs3 hby3 rfl x 0 [] hx' hxe.1 _ (n 1) (z 1) hy' ((hr 1 (by omega)).below hS.1) (by unfold maxLen; simp [esz] at hbk; omega) (by simp [esz] at hbk; omega) (by omega) ?_
      intro v' w' hO hg hne
      rw [hxe.2.2] at hg
      have hgn : ws.grownBy w' none := by rcases hg with ⟨_, h⟩ | ⟨_, h, _⟩ <;> exact h
      refine hK _ _ (hSg ws hS _ hgn) ?_ (fun j u _ h => phiC_mono h (.inr (hgn.block _ hsz1 (by simp))) (fun k _ hk => hgn.block k hk (by simp))) ?_
      · simp only [phiC, Nat.reduceAdd, Nat.reduceLT, if_true, Nat.reduceMod, Nat.reduceDiv, if_false, Nat.reduceEqDiff]
        exact ⟨by simpa [ety, esz] using hO, hne hxe.2.1⟩
      · intro _ j u hj hs hφ
        rcases hg with ⟨h, _⟩ | ⟨h, _, _⟩
        · exact .inl h
        · right
          rw [h]
          simp only [Bool.and_eq_true, decide_eq_true_eq] at hs
          simp only [phiC, if_pos hs.1, hs.2, Nat.reduceEqDiff, if_false] at hφ
          intro e
          have := (hφ.1.lt _ e.symm).2
          omega
    · intro a ws K hS _ hk hdep hap hK
      have hsz1 := hS1 ws hS
      have hSa := fun o => hSg ws hS _ (World.grownBy_alloc ws o none)
      clear hap hdep hk
      refine wp_value (v := .slice (some ⟨ws.heap.size, 0, none⟩) 0 0) (w' := ws.alloc (.cells #[] 3)) (by simp [execOp, go_sem]) ?_
      refine hK _ _ (hSa _) ?_ (fun j u _ h => phiC_mono h (.inr (Below.heap_alloc _ _ _ hsz1)) (fun k _ hk => Below.heap_alloc _ _ _ hk)) (by simp)
      simp only [phiC, Nat.reduceLT, if_true, Nat.reduceMod, Nat.reduceDiv]
      exact ⟨Own.empty _ _ _ _ _, by simp, rfl⟩
    · intro a ws K hS _ hk hdep hap hK
      have h1 := hk 1 (by kernel_rfl)
      clear hap hdep hk
      have h1' : a.tmps[1]?.getD undef = .pointer (some ⟨w.heap.size, 0, none⟩) := by simpa using h1
      clear h1
      exact wp_value (v := .pointer (some ⟨w.heap.size, 2, none⟩)) (w' := ws) (by simp [execOp, go_sem, h1']) (hK _ _ hS (by simp [phiC]) (fun j u _ h => h) (by simp))
    · intro a ws K hS _ hk hdep hap hK
      have hcell := hcell0 ws hS
      obtain ⟨x, hx, hxe⟩ := hdep ⟨9, .data⟩ (by simp) rfl _ rfl
      have hx' : a.tmps[12]?.getD undef = x := by simpa using hx 12 rfl
      simp [phiC] at hxe
      subst hxe
      clear hap hdep hk hx
      have hc := hcell 2 (v 2) rfl
      exact wp_value (v := v 2) (w' := ws) (by simp [execOp, go_sem, hx', hc]) (hK _ _ hS (by simp [phiC]) (fun j u _ h => h) (by simp))
    · intro a ws K hS _ hk hdep hap hK
      obtain ⟨x, hx, hxe⟩ := hdep ⟨8, .data⟩ (by simp) rfl _ rfl
      obtain ⟨y, hy, hye⟩ := hdep ⟨10, .data⟩ (by simp) rfl _ rfl
      have hx' : a.eval (.tmp 11) = x := hx 11 rfl
      have hy' : a.eval (.tmp 13) = y := hy 13 rfl
      simp only [phiC, Nat.reduceLT, if_true, Nat.reduceMod, Nat.reduceDiv, if_false, Nat.reduceEqDiff] at hxe hye
      subst hye
      clear hap hdep hk hx hy
      have hsz1 := hS1 ws hS
      have hbk := hb 2 (by omega)
      refine wp_app (.tmp 11) (.tmp 13) 22 22 rfl (w.heap.size + 2) 3 3 i3 (.int .i64 0) 1 8 Try.underlying22 Try.underlying22 hi3 hz3 hs3 hby3 rfl x 0 [] hx' hxe.1 _ (n 2) (z 2) hy' ((hr 2 (by omega)).below hS.1) (by unfold maxLen; simp [esz] at hbk; omega) (by simp [esz] at hbk; omega) (by omega) ?_
      intro v' w' hO hg hne
      rw [hxe.2.2] at hg
      have hgn : ws.grownBy w' none := by rcases hg with ⟨_, h⟩ | ⟨_, h, _⟩ <;> exact h
      refine hK _ _ (hSg ws hS _ hgn) ?_ (fun j u _ h => phiC_mono h (.inr (hgn.block _ hsz1 (by simp))) (fun k _ hk => hgn.block k hk (by simp))) ?_
      · simp only [phiC, Nat.reduceAdd, Nat.reduceLT, if_true, Nat.reduceMod, Nat.reduceDiv, if_false, Nat.reduceEqDiff]
        exact ⟨by simpa [ety, esz] using hO, hne hxe.2.1⟩
      · intro _ j u hj hs hφ
        rcases hg with ⟨h, _⟩ | ⟨h, _, _⟩
        · exact .inl h
        · right
          rw [h]
          simp only [Bool.and_eq_true, decide_eq_true_eq] at hs
          simp only [phiC, if_pos hs.1, hs.2, Nat.reduceEqDiff, if_false] at hφ
          intro e
          have := (hφ.1.lt _ e.symm).2
          omega
    · intro a ws K hS _ hk hdep hap hK
      have hsz1 := hS1 ws hS
      have hSa := fun o => hSg ws hS _ (World.grownBy_alloc ws o none)
      clear hap hdep hk
      refine wp_value (v := .slice (some ⟨ws.heap.size, 0, none⟩) 0 0) (w' := ws.alloc (.cells #[] 3)) (by simp [execOp, go_sem]) ?_
      refine hK _ _ (hSa _) ?_ (fun j u _ h => phiC_mono h (.inr (Below.heap_alloc _ _ _ hsz1)) (fun k _ hk => Below.heap_alloc _ _ _ hk)) (by simp)
      simp only [phiC, Nat.reduceLT, if_true, Nat.reduceMod, Nat.reduceDiv]
      exact ⟨Own.empty _ _ _ _ _, by simp, rfl⟩
    · intro a ws K hS _ hk hdep hap hK
      have h1 := hk 1 (by kernel_rfl)
      clear hap hdep hk
      have h1' : a.tmps[1]?.getD undef = .pointer (some ⟨w.heap.size, 0, none⟩) := by simpa using h1
      clear h1
      exact wp_value (v := .pointer (some ⟨w.heap.size, 3, none⟩)) (w' := ws) (by simp [execOp, go_sem, h1']) (hK _ _ hS (by simp [phiC]) (fun j u _ h => h) (by simp))
    · intro a ws K hS _ hk hdep hap hK
      have hcell := hcell0 ws hS
      obtain ⟨x, hx, hxe⟩ := hdep ⟨13, .data⟩ (by simp) rfl _ rfl
      have hx' : a.tmps[16]?.getD undef = x := by simpa using hx 16 rfl
      simp [phiC] at hxe
      subst hxe
      clear hap hdep hk hx
      have hc := hcell 3 (v 3) rfl
      exact wp_value (v := v 3) (w' := ws) (by simp [execOp, go_sem, hx', hc]) (hK _ _ hS (by simp [phiC]) (fun j u _ h => h) (by simp))
    · intro a ws K hS _ hk hdep hap hK
      obtain ⟨x, hx, hxe⟩ := hdep ⟨12, .data⟩ (by simp) rfl _ rfl
      obtain ⟨y, hy, hye⟩ := hdep ⟨14, .data⟩ (by simp) rfl _ rfl
      have hx' : a.eval (.tmp 15) = x := hx 15 rfl
      have hy' : a.eval (.tmp 17) = y := hy 17 rfl
      simp only [phiC, Nat.reduceLT, if_true, Nat.reduceMod, Nat.reduceDiv, if_false, Nat.reduceEqDiff] at hxe hye
      subst hye
      clear hap hdep hk hx hy
      have hsz1 := hS1 ws hS
      have hbk := hb 3 (by omega)
      refine wp_app (.tmp 15) (.tmp 17) 22 22 rfl (w.heap.size + 2) 3 3 i3 (.int .i64 0) 1 8 Try.underlying22 Try.underlying22 hi3 hz3 hs3 hby3 rfl x 0 [] hx' hxe.1 _ (n 3) (z 3) hy' ((hr 3 (by omega)).below hS.1) (by unfold maxLen; simp [esz] at hbk; omega) (by simp [esz] at hbk; omega) (by omega) ?_
      intro v' w' hO hg hne
      rw [hxe.2.2] at hg
      have hgn : ws.grownBy w' none := by rcases hg with ⟨_, h⟩ | ⟨_, h, _⟩ <;> exact h
      refine hK _ _ (hSg ws hS _ hgn) ?_ (fun j u _ h => phiC_mono h (.inr (hgn.block _ hsz1 (by simp))) (fun k _ hk => hgn.block k hk (by simp))) ?_
      · simp only [phiC, Nat.reduceAdd, Nat.reduceLT, if_true, Nat.reduceMod, Nat.reduceDiv, if_false, Nat.reduceEqDiff]
        exact ⟨by simpa [ety, esz] using hO, hne hxe.2.1⟩
      · intro _ j u hj hs hφ
        rcases hg with ⟨h, _⟩ | ⟨h, _, _⟩
        · exact .inl h
        · right
          rw [h]
          simp only [Bool.and_eq_true, decide_eq_true_eq] at hs
          simp only [phiC, if_pos hs.1, hs.2, Nat.reduceEqDiff, if_false] at hφ
          intro e
          have := (hφ.1.lt _ e.symm).2
          omega
    · intro a ws K hS _ hk hdep hap hK
      have hsz1 := hS1 ws hS
      have hSa := fun o => hSg ws hS _ (World.grownBy_alloc ws o none)
      clear hap hdep hk
      refine wp_value (v := .slice (some ⟨ws.heap.size, 0, none⟩) 0 0) (w' := ws.alloc (.cells #[] 67)) (by simp [execOp, go_sem]) ?_
      refine hK _ _ (hSa _) ?_ (fun j u _ h => phiC_mono h (.inr (Below.heap_alloc _ _ _ hsz1)) (fun k _ hk => Below.heap_alloc _ _ _ hk)) (by simp)
      simp only [phiC, Nat.reduceLT, if_true, Nat.reduceMod, Nat.reduceDiv]
      exact ⟨Own.empty _ _ _ _ _, by simp, rfl⟩
    · intro a ws K hS _ hk hdep hap hK
      have h1 := hk 1 (by kernel_rfl)
      clear hap hdep hk
      have h1' : a.tmps[1]?.getD undef = .pointer (some ⟨w.heap.size, 0, none⟩) := by simpa using h1
      clear h1
      exact wp_value (v := .pointer (some ⟨w.heap.size, 4, none⟩)) (w' := ws) (by simp [execOp, go_sem, h1']) (hK _ _ hS (by simp [phiC]) (fun j u _ h => h) (by simp))
    · intro a ws K hS _ hk hdep hap hK
      have hcell := hcell0 ws hS
      obtain ⟨x, hx, hxe⟩ := hdep ⟨17, .data⟩ (by simp) rfl _ rfl
      have hx' : a.tmps[20]?.getD undef = x := by simpa using hx 20 rfl
      simp [phiC] at hxe
      subst hxe
      clear hap hdep hk hx
      have hc := hcell 4 (v 4) rfl
      exact wp_value (v := v 4) (w' := ws) (by simp [execOp, go_sem, hx', hc]) (hK _ _ hS (by simp [phiC]) (fun j u _ h => h) (by simp))
    · intro a ws K hS _ hk hdep hap hK
      obtain ⟨x, hx, hxe⟩ := hdep ⟨16, .data⟩ (by simp) rfl _ rfl
      obtain ⟨y, hy, hye⟩ := hdep ⟨18, .data⟩ (by simp) rfl _ rfl
      have hx' : a.eval (.tmp 19) = x := hx 19 rfl
      have hy' : a.eval (.tmp 21) = y := hy 21 rfl
      simp only [phiC, Nat.reduceLT, if_true, Nat.reduceMod, Nat.reduceDiv, if_false, Nat.reduceEqDiff] at hxe hye
      subst hye
      clear hap hdep hk hx hy
      have hsz1 := hS1 ws hS
      have hbk := hb 4 (by omega)
      refine wp_app (.tmp 19) (.tmp 21) 23 23 rfl (w.heap.size + 2) 67 67 i67 (.agg #[.int .i64 0, .int .i64 0]) 2 16 Try.underlying23 Try.underlying23 hi67 hz67 hs67 hby67 rfl x 0 [] hx' hxe.1 _ (n 4) (z 4) hy' ((hr 4 (by omega)).below hS.1) (by unfold maxLen; simp [esz] at hbk; omega) (by simp [esz] at hbk; omega) (by omega) ?_
      intro v' w' hO hg hne
      rw [hxe.2.2] at hg
      have hgn : ws.grownBy w' none := by rcases hg with ⟨_, h⟩ | ⟨_, h, _⟩ <;> exact h
      refine hK _ _ (hSg ws hS _ hgn) ?_ (fun j u _ h => phiC_mono h (.inr (hgn.block _ hsz1 (by simp))) (fun k _ hk => hgn.block k hk (by simp))) ?_
      · simp only [phiC, Nat.reduceAdd, Nat.reduceLT, if_true, Nat.reduceMod, Nat.reduceDiv, if_false, Nat.reduceEqDiff]
        exact ⟨by simpa [ety, esz] using hO, hne hxe.2.1⟩
      · intro _ j u hj hs hφ
        rcases hg with ⟨h, _⟩ | ⟨h, _, _⟩
        · exact .inl h
        · right
          rw [h]
          simp only [Bool.and_eq_true, decide_eq_true_eq] at hs
          simp only [phiC, if_pos hs.1, hs.2, Nat.reduceEqDiff, if_false] at hφ
          intro e
          have := (hφ.1.lt _ e.symm).2
          omega
    · intro a ws K hS _ hk hdep hap hK
      have hne5 : ∀ (x : Value) (k : Nat), k < 5 → phiC w.heap.size v n z (4 * k + 3) x ws → Own ws (w.heap.size + 2) (ety k) (esz k) x (n k) (z k) ∧ x ≠ .slice none 0 0 := by
        intro x k hk h
        unfold phiC at h
        rw [if_pos (by omega), if_neg (by omega), if_neg (by omega), if_neg (by omega), show (4 * k + 3) / 4 = k from by omega] at h
        exact h
      obtain ⟨x0, hx0, hxe0⟩ := hdep ⟨3, .data⟩ (by simp) rfl _ rfl
      replace hx0 : a.tmps[6]?.getD undef = x0 := by simpa using hx0 6 rfl
      have ho0 := hne5 x0 0 (by omega) hxe0
      obtain ⟨x1, hx1, hxe1⟩ := hdep ⟨7, .data⟩ (by simp) rfl _ rfl
      replace hx1 : a.tmps[10]?.getD undef = x1 := by simpa using hx1 10 rfl
      have ho1 := hne5 x1 1 (by omega) hxe1
      obtain ⟨x2, hx2, hxe2⟩ := hdep ⟨11, .data⟩ (by simp) rfl _ rfl
      replace hx2 : a.tmps[14]?.getD undef = x2 := by simpa using hx2 14 rfl
      have ho2 := hne5 x2 2 (by omega) hxe2
      obtain ⟨x3, hx3, hxe3⟩ := hdep ⟨15, .data⟩ (by simp) rfl _ rfl
      replace hx3 : a.tmps[18]?.getD undef = x3 := by simpa using hx3 18 rfl
      have ho3 := hne5 x3 3 (by omega) hxe3
      obtain ⟨x4, hx4, hxe4⟩ := hdep ⟨19, .data⟩ (by simp) rfl _ rfl
      replace hx4 : a.tmps[22]?.getD undef = x4 := by simpa using hx4 22 rfl
      have ho4 := hne5 x4 4 (by omega) hxe4
      have ap01 : blk x0 = none ∨ blk x0 ≠ blk x1 := by
        have := hap ⟨3, .data⟩ (by simp) ⟨7, .data⟩ (by simp) rfl rfl (by decide) rfl rfl _ _ 6 10 rfl rfl rfl rfl
        simpa [hx0, hx1] using this
      have ap02 : blk x0 = none ∨ blk x0 ≠ blk x2 := by
        have := hap ⟨3, .data⟩ (by simp) ⟨11, .data⟩ (by simp) rfl rfl (by decide) rfl rfl _ _ 6 14 rfl rfl rfl rfl
        simpa [hx0, hx2] using this
      have ap03 : blk x0 = none ∨ blk x0 ≠ blk x3 := by
        have := hap ⟨3, .data⟩ (by simp) ⟨15, .data⟩ (by simp) rfl rfl (by decide) rfl rfl _ _ 6 18 rfl rfl rfl rfl
        simpa [hx0, hx3] using this
      have ap04 : blk x0 = none ∨ blk x0 ≠ blk x4 := by
        have := hap ⟨3, .data⟩ (by simp) ⟨19, .data⟩ (by simp) rfl rfl (by decide) rfl rfl _ _ 6 22 rfl rfl rfl rfl
        simpa [hx0, hx4] using this
      have ap10 : blk x1 = none ∨ blk x1 ≠ blk x0 := by
        have := hap ⟨7, .data⟩ (by simp) ⟨3, .data⟩ (by simp) rfl rfl (by decide) rfl rfl _ _ 10 6 rfl rfl rfl rfl
        simpa [hx1, hx0] using this
      have ap12 : blk x1 = none ∨ blk x1 ≠ blk x2 := by
        have := hap ⟨7, .data⟩ (by simp) ⟨11, .data⟩ (by simp) rfl rfl (by decide) rfl rfl _ _ 10 14 rfl rfl rfl rfl
        simpa [hx1, hx2] using this
      have ap13 : blk x1 = none ∨ blk x1 ≠ blk x3 := by
        have := hap ⟨7, .data⟩ (by simp) ⟨15, .data⟩ (by simp) rfl rfl (by decide) rfl rfl _ _ 10 18 rfl rfl rfl rfl
        simpa [hx1, hx3] using this
      have ap14 : blk x1 = none ∨ blk x1 ≠ blk x4 := by
        have := hap ⟨7, .data⟩ (by simp) ⟨19, .data⟩ (by simp) rfl rfl (by decide) rfl rfl _ _ 10 22 rfl rfl rfl rfl
        simpa [hx1, hx4] using this
      have ap20 : blk x2 = none ∨ blk x2 ≠ blk x0 := by
        have := hap ⟨11, .data⟩ (by simp) ⟨3, .data⟩ (by simp) rfl rfl (by decide) rfl rfl _ _ 14 6 rfl rfl rfl rfl
        simpa [hx2, hx0] using this
      have ap21 : blk x2 = none ∨ blk x2 ≠ blk x1 := by
        have := hap ⟨11, .data⟩ (by simp) ⟨7, .data⟩ (by simp) rfl rfl (by decide) rfl rfl _ _ 14 10 rfl rfl rfl rfl
        simpa [hx2, hx1] using this
      have ap23 : blk x2 = none ∨ blk x2 ≠ blk x3 := by
        have := hap ⟨11, .data⟩ (by simp) ⟨15, .data⟩ (by simp) rfl rfl (by decide) rfl rfl _ _ 14 18 rfl rfl rfl rfl
        simpa [hx2, hx3] using this
      have ap24 : blk x2 = none ∨ blk x2 ≠ blk x4 := by
        have := hap ⟨11, .data⟩ (by simp) ⟨19, .data⟩ (by simp) rfl rfl (by decide) rfl rfl _ _ 14 22 rfl rfl rfl rfl
        simpa [hx2, hx4] using this
      have ap30 : blk x3 = none ∨ blk x3 ≠ blk x0 := by
        have := hap ⟨15, .data⟩ (by simp) ⟨3, .data⟩ (by simp) rfl rfl (by decide) rfl rfl _ _ 18 6 rfl rfl rfl rfl
        simpa [hx3, hx0] using this
      have ap31 : blk x3 = none ∨ blk x3 ≠ blk x1 := by
        have := hap ⟨15, .data⟩ (by simp) ⟨7, .data⟩ (by simp) rfl rfl (by decide) rfl rfl _ _ 18 10 rfl rfl rfl rfl
        simpa [hx3, hx1] using this
      have ap32 : blk x3 = none ∨ blk x3 ≠ blk x2 := by
        have := hap ⟨15, .data⟩ (by simp) ⟨11, .data⟩ (by simp) rfl rfl (by decide) rfl rfl _ _ 18 14 rfl rfl rfl rfl
        simpa [hx3, hx2] using this
      have ap34 : blk x3 = none ∨ blk x3 ≠ blk x4 := by
        have := hap ⟨15, .data⟩ (by simp) ⟨19, .data⟩ (by simp) rfl rfl (by decide) rfl rfl _ _ 18 22 rfl rfl rfl rfl
        simpa [hx3, hx4] using this
      have ap40 : blk x4 = none ∨ blk x4 ≠ blk x0 := by
        have := hap ⟨19, .data⟩ (by simp) ⟨3, .data⟩ (by simp) rfl rfl (by decide) rfl rfl _ _ 22 6 rfl rfl rfl rfl
        simpa [hx4, hx0] using this
      have ap41 : blk x4 = none ∨ blk x4 ≠ blk x1 := by
        have := hap ⟨19, .data⟩ (by simp) ⟨7, .data⟩ (by simp) rfl rfl (by decide) rfl rfl _ _ 22 10 rfl rfl rfl rfl
        simpa [hx4, hx1] using this
      have ap42 : blk x4 = none ∨ blk x4 ≠ blk x2 := by
        have := hap ⟨19, .data⟩ (by simp) ⟨11, .data⟩ (by simp) rfl rfl (by decide) rfl rfl _ _ 22 14 rfl rfl rfl rfl
        simpa [hx4, hx2] using this
      have ap43 : blk x4 = none ∨ blk x4 ≠ blk x3 := by
        have := hap ⟨19, .data⟩ (by simp) ⟨15, .data⟩ (by simp) rfl rfl (by decide) rfl rfl _ _ 22 18 rfl rfl rfl rfl
        simpa [hx4, hx3] using this
      clear hap hdep hk hne5
      obtain ⟨a0, m0, rfl⟩ := ho0.1.rd.slice_form
      obtain ⟨a1, m1, rfl⟩ := ho1.1.rd.slice_form
      obtain ⟨a2, m2, rfl⟩ := ho2.1.rd.slice_form
      obtain ⟨a3, m3, rfl⟩ := ho3.1.rd.slice_form
      obtain ⟨a4, m4, rfl⟩ := ho4.1.rd.slice_form
      refine wp_value (v := .agg #[.slice a0 (n 0) m0, .slice a1 (n 1) m1, .slice a2 (n 2) m2, .slice a3 (n 3) m3, .slice a4 (n 4) m4]) (w' := ws) (by simp [execOp, go_sem, hx0, hx1, hx2, hx3, hx4]) (hK _ _ hS ?_ (fun j u _ h => h) (by simp))
      simp only [phiC, Nat.reduceAdd, Nat.reduceLT, if_false, Nat.reduceEqDiff]
      refine ⟨fun i => ([.slice a0 (n 0) m0, .slice a1 (n 1) m1, .slice a2 (n 2) m2, .slice a3 (n 3) m3, .slice a4 (n 4) m4] : List Value).getD i undef, ⟨?_, ?_⟩, ?_, rfl⟩
      · intro i hi
        match i, hi with
        | 0, _ => exact ho0.1
        | 1, _ => exact ho1.1
        | 2, _ => exact ho2.1
        | 3, _ => exact ho3.1
        | 4, _ => exact ho4.1
      · intro i j hi hj hij
        match i, j, hi, hj, hij with
        | 0, 1, _, _, _ => exact ap01
        | 0, 2, _, _, _ => exact ap02
        | 0, 3, _, _, _ => exact ap03
        | 0, 4, _, _, _ => exact ap04
        | 1, 0, _, _, _ => exact ap10
        | 1, 2, _, _, _ => exact ap12
        | 1, 3, _, _, _ => exact ap13
        | 1, 4, _, _, _ => exact ap14
        | 2, 0, _, _, _ => exact ap20
        | 2, 1, _, _, _ => exact ap21
        | 2, 3, _, _, _ => exact ap23
        | 2, 4, _, _, _ => exact ap24
        | 3, 0, _, _, _ => exact ap30
        | 3, 1, _, _, _ => exact ap31
        | 3, 2, _, _, _ => exact ap32
        | 3, 4, _, _, _ => exact ap34
        | 4, 0, _, _, _ => exact ap40
        | 4, 1, _, _, _ => exact ap41
        | 4, 2, _, _, _ => exact ap42
        | 4, 3, _, _, _ => exact ap43
        | 0, 0, _, _, h => exact absurd rfl h
        | 1, 1, _, _, h => exact absurd rfl h
        | 2, 2, _, _, h => exact absurd rfl h
        | 3, 3, _, _, h => exact absurd rfl h
        | 4, 4, _, _, h => exact absurd rfl h
      · intro i hi
        match i, hi with
        | 0, _ => exact ho0.2
        | 1, _ => exact ho1.2
        | 2, _ => exact ho2.2
        | 3, _ => exact ho3.2
        | 4, _ => exact ho4.2
    · intro a ws K hS _ hk hdep hap hK
      have h1 := hk 2 (by kernel_rfl)
      obtain ⟨x, hx, u, hC, hn, hxe⟩ := hdep ⟨20, .data⟩ (by simp) rfl _ rfl
      replace hx : a.tmps[23]?.getD undef = x := by simpa using hx 23 rfl
      replace h1 : a.tmps[2]?.getD undef = .pointer (some ⟨w.heap.size + 1, 0, none⟩) := by simpa using h1
      clear hap hdep hk
      simp at hxe
      subst hxe
      obtain ⟨cs, hcs, hcz⟩ := hS.2.2
      have hf : ∀ k, k < 5 → (u k).oneCell' = true := by
        intro k hk
        obtain ⟨a, m, e⟩ := (hC.own k hk).rd.slice_form
        rw [e]; rfl
      have hsz1 := hS1 ws hS
      refine wp_store_row 25 (.tmp 2) (.tmp 23) rfl (w.heap.size + 1) #[u 0, u 1, u 2, u 3, u 4] (by simpa [Act.eval] using h1) (by simpa [Act.eval] using hx) 25 cs hcs (by kernel_rfl) (by simp [hcz]) (by simp [hf]) ?_
      have hoth : ∀ k, k ≠ w.heap.size + 1 → (ws.setRow (w.heap.size + 1) #[u 0, u 1, u 2, u 3, u 4]).heap[k]? = ws.heap[k]? := fun k hk => setRow_other _ _ _ _ hk
      have hnew := setRow_heap ws (w.heap.size + 1) cs #[u 0, u 1, u 2, u 3, u 4] 25 (0, 0) hcs
      refine hK _ _ ⟨?_, ?_, _, hnew, rfl⟩ ?_ (fun j u hj h => ?_) (by simp)
      · exact hS.1.trans ⟨rfl, rfl, rfl, by simp [World.setRow], fun k hk => hoth k (by omega)⟩
      · rw [hoth _ (by omega)]; exact hS.2.1
      · simp only [phiC, Nat.reduceAdd, Nat.reduceLT, if_false, if_true]
        exact ⟨u, hC.of_block fun k hk _ => hoth k (by omega), hn, hnew⟩
      · exact phiC_mono h (.inl (by omega)) (fun k hk _ => hoth k (by omega))
  · intro a ws hS hsz hd hk hdone _
    obtain ⟨x, _, hx⟩ := hdone 21 _ rfl
    simp only [phiC, Nat.reduceLT, if_false, if_true] at hx
    obtain ⟨u, hC, hn, hh⟩ := hx
    have h2 : a.tmps[2]?.getD undef = .pointer (some ⟨w.heap.size + 1, 0, none⟩) := by simpa using hk 2 (by kernel_rfl)
    clear hdone hk
    have hcl : ∀ (k : Nat) (x : Value), (#[u 0, u 1, u 2, u 3, u 4] : Array Value)[k]? = some x → ws.cell? ⟨w.heap.size + 1, k, none⟩ = some x := by
      intro k x hx
      rw [cell_of_row ws _ k _ _ _ hh]; exact hx
    have c0 := hcl 0 _ rfl
    have c1 := hcl 1 _ rfl
    have c2 := hcl 2 _ rfl
    have c3 := hcl 3 _ rfl
    have c4 := hcl 4 _ rfl
    simp only [Exit.then]
    go_wp2
    refine bodyPost_ret (v := .agg #[u 0, u 1, u 2, u 3, u 4]) ?_ ?_ ⟨u, rfl, ⟨fun i hi => (hC.own i hi).mono (by omega), hC.apart⟩, hn, hS.1⟩
    · simp [results, Try.results20, go_sem, h2, c0, c1, c2, c3, c4]
    · simpa using hd
end Go.Proofs.Ytkibdolpapaflaa
