import Derived.Test.YtkibdolpapaflaaMay
namespace Go.Proofs.Ytkibdolpapaflaa
open Go.RowKit

theorem setRow_cells {w : World} {g : Nat} {old cs : Array Value} {t : TypeId} {fr : Nat × Nat} (hg : w.heap[g]? = some (.cells old t fr)) (k : Nat) (x : Value) (hx : cs[k]? = some x) : (w.setRow g cs).cell? ⟨g, k, none⟩ = some x := by
  rw [cell_setRow_same w g k old cs t fr hg]; exact hx

theorem below_setRow {B : Nat} {a w : World} (h : Below B a w) {g : Nat} (hg : B ≤ g) (cs : Array Value) : Below B a (w.setRow g cs) :=
  h.trans ⟨rfl, rfl, rfl, by simp [World.setRow], fun k hk => setRow_other w g k cs (by omega)⟩

/-- Behind a call made in the world 'w and two boxes': what stands where. -/
theorem box2 {w wr : World} {cs ds : Array Value} {T U : TypeId} {B : Nat} (hB : Below B ((w.alloc (.cells cs T)).alloc (.cells ds U)) wr) (hb : w.heap.size + 2 ≤ B) :
    wr.heap[w.heap.size]? = some (.cells cs T (0, 0)) ∧ wr.heap[w.heap.size + 1]? = some (.cells ds U (0, 0)) ∧ Below w.heap.size w wr ∧ w.heap.size + 1 < wr.heap.size := by
  have h0 : wr.heap[w.heap.size]? = some (.cells cs T (0, 0)) := by
    rw [hB.block _ (by omega), Below.heap_alloc _ _ _ (by simp)]; exact heap_alloc_new w _
  have h1 : wr.heap[w.heap.size + 1]? = some (.cells ds U (0, 0)) := by
    rw [hB.block _ (by omega), show w.heap.size + 1 = (w.alloc (.cells cs T)).heap.size from by simp]; exact heap_alloc_new _ _
  exact ⟨h0, h1, (((Below.refl _ _).alloc (Nat.le_refl _) _).alloc (by simp) _).trans (hB.mono (by omega)), (Array.getElem?_eq_some_iff.1 h1).1⟩

set_option maxRecDepth 20000 in
set_option maxHeartbeats 400000 in
theorem may16_any (w : World) (v : Nat → Value) (n : Nat → Nat) (z : Nat → List Int) (hr : ∀ i, i < 5 → Rd w (v i) (esz i) (n i) (z i)) (hb : ∀ i, i < 5 → n i * (8 * esz i) ≤ 140737488355328) :
    Calls Try.prog 16 #[.agg #[v 0, v 1, v 2, v 3, v 4]] w fun e w' => BoolMay n z w e w' := by
  have hr1 : ∀ i, i < 5 → Rd (w.alloc (.cells #[v 0, v 1, v 2, v 3, v 4] 25)) (v i) (esz i) (n i) (z i) := fun i hi => (hr i hi).below ((Below.refl _ _).alloc (Nat.le_refl _) _)
  have HC := Lib.hid (may25_any _ v n z hr1 hb)
  clear hr hr1 hb
  go_enter Try.func16, Try.ntmps16
  go_wp2_with fail
  refine HC.out.mono ?_
  rintro e w1 ⟨b, rfl, hm, hB⟩
  have HM := Lib.hid hm
  have HB := Lib.hid hB
  clear hm hB
  go_wp2
  go_ret
  exact ⟨b, rfl, HM.out, ((Below.refl _ _).alloc (Nat.le_refl _) _).trans (HB.out.mono (by simp))⟩

set_option maxRecDepth 20000 in
set_option maxHeartbeats 400000 in
theorem copy6_any (w : World) (v : Nat → Value) (n : Nat → Nat) (z : Nat → List Int) (hr : ∀ i, i < 5 → Rd w (v i) (esz i) (n i) (z i)) (hb : ∀ i, i < 5 → n i * (8 * esz i) ≤ 140737488355328) :
    Calls Try.prog 6 #[.agg #[v 0, v 1, v 2, v 3, v 4]] w fun e w' => ∃ u : Nat → Value, e = .returned (.agg #[u 0, u 1, u 2, u 3, u 4]) ∧ COwn w' w.heap.size u n z ∧ Below w.heap.size w w' := by
  have hr1 : ∀ i, i < 5 → Rd ((w.alloc (.cells #[v 0, v 1, v 2, v 3, v 4] 25)).alloc (.cells #[.slice none 0 0, .slice none 0 0, .slice none 0 0, .slice none 0 0, .slice none 0 0] 25)) (v i) (esz i) (n i) (z i) := fun i hi => (hr i hi).below (((Below.refl _ _).alloc (Nat.le_refl _) _).alloc (by simp) _)
  have HC := Lib.hid (copy18_any _ v n z hr1 hb)
  clear hr hr1 hb
  go_enter Try.func6, Try.ntmps6
  go_wp2_with fail
  refine HC.out.mono ?_
  rintro e w1 ⟨u, rfl, hC, hB⟩
  obtain ⟨h0, h1, hBw, hz⟩ := box2 hB (by simp)
  have hf : ∀ k, k < 5 → (u k).oneCell' = true := by
    intro k hk
    obtain ⟨a, m, e⟩ := (hC.own k hk).rd.slice_form
    rw [e]; rfl
  have HC2 := Lib.hid hC
  have HB := Lib.hid hBw
  clear hC hB hBw HC
  have hall : (#[u 0, u 1, u 2, u 3, u 4] : Array Value).all (·.oneCell') = true := by simp [hf]
  have hc := fun k x hx => setRow_cells (cs := #[u 0, u 1, u 2, u 3, u 4]) h1 k x hx
  have c0 := hc 0 _ rfl
  have c1 := hc 1 _ rfl
  have c2 := hc 2 _ rfl
  have c3 := hc 3 _ rfl
  have c4 := hc 4 _ rfl
  clear hc hf h0
  go_wp2_with (refine wpList_store_row rfl 25 (.tmp 2) (.tmp 4) rfl (w.heap.size + 1) #[u 0, u 1, u 2, u 3, u 4] rfl rfl 25 _ h1 (by kernel_rfl) rfl hall ?_)
  refine bodyPost_ret (v := .agg #[u 0, u 1, u 2, u 3, u 4]) (by simp [results, Try.results6, go_sem, c0, c1, c2, c3, c4]) rfl ⟨u, rfl, ?_, below_setRow HB.out (by omega) _⟩
  have hC := HC2.out
  refine ⟨fun i hi => ((hC.own i hi).of_block fun k hk => ?_).mono (by simp; omega), hC.apart⟩
  have hk := ((hC.own i hi).lt k hk).1
  rw [setRow_other _ _ _ _ (by simp at hk; omega)]
end Go.Proofs.Ytkibdolpapaflaa
