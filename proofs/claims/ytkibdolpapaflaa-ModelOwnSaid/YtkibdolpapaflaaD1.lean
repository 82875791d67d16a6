import Derived.Test.YtkibdolpapaflaaC4
namespace Go.Proofs.Ytkibdolpapaflaa
open Go.RowKit

def PlayRes (w : World) (n : Nat → Nat) (z : Nat → List Int) (e : Ending) (w' : World) : Prop :=
  ∃ (u : Nat → Value), e = .returned (.tuple #[.agg #[u 0, u 1, u 2, u 3, u 4], .int .i64 (-1), .int .i64 0]) ∧ COwn w' w.heap.size u n z ∧ Below w.heap.size w w'

set_option maxRecDepth 20000 in
set_option maxHeartbeats 1000000 in
theorem play11 (w : World) (v : Nat → Value) (n : Nat → Nat) (z : Nat → List Int) (hr : ∀ i, i < 5 → Rd w (v i) (esz i) (n i) (z i)) (hb : ∀ i, i < 5 → n i * (8 * esz i) ≤ 140737488355328) (hm : MayP n z) :
    Calls Try.prog 11 #[.agg #[v 0, v 1, v 2, v 3, v 4], .slice none 0 0] w fun e w' => PlayRes w n z e w' := by
  have HR := Lib.hid hr
  have HBD := Lib.hid hb
  have HM := Lib.hid hm
  clear hr hb hm
  go_enter Try.func11, Try.ntmps11
  go_wp2_with fail
  refine (may23_any _ v n z (fun i hi => (HR.out i hi).below (((Below.refl _ _).alloc (Nat.le_refl _) _).alloc (by simp) _)) HBD.out HM.out).mono ?_
  rintro e w1 ⟨rfl, hB⟩
  obtain ⟨h0, h1, hBw, hz⟩ := box2 hB (by simp)
  have HB := Lib.hid hBw
  have c0 := cell_facts h0 0 _ rfl
  have c1 := cell_facts h0 1 _ rfl
  have c2 := cell_facts h0 2 _ rfl
  have c3 := cell_facts h0 3 _ rfl
  have c4 := cell_facts h0 4 _ rfl
  have H1 := Lib.hid h1
  clear hB hBw h0 h1
  go_wp2_with fail
  refine wp_loop_rounds 1 ?_
  rw [rounds_succ]
  go_wp2_with fail
  refine (copied_any _ v n z (fun i hi => (HR.out i hi).below HB.out) HBD.out).mono ?_
  rintro e w2 ⟨u, rfl, hC, _, hB2⟩
  have HC := Lib.hid hC
  have hall := hC.one
  have h1 := (hB2.block _ hz).trans H1.out
  have hc := fun j x hx => setRow_cells (cs := #[u 0, u 1, u 2, u 3, u 4]) h1 j x hx
  have g0 := heap_alloc_new w2 (.cells #[.slice none 0 0, .slice none 0 0, .slice none 0 0, .slice none 0 0, .slice none 0 0] 25)
  have gc := fun j x hx => setRow_cells (cs := #[u 0, u 1, u 2, u 3, u 4]) g0 j x hx
  have x0 := gc 0 _ rfl
  have x1 := gc 1 _ rfl
  have x2 := gc 2 _ rfl
  have x3 := gc 3 _ rfl
  have x4 := gc 4 _ rfl
  have hzz : w.heap.size + 1 < w2.heap.size := by have := hB2.size; omega
  have k1 : ((w2.alloc (.cells #[.slice none 0 0, .slice none 0 0, .slice none 0 0, .slice none 0 0, .slice none 0 0] 25)).setRow w2.heap.size #[u 0, u 1, u 2, u 3, u 4]).heap[w.heap.size + 1]? = _ := (setRow_other _ _ _ _ (by omega)).trans ((Below.heap_alloc _ _ _ (by omega)).trans h1)
  have bC : Below w2.heap.size w2 ((w2.alloc (.cells #[.slice none 0 0, .slice none 0 0, .slice none 0 0, .slice none 0 0, .slice none 0 0] 25)).setRow w2.heap.size #[u 0, u 1, u 2, u 3, u 4]) := below_setRow ((Below.refl _ _).alloc (Nat.le_refl _) _) (Nat.le_refl _) _
  have hk := fun j x hx => setRow_cells (cs := #[u 0, u 1, u 2, u 3, u 4]) k1 j x hx
  have y0 := hk 0 _ rfl
  have y1 := hk 1 _ rfl
  have y2 := hk 2 _ rfl
  have y3 := hk 3 _ rfl
  have y4 := hk 4 _ rfl
  have BC := Lib.hid bC
  have HB2 := Lib.hid hB2
  clear hC hB2 hc gc hk bC
  go_wp2_with (first | (refine wpList_store_row rfl 25 (.tmp 9) (.tmp 32) rfl w2.heap.size #[u 0, u 1, u 2, u 3, u 4] rfl rfl 25 _ g0 (by kernel_rfl) rfl hall ?_))
  refine wp_loop_rounds 1 ?_
  rw [rounds_succ]
  go_wp2_with (first | (refine wpList_store_row rfl 25 (.tmp 4) (.tmp 53) rfl (w.heap.size + 1) #[u 0, u 1, u 2, u 3, u 4] rfl rfl 25 _ k1 (by kernel_rfl) rfl hall ?_))
  refine bodyPost_ret (v := .tuple #[.agg #[u 0, u 1, u 2, u 3, u 4], .int .i64 (-1), .int .i64 0]) (by simp [results, Try.results11, go_sem, y0, y1, y2, y3, y4]) rfl
    ⟨u, rfl, ⟨fun i hi => (((HC.out.own i hi).below BC.out).of_block fun j hj => setRow_other _ _ _ _ (by have := ((HC.out.own i hi).lt j hj).1; omega)).mono (by omega), HC.out.apart⟩, below_setRow (HB.out.trans ((HB2.out.mono (by omega)).trans (BC.out.mono (by omega)))) (by omega) _⟩
end Go.Proofs.Ytkibdolpapaflaa
