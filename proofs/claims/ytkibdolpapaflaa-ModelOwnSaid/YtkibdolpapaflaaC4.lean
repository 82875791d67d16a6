import Derived.Test.YtkibdolpapaflaaC3
namespace Go.Proofs.Ytkibdolpapaflaa
open Go.RowKit

theorem ta68 (v : Value) (w : World) : (Instr.typeAssert (.iface 69 v) 57 68 true).run Try.prog w = .ok (.tuple #[.slice none 0 0, .bool false]) w := by kernel_rfl
theorem ta69 (v : Value) (w : World) : (Instr.typeAssert (.iface 69 v) 57 69 true).run Try.prog w = .ok (.tuple #[v, .bool true]) w := by kernel_rfl
set_option maxRecDepth 20000 in
set_option maxHeartbeats 400000 in
theorem full22 (v : Value) (w : World) : Calls Try.prog 22 #[.iface 69 v, .int .i64 30] w fun e w' => e = .returned (.bool true) ∧ w = w' := by
  have t1 := ta68 v
  have t2 := ta69 v
  go_enter Try.func22, Try.ntmps22
  go_wp2
  go_ret
  exact ⟨rfl, rfl⟩

def AllRes (w : World) (n : Nat → Nat) (z : Nat → List Int) (e : Ending) (w' : World) : Prop :=
  ∃ (u : Nat → Value) (n' : Nat → Nat) (z' : Nat → List Int), e = .returned (.tuple #[.agg #[u 0, u 1, u 2, u 3, u 4], .bool true, .int .i64 0]) ∧ COwn w' w.heap.size u n' z' ∧ (∀ i, i < 5 → n' i ≤ n i + 1) ∧ Below w.heap.size w w'

theorem box3 {w wr : World} {cs ds es : Array Value} {T U V : TypeId} {B : Nat} (hB : Below B (((w.alloc (.cells cs T)).alloc (.cells ds U)).alloc (.cells es V)) wr) (hb : w.heap.size + 3 ≤ B) :
    wr.heap[w.heap.size]? = some (.cells cs T (0, 0)) ∧ wr.heap[w.heap.size + 1]? = some (.cells ds U (0, 0)) ∧ wr.heap[w.heap.size + 2]? = some (.cells es V (0, 0)) ∧ Below w.heap.size w wr ∧ w.heap.size + 2 < wr.heap.size := by
  have h0 : wr.heap[w.heap.size]? = some (.cells cs T (0, 0)) := by
    rw [hB.block _ (by omega), Below.heap_alloc _ _ _ (by simp; omega), Below.heap_alloc _ _ _ (by simp)]; exact heap_alloc_new w _
  have h1 : wr.heap[w.heap.size + 1]? = some (.cells ds U (0, 0)) := by
    rw [hB.block _ (by omega), Below.heap_alloc _ _ _ (by simp), show w.heap.size + 1 = (w.alloc (.cells cs T)).heap.size from by simp]; exact heap_alloc_new _ _
  have h2 : wr.heap[w.heap.size + 2]? = some (.cells es V (0, 0)) := by
    rw [hB.block _ (by omega), show w.heap.size + 2 = ((w.alloc (.cells cs T)).alloc (.cells ds U)).heap.size from by simp]; exact heap_alloc_new _ _
  exact ⟨h0, h1, h2, ((((Below.refl _ _).alloc (Nat.le_refl _) _).alloc (by simp) _).alloc (by simp; omega) _).trans (hB.mono (by omega)), (Array.getElem?_eq_some_iff.1 h2).1⟩

set_option maxRecDepth 20000 in
set_option maxHeartbeats 1000000 in
theorem allows0 (w : World) (v : Nat → Value) (n : Nat → Nat) (z : Nat → List Int) (op arg data q0 q4 q5 q6 q8 : Int) (k : Nat) (hk : 1 ≤ k) (hk5 : k ≤ 5) (hop : objOf op = k) (hr : ∀ i, i < 5 → Rd w (v i) (esz i) (n i) (z i)) (hb : ∀ i, i < 5 → (n i + 1) * (8 * esz i) ≤ 140737488355328) (hm : MayP n z) :
    Calls Try.prog 8 #[.agg #[v 0, v 1, v 2, v 3, v 4], .agg #[.int .i64 q0, .int .i64 op, .int .i64 arg, .int .i64 data, .int .i64 q4, .int .i64 q5, .int .i64 q6, .int .i64 0, .int .i64 q8]] w fun e w' => AllRes w n z e w' := by
  have HR := Lib.hid hr
  have HBD := Lib.hid hb
  have HM := Lib.hid hm
  have HOP := Lib.hid hop
  clear hr hb hm hop
  go_enter Try.func8, Try.ntmps8
  go_wp2_with fail
  refine (do7 _ v n z op arg data k hk hk5 HOP.out (fun i hi => (HR.out i hi).below ((((Below.refl _ _).alloc (Nat.le_refl _) _).alloc (by simp) _).alloc (by simp; omega) _)) HBD.out HM.out).mono ?_
  rintro e w1 ⟨u, n', z', ak, av, rfl, hC, hn, _, _, _, hB⟩
  obtain ⟨h0, h1, h2, hBw, hz⟩ := box3 hB (by simp)
  have HC := Lib.hid hC
  have HB := Lib.hid hBw
  have HNN := Lib.hid hn
  have H0 := Lib.hid h0
  have H1 := Lib.hid h1
  have H2 := Lib.hid h2
  have hall := hC.one
  clear hC hB hBw hn h0 h1 h2
  obtain ⟨g1, g2, gB, gz⟩ := box2 (Below.refl (w1.heap.size + 2) ((w1.alloc (.cells #[.slice none 0 0, .slice none 0 0, .slice none 0 0, .slice none 0 0, .slice none 0 0] 25)).alloc (.cells #[.int .i64 0, .int .i64 0] 33))) (Nat.le_refl _)
  have hallA : (#[.int .i64 ak, .int .i64 av] : Array Value).all (·.oneCell') = true := by simp [Value.oneCell']
  have g3 := (setRow_other ((w1.alloc (.cells #[.slice none 0 0, .slice none 0 0, .slice none 0 0, .slice none 0 0, .slice none 0 0] 25)).alloc (.cells #[.int .i64 0, .int .i64 0] 33)) w1.heap.size (w1.heap.size + 1) #[u 0, u 1, u 2, u 3, u 4] (by omega)).trans g2
  have g4 := setRow_heap _ w1.heap.size _ #[u 0, u 1, u 2, u 3, u 4] _ _ g1
  have g5 := (setRow_other (((w1.alloc (.cells #[.slice none 0 0, .slice none 0 0, .slice none 0 0, .slice none 0 0, .slice none 0 0] 25)).alloc (.cells #[.int .i64 0, .int .i64 0] 33)).setRow w1.heap.size #[u 0, u 1, u 2, u 3, u 4]) (w1.heap.size + 1) w1.heap.size #[.int .i64 ak, .int .i64 av] (by omega)).trans g4
  have g6 : Below w1.heap.size w1 ((((w1.alloc (.cells #[.slice none 0 0, .slice none 0 0, .slice none 0 0, .slice none 0 0, .slice none 0 0] 25)).alloc (.cells #[.int .i64 0, .int .i64 0] 33)).setRow w1.heap.size #[u 0, u 1, u 2, u 3, u 4]).setRow (w1.heap.size + 1) #[.int .i64 ak, .int .i64 av]) := below_setRow (below_setRow gB (Nat.le_refl _) _) (by omega) _
  obtain ⟨Y, hY⟩ : ∃ Y, Y = (((w1.alloc (.cells #[.slice none 0 0, .slice none 0 0, .slice none 0 0, .slice none 0 0, .slice none 0 0] 25)).alloc (.cells #[.int .i64 0, .int .i64 0] 33)).setRow w1.heap.size #[u 0, u 1, u 2, u 3, u 4]).setRow (w1.heap.size + 1) #[.int .i64 ak, .int .i64 av] := ⟨_, rfl⟩
  rw [← hY] at g5 g6
  have HY := Lib.hid hY
  have x7 := cell_facts ((g6.block _ (by omega)).trans H1.out) 7 _ rfl
  have y0 := cell_facts g5 0 _ rfl
  have y1 := cell_facts g5 1 _ rfl
  have y2 := cell_facts g5 2 _ rfl
  have y3 := cell_facts g5 3 _ rfl
  have y4 := cell_facts g5 4 _ rfl
  have hr : Y.heap[w.heap.size + 2]? = _ := (g6.block _ (by omega)).trans H2.out
  have hc := fun j x hx => setRow_cells (cs := #[u 0, u 1, u 2, u 3, u 4]) hr j x hx
  have c0 := hc 0 _ rfl
  have c1 := hc 1 _ rfl
  have c2 := hc 2 _ rfl
  have c3 := hc 3 _ rfl
  have c4 := hc 4 _ rfl
  have G6 := Lib.hid g6
  clear hc hY g4 g5 g6 gB gz g2
  go_wp2_with (first | (refine wpList_store_row rfl 25 (.tmp 7) (.tmp 19) rfl w1.heap.size #[u 0, u 1, u 2, u 3, u 4] rfl rfl 25 _ g1 (by kernel_rfl) rfl hall ?_) | (refine wpList_store_row rfl 33 (.tmp 8) (.tmp 20) rfl (w1.heap.size + 1) #[.int .i64 ak, .int .i64 av] rfl rfl 33 _ g3 (by kernel_rfl) rfl hallA ?_; rw [← HY.out]; clear g1 g3) | (refine wpList_store_row rfl 25 (.tmp 4) (.tmp 31) rfl (w.heap.size + 2) #[u 0, u 1, u 2, u 3, u 4] rfl rfl 25 _ hr (by kernel_rfl) rfl hall ?_))
  refine bodyPost_ret (v := .tuple #[.agg #[u 0, u 1, u 2, u 3, u 4], .bool true, .int .i64 0]) (by simp [results, Try.results8, go_sem, c0, c1, c2, c3, c4]) rfl
    ⟨u, n', z', rfl, ⟨fun i hi => (((HC.out.own i hi).below G6.out).of_block fun j hj => setRow_other _ _ _ _ (by have := ((HC.out.own i hi).lt j hj).1; simp at this; omega)).mono (by simp; omega), HC.out.apart⟩, HNN.out, below_setRow (HB.out.trans (G6.out.mono (by omega))) (by omega) _⟩

set_option maxRecDepth 20000 in
set_option maxHeartbeats 1000000 in
theorem allows4 (w : World) (v : Nat → Value) (n : Nat → Nat) (z : Nat → List Int) (arg data q0 q4 q5 q6 q8 : Int) (hr : ∀ i, i < 5 → Rd w (v i) (esz i) (n i) (z i)) (hb : ∀ i, i < 5 → (n i + 1) * (8 * esz i) ≤ 140737488355328) (hm : MayP n z) :
    Calls Try.prog 8 #[.agg #[v 0, v 1, v 2, v 3, v 4], .agg #[.int .i64 q0, .int .i64 30, .int .i64 arg, .int .i64 data, .int .i64 q4, .int .i64 q5, .int .i64 q6, .int .i64 4, .int .i64 q8]] w fun e w' => AllRes w n z e w' := by
  have HR := Lib.hid hr
  have HBD := Lib.hid hb
  have HM := Lib.hid hm
  clear hr hb hm
  go_enter Try.func8, Try.ntmps8
  go_wp2_with fail
  refine (do7 _ v n z 30 arg data 2 (by omega) (by omega) rfl (fun i hi => (HR.out i hi).below ((((Below.refl _ _).alloc (Nat.le_refl _) _).alloc (by simp) _).alloc (by simp; omega) _)) HBD.out HM.out).mono ?_
  rintro e w1 ⟨u, n', z', ak, av, rfl, hC, hn, _, _, _, hB⟩
  obtain ⟨h0, h1, h2, hBw, hz⟩ := box3 hB (by simp)
  have HB := Lib.hid hBw
  have H0 := Lib.hid h0
  have H1 := Lib.hid h1
  have H2 := Lib.hid h2
  have hall := hC.one
  clear hC hB hBw hn h0 h1 h2
  obtain ⟨g1, g2, gB, gz⟩ := box2 (Below.refl (w1.heap.size + 2) ((w1.alloc (.cells #[.slice none 0 0, .slice none 0 0, .slice none 0 0, .slice none 0 0, .slice none 0 0] 25)).alloc (.cells #[.int .i64 0, .int .i64 0] 33))) (Nat.le_refl _)
  have hallA : (#[.int .i64 ak, .int .i64 av] : Array Value).all (·.oneCell') = true := by simp [Value.oneCell']
  have g3 := (setRow_other ((w1.alloc (.cells #[.slice none 0 0, .slice none 0 0, .slice none 0 0, .slice none 0 0, .slice none 0 0] 25)).alloc (.cells #[.int .i64 0, .int .i64 0] 33)) w1.heap.size (w1.heap.size + 1) #[u 0, u 1, u 2, u 3, u 4] (by omega)).trans g2
  have g6 : Below w1.heap.size w1 ((((w1.alloc (.cells #[.slice none 0 0, .slice none 0 0, .slice none 0 0, .slice none 0 0, .slice none 0 0] 25)).alloc (.cells #[.int .i64 0, .int .i64 0] 33)).setRow w1.heap.size #[u 0, u 1, u 2, u 3, u 4]).setRow (w1.heap.size + 1) #[.int .i64 ak, .int .i64 av]) := below_setRow (below_setRow gB (Nat.le_refl _) _) (by omega) _
  obtain ⟨Y, hY⟩ : ∃ Y, Y = (((w1.alloc (.cells #[.slice none 0 0, .slice none 0 0, .slice none 0 0, .slice none 0 0, .slice none 0 0] 25)).alloc (.cells #[.int .i64 0, .int .i64 0] 33)).setRow w1.heap.size #[u 0, u 1, u 2, u 3, u 4]).setRow (w1.heap.size + 1) #[.int .i64 ak, .int .i64 av] := ⟨_, rfl⟩
  rw [← hY] at g6
  have HY := Lib.hid hY
  have hYz : w.heap.size + 2 < Y.heap.size := by have := g6.size; omega
  have x7 := cell_facts ((g6.block _ (by omega)).trans H1.out) 7 _ rfl
  have x1 := cell_facts ((g6.block _ (by omega)).trans H1.out) 1 _ rfl
  have hS : ∀ ws, Below Y.heap.size Y ws → ws.cell? ⟨w.heap.size, 0, none⟩ = some (v 0) ∧ ws.cell? ⟨w.heap.size, 1, none⟩ = some (v 1) ∧ ws.cell? ⟨w.heap.size, 2, none⟩ = some (v 2) ∧ ws.cell? ⟨w.heap.size, 3, none⟩ = some (v 3) ∧ ws.cell? ⟨w.heap.size, 4, none⟩ = some (v 4) ∧ ws.cell? ⟨w.heap.size + 1, 1, none⟩ = some (.int .i64 30) := by
    intro ws hB
    have e0 := (hB.block _ (by omega)).trans ((g6.block _ (by omega)).trans H0.out)
    have e1 := (hB.block _ (by omega)).trans ((g6.block _ (by omega)).trans H1.out)
    exact ⟨cell_facts e0 0 _ rfl, cell_facts e0 1 _ rfl, cell_facts e0 2 _ rfl, cell_facts e0 3 _ rfl, cell_facts e0 4 _ rfl, cell_facts e1 1 _ rfl⟩
  have HS := Lib.hid hS
  have hB0 : Below Y.heap.size Y Y.drew := (Below.refl _ _).drew
  have HB0 := Lib.hid hB0
  have hr0 := (g6.block (w.heap.size + 2) (by omega)).trans H2.out
  have HR0 := Lib.hid hr0
  have G6 := Lib.hid g6
  clear hY g6 gB gz g2 hS hB0 hr0
  go_wp2_with (first | (refine wpList_store_row rfl 25 (.tmp 7) (.tmp 19) rfl w1.heap.size #[u 0, u 1, u 2, u 3, u 4] rfl rfl 25 _ g1 (by kernel_rfl) rfl hall ?_) | (refine wpList_store_row rfl 33 (.tmp 8) (.tmp 20) rfl (w1.heap.size + 1) #[.int .i64 ak, .int .i64 av] rfl rfl 33 _ g3 (by kernel_rfl) rfl hallA ?_; rw [← HY.out]; clear g1 g3))
  go_region_held3 (fun ws : World => ws.cell? ⟨w.heap.size, 0, none⟩ = some (v 0) ∧ ws.cell? ⟨w.heap.size, 1, none⟩ = some (v 1) ∧ ws.cell? ⟨w.heap.size, 2, none⟩ = some (v 2) ∧ ws.cell? ⟨w.heap.size, 3, none⟩ = some (v 3) ∧ ws.cell? ⟨w.heap.size, 4, none⟩ = some (v 4) ∧ ws.cell? ⟨w.heap.size + 1, 1, none⟩ = some (.int .i64 30)) (first | exact HS.out _ HB1.out | exact HS.out _ HB0.out) (first | (go_at_call 10; refine (object_any _ _).mono ?_; rintro e w' ⟨rfl, rfl⟩) | (go_at_call 21; refine (of21 _ v 2 (by omega) (by omega)).mono ?_; rintro e w2 ⟨rfl, hB⟩; have HB1 := Lib.hid (HB0.out.trans (hB.mono (Nat.le_refl _))); clear hB) | (go_at_call 22; refine (full22 _ _).mono ?_; rintro e w' ⟨rfl, rfl⟩))
  have q0 := HS.out w2 HB1.out
  have hr : w2.heap[w.heap.size + 2]? = _ := (HB1.out.block _ (by omega)).trans HR0.out
  have hcp : ∀ i, i < 5 → Rd w2 (v i) (esz i) (n i) (z i) := fun i hi => (HR.out i hi).below (HB.out.trans ((G6.out.mono (by omega)).trans (HB1.out.mono (by omega))))
  have HCP := Lib.hid hcp
  clear hcp
  have HRR := Lib.hid hr
  clear hr
  go_wp2_with fail
  refine (copied_any _ v n z HCP.out (fun i hi => by have := HBD.out i hi; rw [Nat.add_mul] at this; omega)).mono ?_
  rintro e w3 ⟨u2, rfl, hC2, _, hB2⟩
  have HC2 := Lib.hid hC2
  have hall2 := hC2.one
  have hr3 := (hB2.block (w.heap.size + 2) (by have := HB1.out.size; omega)).trans HRR.out
  have HB2 := Lib.hid hB2
  clear hC2 hB2
  have hc := fun j x hx => setRow_cells (cs := #[u2 0, u2 1, u2 2, u2 3, u2 4]) hr3 j x hx
  have c0 := hc 0 _ rfl
  have c1 := hc 1 _ rfl
  have c2 := hc 2 _ rfl
  have c3 := hc 3 _ rfl
  have c4 := hc 4 _ rfl
  clear hc
  go_wp2_with (refine wpList_store_row rfl 25 (.tmp 4) (.tmp 46) rfl (w.heap.size + 2) #[u2 0, u2 1, u2 2, u2 3, u2 4] rfl rfl 25 _ hr3 (by kernel_rfl) rfl hall2 ?_)
  have hz2 : w.heap.size + 2 < w2.heap.size := by have := HB1.out.size; omega
  refine bodyPost_ret (v := .tuple #[.agg #[u2 0, u2 1, u2 2, u2 3, u2 4], .bool true, .int .i64 0]) (by simp [results, Try.results8, go_sem, c0, c1, c2, c3, c4]) rfl
    ⟨u2, n, z, rfl, ⟨fun i hi => ((HC2.out.own i hi).of_block fun j hj => setRow_other _ _ _ _ (by have := ((HC2.out.own i hi).lt j hj).1; omega)).mono (by omega), HC2.out.apart⟩, fun i _ => Nat.le_succ _, below_setRow (HB.out.trans ((G6.out.mono (by omega)).trans ((HB1.out.mono (by omega)).trans (HB2.out.mono (by omega))))) (by omega) _⟩
end Go.Proofs.Ytkibdolpapaflaa
