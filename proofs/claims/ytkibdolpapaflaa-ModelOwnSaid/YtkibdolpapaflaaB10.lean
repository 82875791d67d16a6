import Derived.Test.YtkibdolpapaflaaB9
namespace Go.Proofs.Ytkibdolpapaflaa
open Go.RowKit

theorem size0 {B : Nat} {w wc : World} {o : Obj} (h : Below B (w.alloc o) wc) : (w.alloc o).heap.size ≤ wc.heap.size := h.size

set_option maxRecDepth 20000 in
set_option maxHeartbeats 1000000 in
theorem do67 (w : World) (b : Nat) (ad : Addr) (n c : Nat) (zs : List Int) (op arg data : Int) (hown : Own w b 67 2 (.slice (some ad) n c) n zs) (hb : b ≤ w.heap.size) (hsz : (n + 1) * 16 ≤ 140737488355328) :
    Calls Try.prog 67 #[.slice (some ad) n c, .int .i64 op, .int .i64 arg, .int .i64 data] w fun e w' => DoPost 72 67 2 b n (.slice (some ad) n c) (fun _ _ _ => True) w e w' := by
  have HO := Lib.hid hown
  clear hown
  have HR : Hid (Rd (w.alloc (.cells #[.int .i64 0, .int .i64 0] 33)) (.slice (some ad) n c) 2 n zs) := HO.out.rd.below ((Below.refl _ _).alloc (Nat.le_refl _) _)
  by_cases h60 : op = 60
  · subst h60
    go_enter Try.func67, Try.ntmps67
    go_wp2_with fail
    refine (find70 _ _ n zs arg HR.out (by omega)).mono ?_
    rintro e w2 ⟨i, ok, rfl, h1, h2, hB2⟩
    have HBx : Hid (Below (w.heap.size + 1) (w.alloc (.cells #[.int .i64 0, .int .i64 0] 33)) w2) := hB2.mono (by simp)
    have HBw : Hid (Below w.heap.size w w2) := ((Below.refl _ _).alloc (Nat.le_refl _) _).trans (HBx.out.mono (by omega))
    clear hB2
    cases ok
    · clear h2
      go_wp2_with fail
      refine (clone72 _ _ _ _ zs (HO.out.rd.below HBw.out) (by omega)).mono ?_
      rintro e w3 ⟨v3, rfl, hO3, ⟨ad3, c3, rfl⟩, hB3⟩
      have HO3 : Hid (Own w3 (w.heap.size + 1) 67 2 (.slice (some ad3) n c3) n zs) := hO3.mono (size1 HBx.out)
      have HB3 : Hid (Below (w.heap.size + 1) (w.alloc (.cells #[.int .i64 0, .int .i64 0] 33)) w3) := HBx.out.trans (hB3.mono (size1 HBx.out))
      have hz3 : w.heap.size + 1 ≤ w3.heap.size := size1 HB3.out
      clear hO3 hB3
      have HO4 := Lib.hid (HO3.out.alloc (.cells #[.int .i64 arg, .int .i64 data] 67))
      have HL := Lib.hid (Own.lit (base := w.heap.size + 1) w3 #[.int .i64 arg, .int .i64 data] 67 2 1 [arg, data] hz3 (by omega) (by simp [maxLen]) (by simp) rfl)
      have hne : ad3.block ≠ w3.heap.size ∨ n = 0 := by
        rcases HO3.out.2 with ⟨h, _⟩ | ⟨g, cap, cur, e, _, _, hg, _⟩
        · exact .inr h
        · cases e; exact .inl (by have := (Array.getElem?_eq_some_iff.1 hg).1; simp; omega)
      go_wp2_with fail
      refine (ins71' _ (w.heap.size + 1) ad3 n c3 i zs w3.heap.size HO4.out h1 [arg, data] HL.out hne (by simp; omega) (by omega)).mono ?_
      rintro e w4 ⟨v4, zs4, rfl, hO4, ⟨ad2, c2, rfl⟩, hB4⟩
      have HO2 := Lib.hid hO4
      clear HBx
      have HBx : Hid (Below (w.heap.size + 1) (w.alloc (.cells #[.int .i64 0, .int .i64 0] 33)) w4) := (HB3.out.alloc hz3 _).trans hB4
      clear hO4 hB4 HO4 HL
      go_wp2_with fail
      refine (yes58 _ _).mono ?_
      rintro e w9 ⟨yk, rfl, hB9⟩
      have hB9' := HBx.out.trans (hB9.mono (size1 HBx.out))
      obtain ⟨h0, hBw, hz⟩ := box1h hB9' (Nat.le_refl _)
      have hf := ((HO2.out.below hB9).of_block (w' := w9.setRow w.heap.size #[.int .i64 yk, .int .i64 0]) fun k hk => setRow_other _ _ _ _ (by have := (HO2.out.lt k hk).1; omega)).mono (base' := w.heap.size) (by omega)
      have HF := Lib.hid hf
      have HB := Lib.hid hBw
      clear hB9 hB9' hBw hf
      have c0 := setRow_cells (cs := #[.int .i64 yk, .int .i64 0]) h0 0 _ rfl
      have c1 := setRow_cells (cs := #[.int .i64 yk, .int .i64 0]) h0 1 _ rfl
      have hall : (#[.int .i64 yk, .int .i64 0] : Array Value).all (·.oneCell') = true := by simp [Value.oneCell']
      go_wp2_with (refine wpList_store_row rfl 33 (.tmp 9) (.tmp 34) rfl w.heap.size #[.int .i64 yk, .int .i64 0] rfl rfl 33 _ h0 (by kernel_rfl) rfl hall ?_)
      exact bodyPost_ret (v := .tuple #[.iface 72 (.slice (some ad2) _ c2), .agg #[.int .i64 yk, .int .i64 0]]) (by simp [results, Try.results67, go_sem, c0, c1]) rfl (DoPost.new HF.out hb (by omega) (below_setRow HB.out (Nat.le_refl _) _) trivial)
    · go_wp2_with fail
      refine (yes58 _ _).mono ?_
      rintro e w9 ⟨yk, rfl, hB9⟩
      have hB9' := HBx.out.trans (hB9.mono (size1 HBx.out))
      obtain ⟨h0, hBw, hz⟩ := box1h hB9' (Nat.le_refl _)
      have HB := Lib.hid hBw
      clear hB9 hB9' hBw
      have c0 := setRow_cells (cs := #[.int .i64 yk, .int .i64 0]) h0 0 _ rfl
      have c1 := setRow_cells (cs := #[.int .i64 yk, .int .i64 0]) h0 1 _ rfl
      have hall : (#[.int .i64 yk, .int .i64 0] : Array Value).all (·.oneCell') = true := by simp [Value.oneCell']
      go_wp2_with (refine wpList_store_row rfl 33 (.tmp 9) (.tmp 24) rfl w.heap.size #[.int .i64 yk, .int .i64 0] rfl rfl 33 _ h0 (by kernel_rfl) rfl hall ?_)
      exact bodyPost_ret (v := .tuple #[.iface 72 (.slice (some ad) n c), .agg #[.int .i64 yk, .int .i64 0]]) (by simp [results, Try.results67, go_sem, c0, c1]) rfl (DoPost.same HO.out (below_setRow HB.out (Nat.le_refl _) _) trivial)
  · have h60b : (op == 60) = false := by simpa using h60
    go_enter Try.func67, Try.ntmps67
    go_wp2_with fail
    refine (find70 _ _ n zs arg HR.out (by omega)).mono ?_
    rintro e w2 ⟨i, ok, rfl, h1, h2, hB2⟩
    have HBx : Hid (Below (w.heap.size + 1) (w.alloc (.cells #[.int .i64 0, .int .i64 0] 33)) w2) := hB2.mono (by simp)
    have HBw : Hid (Below w.heap.size w w2) := ((Below.refl _ _).alloc (Nat.le_refl _) _).trans (HBx.out.mono (by omega))
    clear hB2
    cases ok
    · go_wp2_with fail
      refine (yes58 _ _).mono ?_
      rintro e w9 ⟨yk, rfl, hB9⟩
      have hB9' := HBx.out.trans (hB9.mono (size1 HBx.out))
      obtain ⟨h0, hBw, hz⟩ := box1h hB9' (Nat.le_refl _)
      have HB := Lib.hid hBw
      clear hB9 hB9' hBw
      have c0 := setRow_cells (cs := #[.int .i64 yk, .int .i64 0]) h0 0 _ rfl
      have c1 := setRow_cells (cs := #[.int .i64 yk, .int .i64 0]) h0 1 _ rfl
      have hall : (#[.int .i64 yk, .int .i64 0] : Array Value).all (·.oneCell') = true := by simp [Value.oneCell']
      go_wp2_with (refine wpList_store_row rfl 33 (.tmp 9) (.tmp 39) rfl w.heap.size #[.int .i64 yk, .int .i64 0] rfl rfl 33 _ h0 (by kernel_rfl) rfl hall ?_)
      exact bodyPost_ret (v := .tuple #[.iface 72 (.slice (some ad) n c), .agg #[.int .i64 yk, .int .i64 0]]) (by simp [results, Try.results67, go_sem, c0, c1]) rfl (DoPost.same HO.out (below_setRow HB.out (Nat.le_refl _) _) trivial)
    · have hin : i < n := h2 rfl
      obtain ⟨g, cap, e, h0, hbg, hgl, hnc, hc1, hrow⟩ := HO.out.row (by omega)
      cases e
      obtain ⟨x, hx⟩ := hrow.cell (i * 2 + 1) (by omega)
      have hx2 : w2.cell? ⟨g, i * 2 + 1, none⟩ = some (.int .i64 x) := below_keeps HBw.out _ _ hx
      clear hrow hx hc1 h2
      go_wp2_with fail
      refine (value_any _ _).mono ?_
      rintro e w3 ⟨rfl, hB3⟩
      clear hx2
      have HBa : Hid (Below (w.heap.size + 1) (w.alloc (.cells #[.int .i64 0, .int .i64 0] 33)) w3) := HBx.out.trans (hB3.mono (size1 HBx.out))
      have HBb : Hid (Below w.heap.size w w3) := ((Below.refl _ _).alloc (Nat.le_refl _) _).trans (HBa.out.mono (by omega))
      have hz3 : w.heap.size + 1 ≤ w3.heap.size := size1 HBa.out
      clear hB3 HBx HBw
      have HXX : Hid (∀ ws, Below (w3.heap.size + 1) (w3.alloc (.cells #[.int .i64 2, .int .i64 x] 33)) ws → ws.cell? ⟨w3.heap.size, 0, none⟩ = some (.int .i64 2) ∧ ws.cell? ⟨w3.heap.size, 1, none⟩ = some (.int .i64 x)) := fun ws h => ⟨(box1 h).1 0 _ rfl, (box1 h).1 1 _ rfl⟩
      have HB0 : Hid (Below (w3.heap.size + 1) (w3.alloc (.cells #[.int .i64 2, .int .i64 x] 33)) (w3.alloc (.cells #[.int .i64 2, .int .i64 x] 33)).drew) := (Below.refl _ _).drew
      have HH9 : Hid (∀ ws, Below (w3.heap.size + 1) (w3.alloc (.cells #[.int .i64 2, .int .i64 x] 33)) ws → ws.heap[w.heap.size]? = some (.cells #[.int .i64 0, .int .i64 0] 33 (0, 0))) := fun ws h => by
        rw [h.block _ (by omega), Below.heap_alloc _ _ _ (by omega)]
        exact (box1h HBa.out (Nat.le_refl _)).1
      have hgn : ¬ (w3.heap.size = w.heap.size) := by omega
      by_cases h61 : op = 61
      · subst h61
        go_wp2_with fail
        have w1' : IntKind.i64.wrap (↑i + 1) = (i : Int) + 1 := IntWalk.i64_in _ (by omega)
        have HO3 : Hid (Own (w3.alloc (.cells #[.int .i64 2, .int .i64 x] 33)).drew b 67 2 (.slice (some ⟨g, 0, none⟩) n c) n zs) := ((HO.out.below HBb.out).alloc _).drew
        go_region_held3 (fun ws : World => ws.cell? ⟨w3.heap.size, 0, none⟩ = some (.int .i64 2) ∧ ws.cell? ⟨w3.heap.size, 1, none⟩ = some (.int .i64 x)) (first | exact HXX.out _ HB5.out | exact HXX.out _ HB4.out | exact HXX.out _ HB0.out | exact ⟨(cell_set_ne hgn _).trans ((cell_set_ne hgn _).trans (HXX.out _ HB5.out).1), (cell_set_ne hgn _).trans ((cell_set_ne hgn _).trans (HXX.out _ HB5.out).2)⟩) (first | (go_at_call 72; refine (clone72 _ _ _ _ zs HO3.out.rd (by omega)).mono ?_; rintro e w4 ⟨v4, rfl, hO, ⟨ad4, c4, rfl⟩, hB⟩; have HB4 := Lib.hid (HB0.out.trans (hB.mono (by simp))); have HO4 := Lib.hid (hO.mono (base' := w3.heap.size + 1) (by simp)); have hz4 := size1 HB4.out; clear hO hB) | (go_at_call 73; refine (del73 _ (w3.heap.size + 1) ad4 n c4 i zs HO4.out hin hz4 (by omega)).mono ?_; rintro e w5 ⟨v5, zs5, rfl, hO, ⟨ad2, c2, rfl⟩, hB⟩; have HB5 := Lib.hid (HB4.out.trans hB); have HO5 := Lib.hid hO; have h0 := HH9.out w5 HB5.out; have e0 := cell_facts h0 0 _ rfl; have e1 := cell_facts h0 1 _ rfl; have f0 := frozen_row h0 0; have f1 := frozen_row h0 1; have HH0 := Lib.hid h0; clear hB h0 hO))
        go_wp2
        obtain ⟨hn0, hno⟩ := set2 HH0.out (.int .i64 2) (.int .i64 x)
        have c0 := cell_facts hn0 0 _ rfl
        have c1 := cell_facts hn0 1 _ rfl
        have hBf : Below w.heap.size w ((w5.setCell ⟨w.heap.size, 0, none⟩ (.int .i64 2)).setCell ⟨w.heap.size, 1, none⟩ (.int .i64 x)) := (((HBb.out.alloc (by omega) _).trans (HB5.out.mono (by omega))).setCell (Nat.le_refl _) _).setCell (Nat.le_refl _) _
        exact bodyPost_ret (v := .tuple #[.iface 72 (.slice (some ad2) (n - 1) c2), .agg #[.int .i64 2, .int .i64 x]]) (by simp [results, Try.results67, go_sem, c0, c1]) rfl (DoPost.new ((HO5.out.of_block fun k hk => hno k (by have := (HO5.out.lt k hk).1; omega)).mono (by omega)) hb (by omega) hBf trivial)
      · have h61b : (op == 61) = false := by simpa using h61
        go_wp2_with fail
        have h0 := HH9.out (w3.alloc (.cells #[.int .i64 2, .int .i64 x] 33)) (Below.refl _ _)
        have e0 := cell_facts h0 0 _ rfl
        have e1 := cell_facts h0 1 _ rfl
        have f0 := frozen_row h0 0
        have f1 := frozen_row h0 1
        have HH0 := Lib.hid h0
        clear h0
        go_region_held3 (fun ws : World => ws.cell? ⟨w3.heap.size, 0, none⟩ = some (.int .i64 2) ∧ ws.cell? ⟨w3.heap.size, 1, none⟩ = some (.int .i64 x)) (first | exact HXX.out _ HB0.out | exact ⟨(cell_set_ne hgn _).trans ((cell_set_ne hgn _).trans (HXX.out _ HB0.out).1), (cell_set_ne hgn _).trans ((cell_set_ne hgn _).trans (HXX.out _ HB0.out).2)⟩) (fail)
        go_wp2
        have q1 := setCell_eq_setRow _ w.heap.size 0 _ 33 (0, 0) (.int .i64 2) HH0.out
        have q2 := setRow_heap _ w.heap.size _ ((#[.int .i64 0, .int .i64 0] : Array Value).setIfInBounds 0 (.int .i64 2)) 33 (0, 0) HH0.out
        rw [← q1] at q2
        have c0 := cell_facts q2 0 _ rfl
        have q3 := setCell_eq_setRow _ w.heap.size 1 _ 33 (0, 0) (.int .i64 x) q2
        have q4 := setRow_heap _ w.heap.size _ (((#[.int .i64 0, .int .i64 0] : Array Value).setIfInBounds 0 (.int .i64 2)).setIfInBounds 1 (.int .i64 x)) 33 (0, 0) q2
        rw [← q3] at q4
        have c1 := cell_facts q4 1 _ rfl
        clear q1 q2 q3 q4
        have hBf : Below w.heap.size w (((w3.alloc (.cells #[.int .i64 2, .int .i64 x] 33)).drew.setCell ⟨w.heap.size, 0, none⟩ (.int .i64 2)).setCell ⟨w.heap.size, 1, none⟩ (.int .i64 x)) := (((HBb.out.alloc (by omega) _).drew).setCell (Nat.le_refl _) _).setCell (Nat.le_refl _) _
        exact bodyPost_ret (v := .tuple #[.iface 72 (.slice (some ⟨g, 0, none⟩) n c), .agg #[.int .i64 2, .int .i64 x]]) (by simp [results, Try.results67, go_sem, c0, c1]) rfl (DoPost.same HO.out hBf trivial)

end Go.Proofs.Ytkibdolpapaflaa
