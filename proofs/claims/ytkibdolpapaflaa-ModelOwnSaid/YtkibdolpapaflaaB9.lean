import Derived.Test.YtkibdolpapaflaaB8
namespace Go.Proofs.Ytkibdolpapaflaa
open Go.RowKit

theorem size1 {B : Nat} {w wc : World} {o : Obj} (h : Below B (w.alloc o) wc) : w.heap.size + 1 ≤ wc.heap.size := by
  have := h.size
  simp at this
  exact this

set_option maxRecDepth 20000 in
set_option maxHeartbeats 800000 in
theorem do52 (w : World) (b : Nat) (ad : Addr) (n c : Nat) (zs : List Int) (op arg data : Int) (hown : Own w b 3 1 (.slice (some ad) n c) n zs) (hb : b ≤ w.heap.size) (hsz : (n + 1) * 8 ≤ 140737488355328) :
    Calls Try.prog 52 #[.slice (some ad) n c, .int .i64 op, .int .i64 arg, .int .i64 data] w fun e w' => DoPost 71 3 1 b n (.slice (some ad) n c) (fun _ _ _ => True) w e w' := by
  have HO := Lib.hid hown
  clear hown
  have HR : Hid (Rd (w.alloc (.cells #[.int .i64 0, .int .i64 0] 33)) (.slice (some ad) n c) 1 n zs) := HO.out.rd.below ((Below.refl _ _).alloc (Nat.le_refl _) _)
  have HBx : Hid (Below (w.heap.size + 1) (w.alloc (.cells #[.int .i64 0, .int .i64 0] 33)) (w.alloc (.cells #[.int .i64 0, .int .i64 0] 33))) := Below.refl _ _
  have HBw : Hid (Below w.heap.size w (w.alloc (.cells #[.int .i64 0, .int .i64 0] 33))) := (Below.refl _ _).alloc (Nat.le_refl _) _
  by_cases h50 : op = 50
  · subst h50
    go_enter Try.func52, Try.ntmps52
    go_wp2_with fail
    refine (bs55 _ _ n zs arg HR.out (by omega)).mono ?_
    rintro e w2 ⟨i, ok, rfl, h1, h2, rfl⟩
    cases ok
    · clear h2
      go_wp2_with fail
      refine (clone57 _ _ _ _ zs (HO.out.rd.below HBw.out) (by omega)).mono ?_
      rintro e w3 ⟨v3, rfl, hO3, ⟨ad3, c3, rfl⟩, hB3⟩
      have HO3 : Hid (Own w3 (w.heap.size + 1) 3 1 (.slice (some ad3) n c3) n zs) := hO3.mono (size1 HBx.out)
      have HB3 : Hid (Below (w.heap.size + 1) (w.alloc (.cells #[.int .i64 0, .int .i64 0] 33)) w3) := HBx.out.trans (hB3.mono (size1 HBx.out))
      have hz3 : w.heap.size + 1 ≤ w3.heap.size := size1 HB3.out
      clear hO3 hB3
      have HO4 := Lib.hid (HO3.out.alloc (.cells #[.int .i64 arg] 3))
      have HL := Lib.hid (Own.lit (base := w.heap.size + 1) w3 #[.int .i64 arg] 3 1 1 [arg] hz3 (by omega) (by simp [maxLen]) (by simp) rfl)
      have hne : ad3.block ≠ w3.heap.size ∨ n = 0 := by
        rcases HO3.out.2 with ⟨h, _⟩ | ⟨g, cap, cur, e, _, _, hg, _⟩
        · exact .inr h
        · cases e; exact .inl (by have := (Array.getElem?_eq_some_iff.1 hg).1; simp; omega)
      go_wp2_with fail
      refine (ins56' _ (w.heap.size + 1) ad3 n c3 i zs w3.heap.size HO4.out h1 [arg] HL.out hne (by simp; omega) (by omega)).mono ?_
      rintro e w4 ⟨v4, zs4, rfl, hO4, ⟨ad2, c2, rfl⟩, hB4⟩
      have HO2 := Lib.hid hO4
      clear HBx
      have HBx : Hid (Below (w.heap.size + 1) (w.alloc (.cells #[.int .i64 0, .int .i64 0] 33)) w4) := (HB3.out.alloc hz3 _).trans hB4
      clear hO4 hB4 HO4 HL
      go_wp2_with fail
      refine (yes58 _ _).mono ?_
      rintro e w9 ⟨yk, rfl, hB9⟩
      have hB9' := HBx.out.trans (hB9.mono (size1 HBx.out))
      obtain ⟨h0, hBw, hz⟩ := box1h hB9' (Nat.le_refl _)
      have hf := ((HO2.out.below hB9).of_block (w' := w9.setRow w.heap.size #[.int .i64 yk, .int .i64 0]) fun k hk => setRow_other _ _ _ _ (by have := (HO2.out.lt k hk).1; omega)).mono (base' := w.heap.size) (by omega)
      have HF := Lib.hid hf
      have HB := Lib.hid hBw
      clear hB9 hB9' hBw hf
      have c0 := setRow_cells (cs := #[.int .i64 yk, .int .i64 0]) h0 0 _ rfl
      have c1 := setRow_cells (cs := #[.int .i64 yk, .int .i64 0]) h0 1 _ rfl
      have hall : (#[.int .i64 yk, .int .i64 0] : Array Value).all (·.oneCell') = true := by simp [Value.oneCell']
      go_wp2_with (refine wpList_store_row rfl 33 (.tmp 9) (.tmp 32) rfl w.heap.size #[.int .i64 yk, .int .i64 0] rfl rfl 33 _ h0 (by kernel_rfl) rfl hall ?_)
      exact bodyPost_ret (v := .tuple #[.iface 71 (.slice (some ad2) _ c2), .agg #[.int .i64 yk, .int .i64 0]]) (by simp [results, Try.results52, go_sem, c0, c1]) rfl (DoPost.new HF.out hb (by omega) (below_setRow HB.out (Nat.le_refl _) _) trivial)
    · go_wp2_with fail
      refine (yes58 _ _).mono ?_
      rintro e w9 ⟨yk, rfl, hB9⟩
      have hB9' := HBx.out.trans (hB9.mono (size1 HBx.out))
      obtain ⟨h0, hBw, hz⟩ := box1h hB9' (Nat.le_refl _)
      have HB := Lib.hid hBw
      clear hB9 hB9' hBw
      have c0 := setRow_cells (cs := #[.int .i64 yk, .int .i64 0]) h0 0 _ rfl
      have c1 := setRow_cells (cs := #[.int .i64 yk, .int .i64 0]) h0 1 _ rfl
      have hall : (#[.int .i64 yk, .int .i64 0] : Array Value).all (·.oneCell') = true := by simp [Value.oneCell']
      go_wp2_with (refine wpList_store_row rfl 33 (.tmp 9) (.tmp 38) rfl w.heap.size #[.int .i64 yk, .int .i64 0] rfl rfl 33 _ h0 (by kernel_rfl) rfl hall ?_)
      exact bodyPost_ret (v := .tuple #[.iface 71 (.slice (some ad) n c), .agg #[.int .i64 yk, .int .i64 0]]) (by simp [results, Try.results52, go_sem, c0, c1]) rfl (DoPost.same HO.out (below_setRow HB.out (Nat.le_refl _) _) trivial)
  · have h50b : (op == 50) = false := by simpa using h50
    by_cases h51 : op = 51
    · subst h51
      go_enter Try.func52, Try.ntmps52
      go_wp2_with fail
      refine (bs55 _ _ n zs arg HR.out (by omega)).mono ?_
      rintro e w2 ⟨i, ok, rfl, h1, h2, rfl⟩
      cases ok
      · go_wp2_with fail
        refine (yes58 _ _).mono ?_
        rintro e w9 ⟨yk, rfl, hB9⟩
        have hB9' := HBx.out.trans (hB9.mono (size1 HBx.out))
        obtain ⟨h0, hBw, hz⟩ := box1h hB9' (Nat.le_refl _)
        have HB := Lib.hid hBw
        clear hB9 hB9' hBw
        have c0 := setRow_cells (cs := #[.int .i64 yk, .int .i64 0]) h0 0 _ rfl
        have c1 := setRow_cells (cs := #[.int .i64 yk, .int .i64 0]) h0 1 _ rfl
        have hall : (#[.int .i64 yk, .int .i64 0] : Array Value).all (·.oneCell') = true := by simp [Value.oneCell']
        go_wp2_with (refine wpList_store_row rfl 33 (.tmp 9) (.tmp 56) rfl w.heap.size #[.int .i64 yk, .int .i64 0] rfl rfl 33 _ h0 (by kernel_rfl) rfl hall ?_)
        exact bodyPost_ret (v := .tuple #[.iface 71 (.slice (some ad) n c), .agg #[.int .i64 yk, .int .i64 0]]) (by simp [results, Try.results52, go_sem, c0, c1]) rfl (DoPost.same HO.out (below_setRow HB.out (Nat.le_refl _) _) trivial)
      · have hin : i < n := h2 rfl
        clear h2
        go_wp2_with fail
        refine (clone57 _ _ _ _ zs (HO.out.rd.below HBw.out) (by omega)).mono ?_
        rintro e w3 ⟨v3, rfl, hO3, ⟨ad3, c3, rfl⟩, hB3⟩
        have HO3 : Hid (Own w3 (w.heap.size + 1) 3 1 (.slice (some ad3) n c3) n zs) := hO3.mono (size1 HBx.out)
        have HB3 : Hid (Below (w.heap.size + 1) (w.alloc (.cells #[.int .i64 0, .int .i64 0] 33)) w3) := HBx.out.trans (hB3.mono (size1 HBx.out))
        have hz3 : w.heap.size + 1 ≤ w3.heap.size := size1 HB3.out
        clear hO3 hB3
        go_wp2_with fail
        refine (del59 _ (w.heap.size + 1) ad3 n c3 i zs HO3.out hin hz3 (by omega)).mono ?_
        rintro e w4 ⟨v4, zs4, rfl, hO4, ⟨ad2, c2, rfl⟩, hB4⟩
        have HO2 := Lib.hid hO4
        clear HBx
        have HBx : Hid (Below (w.heap.size + 1) (w.alloc (.cells #[.int .i64 0, .int .i64 0] 33)) w4) := HB3.out.trans hB4
        clear hO4 hB4
        go_wp2_with fail
        refine (yes58 _ _).mono ?_
        rintro e w9 ⟨yk, rfl, hB9⟩
        have hB9' := HBx.out.trans (hB9.mono (size1 HBx.out))
        obtain ⟨h0, hBw, hz⟩ := box1h hB9' (Nat.le_refl _)
        have hf := ((HO2.out.below hB9).of_block (w' := w9.setRow w.heap.size #[.int .i64 yk, .int .i64 0]) fun k hk => setRow_other _ _ _ _ (by have := (HO2.out.lt k hk).1; omega)).mono (base' := w.heap.size) (by omega)
        have HF := Lib.hid hf
        have HB := Lib.hid hBw
        clear hB9 hB9' hBw hf
        have c0 := setRow_cells (cs := #[.int .i64 yk, .int .i64 0]) h0 0 _ rfl
        have c1 := setRow_cells (cs := #[.int .i64 yk, .int .i64 0]) h0 1 _ rfl
        have hall : (#[.int .i64 yk, .int .i64 0] : Array Value).all (·.oneCell') = true := by simp [Value.oneCell']
        go_wp2_with (refine wpList_store_row rfl 33 (.tmp 9) (.tmp 52) rfl w.heap.size #[.int .i64 yk, .int .i64 0] rfl rfl 33 _ h0 (by kernel_rfl) rfl hall ?_)
        exact bodyPost_ret (v := .tuple #[.iface 71 (.slice (some ad2) _ c2), .agg #[.int .i64 yk, .int .i64 0]]) (by simp [results, Try.results52, go_sem, c0, c1]) rfl (DoPost.new HF.out hb (by omega) (below_setRow HB.out (Nat.le_refl _) _) trivial)
    · have h51b : (op == 51) = false := by simpa using h51
      go_enter Try.func52, Try.ntmps52
      go_wp2_with fail
      refine (bs55 _ _ n zs arg HR.out (by omega)).mono ?_
      rintro e w2 ⟨i, ok, rfl, h1, h2, rfl⟩
      clear h2
      go_wp2_with fail
      refine (yes58 _ _).mono ?_
      rintro e w9 ⟨yk, rfl, hB9⟩
      have hB9' := HBx.out.trans (hB9.mono (size1 HBx.out))
      obtain ⟨h0, hBw, hz⟩ := box1h hB9' (Nat.le_refl _)
      have HB := Lib.hid hBw
      clear hB9 hB9' hBw
      have c0 := setRow_cells (cs := #[.int .i64 yk, .int .i64 0]) h0 0 _ rfl
      have c1 := setRow_cells (cs := #[.int .i64 yk, .int .i64 0]) h0 1 _ rfl
      have hall : (#[.int .i64 yk, .int .i64 0] : Array Value).all (·.oneCell') = true := by simp [Value.oneCell']
      go_wp2_with (refine wpList_store_row rfl 33 (.tmp 9) (.tmp 56) rfl w.heap.size #[.int .i64 yk, .int .i64 0] rfl rfl 33 _ h0 (by kernel_rfl) rfl hall ?_)
      exact bodyPost_ret (v := .tuple #[.iface 71 (.slice (some ad) n c), .agg #[.int .i64 yk, .int .i64 0]]) (by simp [results, Try.results52, go_sem, c0, c1]) rfl (DoPost.same HO.out (below_setRow HB.out (Nat.le_refl _) _) trivial)

end Go.Proofs.Ytkibdolpapaflaa
