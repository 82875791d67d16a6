import Derived.Test.YtkibdolpapaflaaB7
namespace Go.Proofs.Ytkibdolpapaflaa
open Go.RowKit

set_option maxRecDepth 20000 in
set_option maxHeartbeats 800000 in
theorem do49 (w : World) (b : Nat) (ad : Addr) (n c : Nat) (zs : List Int) (op arg data : Int) (hown : Own w b 3 1 (.slice (some ad) n c) n zs) (hb : b ≤ w.heap.size) (hsz : (n + 1) * 8 ≤ 140737488355328) :
    Calls Try.prog 49 #[.slice (some ad) n c, .int .i64 op, .int .i64 arg, .int .i64 data] w fun e w' => DoPost 70 3 1 b n (.slice (some ad) n c) (fun _ _ _ => True) w e w' := by
  obtain ⟨i0, hi, hz, hs, hby⟩ := info_parts Try.info3
  have HO := Lib.hid hown
  clear hown
  by_cases hop : op = 40
  · subst hop
    have HR : Hid (Rd (w.alloc (.cells #[.int .i64 0, .int .i64 0] 33)) (.slice (some ad) n c) 1 n zs) := HO.out.rd.below ((Below.refl _ _).alloc (Nat.le_refl _) _)
    go_enter Try.func49, Try.ntmps49
    go_wp2_with fail
    refine (clone51 _ _ _ _ zs HR.out (by omega)).mono ?_
    rintro e w1 ⟨v1, rfl, hO1, ⟨ad1, c1, rfl⟩, hB1⟩
    have HO1 : Hid (Own (w1.alloc (.cells #[.int .i64 arg] 3)) (w.heap.size + 1) 3 1 (.slice (some ad1) n c1) n zs) := (hO1.mono (by simp)).alloc _
    have HL : Hid (Own (w1.alloc (.cells #[.int .i64 arg] 3)) (w.heap.size + 1) 3 1 (.slice (some ⟨w1.heap.size, 0, none⟩) 1 1) 1 [arg]) := Own.lit w1 #[.int .i64 arg] 3 1 1 [arg] (by have := hB1.size; simpa using this) (by omega) (by simp [maxLen]) (by simp) rfl
    have hz1 : w.heap.size + 1 ≤ w1.heap.size := by have := hB1.size; simpa using this
    have HB1 : Hid (Below (w.heap.size + 1) (w.alloc (.cells #[.int .i64 0, .int .i64 0] 33)) (w1.alloc (.cells #[.int .i64 arg] 3))) := (hB1.mono (by simp)).alloc hz1 _
    clear hO1 hB1
    go_wp2_with (refine wpList_app rfl (.tmp 13) (.tmp 15) 70 70 rfl (w.heap.size + 1) 3 3 i0 (.int .i64 0) 1 8 Try.underlying70 Try.underlying70 hi hz hs hby rfl (.slice (some ad1) n c1) n zs rfl HO1.out (.slice (some ⟨w1.heap.size, 0, none⟩) 1 1) 1 [arg] rfl HL.out.rd (by unfold maxLen; omega) (by omega) (by simp; omega) ?_; intro v' w2 hO hg hne; obtain ⟨ad', c', rfl⟩ := hO.addr (hne (by simp)); have HO2 := Lib.hid hO; have HG := Lib.hid hg; clear hO hg hne)
    have hB2 := HB1.out.trans (grown_below (B := w.heap.size + 1) HG.out (by simp; omega) (fun k hk => (HO1.out.lt k hk).1))
    refine (told_any _ _).mono ?_
    rintro e w3 ⟨rfl, hB3⟩
    have hB4 := hB2.trans (hB3.mono (by have := hB2.size; simpa using this))
    obtain ⟨h0, hBw, hz⟩ := box1h hB4 (Nat.le_refl _)
    have hf : Own (w3.setRow w.heap.size #[.int .i64 1, .int .i64 0]) w.heap.size 3 1 (.slice (some ad') (n + 1) c') (n + 1) (zs ++ [arg]) := ((HO2.out.below hB3).of_block fun k hk => setRow_other _ _ _ _ (by have := (HO2.out.lt k hk).1; omega)).mono (by omega)
    have HF := Lib.hid hf
    have HB := Lib.hid hBw
    clear hB2 hB3 hB4 hBw hf
    have c0 := setRow_cells (cs := #[.int .i64 1, .int .i64 0]) h0 0 _ rfl
    have c1 := setRow_cells (cs := #[.int .i64 1, .int .i64 0]) h0 1 _ rfl
    have hall : (#[.int .i64 1, .int .i64 0] : Array Value).all (·.oneCell') = true := by simp [Value.oneCell']
    go_wp2_with (refine wpList_store_row rfl 33 (.tmp 9) (.tmp 18) rfl w.heap.size #[.int .i64 1, .int .i64 0] rfl rfl 33 _ h0 (by kernel_rfl) rfl hall ?_)
    exact bodyPost_ret (v := .tuple #[.iface 70 (.slice (some ad') (n + 1) c'), .agg #[.int .i64 1, .int .i64 0]]) (by simp [results, Try.results49, go_sem, c0, c1]) rfl (DoPost.new HF.out hb (by omega) (below_setRow HB.out (Nat.le_refl _) _) trivial)
  · have hopb : (op == 40) = false := by simpa using hop
    by_cases hn : n = 0
    · subst hn
      go_enter Try.func49, Try.ntmps49
      go_wp2_with fail
      refine (told_any _ _).mono ?_
      rintro e w2 ⟨rfl, hB2⟩
      obtain ⟨h0, hBw, hz⟩ := box1h hB2 (by simp)
      have HB := Lib.hid hBw
      clear hB2 hBw
      have c0 := setRow_cells (cs := #[.int .i64 3, .int .i64 0]) h0 0 _ rfl
      have c1 := setRow_cells (cs := #[.int .i64 3, .int .i64 0]) h0 1 _ rfl
      have hall : (#[.int .i64 3, .int .i64 0] : Array Value).all (·.oneCell') = true := by simp [Value.oneCell']
      go_wp2_with (refine wpList_store_row rfl 33 (.tmp 9) (.tmp 24) rfl w.heap.size #[.int .i64 3, .int .i64 0] rfl rfl 33 _ h0 (by kernel_rfl) rfl hall ?_)
      refine bodyPost_ret (v := .tuple #[.iface 70 (.slice (some ad) 0 c), .agg #[.int .i64 3, .int .i64 0]]) (by simp [results, Try.results49, go_sem, c0, c1]) rfl (DoPost.same HO.out (below_setRow HB.out (Nat.le_refl _) _) trivial)
    · obtain ⟨g, cap, e, h0, hbg, hgl, hnc, hc1, hrow⟩ := HO.out.row (by omega)
      cases e
      unfold maxLen at hc1
      obtain ⟨x, r, hzs⟩ : ∃ x r, zs = x :: r := by
        cases zs with
        | nil => have := HO.out.1; simp at this; omega
        | cons x r => exact ⟨x, r, rfl⟩
      subst hzs
      have hat : ∀ j z, (x :: r)[j]? = some z → w.cell? ⟨g, j, none⟩ = some (.int .i64 z) := by
        intro j z hj
        rcases HO.out.rd.2 with ⟨h, _⟩ | ⟨b', off, c', e, hc⟩
        · omega
        · cases e; simpa using hc j z hj
      have hx : w.cell? ⟨g, 0, none⟩ = some (.int .i64 x) := hat 0 x rfl
      have hrl : r.length = n - 1 := by have := HO.out.1; simp at this; omega
      have HAT := Lib.hid hat
      clear hat hrow
      by_cases hc : c = 1
      · have hn1 : n = 1 := by omega
        subst hc
        subst hn1
        obtain rfl : r = [] := List.eq_nil_of_length_eq_zero (by omega)
        have hrd : Rd w (.slice (some ⟨g, 0, none⟩) 0 0) 1 0 [] := ⟨by omega, .inl ⟨rfl, _, _, rfl⟩⟩
        have HRD := Lib.hid hrd
        have HRL := Lib.hid hrl
        clear hrd hrl
        go_enter Try.func49, Try.ntmps49
        go_wp2_with fail
        have HX0 : ∀ ws, Below (w.heap.size + 1) (w.alloc (.cells #[.int .i64 0, .int .i64 0] 33)) ws → ws.cell? ⟨g, 0, none⟩ = some (.int .i64 x) := fun ws hB => (box1 hB).2.1 _ _ hx
        have hB0 : Below (w.heap.size + 1) (w.alloc (.cells #[.int .i64 0, .int .i64 0] 33)) (w.alloc (.cells #[.int .i64 0, .int .i64 0] 33)).drew := (Below.refl _ _).drew
        have HX := Lib.hid HX0
        have HB0 := Lib.hid hB0
        clear HX0 hB0
        go_region_held3 (fun ws : World => ws.cell? ⟨g, 0, none⟩ = some (.int .i64 x)) (first | exact HX.out _ HB2.out | exact HX.out _ HB1.out | exact HX.out _ HB0.out | exact (cell_set_ne hgn _).trans ((cell_set_ne hgn _).trans (HX.out _ HB2.out))) (first | (go_at_call 51; refine (clone51 _ _ _ _ [] (HRD.out.below ((Below.refl _ _).alloc (Nat.le_refl _) _).drew) (by omega)).mono ?_; rintro e w1 ⟨v', rfl, hO, ⟨ad', c', rfl⟩, hB⟩; have HB1 := Lib.hid (HB0.out.trans (hB.mono (by simp))); have HO1 := Lib.hid hO; clear hO hB) | (go_at_call 45; refine (value_any _ _).mono ?_; rintro e w2 ⟨rfl, hB⟩; have HB2 := Lib.hid (HB1.out.trans (hB.mono (by have := HB1.out.size; simpa using this))); have HO2 := Lib.hid (HO1.out.below hB); obtain ⟨h0, _, _⟩ := box1h HB2.out (Nat.le_refl _); have e0 := cell_facts h0 0 _ rfl; have e1 := cell_facts h0 1 _ rfl; have f0 := frozen_row h0 0; have f1 := frozen_row h0 1; have HH0 := Lib.hid h0; have hx2 := HX.out _ HB2.out; have hgn : ¬ (g = w.heap.size) := (by omega); clear hB h0))
        clear hx
        go_wp2
        obtain ⟨hn0, hno⟩ := set2 HH0.out (.int .i64 2) (.int .i64 x)
        have c0 := cell_facts hn0 0 _ rfl
        have c1 := cell_facts hn0 1 _ rfl
        have hBf : Below w.heap.size w ((w2.setCell ⟨w.heap.size, 0, none⟩ (.int .i64 2)).setCell ⟨w.heap.size, 1, none⟩ (.int .i64 x)) := ((((Below.refl _ _).alloc (Nat.le_refl _) _).trans (HB2.out.mono (by omega))).setCell (Nat.le_refl _) _).setCell (Nat.le_refl _) _
        refine bodyPost_ret (v := .tuple #[.iface 70 (.slice (some ad') 0 c'), .agg #[.int .i64 2, .int .i64 x]]) (by simp [results, Try.results49, go_sem, c0, c1]) rfl (DoPost.new ((HO2.out.of_block fun k hk => hno k (by have := (HO2.out.lt k hk).1; simp at this; omega)).mono (by simp)) hb (by omega) hBf trivial)
      · have hrd : Rd w (.slice (some ⟨g, 1, none⟩) (n - 1) (c - 1)) 1 (n - 1) r := ⟨by omega, .inr ⟨g, 1, c - 1, rfl, fun j z hj => by rw [Nat.add_comm 1 j]; exact HAT.out (j + 1) z (by simpa using hj)⟩⟩
        have HRD := Lib.hid hrd
        have HRL := Lib.hid hrl
        clear hrd hrl
        have q1 : (1 : Int) ≤ n := by omega
        have q2 : ¬ (c = 1) := hc
        have q3 : (0 : Int) < n := by omega
        have q4 : 0 < n := by omega
        go_enter Try.func49, Try.ntmps49
        go_wp2_with fail
        have HX0 : ∀ ws, Below (w.heap.size + 1) (w.alloc (.cells #[.int .i64 0, .int .i64 0] 33)) ws → ws.cell? ⟨g, 0, none⟩ = some (.int .i64 x) := fun ws hB => (box1 hB).2.1 _ _ hx
        have hB0 : Below (w.heap.size + 1) (w.alloc (.cells #[.int .i64 0, .int .i64 0] 33)) (w.alloc (.cells #[.int .i64 0, .int .i64 0] 33)).drew := (Below.refl _ _).drew
        have HX := Lib.hid HX0
        have HB0 := Lib.hid hB0
        clear HX0 hB0
        go_region_held3 (fun ws : World => ws.cell? ⟨g, 0, none⟩ = some (.int .i64 x)) (first | exact HX.out _ HB2.out | exact HX.out _ HB1.out | exact HX.out _ HB0.out | exact (cell_set_ne hgn _).trans ((cell_set_ne hgn _).trans (HX.out _ HB2.out))) (first | (go_at_call 51; refine (clone51 _ _ _ _ r (HRD.out.below ((Below.refl _ _).alloc (Nat.le_refl _) _).drew) (by omega)).mono ?_; rintro e w1 ⟨v', rfl, hO, ⟨ad', c', rfl⟩, hB⟩; have HB1 := Lib.hid (HB0.out.trans (hB.mono (by simp))); have HO1 := Lib.hid hO; clear hO hB) | (go_at_call 45; refine (value_any _ _).mono ?_; rintro e w2 ⟨rfl, hB⟩; have HB2 := Lib.hid (HB1.out.trans (hB.mono (by have := HB1.out.size; simpa using this))); have HO2 := Lib.hid (HO1.out.below hB); obtain ⟨h0, _, _⟩ := box1h HB2.out (Nat.le_refl _); have e0 := cell_facts h0 0 _ rfl; have e1 := cell_facts h0 1 _ rfl; have f0 := frozen_row h0 0; have f1 := frozen_row h0 1; have HH0 := Lib.hid h0; have hx2 := HX.out _ HB2.out; have hgn : ¬ (g = w.heap.size) := (by omega); clear hB h0))
        clear hx
        go_wp2
        obtain ⟨hn0, hno⟩ := set2 HH0.out (.int .i64 2) (.int .i64 x)
        have c0 := cell_facts hn0 0 _ rfl
        have c1 := cell_facts hn0 1 _ rfl
        have hBf : Below w.heap.size w ((w2.setCell ⟨w.heap.size, 0, none⟩ (.int .i64 2)).setCell ⟨w.heap.size, 1, none⟩ (.int .i64 x)) := ((((Below.refl _ _).alloc (Nat.le_refl _) _).trans (HB2.out.mono (by omega))).setCell (Nat.le_refl _) _).setCell (Nat.le_refl _) _
        refine bodyPost_ret (v := .tuple #[.iface 70 (.slice (some ad') (n - 1) c'), .agg #[.int .i64 2, .int .i64 x]]) (by simp [results, Try.results49, go_sem, c0, c1]) rfl (DoPost.new ((HO2.out.of_block fun k hk => hno k (by have := (HO2.out.lt k hk).1; simp at this; omega)).mono (by simp)) hb (by omega) hBf trivial)

set_option maxRecDepth 20000 in
set_option maxHeartbeats 800000 in
theorem do42 (w : World) (b : Nat) (ad : Addr) (n c : Nat) (zs : List Int) (op arg data : Int) (hown : Own w b 3 1 (.slice (some ad) n c) n zs) (hb : b ≤ w.heap.size) :
    Calls Try.prog 42 #[.slice (some ad) n c, .int .i64 op, .int .i64 arg, .int .i64 data] w fun e w' => DoPost 68 3 1 b n (.slice (some ad) n c) (fun _ _ _ => True) w e w' := by
  have HO := Lib.hid hown
  clear hown
  by_cases hop : op = 22
  · subst hop
    have hL := Own.lit (base := w.heap.size + 1) (w.alloc (.cells #[.int .i64 0, .int .i64 0] 33)) #[.int .i64 arg] 3 1 1 [arg] (by simp) (by omega) (by simp [maxLen]) (by simp) rfl
    have hL' : Own ((w.alloc (.cells #[.int .i64 0, .int .i64 0] 33)).alloc (.cells #[.int .i64 arg] 3)) (w.heap.size + 1) 3 1 (.slice (some ⟨w.heap.size + 1, 0, none⟩) 1 1) 1 [arg] := by simpa using hL
    have HL := Lib.hid hL'
    clear hL hL'
    go_enter Try.func42, Try.ntmps42
    go_wp2_with fail
    refine (told_any _ _).mono ?_
    rintro e w1 ⟨rfl, hB⟩
    have hB4 := ((Below.refl (w.heap.size + 1) (w.alloc (.cells #[.int .i64 0, .int .i64 0] 33))).alloc (by simp) (.cells #[.int .i64 arg] 3)).trans (hB.mono (by simp))
    obtain ⟨h0, hBw, hz⟩ := box1h hB4 (Nat.le_refl _)
    have hf : Own (w1.setRow w.heap.size #[.int .i64 1, .int .i64 0]) w.heap.size 3 1 (.slice (some ⟨w.heap.size + 1, 0, none⟩) 1 1) 1 [arg] := ((HL.out.below hB).of_block fun k hk => setRow_other _ _ _ _ (by have := (HL.out.lt k hk).1; omega)).mono (by omega)
    have HF := Lib.hid hf
    have HB := Lib.hid hBw
    clear hB hB4 hBw hf
    have c0 := setRow_cells (cs := #[.int .i64 1, .int .i64 0]) h0 0 _ rfl
    have c1 := setRow_cells (cs := #[.int .i64 1, .int .i64 0]) h0 1 _ rfl
    have hall : (#[.int .i64 1, .int .i64 0] : Array Value).all (·.oneCell') = true := by simp [Value.oneCell']
    go_wp2_with (refine wpList_store_row rfl 33 (.tmp 9) (.tmp 15) rfl w.heap.size #[.int .i64 1, .int .i64 0] rfl rfl 33 _ h0 (by kernel_rfl) rfl hall ?_)
    exact bodyPost_ret (v := .tuple #[.iface 68 (.slice (some ⟨w.heap.size + 1, 0, none⟩) 1 1), .agg #[.int .i64 1, .int .i64 0]]) (by simp [results, Try.results42, go_sem, c0, c1]) rfl (DoPost.new HF.out hb (by omega) (below_setRow HB.out (Nat.le_refl _) _) trivial)
  · have hopb : (op == 22) = false := by simpa using hop
    by_cases hn : n = 0
    · subst hn
      go_enter Try.func42, Try.ntmps42
      go_wp2_with fail
      refine (told_any _ _).mono ?_
      rintro e w2 ⟨rfl, hB2⟩
      obtain ⟨h0, hBw, hz⟩ := box1h hB2 (by simp)
      have HB := Lib.hid hBw
      clear hB2 hBw
      have c0 := setRow_cells (cs := #[.int .i64 3, .int .i64 0]) h0 0 _ rfl
      have c1 := setRow_cells (cs := #[.int .i64 3, .int .i64 0]) h0 1 _ rfl
      have hall : (#[.int .i64 3, .int .i64 0] : Array Value).all (·.oneCell') = true := by simp [Value.oneCell']
      go_wp2_with (refine wpList_store_row rfl 33 (.tmp 9) (.tmp 21) rfl w.heap.size #[.int .i64 3, .int .i64 0] rfl rfl 33 _ h0 (by kernel_rfl) rfl hall ?_)
      exact bodyPost_ret (v := .tuple #[.iface 68 (.slice (some ad) 0 c), .agg #[.int .i64 3, .int .i64 0]]) (by simp [results, Try.results42, go_sem, c0, c1]) rfl (DoPost.same HO.out (below_setRow HB.out (Nat.le_refl _) _) trivial)
    · obtain ⟨g, cap, e, h0, hbg, hgl, hnc, hc1, hrow⟩ := HO.out.row (by omega)
      cases e
      obtain ⟨x, hx⟩ := hrow.cell 0 (by omega)
      have hx1 : (w.alloc (.cells #[.int .i64 0, .int .i64 0] 33)).cell? ⟨g, 0, none⟩ = some (.int .i64 x) := below_keeps ((Below.refl _ _).alloc (Nat.le_refl _) _) _ _ hx
      have q4 : 0 < n := by omega
      clear hrow hx hc1
      go_enter Try.func42, Try.ntmps42
      go_wp2_with fail
      refine (value_any _ _).mono ?_
      rintro e w2 ⟨rfl, hB2⟩
      obtain ⟨h0, hBw, hz⟩ := box1h hB2 (by simp)
      have HB := Lib.hid hBw
      clear hB2 hBw hx1
      have c0 := setRow_cells (cs := #[.int .i64 2, .int .i64 x]) h0 0 _ rfl
      have c1 := setRow_cells (cs := #[.int .i64 2, .int .i64 x]) h0 1 _ rfl
      have hall : (#[.int .i64 2, .int .i64 x] : Array Value).all (·.oneCell') = true := by simp [Value.oneCell']
      go_wp2_with (refine wpList_store_row rfl 33 (.tmp 9) (.tmp 27) rfl w.heap.size #[.int .i64 2, .int .i64 x] rfl rfl 33 _ h0 (by kernel_rfl) rfl hall ?_)
      exact bodyPost_ret (v := .tuple #[.iface 68 (.slice (some ⟨g, 0, none⟩) n c), .agg #[.int .i64 2, .int .i64 x]]) (by simp [results, Try.results42, go_sem, c0, c1]) rfl (DoPost.same HO.out (below_setRow HB.out (Nat.le_refl _) _) trivial)
end Go.Proofs.Ytkibdolpapaflaa

