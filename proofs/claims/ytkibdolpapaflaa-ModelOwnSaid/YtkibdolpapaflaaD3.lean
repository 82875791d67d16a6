import Derived.Test.YtkibdolpapaflaaD2
namespace Go.Proofs.Ytkibdolpapaflaa
open Go.RowKit

theorem rd_nil (w : World) (k : Nat) : Rd w (.slice none 0 0) k 0 [] := ⟨by simp, .inl ⟨rfl, none, 0, rfl⟩⟩

theorem onlyRd {w : World} {s : Value} {n : Nat} {zs : List Int} (h : Rd w s 1 n zs) : ∀ i, i < 5 → Rd w (onlyV 1 s i) (esz i) (onlyN 1 n i) (onlyZ 1 zs i) := by
  intro i hi
  by_cases h1 : i = 1
  · subst h1; exact h
  · simp only [onlyV, onlyN, onlyZ, if_neg h1]; exact rd_nil _ _

set_option maxRecDepth 20000 in
set_option maxHeartbeats 2000000 in
theorem awake12 (w : World) : Calls Try.prog 12 #[] w fun e w' => e = .returned (.bool true) ∧ Below w.heap.size w w' := by
  have hrd : Rd (w.alloc (.cells #[.int .i64 5] 3)) (.slice (some ⟨w.heap.size, 0, none⟩) 1 1) 1 1 [5] := (Own.lit (base := 0) w #[.int .i64 5] 3 1 1 [5] (by omega) (by omega) (by simp [maxLen]) rfl rfl).rd
  have hD := do7 (w.alloc (.cells #[.int .i64 5] 3)) (onlyV 1 (.slice (some ⟨w.heap.size, 0, none⟩) 1 1)) (onlyN 1 1) (onlyZ 1 [5]) 30 6 0 2 (by omega) (by omega) rfl (onlyRd hrd)
    (fun i hi => by unfold esz onlyN; split <;> split <;> omega) ⟨by decide, fun i hi => by simp [onlyN] at hi, fun i hi => by simp [onlyN] at hi⟩
  have HD := Lib.hid hD
  clear hD hrd
  go_enter Try.func12, Try.ntmps12
  go_wp2_with fail
  refine HD.out.mono ?_
  rintro e w1 ⟨u, n', z', ak, av, rfl, hC, hn, hs, hz, ha, hB⟩
  obtain ⟨rfl, rfl⟩ := (ha rfl).1 rfl
  have hz1 : z' 1 = [6, 5] := (hz rfl).1 rfl
  have HC := Lib.hid hC
  have hall := hC.one
  have hN : n' 1 = 2 := by have := (hC.own 1 (by omega)).1; rw [hz1] at this; simp [esz] at this; omega
  have o1 := hC.own 1 (by omega)
  rw [hz1, hN] at o1
  obtain ⟨b, off, c, u1, hb1⟩ : ∃ b off c, u 1 = .slice (some ⟨b, off, none⟩) 2 c ∧ ∀ (j : Nat) (zz : Int), [6, 5][j]? = some zz → w1.cell? ⟨b, off + j, none⟩ = some (.int .i64 zz) := by
    rcases o1.rd.2 with ⟨h0, _⟩ | h
    · omega
    · exact h
  have e6 := hb1 0 6 rfl
  have e5 := hb1 1 5 rfl
  have hm : MayP n' z' := ⟨by rw [(hs 0 (by omega) (by omega)).1]; decide, fun i hi => by rw [(hs 3 (by omega) (by omega)).1] at hi; simp [onlyN] at hi, fun i hi => by rw [(hs 4 (by omega) (by omega)).1] at hi; simp [onlyN] at hi⟩
  have hb2 : ∀ i, i < 5 → (n' i + 1) * (8 * esz i) ≤ 140737488355328 := by
    intro i hi
    by_cases h1 : i = 1
    · subst h1; rw [hN]; decide
    · rw [(hs i hi (by omega)).1]; simp only [onlyN, if_neg h1]; unfold esz; split <;> omega
  have HM := Lib.hid hm
  have HB2 := Lib.hid hb2
  have HZ := Lib.hid hz1
  have HU := Lib.hid u1
  have HB := Lib.hid (((Below.refl _ _).alloc (Nat.le_refl _) _).trans (hB.mono (by simp)) : Below w.heap.size w w1)
  clear hm hb2 hz1 hC hB hz ha hs hn hb1 o1 hN HD u1
  obtain ⟨g1, g2, gB, gz⟩ := box2 (Below.refl (w1.heap.size + 2) ((w1.alloc (.cells #[.slice none 0 0, .slice none 0 0, .slice none 0 0, .slice none 0 0, .slice none 0 0] 25)).alloc (.cells #[.int .i64 0, .int .i64 0] 33))) (Nat.le_refl _)
  have hallA : (#[.int .i64 1, .int .i64 0] : Array Value).all (·.oneCell') = true := by simp [Value.oneCell']
  have g3 := (setRow_other ((w1.alloc (.cells #[.slice none 0 0, .slice none 0 0, .slice none 0 0, .slice none 0 0, .slice none 0 0] 25)).alloc (.cells #[.int .i64 0, .int .i64 0] 33)) w1.heap.size (w1.heap.size + 1) #[u 0, u 1, u 2, u 3, u 4] (by omega)).trans g2
  have g4 := setRow_heap _ w1.heap.size _ #[u 0, u 1, u 2, u 3, u 4] _ _ g1
  have g5 := (setRow_other (((w1.alloc (.cells #[.slice none 0 0, .slice none 0 0, .slice none 0 0, .slice none 0 0, .slice none 0 0] 25)).alloc (.cells #[.int .i64 0, .int .i64 0] 33)).setRow w1.heap.size #[u 0, u 1, u 2, u 3, u 4]) (w1.heap.size + 1) w1.heap.size #[.int .i64 1, .int .i64 0] (by omega)).trans g4
  have g7 := setRow_heap _ (w1.heap.size + 1) _ #[.int .i64 1, .int .i64 0] _ _ g3
  have g6 : Below w1.heap.size w1 ((((w1.alloc (.cells #[.slice none 0 0, .slice none 0 0, .slice none 0 0, .slice none 0 0, .slice none 0 0] 25)).alloc (.cells #[.int .i64 0, .int .i64 0] 33)).setRow w1.heap.size #[u 0, u 1, u 2, u 3, u 4]).setRow (w1.heap.size + 1) #[.int .i64 1, .int .i64 0]) := below_setRow (below_setRow gB (Nat.le_refl _) _) (by omega) _
  obtain ⟨Y, hY⟩ : ∃ Y, Y = (((w1.alloc (.cells #[.slice none 0 0, .slice none 0 0, .slice none 0 0, .slice none 0 0, .slice none 0 0] 25)).alloc (.cells #[.int .i64 0, .int .i64 0] 33)).setRow w1.heap.size #[u 0, u 1, u 2, u 3, u 4]).setRow (w1.heap.size + 1) #[.int .i64 1, .int .i64 0] := ⟨_, rfl⟩
  rw [← hY] at g5 g6 g7
  have HY := Lib.hid hY
  have y0 := cell_facts g5 0 _ rfl
  have y1 := cell_facts g5 1 _ rfl
  have y2 := cell_facts g5 2 _ rfl
  have y3 := cell_facts g5 3 _ rfl
  have y4 := cell_facts g5 4 _ rfl
  have a0 := cell_facts g7 0 _ rfl
  have a1 := cell_facts g7 1 _ rfl
  have e6' := below_keeps g6 _ _ e6
  have e5' := below_keeps g6 _ _ e5
  rw [Nat.add_zero] at e6'
  have G5 := Lib.hid g5
  have G7 := Lib.hid g7
  have G6 := Lib.hid g6
  have hYz : w1.heap.size + 1 < Y.heap.size := (Array.getElem?_eq_some_iff.1 g7).1
  clear hY g4 g5 g6 g7 gB gz g2 e6 e5
  go_wp2_with (first | (refine wpList_store_row rfl 25 (.tmp 1) (.tmp 8) rfl w1.heap.size #[u 0, u 1, u 2, u 3, u 4] rfl rfl 25 _ g1 (by kernel_rfl) rfl hall ?_) | (refine wpList_store_row rfl 33 (.tmp 2) (.tmp 9) rfl (w1.heap.size + 1) #[.int .i64 1, .int .i64 0] rfl rfl 33 _ g3 (by kernel_rfl) rfl hallA ?_; rw [← HY.out]; clear g1 g3; rw [HU.out] at y1))
  rw [← HU.out]
  refine (do7 Y u n' z' 31 0 0 2 (by omega) (by omega) rfl (fun i hi => (HC.out.own i hi).rd.below G6.out) HB2.out HM.out).mono ?_
  rintro e w2 ⟨u', n2, z2, ak, av, rfl, hC2, hn2, hs2, hz2, ha2, hB2⟩
  obtain ⟨rfl, rfl⟩ := (ha2 rfl).2 (by omega) 6 [5] HZ.out
  have hz21 : z2 1 = [5] := (hz2 rfl).2 (by omega) 6 [5] HZ.out
  have hall' := hC2.one
  have hN2 : n2 1 = 1 := by have := (hC2.own 1 (by omega)).1; rw [hz21] at this; simp [esz] at this; omega
  have o1 := hC2.own 1 (by omega)
  rw [hz21, hN2] at o1
  obtain ⟨b', off', c', u1', hb1'⟩ : ∃ b off c, u' 1 = .slice (some ⟨b, off, none⟩) 1 c ∧ ∀ (j : Nat) (zz : Int), [5][j]? = some zz → w2.cell? ⟨b, off + j, none⟩ = some (.int .i64 zz) := by
    rcases o1.rd.2 with ⟨h0, _⟩ | h
    · omega
    · exact h
  have f5 := hb1' 0 5 rfl
  rw [Nat.add_zero] at f5
  have hlt : b' < w2.heap.size ∧ Y.heap.size ≤ b' := by
    have := o1.lt b' (by rw [u1']; rcases o1.2 with ⟨h0, _⟩ | ⟨g, cap, cur, e, h0, _⟩
                         · omega
                         · rw [u1'] at e
                           cases e
                           rcases c' with _ | k
                           · omega
                           · rfl)
    exact ⟨this.2, this.1⟩
  have G5' := (hB2.block _ (by omega)).trans G5.out
  have G7' := (hB2.block _ (by omega)).trans G7.out
  have hallB : (#[.int .i64 2, .int .i64 6] : Array Value).all (·.oneCell') = true := by simp [Value.oneCell']
  have k1 := (setRow_other w2 w1.heap.size (w1.heap.size + 1) #[u' 0, u' 1, u' 2, u' 3, u' 4] (by omega)).trans G7'
  have k2 := setRow_heap w2 w1.heap.size _ #[u' 0, u' 1, u' 2, u' 3, u' 4] _ _ G5'
  have k3 := (setRow_other (w2.setRow w1.heap.size #[u' 0, u' 1, u' 2, u' 3, u' 4]) (w1.heap.size + 1) w1.heap.size #[.int .i64 2, .int .i64 6] (by omega)).trans k2
  have k4 := setRow_heap _ (w1.heap.size + 1) _ #[.int .i64 2, .int .i64 6] _ _ k1
  have f5' : ((w2.setRow w1.heap.size #[u' 0, u' 1, u' 2, u' 3, u' 4]).setRow (w1.heap.size + 1) #[.int .i64 2, .int .i64 6]).cell? ⟨b', off', none⟩ = some (.int .i64 5) := by
    obtain ⟨g, cs, hg⟩ : ∃ cs t fr, w2.heap[b']? = some (.cells cs t fr) := by
      rcases o1.2 with ⟨h0, _⟩ | ⟨g, cap, cur, e, h0, _, hh, _⟩
      · omega
      · rw [u1'] at e; cases e; exact ⟨_, _, _, hh⟩
    obtain ⟨fr, hg⟩ := hg
    rw [cell_of_row w2 b' off' _ _ _ hg] at f5
    rw [cell_of_row _ b' off' _ _ _ ((setRow_other _ _ _ _ (by omega)).trans ((setRow_other _ _ _ _ (by omega)).trans hg))]
    exact f5
  have bb : Below w.heap.size w ((w2.setRow w1.heap.size #[u' 0, u' 1, u' 2, u' 3, u' 4]).setRow (w1.heap.size + 1) #[.int .i64 2, .int .i64 6]) :=
    below_setRow (below_setRow (HB.out.trans ((G6.out.mono (by have := HB.out.size; omega)).trans (hB2.mono (by have := HB.out.size; omega)))) (by have := HB.out.size; omega) _) (by have := HB.out.size; omega) _
  obtain ⟨Y2, hY2⟩ : ∃ Y2, Y2 = (w2.setRow w1.heap.size #[u' 0, u' 1, u' 2, u' 3, u' 4]).setRow (w1.heap.size + 1) #[.int .i64 2, .int .i64 6] := ⟨_, rfl⟩
  rw [← hY2] at k3 k4 f5' bb
  have HY2 := Lib.hid hY2
  have q1 := cell_facts k3 1 _ rfl
  have r0 := cell_facts k4 0 _ rfl
  have r1 := cell_facts k4 1 _ rfl
  have HU' := Lib.hid u1'
  have BB := Lib.hid bb
  clear hY2 k2 k3 k4 f5 u1' hb1' bb o1 hz2 ha2 hs2 hn2 hC2 hB2 hz21 hN2 hlt y0 y1 y2 y3 y4 a0 a1 e6' e5' G5 G7
  go_wp2_with (first | (refine wpList_store_row rfl 25 (.tmp 1) (.tmp 41) rfl w1.heap.size #[u' 0, u' 1, u' 2, u' 3, u' 4] rfl rfl 25 _ G5' (by kernel_rfl) rfl hall' ?_; clear G5') | (refine wpList_store_row rfl 33 (.tmp 2) (.tmp 42) rfl (w1.heap.size + 1) #[.int .i64 2, .int .i64 6] rfl rfl 33 _ k1 (by kernel_rfl) rfl hallB ?_; rw [← HY2.out]; clear k1; rw [HU'.out] at q1))
  go_ret
  exact ⟨rfl, BB.out⟩
end Go.Proofs.Ytkibdolpapaflaa
