import Derived.Test.YtkibdolpapaflaaD4b
namespace Go.Proofs.Ytkibdolpapaflaa
open Go.RowKit

/-- The two blocks that 'spoil' lays, and its marks. -/
structure Sp (w : World) (b : Nat) (u : Nat → Value) (n : Nat → Nat) (z : Nat → List Int) (wr : World) : Prop where
  box : wr.heap[w.heap.size]? = some (.cells #[u 0, u 1, u 2, u 3, u 4] 25 (0, 0))
  lists : wr.heap[w.heap.size + 1]? = some (.cells #[u 0, u 1, u 2, u 3] 22 (0, 0))
  own : COwn wr b u n z
  fr : Fr u w wr

theorem Sp.set {w : World} {b : Nat} {u : Nat → Value} {n : Nat → Nat} {z : Nat → List Int} {wr : World} (h : Sp w b u n z wr) {i g : Nat} (hi : i < 5) (hg : blk (u i) = some g) (hlt : g < w.heap.size) {j : Nat} (hj : j < n i * esz i) (y : Int) :
    Sp w b u n (updZ i ((z i).set j y) z) (wr.setCell ⟨g, j, none⟩ (.int .i64 y)) :=
  ⟨(Below.heap_setCell _ _ _ _ (by simp; omega)).trans h.box, (Below.heap_setCell _ _ _ _ (by simp; omega)).trans h.lists, h.own.set hi hg hj y, h.fr.setCell hi hg _⟩

def SpoilPost (w : World) (u : Nat → Value) (n : Nat → Nat) (m : Nat) (e : Ending) (w' : World) : Prop :=
  (∃ v, e = .returned v) ∧ (∃ z : Nat → List Int, (∀ i, i < 5 → Rd w' (u i) (esz i) (n i) (z i)) ∧ MarkedTo n z m 4 0 ∧ TableTo n z m (n 4)) ∧ Fr u w w'

theorem Sp.gr {w : World} {b : Nat} {u : Nat → Value} {n : Nat → Nat} {z : Nat → List Int} {wr : World} (h : Sp w b u n z wr) : Gr w u n z u (fun _ => 0) wr :=
  ⟨fun i hi => ⟨[], by rw [List.append_nil]; exact (h.own.own i hi).mono (Nat.zero_le _)⟩, h.own.apart, fun i hi => (h.own.own i hi).rd, fun _ _ => .inl rfl, h.fr, by have := (Array.getElem?_eq_some_iff.1 h.lists).1; omega⟩

set_option maxRecDepth 20000 in
set_option maxHeartbeats 2000000 in
theorem spoil13 (w : World) (b : Nat) (u : Nat → Value) (n : Nat → Nat) (z : Nat → List Int) (m : Nat) (hm : 1000 ≤ m ∧ m ≤ 6000) (hown : COwn w b u n z) (hb : ∀ i, i < 5 → (n i + 21) * (8 * esz i) ≤ 140737488355328) :
    Calls Try.prog 13 #[.agg #[u 0, u 1, u 2, u 3, u 4], .int .i64 m] w fun e w' => SpoilPost w u n m e w' := by
  have hlt : ∀ i, i < 5 → ∀ k, blk (u i) = some k → k < w.heap.size := fun i hi k hk => ((hown.own i hi).lt k hk).2
  have HLT := Lib.hid hlt
  have HOWN := Lib.hid hown
  have HBD := Lib.hid hb
  have W0 : Below w.heap.size w ((w.alloc (.cells #[u 0, u 1, u 2, u 3, u 4] 25)).alloc (.cells #[u 0, u 1, u 2, u 3] 22)) := ((Below.refl _ _).alloc (Nat.le_refl _) _).alloc (by simp) _
  have S0 : Sp w b u n z ((w.alloc (.cells #[u 0, u 1, u 2, u 3, u 4] 25)).alloc (.cells #[u 0, u 1, u 2, u 3] 22)) := by
    obtain ⟨h0, h1, _, _⟩ := box2 (Below.refl (w.heap.size + 2) ((w.alloc (.cells #[u 0, u 1, u 2, u 3, u 4] 25)).alloc (.cells #[u 0, u 1, u 2, u 3] 22))) (Nat.le_refl _)
    exact ⟨h0, h1, hown.of_block fun k _ hk => W0.block k hk, Fr.of_below W0⟩
  have HS0 := Lib.hid S0
  clear hown hlt hb S0
  have forms : ∀ i, i < 5 → ∃ a c, u i = .slice a (n i) c := fun i hi => (HS0.out.own.own i hi).rd.slice_form
  obtain ⟨a0, c0, e0⟩ := forms 0 (by omega)
  obtain ⟨a1, c1, e1⟩ := forms 1 (by omega)
  obtain ⟨a2, c2, e2⟩ := forms 2 (by omega)
  obtain ⟨a3, c3, e3⟩ := forms 3 (by omega)
  clear forms
  go_enter Try.func13, Try.ntmps13
  go_wp2_with fail
  have E := Lib.hid (And.intro e0 (And.intro e1 (And.intro e2 e3)))
  clear e0 e1 e2 e3
  go_loopw [5] (fun i wr => ∃ (k : Nat) (z' : Nat → List Int), k ≤ 4 ∧ i = .int .i64 k ∧ Sp w b u n z' wr ∧ MarkedTo n z' m k 0) (fun i _ => 4 - (intOf i).toNat)
  case atStart =>
    have hs := HS0.out
    rw [E.out.1, E.out.2.1, E.out.2.2.1, E.out.2.2.2] at hs
    exact ⟨0, z, by omega, rfl, hs, fun i' h => by omega, fun _ j' h => by omega⟩
  case round =>
    obtain ⟨k, z1, hk, rfl, hS, hM⟩ := hrel
    by_cases hlt : k < 4
    · go_wp2_with fail
      obtain ⟨wo, rfl⟩ : ∃ wo : World, wo = wr := ⟨_, rfl⟩
      go_loopw [6] (fun j wr' => ∃ (q : Nat) (z' : Nat → List Int), q ≤ n k ∧ j = .int .i64 q ∧ Sp w b u n z' wr' ∧ MarkedTo n z' m k q) (fun j _ => n k - (intOf j).toNat)
      case atStart => exact ⟨0, z1, by omega, rfl, hS, hM⟩
      case round =>
        obtain ⟨q, z2, hq, rfl, hS2, hM2⟩ := hrel
        have hc := cell_facts hS2.lists k _ (row4 u k hlt)
        obtain ⟨ak, ck, ek⟩ := (hS2.own.own k (by omega)).rd.slice_form
        by_cases hqn : q < n k
        · obtain ⟨g, cap, cur, eg, hbk, hg, hnc, hcm, hcs, htk⟩ := own_blk (hS2.own.own k (by omega)) (by omega)
          rw [eg] at hc
          have hes : esz k = 1 := by unfold esz; split <;> omega
          have hqz : q < (z2 k).length := by have := (hS2.own.own k (by omega)).1; rw [hes] at this; omega
          have hx : wr.cell? ⟨g, q, none⟩ = some (.int .i64 ((z2 k)[q]?.getD 0)) := by
            rw [cell_of_row wr g q _ _ _ hg]
            have hj : (cur.toList.take (n k * esz k))[q]? = some (.int .i64 ((z2 k)[q]?.getD 0)) := by rw [htk]; simp [hqz]
            rw [List.getElem?_take] at hj
            split at hj
            · simpa using hj
            · cases hj
          have hf := own_frozen hg q
          have x1 : IntKind.i64.wrap (10 * (k : Int)) = 10 * (k : Int) := IntWalk.i64_in _ (by omega)
          have x2 : IntKind.i64.wrap ((m : Int) + 10 * (k : Int)) = (m : Int) + 10 * (k : Int) := IntWalk.i64_in _ (by omega)
          have hS3 := hS2.set (by omega) hbk (HLT.out k (by omega) g hbk) (j := q) (by rw [hes]; omega) ((m : Int) + 10 * (k : Int))
          have hM3 := hM2.step hlt hqz
          have HS3 := Lib.hid hS3
          have hN : n k * (8 * esz k) ≤ 140737488355328 := Nat.le_trans (Nat.mul_le_mul_right _ (by omega)) (HBD.out k (by omega))
          rw [hes] at hN
          clear hS3 hS2 hM2 hM hS htk hg ek eg
          go_wp2_with fail
          go_roundw
          case rel => exact ⟨q + 1, _, by omega, by go_num, HS3.out, hM3⟩
          case measure => simp [intOf]; omega
        · rw [ek] at hc
          go_wp2_with fail
          go_roundw
          case rel => exact ⟨k + 1, _, by omega, by go_num, hS2, hM2.next (by omega)⟩
          case measure => simp [intOf]; omega
    · go_wp2_with fail
      have hk4 : k = 4 := by omega
      rw [hk4] at hM
      clear hk4 hlt hk
      obtain ⟨wo, rfl⟩ : ∃ wo : World, wo = wr := ⟨_, rfl⟩
      go_loopw [7] (fun j wr' => ∃ (q : Nat) (z' : Nat → List Int), q ≤ n 4 ∧ j = .int .i64 q ∧ Sp w b u n z' wr' ∧ MarkedTo n z' m 4 0 ∧ TableTo n z' m q) (fun j _ => n 4 - (intOf j).toNat)
      case atStart => exact ⟨0, z1, by omega, rfl, hS, hM, fun _ h => by omega⟩
      case round =>
        obtain ⟨q, z2, hq, rfl, hS2, hM2, hT2⟩ := hrel
        have hc := cell_facts hS2.box 4 _ rfl
        obtain ⟨ak, ck, ek⟩ := (hS2.own.own 4 (by omega)).rd.slice_form
        by_cases hqn : q < n 4
        · obtain ⟨g, cap, cur, eg, hbk, hg, hnc, hcm, hcs, htk⟩ := own_blk (hS2.own.own 4 (by omega)) (by omega)
          rw [eg] at hc
          have hzl : (z2 4).length = n 4 * 2 := (hS2.own.own 4 (by omega)).1
          have hcell : ∀ j, j < n 4 * 2 → wr.cell? ⟨g, j, none⟩ = some (.int .i64 ((z2 4)[j]?.getD 0)) := by
            intro j hj
            rw [cell_of_row wr g j _ _ _ hg]
            have hj2 : (cur.toList.take (n 4 * esz 4))[j]? = some (.int .i64 ((z2 4)[j]?.getD 0)) := by rw [htk]; simp [show j < (z2 4).length by omega]
            rw [List.getElem?_take] at hj2
            split at hj2
            · simpa using hj2
            · cases hj2
          have hx0 := hcell (q * 2) (by omega)
          have hx1 := hcell (q * 2 + 1) (by omega)
          have hf0 := own_frozen hg (q * 2)
          have hf1 := own_frozen hg (q * 2 + 1)
          have x1 : IntKind.i64.wrap ((m : Int) + 50) = (m : Int) + 50 := IntWalk.i64_in _ (by omega)
          have hS3 := (hS2.set (by omega) hbk (HLT.out 4 (by omega) g hbk) (j := q * 2) (show q * 2 < n 4 * 2 by omega) ((m : Int) + 50)).set (by omega) hbk (HLT.out 4 (by omega) g hbk) (j := q * 2 + 1) (show q * 2 + 1 < n 4 * 2 by omega) (m : Int)
          have hM3 := (hM2.upd4 ((z2 4).set (q * 2) ((m : Int) + 50))).upd4 (((updZ 4 ((z2 4).set (q * 2) ((m : Int) + 50)) z2) 4).set (q * 2 + 1) m)
          have hT3 := hT2.step (by omega)
          have HS3 := Lib.hid hS3
          have hN : n 4 * 16 ≤ 140737488355328 := Nat.le_trans (Nat.mul_le_mul_right 16 (by omega)) (HBD.out 4 (by omega))
          clear hS3 hS2 hM2 hT2 hM hS htk hg ek eg hcell
          go_wp2_with fail
          go_roundw
          case rel => exact ⟨q + 1, _, by omega, by go_num, HS3.out, hM3, hT3⟩
          case measure => simp [intOf]; omega
        · rw [ek] at hc
          go_wp2_with fail
          rw [← ek]
          have hq4 : q = n 4 := by omega
          subst hq4
          have HF := Lib.hid (And.intro hM2 hT2)
          have hG := hS2.gr
          have hL := hS2.lists
          obtain ⟨wo, rfl⟩ : ∃ wo : World, wo = wr := ⟨_, rfl⟩
          clear hM2 hT2 hS2 hM hS hc E HS0 ek
          go_loopw [9, 8] (fun i s wr' => ∃ (r : Nat) (x : Nat → Value) (c : Nat → Nat), r ≤ 20 ∧ i = .int .i64 r ∧ s = x 4 ∧ Gr w u n z2 x c wr' ∧ wr'.heap[w.heap.size + 1]? = some (.cells #[x 0, x 1, x 2, x 3] 22 (0, 0)) ∧ ∀ i, i < 5 → c i ≤ r) (fun i _ _ => 20 - (intOf i).toNat)
          case atStart => exact ⟨0, u, fun _ => 0, by omega, rfl, rfl, hG, hL, fun _ _ => Nat.le_refl _⟩
          case round =>
            obtain ⟨r, x, c, hr, rfl, rfl, hG, hL, hC⟩ := hrel
            by_cases hr20 : r < 20
            · go_wp2_with fail
              obtain ⟨wo, rfl⟩ : ∃ wo : World, wo = wr := ⟨_, rfl⟩
              have HR20 := Lib.hid hr20
              clear hr20 hr
              rename (r : Int) < 20 => hh
              clear hh
              go_loopw [10] (fun j wr' => ∃ (k : Nat) (x' : Nat → Value) (c' : Nat → Nat), k ≤ 4 ∧ j = .int .i64 k ∧ x' 4 = x 4 ∧ Gr w u n z2 x' c' wr' ∧ wr'.heap[w.heap.size + 1]? = some (.cells #[x' 0, x' 1, x' 2, x' 3] 22 (0, 0)) ∧ (∀ i, i < 5 → c' i ≤ r + 1) ∧ ∀ i, i < 5 → k ≤ i → c' i ≤ r) (fun j _ => 4 - (intOf j).toNat)
              case atStart => exact ⟨0, x, c, by omega, rfl, rfl, hG, hL, fun i hi => Nat.le_succ_of_le (hC i hi), fun i hi _ => hC i hi⟩
              case round =>
                obtain ⟨k, x1, c1, hk, rfl, hx4, hG1, hL1, hC1, hC2⟩ := hrel
                by_cases hk4 : k < 4
                · have hes : esz k = 1 := by unfold esz; split <;> omega
                  have het : ety k = 3 := by unfold ety; split <;> omega
                  obtain ⟨t, ht⟩ := hG1.own k (by omega)
                  have hN : (n k + 21) * (8 * esz k) ≤ 140737488355328 := HBD.out k (by omega)
                  have hck : c1 k ≤ 20 := Nat.le_trans (hC2 k (by omega) (Nat.le_refl _)) (by have := HR20.out; omega)
                  rw [hes] at hN
                  obtain ⟨ax, cx, ex⟩ := ht.rd.slice_form
                  have hc := cell_facts hL1 k _ (row4 x1 k hk4)
                  rw [ex] at hc
                  have hwn : IntKind.i64.wrap (-(m : Int)) = -(m : Int) := IntWalk.i64_in _ (by omega)
                  have hB : Below wr.heap.size wr (wr.alloc (.cells #[.int .i64 (-(m : Int))] 3)) := (Below.refl _ _).alloc (Nat.le_refl _) _
                  have hv1 : Rd (wr.alloc (.cells #[.int .i64 (-(m : Int))] 3)) (.slice (some ⟨wr.heap.size, 0, none⟩) 1 1) 1 1 [-(m : Int)] := (Own.lit (base := 0) wr #[.int .i64 (-(m : Int))] 3 1 1 [-(m : Int)] (by omega) (by omega) (by simp [maxLen]) rfl rfl).rd
                  have ht1 := ht.alloc (.cells #[.int .i64 (-(m : Int))] 3)
                  have HT := Lib.hid ht1
                  have EX := Lib.hid ex
                  rw [hes, het, ex] at ht1
                  have HT1 := Lib.hid ht1
                  have HV1 := Lib.hid hv1
                  have HB := Lib.hid hB
                  clear ht ht1 hv1 hB ex hG hL hC
                  have HG1 := Lib.hid hG1
                  have HL1 := Lib.hid hL1
                  clear hG1 hL1
                  obtain ⟨i0, hi, hz, hs, hby⟩ := info_parts Try.info3
                  go_wp2_with (refine wpList_app rfl (.tmp 77) (.tmp 80) 22 22 rfl 0 3 3 i0 (.int .i64 0) 1 8 Try.underlying22 Try.underlying22 hi hz hs hby rfl (.slice ax (n k + c1 k) cx) (n k + c1 k) _ rfl HT1.out (.slice (some ⟨wr.heap.size, 0, none⟩) 1 1) 1 [-(m : Int)] rfl HV1.out (by unfold maxLen; omega) (by omega) (by omega) ?_; intro v' w' hO hg hne; obtain ⟨a', c', rfl⟩ := hO.rd.slice_form; obtain ⟨hg2, hk2⟩ := HG1.out.step HOWN.out HB.out (i := k) (by omega) (v' := .slice a' (n k + c1 k + 1) c') (t := t ++ [-(m : Int)]) (by rw [hes, het, ← List.append_assoc]; exact hO) (by rw [EX.out]; exact hg); have hl2 := (hk2 (w.heap.size + 1) (by omega) (by omega)).trans HL1.out; have hx2 := cell_facts hl2 k _ (row4 x1 k hk4); rw [EX.out] at hx2; have hf2 := frozen_row hl2 k; have HG2 := Lib.hid (hg2.other HOWN.out k (.slice a' (n k + c1 k + 1) c') rfl); have HL2 := Lib.hid (lists_set (v := .slice a' (n k + c1 k + 1) c') hk4 hl2); clear hO hg hne hl2 hk2 hg2)
                  go_roundw
                  case rel =>
                    refine ⟨k + 1, updV k (.slice a' (n k + c1 k + 1) c') x1, updN k (c1 k + 1) c1, by omega, by go_num, ?_, HG2.out, HL2.out, fun i hi => ?_, fun i hi hki => ?_⟩
                    · simp only [updV, if_neg (show ¬ 4 = k by omega)]; exact hx4
                    · unfold updN
                      split
                      · rename_i he; rw [← he]; have := hC2 i hi (by omega); omega
                      · exact hC1 i hi
                    · simp only [updN, if_neg (show ¬ i = k by omega)]; exact hC2 i hi (by omega)
                  case measure => simp [intOf]; omega
                · obtain ⟨t, ht⟩ := hG1.own 4 (by omega)
                  have hN : (n 4 + 21) * 16 ≤ 140737488355328 := HBD.out 4 (by omega)
                  have hck : c1 4 ≤ 20 := Nat.le_trans (hC2 4 (by omega) (by omega)) (by have := HR20.out; omega)
                  have hw1 : IntKind.i64.wrap ((r : Int) + 1) = (r : Int) + 1 := IntWalk.i64_in _ (by have := HR20.out; omega)
                  have hwn : IntKind.i64.wrap (-(m : Int)) = -(m : Int) := IntWalk.i64_in _ (by omega)
                  have hB : Below wr.heap.size wr (wr.alloc (.cells #[.int .i64 (-(m : Int)), .int .i64 0] 67)) := (Below.refl _ _).alloc (Nat.le_refl _) _
                  have hv1 : Rd (wr.alloc (.cells #[.int .i64 (-(m : Int)), .int .i64 0] 67)) (.slice (some ⟨wr.heap.size, 0, none⟩) 1 1) 2 1 [-(m : Int), 0] := (Own.lit (base := 0) wr #[.int .i64 (-(m : Int)), .int .i64 0] 67 2 1 [-(m : Int), 0] (by omega) (by omega) (by simp [maxLen]) rfl rfl).rd
                  have ht1 := ht.alloc (.cells #[.int .i64 (-(m : Int)), .int .i64 0] 67)
                  have EX := Lib.hid hx4
                  rw [hx4] at ht1
                  have HT1 := Lib.hid (show Own _ 0 67 2 (x 4) (n 4 + c1 4) _ from ht1)
                  have HV1 := Lib.hid hv1
                  have HB := Lib.hid hB
                  clear ht ht1 hv1 hB hG hL hC
                  have HG1 := Lib.hid hG1
                  have HL1 := Lib.hid hL1
                  clear hG1 hL1 hx4
                  obtain ⟨i0, hi, hz, hs, hby⟩ := info_parts Try.info67
                  go_wp2_with (refine wpList_app rfl (.tmp 83) (.tmp 87) 23 23 rfl 0 67 67 i0 (.agg #[.int .i64 0, .int .i64 0]) 2 16 Try.underlying23 Try.underlying23 hi hz hs hby rfl (x 4) (n 4 + c1 4) _ rfl HT1.out (.slice (some ⟨wr.heap.size, 0, none⟩) 1 1) 1 [-(m : Int), 0] rfl HV1.out (by unfold maxLen; omega) (by omega) (by omega) ?_; intro v' w' hO hg hne; obtain ⟨hg2, hk2⟩ := HG1.out.step HOWN.out HB.out (i := 4) (by omega) (v' := v') (t := t ++ [-(m : Int), 0]) (by rw [← List.append_assoc]; exact hO) (by rw [EX.out]; exact hg); have HL2 := Lib.hid ((hk2 (w.heap.size + 1) (by omega) (by omega)).trans HL1.out); have HG2 := Lib.hid hg2; clear hO hg hne hk2 hg2)
                  have hr20 := HR20.out
                  go_roundw
                  case rel =>
                    refine ⟨r + 1, updV 4 v' x1, updN 4 (c1 4 + 1) c1, by have := HR20.out; omega, by go_num, rfl, HG2.out, HL2.out, fun i hi => ?_⟩
                    unfold updN
                    split
                    · have := hC2 4 (by omega) (by omega); omega
                    · exact hC1 i hi
                  case measure => have := HR20.out; simp [intOf]; omega
            · go_wp2_with fail
              refine bodyPost_end (results_none rfl _ _ _) rfl ?_
              exact ⟨⟨_, rfl⟩, ⟨z2, hG.old, HF.out.1, HF.out.2⟩, hG.fr⟩
end Go.Proofs.Ytkibdolpapaflaa
