import Derived.Test.YtkibdolpapaflaaD5
namespace Go.Proofs.Ytkibdolpapaflaa
open Go.RowKit

set_option maxRecDepth 20000 in
set_option maxHeartbeats 2000000 in
theorem spoilt15 (w : World) (u : Nat → Value) (n : Nat → Nat) (z : Nat → List Int) (m : Nat) (hm : 1000 ≤ m ∧ m ≤ 6000) (hr : ∀ i, i < 5 → Rd w (u i) (esz i) (n i) (z i)) (hb : ∀ i, i < 5 → (n i + 21) * (8 * esz i) ≤ 140737488355328) (hM : MarkedTo n z m 4 0) (hT : TableTo n z m (n 4)) :
    Calls Try.prog 15 #[.agg #[u 0, u 1, u 2, u 3, u 4], .int .i64 m] w fun e w' => e = .returned (.bool true) ∧ Below w.heap.size w w' := by
  have HR := Lib.hid hr
  have HBD := Lib.hid hb
  have HM := Lib.hid hM
  have HT := Lib.hid hT
  have W0 : Below w.heap.size w ((w.alloc (.cells #[u 0, u 1, u 2, u 3, u 4] 25)).alloc (.cells #[u 0, u 1, u 2, u 3] 22)) := ((Below.refl _ _).alloc (Nat.le_refl _) _).alloc (by simp) _
  have HW0 := Lib.hid W0
  have forms : ∀ i, i < 5 → ∃ a c, u i = .slice a (n i) c := fun i hi => (HR.out i hi).slice_form
  have B0 := Below.refl (w.heap.size + 2) ((w.alloc (.cells #[u 0, u 1, u 2, u 3, u 4] 25)).alloc (.cells #[u 0, u 1, u 2, u 3] 22))
  have HB0 := Lib.hid B0
  obtain ⟨a0, c0, e0⟩ := forms 0 (by omega)
  obtain ⟨a1, c1, e1⟩ := forms 1 (by omega)
  obtain ⟨a2, c2, e2⟩ := forms 2 (by omega)
  obtain ⟨a3, c3, e3⟩ := forms 3 (by omega)
  have HE0 : Below (w.heap.size + 2) ((w.alloc (.cells #[u 0, u 1, u 2, u 3, u 4] 25)).alloc (.cells #[u 0, u 1, u 2, u 3] 22)) ((w.alloc (.cells #[.slice a0 (n 0) c0, .slice a1 (n 1) c1, .slice a2 (n 2) c2, .slice a3 (n 3) c3, u 4] 25)).alloc (.cells #[.slice a0 (n 0) c0, .slice a1 (n 1) c1, .slice a2 (n 2) c2, .slice a3 (n 3) c3] 22)) := by
    rw [← e0, ← e1, ← e2, ← e3]; exact B0
  have HE := Lib.hid HE0
  clear forms hr hb hM hT W0 B0 HE0
  go_enter Try.func15, Try.ntmps15
  go_wp2_with fail
  have E := Lib.hid (And.intro e0 (And.intro e1 (And.intro e2 e3)))
  clear e0 e1 e2 e3
  go_loopw [6] (fun i wr => ∃ (k : Nat), k ≤ 4 ∧ i = .int .i64 k ∧ Below (w.heap.size + 2) ((w.alloc (.cells #[u 0, u 1, u 2, u 3, u 4] 25)).alloc (.cells #[u 0, u 1, u 2, u 3] 22)) wr) (fun i _ => 4 - (intOf i).toNat)
  case atStart => exact ⟨0, by omega, rfl, HE.out⟩
  case round =>
    obtain ⟨k, hk, rfl, hB⟩ := hrel
    by_cases hlt : k < 4
    · go_wp2_with fail
      obtain ⟨wo, rfl⟩ : ∃ wo : World, wo = wr := ⟨_, rfl⟩
      go_loopw [7] (fun j wr' => ∃ (q : Nat), q ≤ n k ∧ j = .int .i64 q ∧ Below (w.heap.size + 2) ((w.alloc (.cells #[u 0, u 1, u 2, u 3, u 4] 25)).alloc (.cells #[u 0, u 1, u 2, u 3] 22)) wr') (fun j _ => n k - (intOf j).toNat)
      case atStart => exact ⟨0, by omega, rfl, hB⟩
      case round =>
        obtain ⟨q, hq, rfl, hB2⟩ := hrel
        obtain ⟨_, hl, _, _⟩ := box2 hB2 (Nat.le_refl _)
        have hc := cell_facts hl k _ (row4 u k hlt)
        obtain ⟨ak, ck, ek, hak⟩ := (HR.out k (by omega)).at
        have hes : esz k = 1 := by unfold esz; split <;> omega
        have hN : (n k + 21) * (8 * esz k) ≤ 140737488355328 := HBD.out k (by omega)
        rw [hes] at hN
        rw [ek] at hc
        have HB2 := Lib.hid hB2
        clear hB2 hB hl ek
        by_cases hqn : q < n k
        · obtain ⟨bb, off, rfl, hcell⟩ := hak (by omega)
          have hx := below_keeps (HW0.out.trans (HB2.out.mono (by omega))) _ _ (hcell q (by rw [hes]; omega))
          have hmk := HM.out.1 k (by omega) hlt q hqn
          rw [hmk] at hx
          have x1 : IntKind.i64.wrap (10 * (k : Int)) = 10 * (k : Int) := IntWalk.i64_in _ (by omega)
          have x2 : IntKind.i64.wrap ((m : Int) + 10 * (k : Int)) = (m : Int) + 10 * (k : Int) := IntWalk.i64_in _ (by omega)
          clear hcell hmk hak
          go_wp2_with fail
          go_roundw
          case rel => exact ⟨q + 1, by omega, by go_num, HB2.out⟩
          case measure => simp [intOf]; omega
        · go_wp2_with fail
          go_roundw
          case rel => exact ⟨k + 1, by omega, by go_num, HB2.out⟩
          case measure => simp [intOf]; omega
    · go_wp2_with fail
      clear hlt hk
      obtain ⟨wo, rfl⟩ : ∃ wo : World, wo = wr := ⟨_, rfl⟩
      go_loopw [8] (fun j wr' => ∃ (q : Nat), q ≤ n 4 ∧ j = .int .i64 q ∧ Below (w.heap.size + 2) ((w.alloc (.cells #[u 0, u 1, u 2, u 3, u 4] 25)).alloc (.cells #[u 0, u 1, u 2, u 3] 22)) wr') (fun j _ => n 4 - (intOf j).toNat)
      case atStart => exact ⟨0, by omega, rfl, hB⟩
      case round =>
        obtain ⟨q, hq, rfl, hB2⟩ := hrel
        obtain ⟨hl, _, _, _⟩ := box2 hB2 (Nat.le_refl _)
        have hc := cell_facts hl 4 _ rfl
        obtain ⟨ak, ck, ek, hak⟩ := (HR.out 4 (by omega)).at
        have hes : esz 4 = 2 := rfl
        have hN : (n 4 + 21) * 16 ≤ 140737488355328 := HBD.out 4 (by omega)
        rw [hes] at hak
        have HB2 := Lib.hid hB2
        clear hB2 hB hl
        have hc4 : wr.cell? ⟨w.heap.size, 4, none⟩ = some (.slice ak (n 4) ck) := hc.trans (congrArg some ek)
        clear hc ek
        by_cases hqn : q < n 4
        · obtain ⟨bb, off, rfl, hcell⟩ := hak (by omega)
          have hx := below_keeps (HW0.out.trans (HB2.out.mono (by omega))) _ _ (hcell (q * 2) (by omega))
          have hy := below_keeps (HW0.out.trans (HB2.out.mono (by omega))) _ _ (hcell (q * 2 + 1) (by omega))
          rw [(HT.out q hqn).1] at hx
          rw [(HT.out q hqn).2, ← Nat.add_assoc] at hy
          have x1 : IntKind.i64.wrap ((m : Int) + 50) = (m : Int) + 50 := IntWalk.i64_in _ (by omega)
          clear hcell hak
          go_wp2_with fail
          go_roundw
          case rel => exact ⟨q + 1, by omega, by go_num, HB2.out⟩
          case measure => simp [intOf]; omega
        · go_wp2_with fail
          go_ret
          exact ⟨rfl, HW0.out.trans (HB2.out.mono (by omega))⟩
end Go.Proofs.Ytkibdolpapaflaa
