import Derived.Test.YtkibdolpapaflaaD1
namespace Go.Proofs.Ytkibdolpapaflaa
open Go.RowKit

set_option maxRecDepth 20000 in
set_option maxHeartbeats 1000000 in
theorem same26 (w : World) (v u : Value) (n : Nat) (zs : List Int) (hv : Rd w v 1 n zs) (hu : Rd w u 1 n zs) (hb : n * 8 ≤ 140737488355328) :
    Calls Try.prog 26 #[v, u] w fun e w' => e = .returned (.bool true) ∧ Below w.heap.size w w' := by
  obtain ⟨a, c, rfl, ha⟩ := hv.at
  obtain ⟨a', c', rfl, ha'⟩ := hu.at
  have HA := Lib.hid ha
  have HA' := Lib.hid ha'
  clear ha ha' hv hu
  go_enter Try.func26, Try.ntmps26
  go_wp2
  go_loopw [5] (fun i wr => ∃ k : Nat, k ≤ n ∧ i = .int .i64 k ∧ Below w.heap.size w wr) (fun i _ => n - (intOf i).toNat)
  case atStart => exact ⟨0, by omega, rfl, Below.refl _ _⟩
  case round =>
    obtain ⟨k, hk, rfl, hB⟩ := hrel
    have HB := Lib.hid hB
    clear hB
    by_cases hlt : k < n
    · obtain ⟨b, off, rfl, hc⟩ := HA.out (by omega)
      obtain ⟨b', off', rfl, hc'⟩ := HA'.out (by omega)
      have h1 := below_keeps HB.out _ _ (hc k (by omega))
      have h2 := below_keeps HB.out _ _ (hc' k (by omega))
      clear hc hc'
      go_wp2
      go_quiet (fail)
      go_wp2
      go_roundw
      case rel => exact ⟨k + 1, by omega, by go_num, below_drewN HB.out _⟩
      case measure => simp [intOf]; omega
    · go_wp2
      go_ret
      exact ⟨rfl, HB.out⟩
set_option maxRecDepth 20000 in
set_option maxHeartbeats 2000000 in
theorem same24 (w : World) (v u : Nat → Value) (n : Nat → Nat) (z : Nat → List Int) (hv : ∀ i, i < 5 → Rd w (v i) (esz i) (n i) (z i)) (hu : ∀ i, i < 5 → Rd w (u i) (esz i) (n i) (z i)) (hb : ∀ i, i < 5 → n i * (8 * esz i) ≤ 140737488355328) :
    Calls Try.prog 24 #[.agg #[v 0, v 1, v 2, v 3, v 4], .agg #[u 0, u 1, u 2, u 3, u 4]] w fun e w' => e = .returned (.bool true) ∧ Below w.heap.size w w' := by
  obtain ⟨a, c, e4, ha⟩ := (hv 4 (by omega)).at
  obtain ⟨a', c', e4', ha'⟩ := (hu 4 (by omega)).at
  have HA := Lib.hid ha
  have HA' := Lib.hid ha'
  have E4 := Lib.hid e4
  have E4' := Lib.hid e4'
  have HV := Lib.hid hv
  have HU := Lib.hid hu
  have hb4 : n 4 * 16 ≤ 140737488355328 := hb 4 (by omega)
  have b0 : n 0 * 8 ≤ 140737488355328 := hb 0 (by omega)
  have b1 : n 1 * 8 ≤ 140737488355328 := hb 1 (by omega)
  have b2 : n 2 * 8 ≤ 140737488355328 := hb 2 (by omega)
  have b3 : n 3 * 8 ≤ 140737488355328 := hb 3 (by omega)
  clear ha ha' hv hu hb e4 e4'
  have es4 : esz 4 = 2 := rfl
  rw [es4] at HA HA'
  have W0 : Below w.heap.size w ((w.alloc (.cells #[v 0, v 1, v 2, v 3, v 4] 25)).alloc (.cells #[u 0, u 1, u 2, u 3, u 4] 25)) := ((Below.refl _ _).alloc (Nat.le_refl _) _).alloc (by simp) _
  have step : ∀ (i : Nat) (wx : World), i < 4 → Below (w.heap.size + 2) ((w.alloc (.cells #[v 0, v 1, v 2, v 3, v 4] 25)).alloc (.cells #[u 0, u 1, u 2, u 3, u 4] 25)) wx →
      Calls Try.prog 26 #[v i, u i] wx fun e w' => e = .returned (.bool true) ∧ Below (w.heap.size + 2) ((w.alloc (.cells #[v 0, v 1, v 2, v 3, v 4] 25)).alloc (.cells #[u 0, u 1, u 2, u 3, u 4] 25)) w' := by
    intro i wx hi hB
    have hBw : Below w.heap.size w wx := W0.trans (hB.mono (by omega))
    have e1 := (HV.out i (by omega)).below hBw
    have e2 := (HU.out i (by omega)).below hBw
    have es : esz i = 1 := by unfold esz; split <;> omega
    rw [es] at e1 e2
    refine (same26 wx (v i) (u i) (n i) (z i) e1 e2 (by rcases i with _ | _ | _ | _ | i <;> first | assumption | omega)).mono ?_
    rintro e w' ⟨rfl, hb⟩
    have hz := hB.size
    simp at hz
    exact ⟨rfl, hB.trans (hb.mono (by omega))⟩
  have ST := Lib.hid step
  clear step
  go_enter Try.func24, Try.ntmps24
  have facts : ∀ wx, Below (w.heap.size + 2) ((w.alloc (.cells #[v 0, v 1, v 2, v 3, v 4] 25)).alloc (.cells #[u 0, u 1, u 2, u 3, u 4] 25)) wx →
      (∀ (k : Nat) (x : Value), #[v 0, v 1, v 2, v 3, v 4][k]? = some x → wx.cell? ⟨w.heap.size, k, none⟩ = some x) ∧ (∀ (k : Nat) (x : Value), #[u 0, u 1, u 2, u 3, u 4][k]? = some x → wx.cell? ⟨w.heap.size + 1, k, none⟩ = some x) := by
    intro wx hB
    obtain ⟨h0, h1, _⟩ := box2 hB (Nat.le_refl _)
    exact ⟨cell_facts h0, cell_facts h1⟩
  have FA := Lib.hid facts
  clear facts
  have B0 := Lib.hid (Below.refl (w.heap.size + 2) ((w.alloc (.cells #[v 0, v 1, v 2, v 3, v 4] 25)).alloc (.cells #[u 0, u 1, u 2, u 3, u 4] 25)))
  go_wp2_with fail
  refine (ST.out 0 _ (by omega) B0.out).mono ?_
  rintro e w1 ⟨rfl, hB⟩
  have B1 := Lib.hid hB
  have p0 := (FA.out _ hB).1 1 _ rfl
  have q0 := (FA.out _ hB).2 1 _ rfl
  clear hB
  go_wp2_with fail
  refine (ST.out 1 _ (by omega) B1.out).mono ?_
  rintro e w2 ⟨rfl, hB⟩
  have B2 := Lib.hid hB
  have p1 := (FA.out _ hB).1 2 _ rfl
  have q1 := (FA.out _ hB).2 2 _ rfl
  clear hB
  go_wp2_with fail
  refine (ST.out 2 _ (by omega) B2.out).mono ?_
  rintro e w3 ⟨rfl, hB⟩
  have B3 := Lib.hid hB
  have p2 := (FA.out _ hB).1 3 _ rfl
  have q2 := (FA.out _ hB).2 3 _ rfl
  clear hB
  go_wp2_with fail
  refine (ST.out 3 _ (by omega) B3.out).mono ?_
  rintro e w4 ⟨rfl, hB⟩
  have B4 := Lib.hid hB
  have p4 := (FA.out _ hB).1 4 _ rfl
  have q4 := (FA.out _ hB).2 4 _ rfl
  rw [E4.out] at p4
  rw [E4'.out] at q4
  clear hB
  go_wp2_with fail
  go_loopw [5] (fun i wr => ∃ k : Nat, k ≤ n 4 ∧ i = .int .i64 k ∧ Below (w.heap.size + 2) ((w.alloc (.cells #[v 0, v 1, v 2, v 3, v 4] 25)).alloc (.cells #[u 0, u 1, u 2, u 3, u 4] 25)) wr) (fun i _ => n 4 - (intOf i).toNat)
  case atStart => exact ⟨0, by omega, rfl, B4.out⟩
  case round =>
    obtain ⟨k, hk, rfl, hB⟩ := hrel
    have HB := Lib.hid hB
    have r4 := (FA.out _ hB).1 4 _ rfl
    have t4 := (FA.out _ hB).2 4 _ rfl
    rw [E4.out] at r4
    rw [E4'.out] at t4
    clear hB
    by_cases hlt : k < n 4
    · obtain ⟨b, off, rfl, hc⟩ := HA.out (by omega)
      obtain ⟨b', off', rfl, hc'⟩ := HA'.out (by omega)
      have h1 := below_keeps (W0.trans (HB.out.mono (by omega))) _ _ (hc (k * 2) (by omega))
      have h2 := below_keeps (W0.trans (HB.out.mono (by omega))) _ _ (hc (k * 2 + 1) (by omega))
      have h3 := below_keeps (W0.trans (HB.out.mono (by omega))) _ _ (hc' (k * 2) (by omega))
      have h4 := below_keeps (W0.trans (HB.out.mono (by omega))) _ _ (hc' (k * 2 + 1) (by omega))
      rw [← Nat.add_assoc] at h2 h4
      clear hc hc'
      go_wp2
      go_quiet (fail)
      go_wp2
      go_roundw
      case rel => exact ⟨k + 1, by omega, by go_num, below_drewN HB.out _⟩
      case measure => simp [intOf]; omega
    · go_wp2
      go_ret
      exact ⟨rfl, W0.trans (HB.out.mono (by omega))⟩

set_option maxRecDepth 20000 in
theorem same14 (w : World) (v u : Nat → Value) (n : Nat → Nat) (z : Nat → List Int) (hv : ∀ i, i < 5 → Rd w (v i) (esz i) (n i) (z i)) (hu : ∀ i, i < 5 → Rd w (u i) (esz i) (n i) (z i)) (hb : ∀ i, i < 5 → n i * (8 * esz i) ≤ 140737488355328) :
    Calls Try.prog 14 #[.agg #[v 0, v 1, v 2, v 3, v 4], .agg #[u 0, u 1, u 2, u 3, u 4]] w fun e w' => e = .returned (.bool true) ∧ Below w.heap.size w w' := by
  have HV := Lib.hid hv
  have HU := Lib.hid hu
  have HB := Lib.hid hb
  clear hv hu hb
  have hW : Below w.heap.size w ((w.alloc (.cells #[v 0, v 1, v 2, v 3, v 4] 25)).alloc (.cells #[u 0, u 1, u 2, u 3, u 4] 25)) := ((Below.refl _ _).alloc (Nat.le_refl _) _).alloc (by simp) _
  have W0 := Lib.hid hW
  clear hW
  go_enter Try.func14, Try.ntmps14
  go_wp2_with fail
  refine (same24 _ v u n z (fun i hi => (HV.out i hi).below W0.out) (fun i hi => (HU.out i hi).below W0.out) HB.out).mono ?_
  rintro e w1 ⟨rfl, hB⟩
  go_wp2
  go_ret
  exact ⟨rfl, W0.out.trans (hB.mono (by simp; omega))⟩
end Go.Proofs.Ytkibdolpapaflaa
