import Derived.Test.YtkibdolpapaflaaCopy18
import Derived.Deep.QuietTactic
import Derived.BigQuiet
import Derived.IntWalk
import Derived.Lib.Hide
import Derived.Outline
namespace Go.Proofs.Ytkibdolpapaflaa
open Go.RowKit

structure MayP (n : Nat → Nat) (z : Nat → List Int) : Prop where
  cell : n 0 ≤ 1
  set : ∀ i, i + 1 < n 3 → (z 3)[i]?.getD 0 < (z 3)[i + 1]?.getD 0
  table : ∀ i, i + 1 < n 4 → (z 4)[i * 2]?.getD 0 < (z 4)[(i + 1) * 2]?.getD 0

theorem Rd.at {w : World} {v : Value} {size n : Nat} {zs : List Int} (h : Rd w v size n zs) : ∃ a c, v = .slice a n c ∧ (0 < n → ∃ b off, a = some ⟨b, off, none⟩ ∧ ∀ j, j < n * size → w.cell? ⟨b, off + j, none⟩ = some (.int .i64 (zs[j]?.getD 0))) := by
  rcases h.2 with ⟨h0, a, c, rfl⟩ | ⟨b, off, c, rfl, hc⟩
  · exact ⟨a, c, by rw [h0], fun hp => by omega⟩
  · refine ⟨_, c, rfl, fun _ => ⟨b, off, rfl, fun j hj => hc j _ ?_⟩⟩
    have hl : j < zs.length := by rw [h.1]; exact hj
    rw [List.getElem?_eq_getElem hl]
    simp [hl]

theorem box1 {w wr : World} {cs : Array Value} {T : TypeId} (hB : Below (w.heap.size + 1) (w.alloc (.cells cs T)) wr) :
    (∀ (k : Nat) (x : Value), cs[k]? = some x → wr.cell? ⟨w.heap.size, k, none⟩ = some x) ∧ (∀ (p : Addr) (x : Value), w.cell? p = some x → wr.cell? p = some x) ∧ Below w.heap.size w wr ∧ w.heap.size < wr.heap.size := by
  have h1 : wr.heap[w.heap.size]? = some (.cells cs T (0, 0)) := by rw [hB.block _ (by omega)]; exact heap_alloc_new w _
  have h2 : Below w.heap.size w wr := ((Below.refl _ _).alloc (Nat.le_refl _) _).trans (hB.mono (by omega))
  exact ⟨fun k x hx => by rw [cell_of_row wr _ k _ _ _ h1]; exact hx, below_keeps h2, h2, (Array.getElem?_eq_some_iff.1 h1).1⟩

set_option maxRecDepth 20000 in
set_option maxHeartbeats 400000 in
theorem may23_any (w : World) (v : Nat → Value) (n : Nat → Nat) (z : Nat → List Int) (hr : ∀ i, i < 5 → Rd w (v i) (esz i) (n i) (z i)) (hb : ∀ i, i < 5 → n i * (8 * esz i) ≤ 140737488355328) (hm : MayP n z) :
    Calls Try.prog 23 #[.agg #[v 0, v 1, v 2, v 3, v 4]] w fun e w' => e = .returned (.bool true) ∧ Below w.heap.size w w' := by
  obtain ⟨a0, c0, e0, h0⟩ := (hr 0 (by omega)).at
  obtain ⟨a3, c3, e3, h3⟩ := (hr 3 (by omega)).at
  obtain ⟨a4, c4, e4, h4⟩ := (hr 4 (by omega)).at
  have b3 := hb 3 (by omega)
  have b4 := hb 4 (by omega)
  obtain ⟨m0, m3, m4⟩ := hm
  simp only [esz, Nat.reduceEqDiff, if_false, if_true, Nat.reduceMul] at b3 b4 h3 h4
  generalize v 0 = v0 at *
  generalize v 1 = v1 at *
  generalize v 2 = v2 at *
  generalize v 3 = v3 at *
  generalize v 4 = v4 at *
  generalize n 0 = n0 at *
  generalize n 3 = n3 at *
  generalize n 4 = n4 at *
  generalize z 3 = z3 at *
  generalize z 4 = z4 at *
  clear h0 hr hb
  subst e0 e3 e4
  have H3 := Lib.hid h3
  have H4 := Lib.hid h4
  have M3 := Lib.hid m3
  have M4 := Lib.hid m4
  clear h3 h4 m3 m4
  go_enter Try.func23, Try.ntmps23
  go_wp2
  go_loopw [3] (fun i wr => ∃ k : Nat, 1 ≤ k ∧ k ≤ n3 + 1 ∧ i = .int .i64 k ∧ Below (w.heap.size + 1) (w.alloc (.cells #[.slice a0 n0 c0, v1, v2, .slice a3 n3 c3, .slice a4 n4 c4] 25)) wr) (fun i _ => n3 + 1 - (intOf i).toNat)
  case atStart => exact ⟨1, by omega, by omega, rfl, Below.refl _ _⟩
  case round =>
    obtain ⟨k, hk, hk2, rfl, hB⟩ := hrel
    obtain ⟨hx, ho, hBw, hz⟩ := box1 hB
    have x3 : wr.cell? ⟨w.heap.size, 3, none⟩ = some (.slice a3 n3 c3) := hx 3 _ rfl
    have x4 : wr.cell? ⟨w.heap.size, 4, none⟩ = some (.slice a4 n4 c4) := hx 4 _ rfl
    have HB := Lib.hid hB
    have HO := Lib.hid ho
    clear hB hx ho
    by_cases hlt : k < n3
    · obtain ⟨b, off, rfl, hc⟩ := H3.out (by omega)
      have h1 := HO.out _ _ (hc k (by omega))
      have h2 := HO.out _ _ (hc (k-1) (by omega))
      have h5 := M3.out (k - 1) (by omega)
      rw [show k - 1 + 1 = k from by omega] at h5
      have w1 : IntKind.i64.wrap (↑k - 1) = (k : Int) - 1 := IntWalk.i64_in _ (by omega)
      have w2 : ((k : Int) - 1).toNat = k - 1 := by omega
      have w3 : ¬ ((k : Int) - 1 < 0) := by omega
      have w4 : ((k : Int) - 1 < n3) := by omega
      clear hc x4
      go_wp2
      go_quiet (fail)
      go_wp2
      go_roundw
      case rel => exact ⟨k + 1, by omega, by omega, by go_num, below_drewN HB.out _⟩
      case measure => simp [intOf]; omega
    · clear HO
      go_wp2
      clear x3 x4 hk hk2 hlt
      obtain ⟨wo, rfl⟩ : ∃ wo : World, wo = wr := ⟨_, rfl⟩
      go_loopw [4] (fun i wr' => ∃ k : Nat, 1 ≤ k ∧ k ≤ n4 + 1 ∧ i = .int .i64 k ∧ Below (w.heap.size + 1) (w.alloc (.cells #[.slice a0 n0 c0, v1, v2, .slice a3 n3 c3, .slice a4 n4 c4] 25)) wr') (fun i _ => n4 + 1 - (intOf i).toNat)
      case atStart => exact ⟨1, by omega, by omega, rfl, HB.out⟩
      case round =>
        obtain ⟨k', hk, hk2, rfl, hB⟩ := hrel
        clear hBw hz HB
        obtain ⟨hx, ho, hBw, hz⟩ := box1 hB
        have x4 : wr.cell? ⟨w.heap.size, 4, none⟩ = some (.slice a4 n4 c4) := hx 4 _ rfl
        have HB := Lib.hid hB
        have HO := Lib.hid ho
        clear hB hx ho
        by_cases hlt : k' < n4
        · obtain ⟨b, off, rfl, hc⟩ := H4.out (by omega)
          have h1 := HO.out _ _ (hc (k' * 2) (by omega))
          have h2 := HO.out _ _ (hc ((k' - 1) * 2) (by omega))
          have h5 := M4.out (k' - 1) (by omega)
          rw [show k' - 1 + 1 = k' from by omega] at h5
          have w1 : IntKind.i64.wrap (↑k' - 1) = (k' : Int) - 1 := IntWalk.i64_in _ (by omega)
          have w2 : ((k' : Int) - 1).toNat = k' - 1 := by omega
          have w3 : ¬ ((k' : Int) - 1 < 0) := by omega
          have w4 : ((k' : Int) - 1 < n4) := by omega
          clear hc
          go_wp2
          go_quiet (fail)
          go_wp2
          go_roundw
          case rel => exact ⟨k' + 1, by omega, by omega, by go_num, below_drewN HB.out _⟩
          case measure => simp [intOf]; omega
        · go_wp2
          go_ret
          exact ⟨rfl, hBw⟩
/-- The first k entries (of stride d) rise. -/
def RisesTo (d : Nat) (zs : List Int) (n k : Nat) : Prop := ∀ i, i + 1 < n → i + 1 < k → zs[i * d]?.getD 0 < zs[(i + 1) * d]?.getD 0
theorem RisesTo.one (d : Nat) (zs : List Int) (n : Nat) : RisesTo d zs n 1 := fun i _ h => by omega
theorem RisesTo.full {d : Nat} {zs : List Int} {n k : Nat} (h : RisesTo d zs n k) (hk : n ≤ k) : RisesTo d zs n n := fun i h1 _ => h i h1 (by omega)
theorem RisesTo.step {d : Nat} {zs : List Int} {n k : Nat} (h : RisesTo d zs n k) (hk : 1 ≤ k) (hl : zs[(k - 1) * d]?.getD 0 < zs[k * d]?.getD 0) : RisesTo d zs n (k + 1) := by
  intro i h1 h2
  by_cases hi : i + 1 < k
  · exact h i h1 hi
  · have : i = k - 1 := by omega
    subst this
    rw [show k - 1 + 1 = k from by omega]
    exact hl
def BoolMay (n : Nat → Nat) (z : Nat → List Int) (w : World) (e : Ending) (w' : World) : Prop := ∃ b : Bool, e = .returned (.bool b) ∧ (b = true → MayP n z) ∧ Below w.heap.size w w'

set_option maxRecDepth 20000 in
set_option maxHeartbeats 400000 in
theorem may25_any (w : World) (v : Nat → Value) (n : Nat → Nat) (z : Nat → List Int) (hr : ∀ i, i < 5 → Rd w (v i) (esz i) (n i) (z i)) (hb : ∀ i, i < 5 → n i * (8 * esz i) ≤ 140737488355328) :
    Calls Try.prog 25 #[.agg #[v 0, v 1, v 2, v 3, v 4]] w fun e w' => BoolMay n z w e w' := by
  obtain ⟨a0, c0, e0, h0⟩ := (hr 0 (by omega)).at
  obtain ⟨a3, c3, e3, h3⟩ := (hr 3 (by omega)).at
  obtain ⟨a4, c4, e4, h4⟩ := (hr 4 (by omega)).at
  have b3 := hb 3 (by omega)
  have b4 := hb 4 (by omega)
  have hmk : n 0 ≤ 1 → RisesTo 1 (z 3) (n 3) (n 3) → RisesTo 2 (z 4) (n 4) (n 4) → MayP n z := fun h0 h3 h4 => ⟨h0, fun i hi => by have := h3 i hi hi; simpa using this, fun i hi => h4 i hi hi⟩
  have no : ∀ w', Below w.heap.size w w' → BoolMay n z w (.returned (.bool false)) w' := fun w' h => ⟨false, rfl, by simp, h⟩
  have yes : ∀ w', MayP n z → Below w.heap.size w w' → BoolMay n z w (.returned (.bool true)) w' := fun w' hm h => ⟨true, rfl, fun _ => hm, h⟩
  simp only [esz, Nat.reduceEqDiff, if_false, if_true, Nat.reduceMul] at b3 b4 h3 h4
  generalize v 0 = v0 at *
  generalize v 1 = v1 at *
  generalize v 2 = v2 at *
  generalize v 3 = v3 at *
  generalize v 4 = v4 at *
  generalize n 0 = n0 at *
  generalize n 3 = n3 at *
  generalize n 4 = n4 at *
  generalize z 3 = z3 at *
  generalize z 4 = z4 at *
  clear h0 hr hb
  subst e0 e3 e4
  have H3 := Lib.hid h3
  have H4 := Lib.hid h4
  have HM := Lib.hid hmk
  have NO := Lib.hid no
  have YES := Lib.hid yes
  clear h3 h4 hmk no yes
  by_cases m0 : n0 ≤ 1
  case neg =>
    go_enter Try.func25, Try.ntmps25
    go_wp2
    go_ret
    exact NO.out _ ((Below.refl _ _).alloc (Nat.le_refl _) _)
  go_enter Try.func25, Try.ntmps25
  go_wp2
  go_loopw [3] (fun i wr => ∃ k : Nat, 1 ≤ k ∧ k ≤ n3 + 1 ∧ i = .int .i64 k ∧ RisesTo 1 z3 n3 k ∧ Below (w.heap.size + 1) (w.alloc (.cells #[.slice a0 n0 c0, v1, v2, .slice a3 n3 c3, .slice a4 n4 c4] 25)) wr) (fun i _ => n3 + 1 - (intOf i).toNat)
  case atStart => exact ⟨1, by omega, by omega, rfl, RisesTo.one _ _ _, Below.refl _ _⟩
  case round =>
    obtain ⟨k, hk, hk2, rfl, hR, hB⟩ := hrel
    obtain ⟨hx, ho, hBw, hz⟩ := box1 hB
    have x3 : wr.cell? ⟨w.heap.size, 3, none⟩ = some (.slice a3 n3 c3) := hx 3 _ rfl
    have x4 : wr.cell? ⟨w.heap.size, 4, none⟩ = some (.slice a4 n4 c4) := hx 4 _ rfl
    have HB := Lib.hid hB
    have HO := Lib.hid ho
    clear hB hx ho
    by_cases hlt : k < n3
    · obtain ⟨b, off, rfl, hc⟩ := H3.out (by omega)
      have h1 := HO.out _ _ (hc k (by omega))
      have h2 := HO.out _ _ (hc (k-1) (by omega))
      have w1 : IntKind.i64.wrap (↑k - 1) = (k : Int) - 1 := IntWalk.i64_in _ (by omega)
      have w2 : ((k : Int) - 1).toNat = k - 1 := by omega
      have w3 : ¬ ((k : Int) - 1 < 0) := by omega
      have w4 : ((k : Int) - 1 < n3) := by omega
      clear hc x4
      go_wp2
      go_quiet (fail)
      have HR : Hid (RisesTo 1 z3 n3 k) := hR
      clear hR
      go_wp2
      · go_ret
        exact NO.out _ (below_drewN hBw _)
      · go_roundw
        case rel => exact ⟨k + 1, by omega, by omega, by go_num, HR.out.step hk (by simpa using ‹_ < _›), below_drewN HB.out _⟩
        case measure => simp [intOf]; omega
    · clear HO
      have hR3 := hR.full (show n3 ≤ k by omega)
      clear hR
      go_wp2
      clear x3 x4 hk hk2 hlt
      obtain ⟨wo, rfl⟩ : ∃ wo : World, wo = wr := ⟨_, rfl⟩
      go_loopw [4] (fun i wr' => ∃ k : Nat, 1 ≤ k ∧ k ≤ n4 + 1 ∧ i = .int .i64 k ∧ RisesTo 2 z4 n4 k ∧ Below (w.heap.size + 1) (w.alloc (.cells #[.slice a0 n0 c0, v1, v2, .slice a3 n3 c3, .slice a4 n4 c4] 25)) wr') (fun i _ => n4 + 1 - (intOf i).toNat)
      case atStart => exact ⟨1, by omega, by omega, rfl, RisesTo.one _ _ _, HB.out⟩
      case round =>
        obtain ⟨k', hk, hk2, rfl, hR4, hB⟩ := hrel
        clear hBw hz HB
        obtain ⟨hx, ho, hBw, hz⟩ := box1 hB
        have x4 : wr.cell? ⟨w.heap.size, 4, none⟩ = some (.slice a4 n4 c4) := hx 4 _ rfl
        have HB := Lib.hid hB
        have HO := Lib.hid ho
        clear hB hx ho
        by_cases hlt : k' < n4
        · obtain ⟨b, off, rfl, hc⟩ := H4.out (by omega)
          have h1 := HO.out _ _ (hc (k' * 2) (by omega))
          have h2 := HO.out _ _ (hc ((k' - 1) * 2) (by omega))
          have w1 : IntKind.i64.wrap (↑k' - 1) = (k' : Int) - 1 := IntWalk.i64_in _ (by omega)
          have w2 : ((k' : Int) - 1).toNat = k' - 1 := by omega
          have w3 : ¬ ((k' : Int) - 1 < 0) := by omega
          have w4 : ((k' : Int) - 1 < n4) := by omega
          clear hc
          go_wp2
          go_quiet (fail)
          have HR : Hid (RisesTo 2 z4 n4 k') := hR4
          clear hR4
          go_wp2
          · go_ret
            exact NO.out _ (below_drewN hBw _)
          · go_roundw
            case rel => exact ⟨k' + 1, by omega, by omega, by go_num, HR.out.step hk (by simpa using ‹_ < _›), below_drewN HB.out _⟩
            case measure => simp [intOf]; omega
        · go_wp2
          go_ret
          exact YES.out _ (HM.out m0 hR3 (hR4.full (by omega))) hBw
end Go.Proofs.Ytkibdolpapaflaa
