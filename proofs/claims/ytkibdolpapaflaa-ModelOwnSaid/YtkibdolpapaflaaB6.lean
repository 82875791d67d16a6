import Derived.Test.YtkibdolpapaflaaB5
import Derived.Deep.RegionHeld3
namespace Go.Proofs.Ytkibdolpapaflaa
open Go.RowKit

def CmpPost (w : World) (e : Ending) (w' : World) : Prop := ∃ r : Int, e = .returned (.int .i64 r) ∧ Below w.heap.size w w'
set_option maxHeartbeats 400000 in
theorem cmp75 (k v x : Int) (w : World) : Calls Try.prog 75 #[.agg #[.int .i64 k, .int .i64 v], .int .i64 x] w fun e w' => CmpPost w e w' := by
  go_enter Try.func75, Try.ntmps75
  go_wp2
  all_goals
    go_ret
    exact ⟨_, rfl, (Below.refl _ _).alloc (Nat.le_refl _) _⟩

def BfPost (n : Nat) (w : World) (e : Ending) (w' : World) : Prop := ∃ (i : Nat) (ok : Bool), e = .returned (.tuple #[.int .i64 i, .bool ok]) ∧ i ≤ n ∧ (ok = true → i < n) ∧ Below w.heap.size w w'

set_option maxRecDepth 20000 in
set_option maxHeartbeats 800000 in
theorem bf74 (w : World) (v : Value) (n : Nat) (zs : List Int) (x : Int) (hr : Rd w v 2 n zs) (hb : n * 16 ≤ 140737488355328) :
    Calls Try.prog 74 #[v, .int .i64 x, .func (.func 75) #[] #[]] w fun e w' => BfPost n w e w' := by
  obtain ⟨a, c, rfl, h0⟩ := hr.at
  have H0 := Lib.hid h0
  clear h0 hr
  go_enter Try.func74, Try.ntmps74
  go_wp2
  go_loopw [9, 10] (fun i j wr => ∃ p q : Nat, p ≤ q ∧ q ≤ n ∧ i = .int .i64 p ∧ j = .int .i64 q ∧ Below w.heap.size w wr) (fun i j _ => (intOf j - intOf i).toNat)
  case atStart => exact ⟨0, n, by omega, by omega, rfl, rfl, Below.refl _ _⟩
  case round =>
    obtain ⟨p, q, hpq, hq, rfl, rfl, hB⟩ := hrel
    have HB := Lib.hid hB
    clear hB
    by_cases hlt : p < q
    · obtain ⟨b, off, rfl, hc⟩ := H0.out (by omega)
      have h1 := below_keeps HB.out _ _ (hc ((p + q) / 2 * 2) (by omega))
      have h2 := below_keeps HB.out _ _ (hc ((p + q) / 2 * 2 + 1) (by omega))
      rw [← Nat.add_assoc] at h2
      clear hc
      go_wp2_with (go_at_call 75; refine (cmp75 _ _ _ _).mono ?_; rintro e w' ⟨r, rfl, hB1⟩; have HB1 := Lib.hid hB1; clear hB1)
      · go_roundw
        case rel => exact ⟨(p + q) / 2 + 1, q, by omega, by omega, by go_num, rfl, HB.out.trans (HB1.out.mono HB.out.size)⟩
        case measure => simp [intOf]; omega
      · go_roundw
        case rel => exact ⟨p, (p + q) / 2, by omega, by omega, rfl, by go_num, HB.out.trans (HB1.out.mono HB.out.size)⟩
        case measure => simp [intOf]; omega
    · have hpq2 : q = p := by omega
      subst hpq2
      by_cases hn : q < n
      · obtain ⟨b, off, rfl, hc⟩ := H0.out (by omega)
        have h1 := below_keeps HB.out _ _ (hc (q * 2) (by omega))
        have h2 := below_keeps HB.out _ _ (hc (q * 2 + 1) (by omega))
        rw [← Nat.add_assoc] at h2
        clear hc
        go_wp2_with (go_at_call 75; refine (cmp75 _ _ _ _).mono ?_; rintro e w' ⟨r, rfl, hB1⟩; have HB1 := Lib.hid hB1; clear hB1)
        all_goals
          go_ret2
          exact ⟨q, _, rfl, by omega, fun _ => hn, HB.out.trans (HB1.out.mono HB.out.size)⟩
      · go_wp2_with fail
        all_goals
          go_ret2
          exact ⟨q, _, rfl, by omega, fun h => by simp at h, HB.out⟩

set_option maxHeartbeats 400000 in
theorem find70 (w : World) (v : Value) (n : Nat) (zs : List Int) (x : Int) (hr : Rd w v 2 n zs) (hb : n * 16 ≤ 140737488355328) :
    Calls Try.prog 70 #[v, .int .i64 x] w fun e w' => BfPost n w e w' := by
  have HC := Lib.hid (bf74 w v n zs x hr hb)
  clear hr
  go_enter Try.func70, Try.ntmps70
  go_wp2_with (go_at_call 74; refine HC.out.mono ?_; rintro e w' ⟨i, ok, rfl, h1, h2, h3⟩; have H2 := Lib.hid h2; have H3 := Lib.hid h3; clear h2 h3)
  go_ret2
  exact ⟨i, ok, rfl, h1, H2.out, H3.out⟩

theorem box1h {w wr : World} {cs : Array Value} {T : TypeId} {B : Nat} (hB : Below B (w.alloc (.cells cs T)) wr) (hb : w.heap.size + 1 ≤ B) :
    wr.heap[w.heap.size]? = some (.cells cs T (0, 0)) ∧ Below w.heap.size w wr ∧ w.heap.size < wr.heap.size := by
  have h1 : wr.heap[w.heap.size]? = some (.cells cs T (0, 0)) := by rw [hB.block _ (by omega)]; exact heap_alloc_new w _
  exact ⟨h1, ((Below.refl _ _).alloc (Nat.le_refl _) _).trans (hB.mono (by omega)), (Array.getElem?_eq_some_iff.1 h1).1⟩

def YesPost (w : World) (e : Ending) (w' : World) : Prop := ∃ k : Int, e = .returned (.agg #[.int .i64 k, .int .i64 0]) ∧ Below w.heap.size w w'

set_option maxRecDepth 20000 in
set_option maxHeartbeats 400000 in
theorem yes58 (b : Bool) (w : World) : Calls Try.prog 58 #[.bool b] w fun e w' => YesPost w e w' := by
  cases b
  · go_enter Try.func58, Try.ntmps58
    go_wp2_with fail
    refine (told_any _ _).mono ?_
    rintro e w1 ⟨rfl, hB⟩
    obtain ⟨h0, hBw, hz⟩ := box1h hB (by simp)
    have HB := Lib.hid hBw
    clear hB hBw
    have c0 := setRow_cells (cs := #[.int .i64 6, .int .i64 0]) h0 0 _ rfl
    have c1 := setRow_cells (cs := #[.int .i64 6, .int .i64 0]) h0 1 _ rfl
    have hall : (#[.int .i64 6, .int .i64 0] : Array Value).all (·.oneCell') = true := by simp [Value.oneCell']
    go_wp2_with (refine wpList_store_row rfl 33 (.tmp 2) (.tmp 5) rfl w.heap.size #[.int .i64 6, .int .i64 0] rfl rfl 33 _ h0 (by kernel_rfl) rfl hall ?_)
    exact bodyPost_ret (v := .agg #[.int .i64 6, .int .i64 0]) (by simp [results, Try.results58, go_sem, c0, c1]) rfl ⟨_, rfl, below_setRow HB.out (Nat.le_refl _) _⟩
  · go_enter Try.func58, Try.ntmps58
    go_wp2_with fail
    refine (told_any _ _).mono ?_
    rintro e w1 ⟨rfl, hB⟩
    obtain ⟨h0, hBw, hz⟩ := box1h hB (by simp)
    have HB := Lib.hid hBw
    clear hB hBw
    have c0 := setRow_cells (cs := #[.int .i64 5, .int .i64 0]) h0 0 _ rfl
    have c1 := setRow_cells (cs := #[.int .i64 5, .int .i64 0]) h0 1 _ rfl
    have hall : (#[.int .i64 5, .int .i64 0] : Array Value).all (·.oneCell') = true := by simp [Value.oneCell']
    go_wp2_with (refine wpList_store_row rfl 33 (.tmp 2) (.tmp 4) rfl w.heap.size #[.int .i64 5, .int .i64 0] rfl rfl 33 _ h0 (by kernel_rfl) rfl hall ?_)
    exact bodyPost_ret (v := .agg #[.int .i64 5, .int .i64 0]) (by simp [results, Try.results58, go_sem, c0, c1]) rfl ⟨_, rfl, below_setRow HB.out (Nat.le_refl _) _⟩

set_option maxRecDepth 20000 in
set_option maxHeartbeats 400000 in
theorem refused19 (w : World) (v : Nat → Value) (n : Nat → Nat) (z : Nat → List Int) (op : Int) (hr : ∀ i, i < 5 → Rd w (v i) (esz i) (n i) (z i)) (hb : ∀ i, i < 5 → n i * (8 * esz i) ≤ 140737488355328) (hm : MayP n z) (ho : objOf op ≠ 0) :
    Calls Try.prog 19 #[.agg #[v 0, v 1, v 2, v 3, v 4], .int .i64 op] w fun e w' => e = .returned (.int .i64 0) ∧ Below w.heap.size w w' := by
  have hr1 : ∀ i, i < 5 → Rd (w.alloc (.cells #[v 0, v 1, v 2, v 3, v 4] 25)) (v i) (esz i) (n i) (z i) := fun i hi => (hr i hi).below ((Below.refl _ _).alloc (Nat.le_refl _) _)
  have HC := Lib.hid (may23_any _ v n z hr1 hb hm)
  have h0 : (objOf op == 0) = false := by simpa using ho
  clear hr hr1 hb hm ho
  go_enter Try.func19, Try.ntmps19
  go_wp2_with (first | (go_at_call 23; refine HC.out.mono ?_; rintro e w1 ⟨rfl, hB⟩; have HB := Lib.hid hB; clear hB) | (go_at_call 10; refine (object_any _ _).mono ?_; rintro e w' ⟨rfl, rfl⟩))
  go_ret
  exact ⟨rfl, ((Below.refl _ _).alloc (Nat.le_refl _) _).trans (HB.out.mono (by simp))⟩

set_option maxHeartbeats 400000 in
theorem of21 (w : World) (v : Nat → Value) (k : Nat) (hk : 1 ≤ k) (hk5 : k ≤ 5) :
    Calls Try.prog 21 #[.agg #[v 0, v 1, v 2, v 3, v 4], .int .i64 k] w fun e w' => e = .returned (.iface (67 + k) (v (k - 1))) ∧ Below w.heap.size w w' := by
  have : k = 1 ∨ k = 2 ∨ k = 3 ∨ k = 4 ∨ k = 5 := by omega
  rcases this with rfl | rfl | rfl | rfl | rfl
  all_goals
    go_enter Try.func21, Try.ntmps21
    go_wp2
    go_ret
    exact ⟨rfl, (Below.refl _ _).alloc (Nat.le_refl _) _⟩
end Go.Proofs.Ytkibdolpapaflaa
