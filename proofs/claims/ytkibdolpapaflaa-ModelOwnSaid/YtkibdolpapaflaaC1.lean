import Derived.Test.YtkibdolpapaflaaB10
namespace Go.Proofs.Ytkibdolpapaflaa
open Go.RowKit

theorem alloc_cell {w : World} {p : Addr} {x : Value} (h : w.cell? p = some x) (o : Obj) : (w.alloc o).cell? p = some x :=
  below_keeps ((Below.refl _ _).alloc (Nat.le_refl _) _) _ _ h

set_option maxHeartbeats 400000 in
theorem put43 (w : World) (B : Nat) (a : Option Addr) (n c : Nat) (cs : Array Value) (h : w.heap[B]? = some (.cells cs 25 (0, 0))) (hc : cs.size = 5) :
    Calls Try.prog 43 #[.slice a n c, .pointer (some ⟨B, 0, none⟩)] w fun e w' => e = .returned (.tuple #[]) ∧ w' = w.setCell ⟨B, 0, none⟩ (.slice a n c) := by
  have c0 : w.cell? ⟨B, 0, none⟩ = some (cs[0]'(by omega)) := by rw [cell_of_row w B 0 _ _ _ h]; simp [hc]
  have f0 := frozen_row h 0
  go_enter Try.func43, Try.ntmps43
  go_wp2
  go_end0
  exact ⟨rfl, rfl⟩

set_option maxHeartbeats 400000 in
theorem put47 (w : World) (B : Nat) (a : Option Addr) (n c : Nat) (cs : Array Value) (h : w.heap[B]? = some (.cells cs 25 (0, 0))) (hc : cs.size = 5) :
    Calls Try.prog 47 #[.slice a n c, .pointer (some ⟨B, 0, none⟩)] w fun e w' => e = .returned (.tuple #[]) ∧ w' = w.setCell ⟨B, 1, none⟩ (.slice a n c) := by
  have c0 : w.cell? ⟨B, 1, none⟩ = some (cs[1]'(by omega)) := by rw [cell_of_row w B 1 _ _ _ h]; simp [hc]
  have f0 := frozen_row h 1
  go_enter Try.func47, Try.ntmps47
  go_wp2
  go_end0
  exact ⟨rfl, rfl⟩

set_option maxHeartbeats 400000 in
theorem put50 (w : World) (B : Nat) (a : Option Addr) (n c : Nat) (cs : Array Value) (h : w.heap[B]? = some (.cells cs 25 (0, 0))) (hc : cs.size = 5) :
    Calls Try.prog 50 #[.slice a n c, .pointer (some ⟨B, 0, none⟩)] w fun e w' => e = .returned (.tuple #[]) ∧ w' = w.setCell ⟨B, 2, none⟩ (.slice a n c) := by
  have c0 : w.cell? ⟨B, 2, none⟩ = some (cs[2]'(by omega)) := by rw [cell_of_row w B 2 _ _ _ h]; simp [hc]
  have f0 := frozen_row h 2
  go_enter Try.func50, Try.ntmps50
  go_wp2
  go_end0
  exact ⟨rfl, rfl⟩

set_option maxHeartbeats 400000 in
theorem put54 (w : World) (B : Nat) (a : Option Addr) (n c : Nat) (cs : Array Value) (h : w.heap[B]? = some (.cells cs 25 (0, 0))) (hc : cs.size = 5) :
    Calls Try.prog 54 #[.slice a n c, .pointer (some ⟨B, 0, none⟩)] w fun e w' => e = .returned (.tuple #[]) ∧ w' = w.setCell ⟨B, 3, none⟩ (.slice a n c) := by
  have c0 : w.cell? ⟨B, 3, none⟩ = some (cs[3]'(by omega)) := by rw [cell_of_row w B 3 _ _ _ h]; simp [hc]
  have f0 := frozen_row h 3
  go_enter Try.func54, Try.ntmps54
  go_wp2
  go_end0
  exact ⟨rfl, rfl⟩

set_option maxHeartbeats 400000 in
theorem put69 (w : World) (B : Nat) (a : Option Addr) (n c : Nat) (cs : Array Value) (h : w.heap[B]? = some (.cells cs 25 (0, 0))) (hc : cs.size = 5) :
    Calls Try.prog 69 #[.slice a n c, .pointer (some ⟨B, 0, none⟩)] w fun e w' => e = .returned (.tuple #[]) ∧ w' = w.setCell ⟨B, 4, none⟩ (.slice a n c) := by
  have c0 : w.cell? ⟨B, 4, none⟩ = some (cs[4]'(by omega)) := by rw [cell_of_row w B 4 _ _ _ h]; simp [hc]
  have f0 := frozen_row h 4
  go_enter Try.func69, Try.ntmps69
  go_wp2
  go_end0
  exact ⟨rfl, rfl⟩

def putF (k : Nat) : Nat := [43, 47, 50, 54, 69].getD k 0
theorem put_any (k : Nat) (hk : k < 5) (w : World) (B : Nat) (a : Option Addr) (n c : Nat) (cs : Array Value) (h : w.heap[B]? = some (.cells cs 25 (0, 0))) (hc : cs.size = 5) :
    Calls Try.prog (putF k) #[.slice a n c, .pointer (some ⟨B, 0, none⟩)] w fun e w' => e = .returned (.tuple #[]) ∧ w' = w.setCell ⟨B, k, none⟩ (.slice a n c) := by
  match k, hk with
  | 0, _ => exact put43 w B a n c cs h hc
  | 1, _ => exact put47 w B a n c cs h hc
  | 2, _ => exact put50 w B a n c cs h hc
  | 3, _ => exact put54 w B a n c cs h hc
  | 4, _ => exact put69 w B a n c cs h hc

theorem put_m0 (a : Option Addr) (n c : Nat) (w : World) : (method 216 68 (.slice a n c) "reclaim/model.put").run Try.prog w = .ok (43, .slice a n c) w := by kernel_rfl
theorem put_m1 (a : Option Addr) (n c : Nat) (w : World) : (method 216 69 (.slice a n c) "reclaim/model.put").run Try.prog w = .ok (47, .slice a n c) w := by kernel_rfl
theorem put_m2 (a : Option Addr) (n c : Nat) (w : World) : (method 216 70 (.slice a n c) "reclaim/model.put").run Try.prog w = .ok (50, .slice a n c) w := by kernel_rfl
theorem put_m3 (a : Option Addr) (n c : Nat) (w : World) : (method 216 71 (.slice a n c) "reclaim/model.put").run Try.prog w = .ok (54, .slice a n c) w := by kernel_rfl
theorem put_m4 (a : Option Addr) (n c : Nat) (w : World) : (method 216 72 (.slice a n c) "reclaim/model.put").run Try.prog w = .ok (69, .slice a n c) w := by kernel_rfl
theorem put_method (k : Nat) (hk : 1 ≤ k) (hk5 : k ≤ 5) (a : Option Addr) (n c : Nat) (w : World) : (method 216 (67 + k) (.slice a n c) "reclaim/model.put").run Try.prog w = .ok (putF (k - 1), .slice a n c) w := by
  match k, hk, hk5 with
  | 1, _, _ => exact put_m0 a n c w
  | 2, _, _ => exact put_m1 a n c w
  | 3, _, _ => exact put_m2 a n c w
  | 4, _, _ => exact put_m3 a n c w
  | 5, _, _ => exact put_m4 a n c w
theorem run_callFunc_body {P : Program} {f : FuncId} {fn : Func} (hf : P.funcs[f]? = some fn) (hname : (fn.name == "runtime.NumGoroutine") = false) (hb : fn.body.isSome = true) (args : Array Value) (w : World) : (callFunc f args).run P w = .ok (.enter f args) w := by
  have h1 : fn.name ≠ "runtime.NumGoroutine" := by simpa using hname
  cases h : fn.body with
  | none => simp [h] at hb
  | some b => simp [callFunc, hf, h, h1]
theorem put_call (k : Nat) (hk : 1 ≤ k) (hk5 : k ≤ 5) (args : Array Value) (w : World) : (callFunc (putF (k - 1)) args).run Try.prog w = .ok (.enter (putF (k - 1)) args) w := by
  match k, hk, hk5 with
  | 1, _, _ => exact run_callFunc_body Try.func43 (by kernel_rfl) (by kernel_rfl) args w
  | 2, _, _ => exact run_callFunc_body Try.func47 (by kernel_rfl) (by kernel_rfl) args w
  | 3, _, _ => exact run_callFunc_body Try.func50 (by kernel_rfl) (by kernel_rfl) args w
  | 4, _, _ => exact run_callFunc_body Try.func54 (by kernel_rfl) (by kernel_rfl) args w
  | 5, _, _ => exact run_callFunc_body Try.func69 (by kernel_rfl) (by kernel_rfl) args w
def doF (k : Nat) : Nat := [42, 46, 49, 52, 67].getD k 0
theorem do_m0 (a : Option Addr) (n c : Nat) (w : World) : (method 216 68 (.slice a n c) "reclaim/model.do").run Try.prog w = .ok (42, .slice a n c) w := by kernel_rfl
theorem do_m1 (a : Option Addr) (n c : Nat) (w : World) : (method 216 69 (.slice a n c) "reclaim/model.do").run Try.prog w = .ok (46, .slice a n c) w := by kernel_rfl
theorem do_m2 (a : Option Addr) (n c : Nat) (w : World) : (method 216 70 (.slice a n c) "reclaim/model.do").run Try.prog w = .ok (49, .slice a n c) w := by kernel_rfl
theorem do_m3 (a : Option Addr) (n c : Nat) (w : World) : (method 216 71 (.slice a n c) "reclaim/model.do").run Try.prog w = .ok (52, .slice a n c) w := by kernel_rfl
theorem do_m4 (a : Option Addr) (n c : Nat) (w : World) : (method 216 72 (.slice a n c) "reclaim/model.do").run Try.prog w = .ok (67, .slice a n c) w := by kernel_rfl
theorem do_method (k : Nat) (hk : 1 ≤ k) (hk5 : k ≤ 5) (a : Option Addr) (n c : Nat) (w : World) : (method 216 (67 + k) (.slice a n c) "reclaim/model.do").run Try.prog w = .ok (doF (k - 1), .slice a n c) w := by
  match k, hk, hk5 with
  | 1, _, _ => exact do_m0 a n c w
  | 2, _, _ => exact do_m1 a n c w
  | 3, _, _ => exact do_m2 a n c w
  | 4, _, _ => exact do_m3 a n c w
  | 5, _, _ => exact do_m4 a n c w
theorem do_call (k : Nat) (hk : 1 ≤ k) (hk5 : k ≤ 5) (args : Array Value) (w : World) : (callFunc (doF (k - 1)) args).run Try.prog w = .ok (.enter (doF (k - 1)) args) w := by
  match k, hk, hk5 with
  | 1, _, _ => exact run_callFunc_body Try.func42 (by kernel_rfl) (by kernel_rfl) args w
  | 2, _, _ => exact run_callFunc_body Try.func46 (by kernel_rfl) (by kernel_rfl) args w
  | 3, _, _ => exact run_callFunc_body Try.func49 (by kernel_rfl) (by kernel_rfl) args w
  | 4, _, _ => exact run_callFunc_body Try.func52 (by kernel_rfl) (by kernel_rfl) args w
  | 5, _, _ => exact run_callFunc_body Try.func67 (by kernel_rfl) (by kernel_rfl) args w

def onlyV (k : Nat) (x : Value) (i : Nat) : Value := if i = k then x else .slice none 0 0
def onlyN (k n : Nat) (i : Nat) : Nat := if i = k then n else 0
def onlyZ (k : Nat) (z : List Int) (i : Nat) : List Int := if i = k then z else []
theorem COwn.only {w : World} {base n : Nat} {x y : Value} {z : List Int} (k : Nat) (h : Own w base (ety k) (esz k) y n z) (e : y = x) : COwn w base (onlyV k x) (onlyN k n) (onlyZ k z) := by
  subst e
  refine ⟨fun i _ => ?_, fun i j _ _ hij => ?_⟩
  · unfold onlyV onlyN onlyZ
    split
    · rename_i h'; subst h'; exact h
    · exact Own.empty _ _ _ _ _
  · unfold onlyV
    by_cases hi : i = k
    · rw [if_pos hi, if_neg (show ¬ j = k by omega)]
      by_cases hb : blk y = none
      · exact .inl hb
      · exact .inr (by simpa [blk] using hb)
    · rw [if_neg hi]; exact .inl rfl
theorem setK {w : World} {B : Nat} (k : Nat) (hk : k < 5) (h : w.heap[B]? = some (.cells #[.slice none 0 0, .slice none 0 0, .slice none 0 0, .slice none 0 0, .slice none 0 0] 25 (0, 0))) (x : Value) :
    (w.setCell ⟨B, k, none⟩ x).heap[B]? = some (.cells #[onlyV k x 0, onlyV k x 1, onlyV k x 2, onlyV k x 3, onlyV k x 4] 25 (0, 0)) := by
  rw [setCell_eq_setRow w B k _ 25 (0, 0) x h, setRow_heap w B _ _ 25 (0, 0) h]
  match k, hk with
  | 0, _ => rfl
  | 1, _ => rfl
  | 2, _ => rfl
  | 3, _ => rfl
  | 4, _ => rfl

set_option maxRecDepth 20000 in
set_option maxHeartbeats 800000 in
theorem part_any (w : World) (v : Nat → Value) (n : Nat → Nat) (z : Nat → List Int) (k : Nat) (hk : 1 ≤ k) (hk5 : k ≤ 5) (hr : ∀ i, i < 5 → Rd w (v i) (esz i) (n i) (z i)) (hb : Small n) (hm : MayP n z) :
    Calls Try.prog 9 #[.agg #[v 0, v 1, v 2, v 3, v 4], .int .i64 k] w fun e w' => ∃ (u : Nat → Value) (n' : Nat → Nat) (z' : Nat → List Int), e = .returned (.tuple #[.agg #[u 0, u 1, u 2, u 3, u 4], .int .i64 0]) ∧ COwn w' w.heap.size u n' z' ∧ Small n' ∧ Below w.heap.size w w' := by
  have HR := Lib.hid hr
  have HBD := Lib.hid hb
  have HM := Lib.hid hm
  clear hr hb hm
  have q1 : ¬ ((k : Int) < 1) := by omega
  have q2 : ¬ (5 < (k : Int)) := by omega
  go_enter Try.func9, Try.ntmps9
  go_wp2_with fail
  refine (may23_any _ v n z (fun i hi => (HR.out i hi).below (((Below.refl _ _).alloc (Nat.le_refl _) _).alloc (by simp) _)) HBD.out.le HM.out).mono ?_
  rintro e w1 ⟨rfl, hB⟩
  obtain ⟨h0, h1, hBw, hz⟩ := box2 hB (by simp)
  have HB1 := Lib.hid hBw
  have x0 := alloc_cell (cell_facts h0 0 _ rfl)
  have x1 := alloc_cell (cell_facts h0 1 _ rfl)
  have x2 := alloc_cell (cell_facts h0 2 _ rfl)
  have x3 := alloc_cell (cell_facts h0 3 _ rfl)
  have x4 := alloc_cell (cell_facts h0 4 _ rfl)
  have H0 := Lib.hid h0
  have H1 := Lib.hid h1
  clear hB hBw h0 h1
  go_wp2_with fail
  refine (copied_any _ v n z (fun i hi => ((HR.out i hi).below HB1.out).below ((Below.refl _ _).alloc (Nat.le_refl _) _)) HBD.out.le).mono ?_
  rintro e w2 ⟨u, rfl, hC, hn, hB2⟩
  have HC := Lib.hid hC
  have HN := Lib.hid hn
  have HB2 := Lib.hid hB2
  clear hC hn hB2 x0 x1 x2 x3 x4
  go_wp2_with fail
  refine (of21 _ u k hk hk5).mono ?_
  rintro e w3 ⟨rfl, hB3⟩
  have HB3 := Lib.hid hB3
  clear hB3
  obtain ⟨ak, mk, hk'⟩ := (HC.out.own (k - 1) (by omega)).rd.slice_form
  have pm := fun w => put_method k hk hk5 ak (n (k - 1)) mk w
  have pc := fun args w => put_call k hk hk5 args w
  have HK := Lib.hid hk'
  rw [hk']
  clear hk'
  have hP3 : w3.heap[w1.heap.size]? = some (.cells #[.slice none 0 0, .slice none 0 0, .slice none 0 0, .slice none 0 0, .slice none 0 0] 25 (0, 0)) := by
    rw [HB3.out.block _ (by have := size1 HB2.out; omega), HB2.out.block _ (by simp)]
    exact heap_alloc_new w1 _
  have hz2 := size1 HB2.out
  have hz3 : w1.heap.size < w3.heap.size := by have := HB3.out.size; omega
  go_wp2_with fail
  refine (put_any (k - 1) (by omega) w3 w1.heap.size ak (n (k - 1)) mk _ hP3 rfl).mono ?_
  rintro e w4 ⟨rfl, rfl⟩
  have hP4 := setK (k - 1) (by omega) hP3 (.slice ak (n (k - 1)) mk)
  have hoth : ∀ j, j ≠ w1.heap.size → (w3.setCell ⟨w1.heap.size, k - 1, none⟩ (.slice ak (n (k - 1)) mk)).heap[j]? = w3.heap[j]? := fun j hj => Below.heap_setCell _ _ _ _ hj
  have h1 : (w3.setCell ⟨w1.heap.size, k - 1, none⟩ (.slice ak (n (k - 1)) mk)).heap[w.heap.size + 1]? = _ := (hoth _ (by omega)).trans ((HB3.out.block _ (by omega)).trans ((HB2.out.block _ (by simp; omega)).trans ((Below.heap_alloc _ _ _ (by omega)).trans H1.out)))
  have HBf : Hid (Below w.heap.size w (w3.setCell ⟨w1.heap.size, k - 1, none⟩ (.slice ak (n (k - 1)) mk))) :=
    (((HB1.out.alloc (by omega) _).trans (HB2.out.mono (by simp; omega))).trans (HB3.out.mono (by omega))).setCell (by simp; omega) _
  have HCf : Hid (COwn (w3.setCell ⟨w1.heap.size, k - 1, none⟩ (.slice ak (n (k - 1)) mk)) (w1.heap.size + 1) (onlyV (k - 1) (.slice ak (n (k - 1)) mk)) (onlyN (k - 1) (n (k - 1))) (onlyZ (k - 1) (z (k - 1)))) := by
    refine COwn.only (k - 1) (((HC.out.own (k - 1) (by omega)).below HB3.out).of_block (w' := w3.setCell ⟨w1.heap.size, k - 1, none⟩ (.slice ak (n (k - 1)) mk)) (fun j hj => hoth j ?_) |>.mono (by simp)) HK.out
    have := ((HC.out.own (k - 1) (by omega)).lt j hj).1
    simp at this
    omega
  generalize w3.setCell ⟨w1.heap.size, k - 1, none⟩ (.slice ak (n (k - 1)) mk) = w4 at *
  have x0 := cell_facts hP4 0 _ rfl
  have x1 := cell_facts hP4 1 _ rfl
  have x2 := cell_facts hP4 2 _ rfl
  have x3 := cell_facts hP4 3 _ rfl
  have x4 := cell_facts hP4 4 _ rfl
  have hall := HCf.out.one
  have hc := fun j x hx => setRow_cells (cs := #[onlyV (k - 1) (.slice ak (n (k - 1)) mk) 0, onlyV (k - 1) (.slice ak (n (k - 1)) mk) 1, onlyV (k - 1) (.slice ak (n (k - 1)) mk) 2, onlyV (k - 1) (.slice ak (n (k - 1)) mk) 3, onlyV (k - 1) (.slice ak (n (k - 1)) mk) 4]) h1 j x hx
  have c0 := hc 0 _ rfl
  have c1 := hc 1 _ rfl
  have c2 := hc 2 _ rfl
  have c3 := hc 3 _ rfl
  have c4 := hc 4 _ rfl
  clear hc pm pc hP3 hP4 hoth
  generalize hV : onlyV (k - 1) (.slice ak (n (k - 1)) mk) = V at *
  clear hV
  go_wp2_with (refine wpList_store_row rfl 25 (.tmp 4) (.tmp 23) rfl (w.heap.size + 1) #[V 0, V 1, V 2, V 3, V 4] rfl rfl 25 _ h1 (by kernel_rfl) rfl hall ?_)
  refine bodyPost_ret (v := .tuple #[.agg #[V 0, V 1, V 2, V 3, V 4], .int .i64 0]) (by simp [results, Try.results9, go_sem, c0, c1, c2, c3, c4]) rfl
    ⟨V, _, _, rfl, HCf.out.of_cut (by omega) (fun j hj => setRow_other _ _ _ _ (by omega)), ?_, below_setRow HBf.out (by omega) _⟩
  intro i hi
  have := HBD.out (k - 1) (by omega)
  unfold onlyN
  split
  · rename_i h; subst h; exact this
  · omega
end Go.Proofs.Ytkibdolpapaflaa
