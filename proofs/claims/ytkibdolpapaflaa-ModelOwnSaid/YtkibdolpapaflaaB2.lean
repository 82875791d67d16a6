import Derived.Test.YtkibdolpapaflaaB1
namespace Go.Proofs.Ytkibdolpapaflaa
open Go.RowKit

def Small (n : Nat → Nat) : Prop := ∀ i, i < 5 → n i * (8 * esz i) ≤ 140737488351232
theorem Small.le {n : Nat → Nat} (h : Small n) : ∀ i, i < 5 → n i * (8 * esz i) ≤ 140737488355328 := fun i hi => Nat.le_trans (h i hi) (by omega)

def RightPost (w : World) (e : Ending) (w' : World) : Prop :=
  ∃ (u : Nat → Value) (n : Nat → Nat) (z : Nat → List Int), e = .returned (.agg #[u 0, u 1, u 2, u 3, u 4]) ∧ COwn w' w.heap.size u n z ∧ MayP n z ∧ Small n ∧ Below w.heap.size w w'

theorem COwn.nils (w : World) (base : Nat) : COwn w base (fun _ => .slice none 0 0) (fun _ => 0) (fun _ => []) :=
  ⟨fun i _ => Own.empty _ _ _ _ _, fun _ _ _ _ _ => .inl rfl⟩

theorem cell_facts {w : World} {g : Nat} {cs : Array Value} {t : TypeId} {fr : Nat × Nat} (h : w.heap[g]? = some (.cells cs t fr)) (k : Nat) (x : Value) (hx : cs[k]? = some x) : w.cell? ⟨g, k, none⟩ = some x := by
  rw [cell_of_row w g k _ _ _ h]; exact hx

theorem COwn.of_cut {w w' : World} {b b' : Nat} {u : Nat → Value} {n : Nat → Nat} {z : Nat → List Int} (h : COwn w b u n z) (hb : b' ≤ b) (hh : ∀ k, b ≤ k → w'.heap[k]? = w.heap[k]?) : COwn w' b' u n z :=
  ⟨fun i hi => ((h.own i hi).of_block fun k hk => hh k ((h.own i hi).lt k hk).1).mono hb, h.apart⟩

theorem COwn.one {w : World} {b : Nat} {u : Nat → Value} {n : Nat → Nat} {z : Nat → List Int} (h : COwn w b u n z) : (#[u 0, u 1, u 2, u 3, u 4] : Array Value).all (·.oneCell') = true := by
  have hf : ∀ k, k < 5 → (u k).oneCell' = true := by
    intro k hk
    obtain ⟨a, m, e⟩ := (h.own k hk).rd.slice_form
    rw [e]; rfl
  simp [hf]

set_option maxRecDepth 20000 in
set_option maxHeartbeats 400000 in
theorem right_any (w : World) (v : Nat → Value) (n : Nat → Nat) (z : Nat → List Int) (hr : ∀ i, i < 5 → Rd w (v i) (esz i) (n i) (z i)) (hb : Small n) :
    Calls Try.prog 4 #[.agg #[v 0, v 1, v 2, v 3, v 4]] w fun e w' => RightPost w e w' := by
  have hr1 : ∀ i, i < 5 → Rd ((w.alloc (.cells #[v 0, v 1, v 2, v 3, v 4] 25)).alloc (.cells #[.slice none 0 0, .slice none 0 0, .slice none 0 0, .slice none 0 0, .slice none 0 0] 25)) (v i) (esz i) (n i) (z i) := fun i hi => (hr i hi).below (((Below.refl _ _).alloc (Nat.le_refl _) _).alloc (by simp) _)
  have HC := Lib.hid (may16_any _ v n z hr1 hb.le)
  have HR := Lib.hid hr
  have HBD := Lib.hid hb
  clear hr hr1 hb
  go_enter Try.func4, Try.ntmps4
  go_wp2_with fail
  refine HC.out.mono ?_
  rintro e w1 ⟨b, rfl, hm, hB⟩
  obtain ⟨h0, h1, hBw, hz⟩ := box2 hB (by simp)
  have HB := Lib.hid hBw
  have H0 := Lib.hid h0
  clear hB hBw HC h0
  cases b
  · clear hm
    have hall : (#[.slice none 0 0, .slice none 0 0, .slice none 0 0, .slice none 0 0, .slice none 0 0] : Array Value).all (·.oneCell') = true := by simp [Value.oneCell']
    have hc := fun k x hx => setRow_cells (cs := #[.slice none 0 0, .slice none 0 0, .slice none 0 0, .slice none 0 0, .slice none 0 0]) h1 k x hx
    have c0 := hc 0 _ rfl
    have c1 := hc 1 _ rfl
    have c2 := hc 2 _ rfl
    have c3 := hc 3 _ rfl
    have c4 := hc 4 _ rfl
    clear hc
    go_wp2_with (refine wpList_store_row rfl 25 (.tmp 2) (.tmp 6) rfl (w.heap.size + 1) #[.slice none 0 0, .slice none 0 0, .slice none 0 0, .slice none 0 0, .slice none 0 0] rfl rfl 25 _ h1 (by kernel_rfl) rfl hall ?_)
    refine bodyPost_ret (v := .agg #[.slice none 0 0, .slice none 0 0, .slice none 0 0, .slice none 0 0, .slice none 0 0]) (by simp [results, Try.results4, go_sem, c0, c1, c2, c3, c4]) rfl
      ⟨fun _ => .slice none 0 0, fun _ => 0, fun _ => [], rfl, COwn.nils _ _, ⟨by simp, by simp, by simp⟩, fun _ _ => by simp, below_setRow HB.out (by omega) _⟩
  · have HM := Lib.hid (hm rfl)
    clear hm
    have x0 := cell_facts H0.out 0 _ rfl
    have x1 := cell_facts H0.out 1 _ rfl
    have x2 := cell_facts H0.out 2 _ rfl
    have x3 := cell_facts H0.out 3 _ rfl
    have x4 := cell_facts H0.out 4 _ rfl
    have H1 := Lib.hid h1
    clear h1
    go_wp2_with fail
    refine (copy6_any w1 v n z (fun i hi => (HR.out i hi).below HB.out) HBD.out.le).mono ?_
    rintro e w2 ⟨u, rfl, hC, hB2⟩
    have h1 : w2.heap[w.heap.size + 1]? = _ := (hB2.block _ hz).trans H1.out
    have hall := hC.one
    have HC := Lib.hid hC
    have HB2 := Lib.hid hB2
    clear hC hB2 x0 x1 x2 x3 x4 H0
    have hc := fun k x hx => setRow_cells (cs := #[u 0, u 1, u 2, u 3, u 4]) h1 k x hx
    have c0 := hc 0 _ rfl
    have c1 := hc 1 _ rfl
    have c2 := hc 2 _ rfl
    have c3 := hc 3 _ rfl
    have c4 := hc 4 _ rfl
    clear hc
    go_wp2_with (refine wpList_store_row rfl 25 (.tmp 2) (.tmp 8) rfl (w.heap.size + 1) #[u 0, u 1, u 2, u 3, u 4] rfl rfl 25 _ h1 (by kernel_rfl) rfl hall ?_)
    refine bodyPost_ret (v := .agg #[u 0, u 1, u 2, u 3, u 4]) (by simp [results, Try.results4, go_sem, c0, c1, c2, c3, c4]) rfl
      ⟨u, n, z, rfl, HC.out.of_cut (by omega) (fun k hk => setRow_other _ _ _ _ (by omega)), HM.out, HBD.out, below_setRow (HB.out.trans (HB2.out.mono (by omega))) (by omega) _⟩

def isOp (o : Int) : Prop := o = 22 ∨ o = 23 ∨ o = 30 ∨ o = 31 ∨ o = 40 ∨ o = 41 ∨ o = 50 ∨ o = 51 ∨ o = 52 ∨ o = 60 ∨ o = 61 ∨ o = 62

def objOf (op : Int) : Int :=
  if op = 22 ∨ op = 23 then 1 else if op = 30 ∨ op = 31 then 2 else if op = 40 ∨ op = 41 then 3
  else if op = 50 ∨ op = 51 ∨ op = 52 then 4 else if op = 60 ∨ op = 61 ∨ op = 62 then 5 else 0

set_option maxHeartbeats 400000 in
theorem object_any (op : Int) (w : World) :
    Calls Try.prog 10 #[.int .i64 op] w fun e w' => e = .returned (.int .i64 (objOf op)) ∧ w = w' := by
  go_enter Try.func10, Try.ntmps10
  go_wp2
  all_goals (go_ret; refine ⟨?_, rfl⟩; simp_all [objOf])

set_option maxHeartbeats 400000 in
theorem told_any (k : Int) (w : World) :
    Calls Try.prog 44 #[.int .i64 k] w fun e w' => e = .returned (.agg #[.int .i64 k, .int .i64 0]) ∧ Below w.heap.size w w' := by
  go_enter Try.func44, Try.ntmps44
  go_wp2
  exact bodyPost_ret (v := .agg #[.int .i64 k, .int .i64 0]) (by simp [results, Try.results44, go_sem]) rfl ⟨rfl, (Below.refl _ _).alloc (Nat.le_refl _) _⟩
set_option maxHeartbeats 400000 in
theorem value_any (k : Int) (w : World) :
    Calls Try.prog 45 #[.int .i64 k] w fun e w' => e = .returned (.agg #[.int .i64 2, .int .i64 k]) ∧ Below w.heap.size w w' := by
  go_enter Try.func45, Try.ntmps45
  go_wp2
  exact bodyPost_ret (v := .agg #[.int .i64 2, .int .i64 k]) (by simp [results, Try.results45, go_sem]) rfl ⟨rfl, (Below.refl _ _).alloc (Nat.le_refl _) _⟩
def PickPost (w : World) (e : Ending) (w' : World) : Prop := (∃ o, isOp o ∧ e = .returned (.int .i64 o)) ∧ Below w.heap.size w w'
set_option maxHeartbeats 400000 in
theorem pick_any (k : Int) (w : World) :
    Calls Try.prog 5 #[.int .i64 k] w fun e w' => PickPost w e w' := by
  have h0 : 0 ≤ IntKind.u64.wrap k := by simp [IntKind.wrap, IntKind.signed, IntKind.bits]; omega
  have h1 : 0 ≤ (IntKind.u64.wrap k).tmod 12 := Int.tmod_nonneg _ h0
  have h2 : (IntKind.u64.wrap k).tmod 12 < 12 := Int.tmod_lt_of_pos _ (by omega)
  clear h0
  have : (IntKind.u64.wrap k).tmod 12 = 0 ∨ (IntKind.u64.wrap k).tmod 12 = 1 ∨ (IntKind.u64.wrap k).tmod 12 = 2 ∨ (IntKind.u64.wrap k).tmod 12 = 3 ∨ (IntKind.u64.wrap k).tmod 12 = 4 ∨ (IntKind.u64.wrap k).tmod 12 = 5 ∨ (IntKind.u64.wrap k).tmod 12 = 6 ∨ (IntKind.u64.wrap k).tmod 12 = 7 ∨ (IntKind.u64.wrap k).tmod 12 = 8 ∨ (IntKind.u64.wrap k).tmod 12 = 9 ∨ (IntKind.u64.wrap k).tmod 12 = 10 ∨ (IntKind.u64.wrap k).tmod 12 = 11 := by omega
  clear h1 h2
  rcases this with h | h | h | h | h | h | h | h | h | h | h | h
  all_goals
    go_enter Try.func5, Try.ntmps5
    go_wp2
    go_ret
    exact ⟨⟨_, by simp [isOp], rfl⟩, (Below.refl _ _).alloc (Nat.le_refl _) _⟩
end Go.Proofs.Ytkibdolpapaflaa
