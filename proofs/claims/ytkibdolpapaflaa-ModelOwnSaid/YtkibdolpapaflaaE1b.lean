import Derived.Test.YtkibdolpapaflaaE0
namespace Go.Proofs.Ytkibdolpapaflaa
open Go.RowKit

/-- What each operation of the region around Part has left. -/
def P8 (B : Nat) (s : Nat → Value) (o : Int) (k : Nat) : Nat → Value → Act → World → Prop
  | 0, x, _, _ => x = .agg #[s 0, s 1, s 2, s 3, s 4]
  | 1, x, _, _ => x = .int .i64 o
  | 2, x, _, _ => x = .int .i64 k
  | 3, x, _, ws => ∃ (u : Nat → Value) (n : Nat → Nat) (z : Nat → List Int), x = .tuple #[.agg #[u 0, u 1, u 2, u 3, u 4], .int .i64 0] ∧ COwn ws B u n z ∧ Small n
  | 4, x, _, ws => ∃ (u : Nat → Value) (n : Nat → Nat) (z : Nat → List Int), x = .tuple #[.agg #[u 0, u 1, u 2, u 3, u 4], .int .i64 0] ∧ COwn ws B u n z ∧ Small n
  | 5, x, _, ws => ∃ (u : Nat → Value) (n : Nat → Nat) (z : Nat → List Int), x = .agg #[u 0, u 1, u 2, u 3, u 4] ∧ COwn ws B u n z ∧ Small n
  | 6, x, _, _ => x = .int .i64 0
  | 7, x, _, ws => ∃ (A : Nat) (cs : Array Value), x = .pointer (some ⟨A, 0, none⟩) ∧ B ≤ A ∧ ws.heap[A]? = some (.cells cs 25 (0, 0)) ∧ cs.size = 5
  | 8, _, a, ws => ∃ (A : Nat) (u : Nat → Value) (n : Nat → Nat) (z : Nat → List Int), a.tmps.getD 19 undef = .pointer (some ⟨A, 0, none⟩) ∧ B ≤ A ∧ ws.heap[A]? = some (.cells #[u 0, u 1, u 2, u 3, u 4] 25 (0, 0)) ∧ COwn ws B u n z ∧ Small n
  | 9, x, _, _ => x = .int .i64 0
  | _, _, _, _ => True

theorem put19 (a : Act) (d : Option Tmp) (hd : d ≠ some 19) (v : Value) : (a.put d v).tmps.getD 19 undef = a.tmps.getD 19 undef := by
  cases d with
  | none => rfl
  | some d =>
    have : d ≠ 19 := fun e => hd (by rw [e])
    simp [Act.put, Array.getElem?_setIfInBounds_ne this]

theorem P8.below {B : Nat} {s : Nat → Value} {o : Int} {k : Nat} {j : Nat} {u : Value} {a : Act} {ws ws' : World} (h : P8 B s o k j u a ws) (hB : Below ws.heap.size ws ws') (d : Option Tmp) (hd : d ≠ some 19 ∨ j ≠ 8) (v : Value) :
    P8 B s o k j u (a.put d v) ws' := by
  match j with
  | 0 => exact h
  | 1 => exact h
  | 2 => exact h
  | 3 => obtain ⟨u, n, z, e, hC, hs⟩ := h; exact ⟨u, n, z, e, hC.below hB, hs⟩
  | 4 => obtain ⟨u, n, z, e, hC, hs⟩ := h; exact ⟨u, n, z, e, hC.below hB, hs⟩
  | 5 => obtain ⟨u, n, z, e, hC, hs⟩ := h; exact ⟨u, n, z, e, hC.below hB, hs⟩
  | 6 => exact h
  | 7 => obtain ⟨A, cs, e, hA, hr, hz⟩ := h; exact ⟨A, cs, e, hA, row_keep hB hr, hz⟩
  | 8 =>
    obtain ⟨A, u, n, z, e, hA, hr, hC, hs⟩ := h
    rcases hd with hd | hd
    · exact ⟨A, u, n, z, (put19 a d hd v).trans e, hA, row_keep hB hr, hC.below hB, hs⟩
    · exact absurd rfl hd
  | 9 => exact h
  | _ + 10 => trivial

theorem P8.set {B : Nat} {s : Nat → Value} {o : Int} {k : Nat} {j : Nat} {u : Value} {a : Act} {ws : World} (h : P8 B s o k j u a ws) (hj : j ≠ 8) {A : Nat} {cs cs' : Array Value} (hA : ws.heap[A]? = some (.cells cs 25 (0, 0))) (hz : cs'.size = 5) (v : Value) :
    P8 B s o k j u (a.put none v) (ws.setRow A cs') := by
  have hC' : ∀ {u : Nat → Value} {n : Nat → Nat} {z : Nat → List Int}, COwn ws B u n z → COwn (ws.setRow A cs') B u n z := fun hC =>
    ⟨fun i hi => (hC.own i hi).of_block fun q hq => setRow_other _ _ _ _ fun e => hC.off hA (by decide) i hi (by rw [hq, e]), hC.apart⟩
  match j with
  | 0 => exact h
  | 1 => exact h
  | 2 => exact h
  | 3 => obtain ⟨u, n, z, e, hC, hs⟩ := h; exact ⟨u, n, z, e, hC' hC, hs⟩
  | 4 => obtain ⟨u, n, z, e, hC, hs⟩ := h; exact ⟨u, n, z, e, hC' hC, hs⟩
  | 5 => obtain ⟨u, n, z, e, hC, hs⟩ := h; exact ⟨u, n, z, e, hC' hC, hs⟩
  | 6 => exact h
  | 7 =>
    obtain ⟨A', cs2, e, hA', hr, hz2⟩ := h
    by_cases he : A' = A
    · subst he
      exact ⟨A', cs', e, hA', setRow_heap _ _ _ _ _ _ hA, hz⟩
    · exact ⟨A', cs2, e, hA', (setRow_other _ _ _ _ he).trans hr, hz2⟩
  | 8 => exact absurd rfl hj
  | 9 => exact h
  | _ + 10 => trivial

theorem tmps_fun (L : List Nat) (a b : Array Value) (hs : a.size = b.size) (h : ∀ t, t ∉ L → a.getD t undef = b.getD t undef) :
    ∃ f : Nat → Value, (∀ d, f d = a.getD d undef) ∧ a = L.foldl (fun acc d => acc.setIfInBounds d (f d)) b := ⟨fun d => a.getD d undef, fun _ => rfl, tmps_upd L a b hs h⟩

theorem frame_hide {P : Program} {c : Code} {Q : Exit → Act → World → Prop} {T : Array Value} {ds} {w : World} (h : ∀ T0, T0 = T → c.wp P Q ⟨T0, ds⟩ w) : c.wp P Q ⟨T, ds⟩ w := h T rfl

theorem frame_hide2 {Q : Exit → Act → World → Prop} {T : Array Value} {ds} {w : World} (T1 : Array Value) (e : T = T1) (h : Q .normal ⟨T1, ds⟩ w) : Q .normal ⟨T, ds⟩ w := by rw [e]; exact h
end Go.Proofs.Ytkibdolpapaflaa
