import Derived.Test.YtkibdolpapaflaaB3
import Derived.Lib.AppendZeros
import Derived.Lib.Overlaps
namespace Go.Proofs.Ytkibdolpapaflaa
open Go.RowKit

/-- Block g is a row of L cells, the first m of which are integers. -/
def IntRow (w : World) (g e L m : Nat) : Prop :=
  ∃ cur : Array Value, w.heap[g]? = some (.cells cur e (0, 0)) ∧ cur.size = L ∧ m ≤ L ∧ ∀ j, j < m → ∃ z, cur[j]? = some (.int .i64 z)

theorem ints_of_cells : ∀ (m : Nat) (l : List Value), m ≤ l.length → (∀ j, j < m → ∃ z, l[j]? = some (.int .i64 z)) → ∃ zs : List Int, zs.length = m ∧ l.take m = zs.map (Value.int .i64) := by
  intro m
  induction m with
  | zero => intro l _ _; exact ⟨[], rfl, by simp⟩
  | succ m ih =>
    intro l hl h
    obtain ⟨zs, h1, h2⟩ := ih l (by omega) (fun j hj => h j (by omega))
    obtain ⟨z, hz⟩ := h m (by omega)
    refine ⟨zs ++ [z], by simp [h1], ?_⟩
    rw [List.take_add_one, hz, h2]
    simp

section
variable {w w' : World} {base e size g L m : Nat}

theorem IntRow.own {n cap : Nat} (h : IntRow w g e L m) (hL : L = cap * size) (h0 : 0 < cap) (hb : base ≤ g) (hn : n ≤ cap) (hc : cap ≤ maxLen) (hm : n * size ≤ m) :
    ∃ zs, Own w base e size (.slice (some ⟨g, 0, none⟩) n cap) n zs := by
  obtain ⟨cur, hg, hs, hmL, hz⟩ := h
  obtain ⟨zs, h1, h2⟩ := ints_of_cells (n * size) cur.toList (by simp; omega) (fun j hj => by simpa using hz j (by omega))
  exact ⟨zs, h1, .inr ⟨g, cap, cur, rfl, h0, hb, hg, hn, hc, by omega, h2⟩⟩

theorem Own.row {v : Value} {n : Nat} {zs : List Int} (h : Own w base e size v n zs) (hn : 0 < n) :
    ∃ g cap, v = .slice (some ⟨g, 0, none⟩) n cap ∧ 0 < cap ∧ base ≤ g ∧ g < w.heap.size ∧ n ≤ cap ∧ cap ≤ maxLen ∧ IntRow w g e (cap * size) (n * size) := by
  rcases h.2 with ⟨h0, _⟩ | ⟨g, cap, cur, rfl, h0, hb, hg, hnc, hc, hs, ht⟩
  · omega
  · refine ⟨g, cap, rfl, h0, hb, (Array.getElem?_eq_some_iff.1 hg).1, hnc, hc, cur, hg, hs, Nat.mul_le_mul_right _ hnc, fun j hj => ?_⟩
    have hl : j < zs.length := by rw [h.1]; exact hj
    refine ⟨zs[j], ?_⟩
    have : (cur.toList.take (n * size))[j]? = some (.int .i64 zs[j]) := by rw [ht]; simp [hl]
    rw [List.getElem?_take, if_pos hj] at this
    simpa using this

theorem IntRow.cell (h : IntRow w g e L m) (j : Nat) (hj : j < m) : ∃ z, w.cell? ⟨g, j, none⟩ = some (.int .i64 z) := by
  obtain ⟨cur, hg, hs, hmL, hz⟩ := h
  rw [cell_of_row w g j cur e (0, 0) hg]
  exact hz j hj

theorem IntRow.of_block (h : IntRow w g e L m) (hb : w'.heap[g]? = w.heap[g]?) : IntRow w' g e L m := by
  obtain ⟨cur, hg, r⟩ := h
  exact ⟨cur, hb.trans hg, r⟩

theorem IntRow.splice (h : IntRow w g e L m) (o : Nat) (cs : List Value) (hcs : ∀ x ∈ cs, ∃ z, x = Value.int .i64 z) (hfit : o + cs.length ≤ L) (hom : o ≤ m) :
    ∃ cur : Array Value, w.heap[g]? = some (.cells cur e (0, 0)) ∧ cur.size = L ∧ IntRow (w.setRow g (cur.toList.take o ++ cs ++ cur.toList.drop (o + cs.length)).toArray) g e L (max m (o + cs.length)) := by
  obtain ⟨cur, hg, hs, hmL, hz⟩ := h
  refine ⟨cur, hg, hs, _, setRow_heap w g cur _ e _ hg, ?_, by omega, ?_⟩
  · simp only [List.size_toArray, List.length_append, List.length_take, List.length_drop, Array.length_toList]; omega
  · intro j hj
    simp only [List.getElem?_toArray]
    by_cases h1 : j < o
    · obtain ⟨z, hz⟩ := hz j (by omega)
      refine ⟨z, ?_⟩
      rw [List.getElem?_append_left (by simp; omega), List.getElem?_append_left (by simp; omega), List.getElem?_take, if_pos h1]
      simpa using hz
    · by_cases h2 : j < o + cs.length
      · obtain ⟨z, hzz⟩ := hcs (cs[j - o]'(by omega)) (List.getElem_mem _)
        refine ⟨z, ?_⟩
        rw [List.getElem?_append_left (by simp; omega), List.getElem?_append_right (by simp; omega)]
        have : j - (List.take o cur.toList).length = j - o := by simp; omega
        rw [this, List.getElem?_eq_getElem (by omega), hzz]
      · obtain ⟨z, hz⟩ := hz j (by omega)
        refine ⟨z, ?_⟩
        rw [List.getElem?_append_right (by simp; omega), List.getElem?_drop]
        have : o + cs.length + (j - (List.take o cur.toList ++ cs).length) = j := by simp; omega
        rw [this]
        simpa using hz
end

theorem cells_list {w : World} {a : Addr} : ∀ (k : Nat), (∀ j, j < k → ∃ z, w.cell? (a.add j) = some (Value.int .i64 z)) →
    ∃ cs : List Value, cs.length = k ∧ (∀ x ∈ cs, ∃ z, x = Value.int .i64 z) ∧ ∀ (j : Nat) (u : Value), cs[j]? = some u → w.cell? (a.add j) = some u := by
  intro k
  induction k with
  | zero => intro _; exact ⟨[], rfl, by simp, by simp⟩
  | succ k ih =>
    intro h
    obtain ⟨cs, h1, h2, h3⟩ := ih (fun j hj => h j (by omega))
    obtain ⟨z, hz⟩ := h k (by omega)
    refine ⟨cs ++ [.int .i64 z], by simp [h1], ?_, ?_⟩
    · intro x hx
      rcases List.mem_append.1 hx with hx | hx
      · exact h2 x hx
      · simp at hx; exact ⟨z, hx⟩
    · intro j u hu
      by_cases hj : j < k
      · rw [List.getElem?_append_left (by omega)] at hu
        exact h3 j u hu
      · rw [List.getElem?_append_right (by omega)] at hu
        cases hjk : j - cs.length with
        | zero =>
          rw [hjk] at hu
          simp at hu
          subst hu
          rw [show j = k from by omega]
          exact hz
        | succ i => rw [hjk] at hu; simp at hu

theorem grown_setRow (w : World) (g : Nat) (cs : Array Value) : w.grownBy (w.setRow g cs) (some g) :=
  ⟨rfl, rfl, rfl, by simp [World.setRow], fun k _ hk => setRow_other w g k cs (fun e => hk (by rw [e]))⟩

/-- 'copy(dst, src)' of k elements into a row of integers. -/
theorem wpList_cp {P : Program} {w : World} {ops : Array Oper} {rest : List Oper} {o : Oper} {a : Act} {Q : Exit → Act → World → Prop} (hgd : o.guard = none) (d s : Operand) (dT sT : TypeId)
    (ho : o.op = .call { callee := .builtin .copy, args := #[d, s], argTypes := #[dT, sT] }) (elem : TypeId) (hu : P.underlying dT = some (.slice elem)) (i : TypeInfo) (size : Nat) (hi : P.info? elem = some i) (hsz : i.size = size)
    (g off dLen dCap : Nat) (ad : Addr) (sLen sCap : Nat) (hd : a.eval d = .slice (some ⟨g, off, none⟩) dLen dCap) (hs : a.eval s = .slice (some ad) sLen sCap)
    (e L m k : Nat) (hk0 : k = min sLen dLen) (hrow : IntRow w g e L m) (hsrc : ∀ j, j < k * size → ∃ z, w.cell? (ad.add j) = some (Value.int .i64 z)) (hfit : off + k * size ≤ L) (hom : off ≤ m)
    (h : ∀ w', IntRow w' g e L (max m (off + k * size)) → w.grownBy w' (some g) → wpList P ops Q rest (a.put o.dst (goInt k)) w') : wpList P ops Q (o :: rest) a w := by
  have hk : k = Nat.min sLen dLen := hk0
  refine wpList_plain hgd fun K hK => ?_
  obtain ⟨cs, hl, hint, hcs⟩ := cells_list _ hsrc
  obtain ⟨cur, hg, hcz, hrow'⟩ := hrow.splice off cs hint (by omega) hom
  have hf := run_firstCells_some (P := P) w size k ad sLen sCap cs hl hcs
  have hst := run_storeCells_at P g off e cs 0 cur w hg (by simp; omega) (fun u hu => by obtain ⟨z, rfl⟩ := hint u hu; rfl)
  simp only [Nat.add_zero] at hst
  have hrun : (Builtin.copy_ #[dT, sT] o.type #[.slice (some ⟨g, off, none⟩) dLen dCap, .slice (some ad) sLen sCap]).run P w =
      .ok (goInt k) (w.setRow g (cur.toList.take off ++ cs ++ cur.toList.drop (off + cs.length)).toArray) := by
    simp [Builtin.copy_, run_underlying hu, Builtin.lenOf, sizeOf, typeInfo, hi, hsz, ← hk, hf, hst]
  rw [hl] at hrow'
  unfold Oper.wp
  simp [execOp, ho, resolve, invoke, builtin, hd, hs, hrun, Result.andThen]
  rw [hl]
  exact hK _ _ (h _ (by simpa using hrow') (grown_setRow _ _ _))

/-- 'append(s, make(S, k)...)' where it must grow. -/
theorem wpList_appz {P : Program} {w : World} {ops : Array Oper} {rest : List Oper} {o : Oper} {a : Act} {Q : Exit → Act → World → Prop} (hgd : o.guard = none) (s x : Operand) (t tn : TypeId)
    (ho : o.op = .call { callee := .builtin .append, args := #[s, x], argTypes := #[t, tn] }) (e : TypeId) (i : TypeInfo) (z : Value) (size bytes : Nat) (kn : IntKind)
    (ht : P.underlying t = some (.slice e)) (htn : P.underlying tn = some (.int kn)) (hi : P.info? e = some i) (hz : i.zero = some z) (hsize : i.size = size) (hby : i.bytes = bytes) (hb0 : 0 < bytes) (hsz0 : 0 < size) (hzs : z.cells.size = size)
    (hzi : ∀ j, j < size → ∃ q, z.cells[j]? = some (Value.int .i64 q))
    (ad : Addr) (n c k tot : Nat) (q : Int) (hs : a.eval s = .slice (some ad) n c) (hx : a.eval x = .int .i64 q) (hq : q = (k : Int)) (htot : n + k = tot) (hk : 0 < k) (hgrow : c < n + k)
    (hsrc : ∀ j, j < n * size → ∃ q, w.cell? (ad.add j) = some (Value.int .i64 q)) (hbytes : (n + k) * bytes ≤ 140737488355328)
    (h : ∀ cap' w', tot ≤ cap' → cap' ≤ maxLen → IntRow w' w.heap.size e (cap' * size) (tot * size) → w.grownBy w' none → w.heap.size < w'.heap.size →
      wpList P ops Q rest (a.put o.dst (.slice (some ⟨w.heap.size, 0, none⟩) tot cap')) w') : wpList P ops Q (o :: rest) a w := by
  obtain ⟨cs, hl, hint, hcs⟩ := cells_list _ hsrc
  subst hq
  subst htot
  subst hsize
  subst hby
  have hnk : n + k ≤ (n + k) * i.bytes := Nat.le_mul_of_pos_right _ hb0
  have hw : IntKind.i64.wrap (k : Int) = k := by rw [IntKind.wrap_i64]; omega
  have hn : ¬ (n + k ≤ c) := by omega
  have h63 : ¬ (9223372036854775807 < ((n : Int) + (k : Int))) := by omega
  have hkb : k * i.bytes ≤ (n + k) * i.bytes := Nat.mul_le_mul_right _ (by omega)
  have h48 : ¬ (281474976710656 < (k : Int) * (i.bytes : Int)) := by
    have : ((k * i.bytes : Nat) : Int) = (k : Int) * (i.bytes : Int) := by simp
    omega
  have hfits := growslice_fits (old := c) (need := n + k) (bytes := i.bytes) (by omega) hbytes
  have hfit' : ¬ (281474976710656 < Builtin.nextslicecap (n + k) c * i.bytes) := by omega
  have hks : ¬ (k * i.size = 0) := by have := Nat.mul_pos hk hsz0; omega
  have hf := run_firstCells_some (P := P) w.drew i.size n ad n c cs hl (by simpa using hcs)
  have hrun : (Builtin.append_ #[t, tn] o.type #[.slice (some ad) n c, .int .i64 k]).run P w =
      .ok (.slice (some ⟨w.heap.size, 0, none⟩) (n + k) (grownCap w (n + k) c e))
        (w.drew.alloc (.cells (cs.toArray ++ Builtin.zeroCells z.cells k ++ Builtin.zeroCells z.cells (grownCap w (n + k) c e - (n + k))) e)) := by
    have hk0 : ¬ ((k : Int) < 0) := by omega
    simp [Builtin.append_, run_underlying ht, run_underlying htn, sizeOf, typeInfo, zeroValue, asInt, asIntOf, hi, hz, hw, hn, hk0, h63, h48, hfit', hks, hf, Question.forced, newRow, grownCap]
  have hge := grownCap_ge w (n + k) c e
  have hle : grownCap w (n + k) c e ≤ maxLen := grownCap_le_maxLen w (n + k) c e (by simp only [maxLen]; omega)
  refine Lib.wpList_append_run w hgd s x t tn ho _ _ hs hx _ _ hrun (h _ _ hge hle ?_ ⟨rfl, rfl, rfl, by simp, fun k hk _ => Below.heap_alloc w.drew _ k hk⟩ (by simp))
  refine ⟨_, heap_alloc_new w.drew _, ?_, Nat.mul_le_mul_right _ hge, ?_⟩
  · simp only [Array.size_append, List.size_toArray, size_zeroCells, hl, hzs, ← Nat.add_mul]
    congr 1
    omega
  · intro j hj
    by_cases h1 : j < n * i.size
    · obtain ⟨q, hq⟩ := hint (cs[j]'(by omega)) (List.getElem_mem _)
      refine ⟨q, ?_⟩
      rw [Array.getElem?_append_left (by simp [size_zeroCells, hl]; omega), Array.getElem?_append_left (by simp [hl]; omega)]
      simp [List.getElem?_eq_getElem (show j < cs.length by omega), hq]
    · have hj2 : j - n * i.size < k * i.size := by rw [Nat.add_mul] at hj; omega
      obtain ⟨q, hq⟩ := hzi ((j - n * i.size) % i.size) (Nat.mod_lt _ hsz0)
      refine ⟨q, ?_⟩
      rw [Array.getElem?_append_left (by simp [size_zeroCells, hl, hzs]; omega), Array.getElem?_append_right (by simp [hl]; omega)]
      have e1 : j - cs.toArray.size = j - n * i.size := by simp [hl]
      rw [e1]
      have hlt : (j - n * i.size) % i.size < z.cells.size := by rw [hzs]; exact Nat.mod_lt _ hsz0
      simp [Builtin.zeroCells, hzs, hj2]
      rw [Array.getElem?_eq_getElem hlt] at hq
      simpa [hlt] using hq

/-- 'clear(s)' of a row of integers. -/
theorem wpList_clr {P : Program} {w : World} {ops : Array Oper} {rest : List Oper} {o : Oper} {a : Act} {Q : Exit → Act → World → Prop} (hgd : o.guard = none) (s : Operand) (t : TypeId)
    (ho : o.op = .call { callee := .builtin .clear, args := #[s], argTypes := #[t] }) (elem : TypeId) (hu : P.underlying t = some (.slice elem)) (i : TypeInfo) (z : Value) (size : Nat) (hi : P.info? elem = some i) (hz : i.zero = some z) (hzs : z.cells.size = size) (hsz0 : 0 < size)
    (hzi : ∀ j, j < size → ∃ q, z.cells[j]? = some (Value.int .i64 q))
    (g off n c : Nat) (hd : a.eval s = .slice (some ⟨g, off, none⟩) n c) (hn : 0 < n)
    (e L m : Nat) (hrow : IntRow w g e L m) (hfit : off + n * size ≤ L) (hom : off ≤ m)
    (h : ∀ w', IntRow w' g e L (max m (off + n * size)) → w.grownBy w' (some g) → wpList P ops Q rest (a.put o.dst (.tuple #[])) w') : wpList P ops Q (o :: rest) a w := by
  refine wpList_plain hgd fun K hK => ?_
  have hlen : (Builtin.zeroCells z.cells n).toList.length = n * size := by simp [size_zeroCells, hzs]
  have hint : ∀ x ∈ (Builtin.zeroCells z.cells n).toList, ∃ q, x = Value.int .i64 q := by
    intro x hx
    simp only [Builtin.zeroCells, Array.toList_map, List.mem_map, Array.mem_toList_iff, Array.mem_range] at hx
    obtain ⟨j, hj, rfl⟩ := hx
    have hlt : j % z.cells.size < z.cells.size := Nat.mod_lt _ (by omega)
    obtain ⟨q, hq⟩ := hzi (j % z.cells.size) (by omega)
    rw [Array.getElem?_eq_getElem hlt] at hq
    exact ⟨q, by simpa [hlt] using hq⟩
  obtain ⟨cur, hg, hcz, hrow'⟩ := hrow.splice off _ hint (by omega) hom
  have hst := run_storeCells_at P g off e (Builtin.zeroCells z.cells n).toList 0 cur w hg (by have := hlen; omega) (fun u hu => by obtain ⟨z, rfl⟩ := hint u hu; rfl)
  simp only [Nat.add_zero] at hst
  rw [hlen] at hrow'
  have hn0 : n ≠ 0 := by omega
  have hrun : (Builtin.clear_ #[t] o.type #[.slice (some ⟨g, off, none⟩) n c]).run P w =
      .ok (.tuple #[]) (w.setRow g (cur.toList.take off ++ (Builtin.zeroCells z.cells n).toList ++ cur.toList.drop (off + (Builtin.zeroCells z.cells n).toList.length)).toArray) := by
    cases n with
    | zero => omega
    | succ n => simp [Builtin.clear_, run_underlying hu, zeroValue, typeInfo, hi, hz, hst]
  rw [hlen] at hrun
  unfold Oper.wp
  simp [execOp, ho, resolve, invoke, builtin, hd, hrun, Result.andThen]
  exact hK _ _ (h _ (by simpa using hrow') (grown_setRow _ _ _))
end Go.Proofs.Ytkibdolpapaflaa
