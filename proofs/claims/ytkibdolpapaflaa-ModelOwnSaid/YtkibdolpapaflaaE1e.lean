import Derived.Test.YtkibdolpapaflaaE1d
namespace Go.Proofs.Ytkibdolpapaflaa
open Go.RowKit

/-- What the law holds when its loops begin. -/
structure Held (w X : World) (V W : Nat → Nat → Value) (N : Nat → Nat → Nat) (Z : Nat → Nat → List Int) (pS pK L M : Nat) : Prop where
  fam : Fam w 8 V N Z X
  wants : ∀ j, j < 6 → ∀ i, i < 5 → Own X w.heap.size (ety i) (esz i) (W j i) (N (j + 2) i) (Z (j + 2) i)
  far : ∀ j, j < 6 → ∀ p, p < 8 → ∀ i i', i < 5 → i' < 5 → ∀ g, blk (W j i) = some g → blk (V p i') ≠ some g
  sameN : N 1 = N 0
  sameZ : Z 1 = Z 0
  bS : X.heap[pS]? = some (.cells #[V 0 0, V 0 1, V 0 2, V 0 3, V 0 4] 25 (0, 0))
  bK : X.heap[pK]? = some (.cells #[V 1 0, V 1 1, V 1 2, V 1 3, V 1 4] 25 (0, 0))
  bL : X.heap[L]? = some (.cells (row30 W) 25 (0, 0))
  bM : X.heap[M]? = some (.cells (row30 fun j => V (j + 2)) 25 (0, 0))
  small : ∀ j, j < 6 → ∀ i, i < 5 → (N (j + 2) i + 21) * (8 * esz i) ≤ 140737488355328
  smallS : ∀ i, i < 5 → N 0 i * (8 * esz i) ≤ 140737488355328

structure Inv (w X : World) (V W : Nat → Nat → Value) (N : Nat → Nat → Nat) (Z : Nat → Nat → List Int) (pS pK L M : Nat) (k : Nat) (Y : World) : Prop where
  own : ∀ j, k ≤ j → j < 6 → COwn Y w.heap.size (V (j + 2)) (N (j + 2)) (Z (j + 2))
  done : ∀ j, j < k → j < 6 → ∃ z : Nat → List Int, (∀ i, i < 5 → Rd Y (V (j + 2) i) (esz i) (N (j + 2) i) (z i)) ∧ MarkedTo (N (j + 2)) z (1000 * (j + 1)) 4 0 ∧ TableTo (N (j + 2)) z (1000 * (j + 1)) (N (j + 2) 4)
  wants : ∀ j, j < 6 → ∀ i, i < 5 → Rd Y (W j i) (esz i) (N (j + 2) i) (Z (j + 2) i)
  s : ∀ i, i < 5 → Rd Y (V 0 i) (esz i) (N 0 i) (Z 0 i)
  kept : ∀ i, i < 5 → Rd Y (V 1 i) (esz i) (N 0 i) (Z 0 i)
  bS : Y.heap[pS]? = some (.cells #[V 0 0, V 0 1, V 0 2, V 0 3, V 0 4] 25 (0, 0))
  bK : Y.heap[pK]? = some (.cells #[V 1 0, V 1 1, V 1 2, V 1 3, V 1 4] 25 (0, 0))
  bL : Y.heap[L]? = some (.cells (row30 W) 25 (0, 0))
  bM : Y.heap[M]? = some (.cells (row30 fun j => V (j + 2)) 25 (0, 0))
  big : X.heap.size ≤ Y.heap.size
  low : Below w.heap.size w Y

section
variable {w X : World} {V W : Nat → Nat → Value} {N : Nat → Nat → Nat} {Z : Nat → Nat → List Int} {pS pK L M : Nat}

theorem Held.start (h : Held w X V W N Z pS pK L M) : Inv w X V W N Z pS pK L M 0 X :=
  ⟨fun j _ hj => h.fam.own (j + 2) (by omega), fun j hj => by omega, fun j hj i hi => (h.wants j hj i hi).rd, h.fam.rd (by omega), fun i hi => by have := h.fam.rd (p := 1) (by omega) i hi; rwa [h.sameN, h.sameZ] at this,
    h.bS, h.bK, h.bL, h.bM, Nat.le_refl _, h.fam.low⟩

theorem Inv.below {k : Nat} {Y Y' : World} (h : Inv w X V W N Z pS pK L M k Y) (hB : Below Y.heap.size Y Y') : Inv w X V W N Z pS pK L M k Y' := by
  refine ⟨fun j hk hj => (h.own j hk hj).below hB, fun j hk hj => ?_, fun j hj i hi => (h.wants j hj i hi).below hB, fun i hi => (h.s i hi).below hB, fun i hi => (h.kept i hi).below hB,
    row_keep hB h.bS, row_keep hB h.bK, row_keep hB h.bL, row_keep hB h.bM, Nat.le_trans h.big hB.size, h.low.trans (hB.mono h.low.size)⟩
  obtain ⟨z, h1, h2, h3⟩ := h.done j hk hj
  exact ⟨z, fun i hi => (h1 i hi).below hB, h2, h3⟩

theorem Inv.spoil (H : Held w X V W N Z pS pK L M) {k : Nat} {Y Y' : World} (h : Inv w X V W N Z pS pK L M k Y) (hk : k < 6) {e : Ending} (hp : SpoilPost Y (V (k + 2)) (N (k + 2)) (1000 * (k + 1)) e Y') :
    Inv w X V W N Z pS pK L M (k + 1) Y' := by
  obtain ⟨_, ⟨z, hr, hM, hT⟩, hF⟩ := hp
  have keep : ∀ g, g < X.heap.size → (∀ i, i < 5 → blk (V (k + 2) i) ≠ some g) → Y'.heap[g]? = Y.heap[g]? := fun g hg hn => hF.block g (Nat.lt_of_lt_of_le hg h.big) hn
  have vlt : ∀ p, p < 8 → ∀ i, i < 5 → ∀ g, blk (V p i) = some g → w.heap.size ≤ g ∧ g < X.heap.size := fun p hp i hi g hg => ((H.fam.own p hp).own i hi).lt g hg
  have vkeep : ∀ p, p < 8 → p ≠ k + 2 → ∀ i, i < 5 → ∀ g, blk (V p i) = some g → Y'.heap[g]? = Y.heap[g]? := fun p hp hne i hi g hg =>
    keep g (vlt p hp i hi g hg).2 fun i' hi' => H.fam.apart p (k + 2) hp (by omega) hne i i' hi hi' g hg
  have box : ∀ {g : Nat} {cs : Array Value}, X.heap[g]? = some (.cells cs 25 (0, 0)) → Y'.heap[g]? = Y.heap[g]? := fun {g cs} hg =>
    keep g (Array.getElem?_eq_some_iff.1 hg).1 fun i hi => (H.fam.own (k + 2) (by omega)).off hg (by decide) i hi
  refine ⟨fun j hkj hj => ?_, fun j hkj hj => ?_, fun j hj i hi => ?_, fun i hi => ?_, fun i hi => ?_, (box H.bS).trans h.bS, (box H.bK).trans h.bK, (box H.bL).trans h.bL, (box H.bM).trans h.bM, Nat.le_trans h.big hF.size, ?_⟩
  · have ho := h.own j (by omega) hj
    exact ⟨fun i hi => (ho.own i hi).of_block fun g hg => vkeep (j + 2) (by omega) (by omega) i hi g hg, ho.apart⟩
  · by_cases hjk : j = k
    · subst hjk; exact ⟨z, hr, hM, hT⟩
    · obtain ⟨z', h1, h2, h3⟩ := h.done j (by omega) hj
      exact ⟨z', fun i hi => rd_frame ((H.fam.own (j + 2) (by omega)).own i hi) (h1 i hi) fun g hg => vkeep (j + 2) (by omega) (by omega) i hi g hg, h2, h3⟩
  · exact rd_frame (H.wants j hj i hi) (h.wants j hj i hi) fun g hg => keep g ((H.wants j hj i hi).lt g hg).2 fun i' hi' => H.far j hj (k + 2) (by omega) i i' hi hi' g hg
  · exact rd_frame ((H.fam.own 0 (by omega)).own i hi) (h.s i hi) fun g hg => vkeep 0 (by omega) (by omega) i hi g hg
  · have h1 := (H.fam.own 1 (by omega)).own i hi
    rw [H.sameN, H.sameZ] at h1
    exact rd_frame h1 (h.kept i hi) fun g hg => vkeep 1 (by omega) (by omega) i hi g hg
  · refine ⟨hF.os.trans h.low.os, hF.tape.trans h.low.tape, hF.output.trans h.low.output, Nat.le_trans h.low.size hF.size, fun g hg => ?_⟩
    refine (hF.block g (Nat.lt_of_lt_of_le hg h.low.size) fun i hi hb => ?_).trans (h.low.block g hg)
    have := (vlt (k + 2) (by omega) i hi g hb).1
    omega

/-- The five cells of the k-th answer, as the round loads them. -/
theorem Inv.cells {k : Nat} {Y : World} (h : Inv w X V W N Z pS pK L M k Y) {q : Nat} (hq : q < 6) (j : Nat) (hj : j < 5) : Y.cell? ⟨M, q * 5 + j, none⟩ = some (V (q + 2) j) :=
  cell_facts h.bM (q * 5 + j) _ (row30_get (fun j => V (j + 2)) q j hq hj)
theorem Inv.cellsW {k : Nat} {Y : World} (h : Inv w X V W N Z pS pK L M k Y) {q : Nat} (hq : q < 6) (j : Nat) (hj : j < 5) : Y.cell? ⟨L, q * 5 + j, none⟩ = some (W q j) :=
  cell_facts h.bL (q * 5 + j) _ (row30_get W q j hq hj)

theorem Inv.spoilt (H : Held w X V W N Z pS pK L M) {Y : World} (h : Inv w X V W N Z pS pK L M 6 Y) {q : Nat} (hq : q < 6) :
    Calls Try.prog 15 #[.agg #[V (q + 2) 0, V (q + 2) 1, V (q + 2) 2, V (q + 2) 3, V (q + 2) 4], .int .i64 (1000 * ((q : Int) + 1))] Y fun e w' => e = .returned (.bool true) ∧ Below Y.heap.size Y w' := by
  obtain ⟨z, h1, h2, h3⟩ := h.done q hq hq
  have := spoilt15 Y (V (q + 2)) (N (q + 2)) z (1000 * (q + 1)) (by omega) h1 (H.small q hq) h2 h3
  rw [show ((1000 * (q + 1) : Nat) : Int) = 1000 * ((q : Int) + 1) from by omega] at this
  exact this

theorem Inv.call13 (H : Held w X V W N Z pS pK L M) {k : Nat} {Y : World} (h : Inv w X V W N Z pS pK L M k Y) (hk : k < 6) :
    Calls Try.prog 13 #[.agg #[V (k + 2) 0, V (k + 2) 1, V (k + 2) 2, V (k + 2) 3, V (k + 2) 4], .int .i64 (1000 * ((k : Int) + 1))] Y fun e w' => (∃ v, e = .returned v) ∧ Inv w X V W N Z pS pK L M (k + 1) w' := by
  have := spoil13 Y w.heap.size (V (k + 2)) (N (k + 2)) (Z (k + 2)) (1000 * (k + 1)) (by omega) (h.own k (Nat.le_refl _) hk) (H.small k hk)
  rw [show ((1000 * (k + 1) : Nat) : Int) = 1000 * ((k : Int) + 1) from by omega] at this
  exact this.mono fun e w' hp => ⟨hp.1, h.spoil H hk hp⟩

theorem Inv.same (H : Held w X V W N Z pS pK L M) {k : Nat} {Y Y0 : World} (h : Inv w X V W N Z pS pK L M k Y0) (hB : Below Y0.heap.size Y0 Y) {q : Nat} (hk : k ≤ q) (hq : q < 6) :
    Calls Try.prog 14 #[.agg #[V (q + 2) 0, V (q + 2) 1, V (q + 2) 2, V (q + 2) 3, V (q + 2) 4], .agg #[W q 0, W q 1, W q 2, W q 3, W q 4]] Y fun e w' => e = .returned (.bool true) ∧ Inv w X V W N Z pS pK L M k w' := by
  have h' := h.below hB
  have := same14 Y (V (q + 2)) (W q) (N (q + 2)) (Z (q + 2)) (fun i hi => ((h'.own q hk hq).own i hi).rd) (h'.wants q hq) (fun i hi => Nat.le_trans (Nat.mul_le_mul_right _ (by omega)) (H.small q hq i hi))
  exact this.mono fun e w' hp => ⟨hp.1, h'.below hp.2⟩

theorem Inv.same0 (H : Held w X V W N Z pS pK L M) {k : Nat} {Y : World} (h : Inv w X V W N Z pS pK L M k Y) :
    Calls Try.prog 14 #[.agg #[V 0 0, V 0 1, V 0 2, V 0 3, V 0 4], .agg #[V 1 0, V 1 1, V 1 2, V 1 3, V 1 4]] Y fun e w' => e = .returned (.bool true) ∧ Inv w X V W N Z pS pK L M k w' := by
  have := same14 Y (V 0) (V 1) (N 0) (Z 0) h.s h.kept H.smallS
  exact this.mono fun e w' hp => ⟨hp.1, h.below hp.2⟩
end
def eight {α : Type} (s k : α) (f : Nat → α) : Nat → α
  | 0 => s | 1 => k | n + 2 => f n

theorem Fam.congr {w X : World} {c : Nat} {V V' : Nat → Nat → Value} {N N' : Nat → Nat → Nat} {Z Z' : Nat → Nat → List Int} (h : Fam w c V N Z X) (hc : ∀ p, p < c → V p = V' p ∧ N p = N' p ∧ Z p = Z' p) : Fam w c V' N' Z' X :=
  ⟨fun p hp => by obtain ⟨h1, h2, h3⟩ := hc p hp; rw [← h1, ← h2, ← h3]; exact h.own p hp,
   fun p q hp hq hpq i j hi hj => by rw [← (hc p hp).1, ← (hc q hq).1]; exact h.apart p q hp hq hpq i j hi hj, h.low⟩

theorem eight_cong {α : Type} (s k a b c d e f : α) {F : Nat → α} (h0 : F 0 = s) (h1 : F 1 = k) (h2 : F 2 = a) (h3 : F 3 = b) (h4 : F 4 = c) (h5 : F 5 = d) (h6 : F 6 = e) (h7 : F 7 = f) : ∀ p, p < 8 → F p = eight s k (six a b c d e f) p := by
  intro p hp
  rcases p with _ | _ | _ | _ | _ | _ | _ | _ | p
  · exact h0
  · exact h1
  · exact h2
  · exact h3
  · exact h4
  · exact h5
  · exact h6
  · exact h7
  · omega

theorem fam8 {w X : World} {s u1 u2 u3 u4 u5 u6 u7 : Nat → Value} {n1 n2 n3 n4 n5 n6 n7 ns : Nat → Nat} {z1 z2 z3 z4 z5 z6 z7 zs : Nat → List Int} {V0 : Nat → Nat → Value} {N0 : Nat → Nat → Nat} {Z0 : Nat → Nat → List Int}
    (h : Fam w 8 (upd 7 u7 (upd 6 u6 (upd 5 u5 (upd 4 u4 (upd 3 u3 (upd 2 u2 (upd 1 u1 (upd 0 s V0)))))))) (upd 7 n7 (upd 6 n6 (upd 5 n5 (upd 4 n4 (upd 3 n3 (upd 2 n2 (upd 1 n1 (upd 0 ns N0))))))))
      (upd 7 z7 (upd 6 z6 (upd 5 z5 (upd 4 z4 (upd 3 z3 (upd 2 z2 (upd 1 z1 (upd 0 zs Z0)))))))) X) :
    Fam w 8 (eight s u1 (six u2 u3 u4 u5 u6 u7)) (eight ns n1 (six n2 n3 n4 n5 n6 n7)) (eight zs z1 (six z2 z3 z4 z5 z6 z7)) X :=
  h.congr fun p hp => ⟨eight_cong _ _ _ _ _ _ _ _ rfl rfl rfl rfl rfl rfl rfl rfl p hp, eight_cong _ _ _ _ _ _ _ _ rfl rfl rfl rfl rfl rfl rfl rfl p hp, eight_cong _ _ _ _ _ _ _ _ rfl rfl rfl rfl rfl rfl rfl rfl p hp⟩

theorem Held.make {w X0 X : World} {V W : Nat → Nat → Value} {N : Nat → Nat → Nat} {Z : Nat → Nat → List Int} {pS pK L : Nat} (hF : Fam w 8 V N Z X0) (hB : Below X0.heap.size X0 X)
    (hW : ∀ j, j < 6 → COwn X X0.heap.size (W j) (N (j + 2)) (Z (j + 2))) (sameN : N 1 = N 0) (sameZ : Z 1 = Z 0)
    (bS : X.heap[pS]? = some (.cells #[V 0 0, V 0 1, V 0 2, V 0 3, V 0 4] 25 (0, 0)))
    (bK : X.heap[pK]? = some (.cells #[V 1 0, V 1 1, V 1 2, V 1 3, V 1 4] 25 (0, 0)))
    (bL : X.heap[L]? = some (.cells (row30 W) 25 (0, 0)))
    (small : ∀ j, j < 6 → ∀ i, i < 5 → (N (j + 2) i + 21) * (8 * esz i) ≤ 140737488355328)
    (smallS : ∀ i, i < 5 → N 0 i * (8 * esz i) ≤ 140737488355328) :
    Held w (X.alloc (.cells (row30 fun j => V (j + 2)) 25)) V W N Z pS pK L X.heap.size := by
  have hA : Below X.heap.size X (X.alloc (.cells (row30 fun j => V (j + 2)) 25)) := (Below.refl _ _).alloc (Nat.le_refl _) _
  have hlow : w.heap.size ≤ X0.heap.size := hF.low.size
  refine ⟨(hF.below hB).below hA, fun j hj i hi => ?_, fun j hj p hp i i' hi hi' g hg hv => ?_, sameN, sameZ, row_keep hA bS, row_keep hA bK, row_keep hA bL, heap_alloc_new _ _, small, smallS⟩
  · exact ((((hW j hj).below hA).own i hi).mono hlow)
  · have h1 := (((hW j hj).own i hi).lt g hg).1
    have h2 := (((hF.own p hp).own i' hi').lt g hv).2
    omega
theorem Try.isStruct25 : (match Try.prog.underlying 25 with | some (.struct _) => true | _ => false) = true := by kernel_rfl
theorem struct25 : ∃ fs, Try.prog.underlying 25 = some (.struct fs) := by
  have h := Try.isStruct25
  split at h
  · exact ⟨_, by assumption⟩
  · cases h
end Go.Proofs.Ytkibdolpapaflaa
