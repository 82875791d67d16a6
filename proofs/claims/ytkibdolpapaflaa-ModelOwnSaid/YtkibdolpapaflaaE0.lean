import Derived.Test.YtkibdolpapaflaaE1
namespace Go.Proofs.Ytkibdolpapaflaa
open Go.RowKit

/-! The rule of Lib, where what an operation has left may speak of other slots. -/
section
variable {P : Program} {ops : Array Oper} {Q : Exit → Act → World → Prop}

structure DepInvA (ops : Array Oper) (a0 : Act) (S : World → Prop) (φ : Nat → Value → Act → World → Prop) (l : Array Bool) (a : Act) (w : World) : Prop where
  world : S w
  size : a.tmps.size = a0.tmps.size
  defers : a.defers = a0.defers
  keep : ∀ t, writes ops t = false → a.tmps.getD t undef = a0.tmps.getD t undef
  done : ∀ (i : Nat) (o : Oper), ops[i]? = some o → l.getD i false = true → ∃ v, (∀ d, o.dst = some d → a.tmps.getD d undef = v) ∧ φ i v a w
  closed : ∀ (i : Nat) (o : Oper), ops[i]? = some o → l.getD i false = true → ∀ e ∈ o.after, Region.binds .any e = true → l.getD e.on false = true

theorem wp_region_depa {id : Nat} {a0 : Act} {w0 : World} (hm : P.follows .mixedOrders = true) (S : World → Prop) (φ : Nat → Value → Act → World → Prop)
    (hord : (ops.toList.zipIdx.all fun x => x.1.after.all fun e => !Region.binds .any e || decide (e.on < x.2)) = true)
    (hg : (ops.toList.all fun o => o.guard.isNone) = true)
    (hdst : (ops.toList.filterMap (·.dst)).Nodup)
    (hsz : (ops.toList.all fun o => match o.dst with | some d => decide (d < a0.tmps.size) | none => true) = true)
    (h0 : S w0.drew)
    (hs0 : StepsFrom (fun (i : Nat) (o : Oper) => ∀ (a : Act) (w : World) (K : Act → World → Prop), S w → a.tmps.size = a0.tmps.size → a.defers = a0.defers →
      (∀ t, writes ops t = false → a.tmps.getD t undef = a0.tmps.getD t undef) →
      (∀ e ∈ o.after, Region.binds .any e = true → ∀ oj, ops[e.on]? = some oj → ∃ v, (∀ d, oj.dst = some d → a.tmps.getD d undef = v) ∧ φ e.on v a w) →
      (∀ v w', S w' → φ i v (a.put o.dst v) w' →
        (∀ j oj u, j ≠ i → ops[j]? = some oj → (∀ e ∈ oj.after, Region.binds .any e = true → e.on ≠ i) → φ j u a w → φ j u (a.put o.dst v) w') → K (a.put o.dst v) w') → o.wp P a w K Q) ops.toList 0)
    (he : ∀ (a : Act) (w : World), S w → a.tmps.size = a0.tmps.size → a.defers = a0.defers →
      (∀ t, writes ops t = false → a.tmps.getD t undef = a0.tmps.getD t undef) →
      (∀ (i : Nat) (o : Oper), ops[i]? = some o → ∃ v, (∀ d, o.dst = some d → a.tmps.getD d undef = v) ∧ φ i v a w) → Q .normal a w) :
    (Code.region id ops true).wp P Q a0 w0 := by
  have hs := fun (i : Nat) (o : Oper) (ho : ops[i]? = some o) => stepsFrom_get _ _ hs0 i o (by simpa using ho)
  simp only [Nat.zero_add] at hs
  clear hs0
  refine wp_region_any hm (wpAny_inv (DepInvA ops a0 S φ) ?_ ?_ ops.size _ a0 _ (by simp) ?_ ?_)
  · intro l i a w hl hI hi
    obtain ⟨h0, o, ho, hall⟩ := mem_ready.1 hi
    unfold wpOp
    have hgo : o.guard = none := by
      have := List.all_eq_true.1 hg o (by simpa using Array.mem_of_getElem? ho)
      simpa using this
    simp only [ho, Region.wanted, hgo, if_true]
    refine .inl (hs i o ho a w _ hI.world hI.size hI.defers hI.keep (fun e he hb oj hoj => hI.done _ oj hoj (hall e he hb)) ?_)
    intro v w' hS' hφ hst
    have hdsz : ∀ d, o.dst = some d → d < a.tmps.size := by
      intro d hd
      have := List.all_eq_true.1 hsz o (by simpa using Array.mem_of_getElem? ho)
      rw [hd] at this
      rw [hI.size]
      simpa using this
    have huniq : ∀ (j : Nat) (oj : Oper) (d : Tmp), ops[j]? = some oj → oj.dst = some d → o.dst = some d → j = i := by
      intro j oj d hj hdj hdi
      exact dst_unique ops.toList hdst j i oj o d (by simpa using hj) (by simpa using ho) hdj hdi
    have hput : ∀ (j : Nat) (oj : Oper) (d : Tmp), j ≠ i → ops[j]? = some oj → oj.dst = some d → (a.put o.dst v).tmps.getD d undef = a.tmps.getD d undef := by
      intro j oj d hji hj hd
      cases hdi : o.dst with
      | none => simp [Act.put]
      | some d' =>
        have hne : d' ≠ d := fun e => hji (huniq j oj d hj hd (by rw [hdi, e]))
        simp [Act.put, Array.getElem?_setIfInBounds_ne hne]
    have hputi : ∀ d, o.dst = some d → (a.put o.dst v).tmps.getD d undef = v := by
      intro d hd
      have := hdsz d hd
      simp [Act.put, hd, this]
    have hilt : i < l.size := by rw [hl]; exact (Array.getElem?_eq_some_iff.1 ho).1
    refine ⟨hS', ?_, ?_, ?_, ?_, ?_⟩
    · cases hd : o.dst <;> simp [Act.put, hI.size]
    · cases hd : o.dst <;> simp [Act.put, hI.defers]
    · intro t ht
      rw [← hI.keep t ht]
      cases hd : o.dst with
      | none => simp [Act.put]
      | some d =>
        have hne : d ≠ t := fun e => by
          have h1 := List.any_eq_false.1 ht o (by simpa using Array.mem_of_getElem? ho)
          rw [hd, e] at h1
          simp at h1
        simp [Act.put, Array.getElem?_setIfInBounds_ne hne]
    · intro j oj hj hlj
      by_cases hji : j = i
      · subst hji
        rw [ho] at hj
        cases hj
        refine ⟨v, fun d hd => ?_, hφ⟩
        exact hputi d hd
      · have hlj' : l.getD j false = true := by
          rw [getD_set_ne false (fun e => hji e.symm)] at hlj
          exact hlj
        obtain ⟨u, hu, hφj⟩ := hI.done j oj hj hlj'
        refine ⟨u, fun d hd => ?_, hst j oj u hji hj (fun e hee hb hei => ?_) hφj⟩
        · rw [← hu d hd]
          exact hput j oj d hji hj hd
        · have := hI.closed j oj hj hlj' e hee hb
          rw [hei] at this
          have h0' : l[i] = false := by simpa [hilt] using h0
          simp [hilt, h0'] at this
    · intro j oj hj hlj e hee hb
      by_cases hji : j = i
      · subst hji
        rw [ho] at hj
        cases hj
        have := hall e hee hb
        by_cases hei : e.on = j
        · rw [hei]; simp [hilt]
        · rw [getD_set_ne false (fun h => hei h.symm)]; exact this
      · have hlj' : l.getD j false = true := by
          rw [getD_set_ne false (fun e => hji e.symm)] at hlj
          exact hlj
        have := hI.closed j oj hj hlj' e hee hb
        by_cases hei : e.on = i
        · rw [hei]; simp [hilt]
        · rw [getD_set_ne false (fun h => hei h.symm)]; exact this
  · intro l a w hl hI hnil
    have key : ∀ (n i : Nat), i < n → i < ops.size → l.getD i false = true := by
      intro n
      induction n with
      | zero => intro i h; omega
      | succ n ih =>
        intro i hi hlt
        by_cases hin : i < n
        · exact ih i hin hlt
        · have hget : ops[i]? = some ops[i] := Array.getElem?_eq_getElem hlt
          have hnm : i ∉ Region.ready .any ops l := by rw [hnil]; simp
          rw [mem_ready] at hnm
          have hli : i < l.size := by omega
          cases hv : l[i] with
          | true => simp [hli, hv]
          | false =>
            exfalso
            refine hnm ⟨by simp [hli, hv], ops[i], hget, fun e he hb => ?_⟩
            have hz : (ops[i], i) ∈ ops.toList.zipIdx := by
              rw [List.mem_zipIdx_iff_getElem?]; simp [hlt]
            have := List.all_eq_true.1 hord _ hz
            have hlt2 : e.on < i := by
              have := Array.all_eq_true_iff_forall_mem.1 this e he
              simp [hb] at this
              exact this
            exact ih e.on (by omega) (by omega)
    have all : ∀ (i : Nat) (o : Oper), ops[i]? = some o → l.getD i false = true := fun i o ho => key (i + 1) i (by omega) (Array.getElem?_eq_some_iff.1 ho).1
    exact he a w hI.world hI.size hI.defers hI.keep (fun i o ho => hI.done i o ho (all i o ho))
  · have : ∀ n, (List.filter (· == false) (List.replicate n false)).length = n := by
      intro n; induction n with
      | zero => rfl
      | succ n ih => simp [List.replicate_succ]
    simp [this]
  · refine ⟨h0, rfl, rfl, fun _ _ => rfl, fun i o ho hl => ?_, fun i o ho hl => ?_⟩
    · have hlt : i < ops.size := (Array.getElem?_eq_some_iff.1 ho).1
      simp [hlt] at hl
    · have hlt : i < ops.size := (Array.getElem?_eq_some_iff.1 ho).1
      simp [hlt] at hl
end

/-- A frame behind a region: the slots that it wrote, and the rest as it was. -/
theorem tmps_upd (L : List Nat) : ∀ (a b : Array Value), a.size = b.size → (∀ t, t ∉ L → a.getD t undef = b.getD t undef) →
    a = L.foldl (fun acc d => acc.setIfInBounds d (a.getD d undef)) b := by
  intro a b hs h
  have key : ∀ (L : List Nat) (b : Array Value), a.size = b.size → (∀ t, t ∉ L → a.getD t undef = b.getD t undef) → a = L.foldl (fun acc d => acc.setIfInBounds d (a.getD d undef)) b := by
    intro L
    induction L with
    | nil =>
      intro b hs h
      refine Array.ext hs fun i h1 h2 => ?_
      have := h i (by simp)
      have h2' : i < b.size := h2
      simpa [h1, h2'] using this
    | cons d L ih =>
      intro b hs h
      refine ih _ (by simpa using hs) fun t ht => ?_
      by_cases e : t = d
      · subst e
        by_cases hlt : t < b.size
        · simp [hlt]
        · simp [show ¬ t < a.size by omega, hlt]
      · have := h t (by simp [e, ht])
        rw [this]
        simp [Array.getElem?_setIfInBounds_ne (show d ≠ t from fun x => e x.symm)]
  exact key L b hs h
end Go.Proofs.Ytkibdolpapaflaa
