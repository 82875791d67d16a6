import Derived.Test.YtkibdolpapaflaaC1
namespace Go.Proofs.Ytkibdolpapaflaa
open Go.RowKit
section
variable {P : Program} {ops : Array Oper} {Q : Exit → Act → World → Prop}

theorem drop_cons_of_get {L : List Oper} {t : Nat} {o : Oper} (h : L[t]? = some o) : L.drop t = o :: L.drop (t + 1) := by
  obtain ⟨ht, rfl⟩ := List.getElem?_eq_some_iff.1 h
  exact List.drop_eq_getElem_cons ht

/-- The same with a tail (from number m on) that comes in the order of the text, behind all else. -/
theorem wp_region_dept {id : Nat} {a0 : Act} {w0 : World} (m : Nat) (hm : P.follows .mixedOrders = true) (S : World → Prop) (φ : Nat → Value → World → Prop)
    (hord : (ops.toList.zipIdx.all fun x => x.1.after.all fun e => !Region.binds .any e || decide (e.on < x.2)) = true)
    (htail : (ops.toList.zipIdx.all fun x => decide (x.2 < m) || (List.range x.2).all fun j => x.1.after.any fun e => e.on == j && Region.binds .any e) = true)
    (hg : (ops.toList.all fun o => o.guard.isNone) = true)
    (hdst : ((ops.toList.take m).filterMap (·.dst)).Nodup) (hms : m ≤ ops.size) (hm0 : 0 < m)
    (hsz : (ops.toList.all fun o => match o.dst with | some d => decide (d < a0.tmps.size) | none => true) = true)
    (h0 : S w0.drew)
    (hs0 : StepsFrom (fun (i : Nat) (o : Oper) => ∀ (a : Act) (w : World) (K : Act → World → Prop), S w → a.defers = a0.defers →
      (∀ t, writes (ops.toList.take m).toArray t = false → a.tmps.getD t undef = a0.tmps.getD t undef) →
      (∀ e ∈ o.after, Region.binds .any e = true → ∀ oj, ops[e.on]? = some oj → ∃ v, (∀ d, oj.dst = some d → a.tmps.getD d undef = v) ∧ φ e.on v w) →
      (∀ v w', S w' → φ i v w' → (∀ j u, j ≠ i → φ j u w → φ j u w') → K (a.put o.dst v) w') → o.wp P a w K Q) (ops.toList.take m) 0)
    (he : ∀ (a : Act) (w : World), S w → a.tmps.size = a0.tmps.size → a.defers = a0.defers →
      (∀ t, writes (ops.toList.take m).toArray t = false → a.tmps.getD t undef = a0.tmps.getD t undef) →
      (∀ (i : Nat) (o : Oper), i < m → ops[i]? = some o → ∃ v, (∀ d, o.dst = some d → a.tmps.getD d undef = v) ∧ φ i v w) → wpList P ops Q (ops.toList.drop m) a w) :
    (Code.region id ops true).wp P Q a0 w0 := by
  have hs := fun (i : Nat) (o : Oper) (hi : i < m) (ho : ops[i]? = some o) => stepsFrom_get _ _ hs0 i o (by simp [hi]; simpa using ho)
  simp only [Nat.zero_add] at hs
  clear hs0
  let D : Array Bool → Act → World → Prop := fun l a w => DepInv (ops.toList.take m).toArray a0 S φ (fun _ => false) l a w
  let I : Array Bool → Act → World → Prop := fun l a w =>
    ((∃ i, i < m ∧ l.getD i false = false) ∧ (∀ i, m ≤ i → l.getD i false = false) ∧ D l a w) ∨
    (∃ t, m ≤ t ∧ t ≤ ops.size ∧ (∀ i, i < t → l.getD i false = true) ∧ (∀ i, t ≤ i → l.getD i false = false) ∧ wpList P ops Q (ops.toList.drop t) a w)
  have hgd : ∀ (i : Nat) (o : Oper), ops[i]? = some o → o.guard = none := by
    intro i o ho
    have := List.all_eq_true.1 hg o (by simpa using Array.mem_of_getElem? ho)
    simpa using this
  have hgetm : ∀ (i : Nat) (o : Oper), i < m → ops[i]? = some o → (ops.toList.take m).toArray[i]? = some o := by
    intro i o hi ho; simp [hi]; simpa using ho
  have hgetm' : ∀ (i : Nat) (o : Oper), (ops.toList.take m).toArray[i]? = some o → i < m ∧ ops[i]? = some o := by
    intro i o ho
    have hi : i < m := by
      have := (Array.getElem?_eq_some_iff.1 ho).1
      simp at this; omega
    refine ⟨hi, ?_⟩
    simp [hi] at ho
    simpa using ho
  -- a tail operation waits for all ahead of it
  have hwait : ∀ (l : Array Bool) (i : Nat), m ≤ i → i ∈ Region.ready .any ops l → ∀ j, j < i → l.getD j false = true := by
    intro l i hmi hi j hj
    obtain ⟨_, o, ho, hall⟩ := mem_ready.1 hi
    have hz : (o, i) ∈ ops.toList.zipIdx := by rw [List.mem_zipIdx_iff_getElem?]; simpa using ho
    have := List.all_eq_true.1 htail _ hz
    simp only [Bool.or_eq_true, decide_eq_true_eq] at this
    rcases this with h | h
    · omega
    · have := List.all_eq_true.1 h j (by simpa using hj)
      obtain ⟨e, hem, he2⟩ := Array.any_eq_true'.1 this
      simp only [Bool.and_eq_true, beq_iff_eq] at he2
      rw [← he2.1]
      exact hall e hem he2.2
  refine wp_region_any hm (wpAny_inv I ?_ ?_ ops.size _ a0 _ (by simp) ?_ ?_)
  · intro l i a w hl hI hi
    obtain ⟨h0', o, ho, hall⟩ := mem_ready.1 hi
    have hil : i < ops.size := (Array.getElem?_eq_some_iff.1 ho).1
    have hli : l.getD i false = false := by
      have : i < l.size := by omega
      simp [this] at h0' ⊢
      exact h0'
    rcases hI with ⟨⟨q, hq, hlq⟩, htl, hD⟩ | ⟨t, hmt, htn, hlt, hge, hwl⟩
    · have him : i < m := by
        rcases Nat.lt_or_ge i m with h | h
        · exact h
        · have := hwait l i h hi q (by omega)
          rw [hlq] at this; cases this
      unfold wpOp
      simp only [ho, Region.wanted, hgd i o ho, if_true]
      refine .inl (hs i o him ho a w _ hD.world hD.defers hD.keep ?_ ?_)
      · intro e hem hb oj hoj
        have heon : e.on < m := by
          have hz : (o, i) ∈ ops.toList.zipIdx := by rw [List.mem_zipIdx_iff_getElem?]; simpa using ho
          have := List.all_eq_true.1 hord _ hz
          have := Array.all_eq_true_iff_forall_mem.1 this e hem
          simp [hb] at this; omega
        exact hD.done _ oj (hgetm _ oj heon hoj) (hall e hem hb)
      · intro v w' hS' hφ hst
        have hdsz : ∀ d, o.dst = some d → d < a.tmps.size := by
          intro d hd
          have := List.all_eq_true.1 hsz o (by simpa using Array.mem_of_getElem? ho)
          rw [hd] at this
          rw [hD.size]
          simpa using this
        have huniq : ∀ (j : Nat) (oj : Oper) (d : Tmp), j < m → ops[j]? = some oj → oj.dst = some d → o.dst = some d → j = i := by
          intro j oj d hjm hj hdj hdi
          exact dst_unique (ops.toList.take m) hdst j i oj o d (by simp [hjm]; simpa using hj) (by simp [him]; simpa using ho) hdj hdi
        have hD' : D (l.setIfInBounds i true) (a.put o.dst v) w' := by
          refine ⟨hS', ?_, ?_, ?_, ?_, ?_⟩
          · cases hd : o.dst <;> simp [Act.put, hD.size]
          · cases hd : o.dst <;> simp [Act.put, hD.defers]
          · intro t ht
            rw [← hD.keep t ht]
            cases hd : o.dst with
            | none => simp [Act.put]
            | some d =>
              have hne : d ≠ t := fun e => by
                have h1 := List.any_eq_false.1 ht o (by simpa using List.mem_of_getElem? (show (ops.toList.take m)[i]? = some o by simp [him]; simpa using ho))
                rw [hd, e] at h1
                simp at h1
              simp [Act.put, Array.getElem?_setIfInBounds_ne hne]
          · intro j oj hj hlj
            obtain ⟨hjm, hj'⟩ := hgetm' j oj hj
            by_cases hji : j = i
            · subst hji
              rw [ho] at hj'
              cases hj'
              refine ⟨v, fun d hd => ?_, hφ⟩
              have := hdsz d hd
              simp [Act.put, hd, this]
            · have hlj' : l.getD j false = true := by
                rw [getD_set_ne false (fun e => hji e.symm)] at hlj
                exact hlj
              obtain ⟨u, hu, hφj⟩ := hD.done j oj hj hlj'
              refine ⟨u, fun d hd => ?_, hst j u hji hφj⟩
              rw [← hu d hd]
              cases hdi : o.dst with
              | none => simp [Act.put]
              | some d' =>
                have hne : d' ≠ d := fun e => hji (huniq j oj d hjm hj' hd (by rw [hdi, e]))
                simp [Act.put, Array.getElem?_setIfInBounds_ne hne]
          · intro i j oi oj di dj _ hse; simp at hse
        by_cases hdone : ∃ j, j < m ∧ (l.setIfInBounds i true).getD j false = false
        · refine .inl ⟨hdone, fun j hj => ?_, hD'⟩
          rw [getD_set_ne false (by omega)]
          exact htl j hj
        · have hallm : ∀ j, j < m → (l.setIfInBounds i true).getD j false = true := by
            intro j hj
            cases hv : (l.setIfInBounds i true).getD j false with
            | true => rfl
            | false => exact absurd ⟨j, hj, hv⟩ hdone
          refine .inr ⟨m, Nat.le_refl _, hms, hallm, fun j hj => ?_, ?_⟩
          · rw [getD_set_ne false (by omega)]
            exact htl j hj
          · exact he _ _ hD'.world hD'.size hD'.defers hD'.keep (fun j oj hjm hj => hD'.done j oj (hgetm j oj hjm hj) (hallm j hjm))
    · have hti : t = i := by
        rcases Nat.lt_trichotomy i t with h | h | h
        · have := hlt i h
          rw [hli] at this; cases this
        · exact h.symm
        · have := hwait l i (by omega) hi t h
          rw [hge t (Nat.le_refl _)] at this; cases this
      subst hti
      rw [drop_cons_of_get (show ops.toList[t]? = some o by simpa using ho)] at hwl
      unfold wpOp
      simp only [ho]
      have hwl' : if Region.wanted o (yielded ops a.tmps) then o.wp P a w (wpList P ops Q (ops.toList.drop (t + 1))) Q ∨ (o.asks P a w ∧ LetsOut Q) else wpList P ops Q (ops.toList.drop (t + 1)) (a.put o.dst undef) w := hwl
      have hnext : ∀ a w, wpList P ops Q (ops.toList.drop (t + 1)) a w → I (l.setIfInBounds t true) a w := by
        intro a w h
        refine .inr ⟨t + 1, by omega, by omega, fun j hj => ?_, fun j hj => ?_, h⟩
        · by_cases hjt : j = t
          · subst hjt
            have : j < l.size := by omega
            simp [this]
          · rw [getD_set_ne false (fun e => hjt e.symm)]
            exact hlt j (by omega)
        · rw [getD_set_ne false (by omega)]
          exact hge j (by omega)
      split
      · rename_i hw
        rw [if_pos hw] at hwl'
        exact hwl'.imp (Oper.wp_mono hnext) (fun h => h)
      · rename_i hw
        rw [if_neg hw] at hwl'
        exact hnext _ _ hwl'
  · intro l a w hl hI hnil
    rcases hI with ⟨⟨q, hq, hlq⟩, htl, hD⟩ | ⟨t, hmt, htn, hlt, hge, hwl⟩
    · exfalso
      have key : ∀ (n i : Nat), i < n → i < ops.size → l.getD i false = true := by
        intro n
        induction n with
        | zero => intro i h; omega
        | succ n ih =>
          intro i hi hlt
          by_cases hin : i < n
          · exact ih i hin hlt
          · have hget : ops[i]? = some ops[i] := Array.getElem?_eq_getElem hlt
            have hnm : i ∉ Region.ready .any ops l := by rw [hnil]; simp
            rw [mem_ready] at hnm
            have hli : i < l.size := by omega
            cases hv : l[i] with
            | true => simp [hli, hv]
            | false =>
              exfalso
              refine hnm ⟨by simp [hli, hv], ops[i], hget, fun e he hb => ?_⟩
              have hz : (ops[i], i) ∈ ops.toList.zipIdx := by
                rw [List.mem_zipIdx_iff_getElem?]; simp [hlt]
              have := List.all_eq_true.1 hord _ hz
              have hlt2 : e.on < i := by
                have := Array.all_eq_true_iff_forall_mem.1 this e he
                simpa [hb] using this
              exact ih e.on (by omega) (by omega)
      have := key (q + 1) q (by omega) (by omega)
      rw [hlq] at this; cases this
    · have htn' : t = ops.size := by
        rcases Nat.lt_or_ge t ops.size with h | h
        · exfalso
          have hget : ops[t]? = some ops[t] := Array.getElem?_eq_getElem h
          have hnm : t ∉ Region.ready .any ops l := by rw [hnil]; simp
          rw [mem_ready] at hnm
          have htl : t < l.size := by omega
          have hlt' := hge t (Nat.le_refl _)
          refine hnm ⟨by simp [htl] at hlt' ⊢; exact hlt', ops[t], hget, fun e he hb => ?_⟩
          have hz : (ops[t], t) ∈ ops.toList.zipIdx := by
            rw [List.mem_zipIdx_iff_getElem?]; simp [h]
          have := List.all_eq_true.1 hord _ hz
          have hlt2 : e.on < t := by
            have := Array.all_eq_true_iff_forall_mem.1 this e he
            simpa [hb] using this
          exact hlt e.on hlt2
        · omega
      rw [htn', List.drop_of_length_le (by simp)] at hwl
      exact hwl
  · have : ∀ n, (List.filter (· == false) (List.replicate n false)).length = n := by
      intro n; induction n with
      | zero => rfl
      | succ n ih => simp [List.replicate_succ]
    simp [this]
  · have hrep : ∀ i, (Array.replicate ops.size false).getD i false = false := by
      intro i
      by_cases h : i < ops.size <;> simp [h]
    refine .inl ⟨⟨0, hm0, hrep 0⟩, fun i _ => hrep i, ⟨h0, rfl, rfl, fun _ _ => rfl, fun i o _ hl => ?_, fun i j oi oj di dj _ hse => ?_⟩⟩
    · rw [hrep i] at hl; cases hl
    · simp at hse
end
end Go.Proofs.Ytkibdolpapaflaa
