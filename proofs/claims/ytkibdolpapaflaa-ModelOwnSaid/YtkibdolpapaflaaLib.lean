import Derived.Test.YtkibdolpapaflaaRows
import Derived.WalkKit
import Derived.WalkSpells
import Derived.WalkLawsBesides
import Derived.Orders
namespace Go.Proofs.Ytkibdolpapaflaa
open Go.RowKit

/-! A region that draws its order, operation by operation: each is shown once, from what the operations that it waits for have left. -/
section
variable {P : Program} {ops : Array Oper} {Q : Exit → Act → World → Prop}

theorem wpAny_inv (I : Array Bool → Act → World → Prop)
    (hs : ∀ l i a w, l.size = ops.size → I l a w → i ∈ Region.ready .any ops l → wpOp P ops Q i (I (l.setIfInBounds i true)) a w)
    (he : ∀ l a w, l.size = ops.size → I l a w → Region.ready .any ops l = [] → Q .normal a w) :
    ∀ (fuel : Nat) (l : Array Bool) (a : Act) (w : World), l.size = ops.size → (l.toList.filter (· == false)).length ≤ fuel → I l a w →
      wpAny P .any ops Q fuel l a w := by
  intro fuel
  induction fuel with
  | zero =>
    intro l a w hl hf hI
    have hnil : Region.ready .any ops l = [] := by
      rw [List.eq_nil_iff_forall_not_mem]
      intro j hj
      obtain ⟨h0, o, ho, _⟩ := mem_ready.1 hj
      have hlt : j < l.size := by rw [hl]; exact (Array.getElem?_eq_some_iff.1 ho).1
      have h0' : l[j] = false := by simpa [hlt] using h0
      have : false ∈ l.toList.filter (· == false) := by
        rw [List.mem_filter]; exact ⟨by rw [← h0']; simp, by simp⟩
      have hlen := List.length_pos_of_mem this
      omega
    exact ⟨hnil, he l a w hl hI hnil⟩
  | succ fuel ih =>
    intro l a w hl hf hI
    refine ⟨fun hnil => he l a w hl hI hnil, fun i hi => wpOp_mono (fun a' w' h' => ih _ a' w' (by simpa using hl) ?_ h') (hs l i a w hl hI hi)⟩
    obtain ⟨h0, o, ho, _⟩ := mem_ready.1 hi
    have hlt : i < l.size := by rw [hl]; exact (Array.getElem?_eq_some_iff.1 ho).1
    have h0' : l[i] = false := by simpa [hlt] using h0
    have key : ∀ (m : List Bool) (i : Nat) (h : i < m.length), m[i] = false → ((m.set i true).filter (· == false)).length + 1 = (m.filter (· == false)).length := by
      intro m
      induction m with
      | nil => intro i h; simp at h
      | cons x m ih2 =>
        intro i h hx
        cases i with
        | zero => simp at hx; subst hx; simp
        | succ i =>
          have := ih2 i (by simpa using h) (by simpa using hx)
          simp only [List.set_cons_succ, List.filter_cons]
          split <;> (try simp only [List.length_cons]) <;> omega
    have := key l.toList i (by simpa using hlt) (by simpa using h0')
    rw [Array.toList_setIfInBounds]
    omega

/-- What each operation that has come up has left, and what none of them turns. -/
def blk : Value → Option Nat
  | .slice (some a) _ (_ + 1) => some a.block
  | _ => none

def writes (ops : Array Oper) (t : Tmp) : Bool := ops.toList.any fun o => o.dst == some t

structure DepInv (ops : Array Oper) (a0 : Act) (S : World → Prop) (φ : Nat → Value → World → Prop) (sep : Nat → Bool) (l : Array Bool) (a : Act) (w : World) : Prop where
  world : S w
  size : a.tmps.size = a0.tmps.size
  defers : a.defers = a0.defers
  keep : ∀ t, writes ops t = false → a.tmps.getD t undef = a0.tmps.getD t undef
  done : ∀ (i : Nat) (o : Oper), ops[i]? = some o → l.getD i false = true → ∃ v, (∀ d, o.dst = some d → a.tmps.getD d undef = v) ∧ φ i v w
  apart : ∀ (i j : Nat) (oi oj : Oper) (di dj : Tmp), i ≠ j → sep i = true → sep j = true → ops[i]? = some oi → ops[j]? = some oj → oi.dst = some di → oj.dst = some dj → l.getD i false = true → l.getD j false = true →
    blk (a.tmps.getD di undef) = none ∨ blk (a.tmps.getD di undef) ≠ blk (a.tmps.getD dj undef)

theorem dst_unique : ∀ (L : List Oper), (L.filterMap (·.dst)).Nodup → ∀ (j i : Nat) (oj o : Oper) (d : Tmp), L[j]? = some oj → L[i]? = some o → oj.dst = some d → o.dst = some d → j = i := by
  intro L
  induction L with
  | nil => intro _ j i oj o d h1; simp at h1
  | cons x L ih =>
    intro hdst j i oj o d h1 h2 hdj hdi
    rw [List.filterMap_cons] at hdst
    cases i with
    | zero =>
      cases j with
      | zero => rfl
      | succ j =>
        simp at h1 h2
        subst h2
        rw [hdi] at hdst
        simp only [List.nodup_cons, List.mem_filterMap, not_exists, not_and] at hdst
        exact absurd hdj (hdst.1 oj (List.mem_of_getElem? h1))
    | succ i =>
      cases j with
      | zero =>
        simp at h1 h2
        subst h1
        rw [hdj] at hdst
        simp only [List.nodup_cons, List.mem_filterMap, not_exists, not_and] at hdst
        exact absurd hdi (hdst.1 o (List.mem_of_getElem? h2))
      | succ j =>
        simp at h1 h2
        have hnd : (List.filterMap (·.dst) L).Nodup := by
          cases hx : x.dst with
          | none => rw [hx] at hdst; exact hdst
          | some dd => rw [hx] at hdst; exact (List.nodup_cons.1 hdst).2
        have := ih hnd j i oj o d h1 h2 hdj hdi
        omega

def StepsFrom (p : Nat → Oper → Prop) : List Oper → Nat → Prop
  | [], _ => True
  | o :: L, i => p i o ∧ StepsFrom p L (i + 1)
theorem stepsFrom_get {p : Nat → Oper → Prop} : ∀ (L : List Oper) (k : Nat), StepsFrom p L k → ∀ (i : Nat) (o : Oper), L[i]? = some o → p (k + i) o := by
  intro L
  induction L with
  | nil => intro k _ i o h; simp at h
  | cons x L ih =>
    intro k h i o ho
    cases i with
    | zero => simp at ho; subst ho; exact h.1
    | succ i =>
      have := ih (k + 1) h.2 i o (by simpa using ho)
      rw [show k + (i + 1) = k + 1 + i from by omega]
      exact this

theorem wp_region_dep {id : Nat} {a0 : Act} {w0 : World} (hm : P.follows .mixedOrders = true) (S : World → Prop) (φ : Nat → Value → World → Prop) (sep : Nat → Bool)
    (hord : (ops.toList.zipIdx.all fun x => x.1.after.all fun e => decide (e.on < x.2)) = true)
    (hg : (ops.toList.all fun o => o.guard.isNone) = true)
    (hdst : (ops.toList.filterMap (·.dst)).Nodup)
    (hsz : (ops.toList.all fun o => match o.dst with | some d => decide (d < a0.tmps.size) | none => true) = true)
    (h0 : S w0.drew)
    (hs0 : StepsFrom (fun (i : Nat) (o : Oper) => ∀ (a : Act) (w : World) (K : Act → World → Prop), S w → a.defers = a0.defers →
      (∀ t, writes ops t = false → a.tmps.getD t undef = a0.tmps.getD t undef) →
      (∀ e ∈ o.after, Region.binds .any e = true → ∀ oj, ops[e.on]? = some oj → ∃ v, (∀ d, oj.dst = some d → a.tmps.getD d undef = v) ∧ φ e.on v w) →
      (∀ e ∈ o.after, ∀ f ∈ o.after, Region.binds .any e = true → Region.binds .any f = true → e.on ≠ f.on → sep e.on = true → sep f.on = true → ∀ (oe of : Oper) (de df : Tmp), ops[e.on]? = some oe → ops[f.on]? = some of → oe.dst = some de → of.dst = some df →
        blk (a.tmps.getD de undef) = none ∨ blk (a.tmps.getD de undef) ≠ blk (a.tmps.getD df undef)) →
      (∀ v w', S w' → φ i v w' → (∀ j u, j ≠ i → φ j u w → φ j u w') → (sep i = true → ∀ j u, j ≠ i → sep j = true → φ j u w → blk v = none ∨ blk v ≠ blk u) → K (a.put o.dst v) w') → o.wp P a w K Q) ops.toList 0)
    (he : ∀ (a : Act) (w : World), S w → a.tmps.size = a0.tmps.size → a.defers = a0.defers →
      (∀ t, writes ops t = false → a.tmps.getD t undef = a0.tmps.getD t undef) →
      (∀ (i : Nat) (o : Oper), ops[i]? = some o → ∃ v, (∀ d, o.dst = some d → a.tmps.getD d undef = v) ∧ φ i v w) →
      (∀ (i j : Nat) (oi oj : Oper) (di dj : Tmp), i ≠ j → sep i = true → sep j = true → ops[i]? = some oi → ops[j]? = some oj → oi.dst = some di → oj.dst = some dj →
        blk (a.tmps.getD di undef) = none ∨ blk (a.tmps.getD di undef) ≠ blk (a.tmps.getD dj undef)) → Q .normal a w) :
    (Code.region id ops true).wp P Q a0 w0 := by
  have hs := fun (i : Nat) (o : Oper) (ho : ops[i]? = some o) => stepsFrom_get _ _ hs0 i o (by simpa using ho)
  simp only [Nat.zero_add] at hs
  clear hs0
  refine wp_region_any hm (wpAny_inv (DepInv ops a0 S φ sep) ?_ ?_ ops.size _ a0 _ (by simp) ?_ ?_)
  · intro l i a w hl hI hi
    obtain ⟨h0, o, ho, hall⟩ := mem_ready.1 hi
    unfold wpOp
    have hgo : o.guard = none := by
      have := List.all_eq_true.1 hg o (by simpa using Array.mem_of_getElem? ho)
      simpa using this
    simp only [ho, Region.wanted, hgo, if_true]
    refine .inl (hs i o ho a w _ hI.world hI.defers hI.keep (fun e he hb oj hoj => hI.done _ oj hoj (hall e he hb))
      (fun e he f hf hbe hbf hne hse hsf oe of de df h1 h2 h3 h4 => hI.apart _ _ oe of de df hne hse hsf h1 h2 h3 h4 (hall e he hbe) (hall f hf hbf)) ?_)
    intro v w' hS' hφ hst hsep
    have hdsz : ∀ d, o.dst = some d → d < a.tmps.size := by
      intro d hd
      have := List.all_eq_true.1 hsz o (by simpa using Array.mem_of_getElem? ho)
      rw [hd] at this
      rw [hI.size]
      simpa using this
    have huniq : ∀ (j : Nat) (oj : Oper) (d : Tmp), ops[j]? = some oj → oj.dst = some d → o.dst = some d → j = i := by
      intro j oj d hj hdj hdi
      exact dst_unique ops.toList hdst j i oj o d (by simpa using hj) (by simpa using ho) hdj hdi
    have hput : ∀ (j : Nat) (oj : Oper) (d : Tmp), j ≠ i → ops[j]? = some oj → oj.dst = some d → (a.put o.dst v).tmps.getD d undef = a.tmps.getD d undef := by
      intro j oj d hji hj hd
      cases hdi : o.dst with
      | none => simp [Act.put]
      | some d' =>
        have hne : d' ≠ d := fun e => hji (huniq j oj d hj hd (by rw [hdi, e]))
        simp [Act.put, Array.getElem?_setIfInBounds_ne hne]
    have hputi : ∀ d, o.dst = some d → (a.put o.dst v).tmps.getD d undef = v := by
      intro d hd
      have := hdsz d hd
      simp [Act.put, hd, this]
    refine ⟨hS', ?_, ?_, ?_, ?_, ?_⟩
    · cases hd : o.dst <;> simp [Act.put, hI.size]
    · cases hd : o.dst <;> simp [Act.put, hI.defers]
    · intro t ht
      rw [← hI.keep t ht]
      cases hd : o.dst with
      | none => simp [Act.put]
      | some d =>
        have hne : d ≠ t := fun e => by
          have h1 := List.any_eq_false.1 ht o (by simpa using Array.mem_of_getElem? ho)
          rw [hd, e] at h1
          simp at h1
        simp [Act.put, Array.getElem?_setIfInBounds_ne hne]
    · intro j oj hj hlj
      by_cases hji : j = i
      · subst hji
        rw [ho] at hj
        cases hj
        refine ⟨v, fun d hd => ?_, hφ⟩
        exact hputi d hd
      · have hlj' : l.getD j false = true := by
          rw [getD_set_ne false (fun e => hji e.symm)] at hlj
          exact hlj
        obtain ⟨u, hu, hφj⟩ := hI.done j oj hj hlj'
        refine ⟨u, fun d hd => ?_, hst j u hji hφj⟩
        rw [← hu d hd]
        exact hput j oj d hji hj hd
    · intro p q op oq dp dq hpq hsp hsq hp hq hdp hdq hlp hlq
      by_cases hpi : p = i
      · subst hpi
        rw [ho] at hp
        cases hp
        have hqi : q ≠ p := fun e => hpq e.symm
        rw [hputi dp hdp, hput q oq dq hqi hq hdq]
        have hlq' : l.getD q false = true := by
          rw [getD_set_ne false hpq] at hlq
          exact hlq
        obtain ⟨u, hu, hφj⟩ := hI.done q oq hq hlq'
        rw [hu dq hdq]
        exact hsep hsp q u hqi hsq hφj
      · have hlp' : l.getD p false = true := by
          rw [getD_set_ne false (fun e => hpi e.symm)] at hlp
          exact hlp
        by_cases hqi : q = i
        · subst hqi
          rw [ho] at hq
          cases hq
          rw [hputi dq hdq, hput p op dp hpi hp hdp]
          obtain ⟨u, hu, hφj⟩ := hI.done p op hp hlp'
          rw [hu dp hdp]
          rcases hsep hsq p u hpi hsp hφj with h | h
          · by_cases hb : blk u = none
            · exact .inl hb
            · rw [h]; exact .inr hb
          · exact .inr (fun e => h e.symm)
        · have hlq' : l.getD q false = true := by
            rw [getD_set_ne false (fun e => hqi e.symm)] at hlq
            exact hlq
          rw [hput p op dp hpi hp hdp, hput q oq dq hqi hq hdq]
          exact hI.apart p q op oq dp dq hpq hsp hsq hp hq hdp hdq hlp' hlq'
  · intro l a w hl hI hnil
    have key : ∀ (n i : Nat), i < n → i < ops.size → l.getD i false = true := by
      intro n
      induction n with
      | zero => intro i h; omega
      | succ n ih =>
        intro i hi hlt
        by_cases hin : i < n
        · exact ih i hin hlt
        · have hget : ops[i]? = some ops[i] := Array.getElem?_eq_getElem hlt
          have hnm : i ∉ Region.ready .any ops l := by rw [hnil]; simp
          rw [mem_ready] at hnm
          have hli : i < l.size := by omega
          cases hv : l[i] with
          | true => simp [hli, hv]
          | false =>
            exfalso
            refine hnm ⟨by simp [hli, hv], ops[i], hget, fun e he _ => ?_⟩
            have hz : (ops[i], i) ∈ ops.toList.zipIdx := by
              rw [List.mem_zipIdx_iff_getElem?]; simp [hlt]
            have := List.all_eq_true.1 hord _ hz
            have hlt2 : e.on < i := by
              have := Array.all_eq_true_iff_forall_mem.1 this e he
              simpa using this
            exact ih e.on (by omega) (by omega)
    have all : ∀ (i : Nat) (o : Oper), ops[i]? = some o → l.getD i false = true := fun i o ho => key (i + 1) i (by omega) (Array.getElem?_eq_some_iff.1 ho).1
    exact he a w hI.world hI.size hI.defers hI.keep (fun i o ho => hI.done i o ho (all i o ho)) (fun i j oi oj di dj hij h1 h2 h3 h4 h5 h6 => hI.apart i j oi oj di dj hij h1 h2 h3 h4 h5 h6 (all i oi h3) (all j oj h4))
  · have : ∀ n, (List.filter (· == false) (List.replicate n false)).length = n := by
      intro n; induction n with
      | zero => rfl
      | succ n ih => simp [List.replicate_succ]
    simp [this]
  · refine ⟨h0, rfl, rfl, fun _ _ => rfl, fun i o ho hl => ?_, fun i j oi oj di dj _ _ _ ho _ _ _ hl => ?_⟩
    · have hlt : i < ops.size := (Array.getElem?_eq_some_iff.1 ho).1
      simp [hlt] at hl
    · have hlt : i < ops.size := (Array.getElem?_eq_some_iff.1 ho).1
      simp [hlt] at hl
end

/-! Slices of integers (and of structs of integers): what they read, what is owned. -/
def Rd (w : World) (v : Value) (size n : Nat) (zs : List Int) : Prop :=
  zs.length = n * size ∧ ((n = 0 ∧ ∃ a c, v = .slice a 0 c) ∨
    ∃ b off c, v = .slice (some ⟨b, off, none⟩) n c ∧ ∀ (j : Nat) (z : Int), zs[j]? = some z → w.cell? ⟨b, off + j, none⟩ = some (.int .i64 z))

/-- v owns a block from base on (or has no place at all). -/
def Own (w : World) (base e size : Nat) (v : Value) (n : Nat) (zs : List Int) : Prop :=
  zs.length = n * size ∧ ((n = 0 ∧ ∃ a, v = .slice a 0 0) ∨
    ∃ g cap cur, v = .slice (some ⟨g, 0, none⟩) n cap ∧ 0 < cap ∧ base ≤ g ∧ w.heap[g]? = some (.cells cur e (0, 0)) ∧ n ≤ cap ∧ cap ≤ maxLen ∧ cur.size = cap * size ∧ cur.toList.take (n * size) = zs.map (Value.int .i64))

theorem addr_add (b off j : Nat) : (⟨b, off, none⟩ : Addr).add j = ⟨b, off + j, none⟩ := by
  unfold Addr.add; split <;> simp_all

section
variable {w w' : World} {base e size : Nat} {v : Value} {n : Nat} {zs : List Int}

theorem Own.rd (h : Own w base e size v n zs) : Rd w v size n zs := by
  refine ⟨h.1, ?_⟩
  rcases h.2 with ⟨h0, a, rfl⟩ | ⟨g, cap, cur, rfl, h0, h1, h2, h3, h4, h5, h6⟩
  · exact .inl ⟨h0, a, 0, rfl⟩
  · refine .inr ⟨g, 0, cap, rfl, fun j z hz => ?_⟩
    rw [Nat.zero_add, cell_of_row w g j cur e (0, 0) h2]
    have hj : (cur.toList.take (n * size))[j]? = some (.int .i64 z) := by rw [h6]; simp [hz]
    rw [List.getElem?_take] at hj
    split at hj
    · simpa using hj
    · cases hj

theorem Own.lt (h : Own w base e size v n zs) : ∀ k, blk v = some k → base ≤ k ∧ k < w.heap.size := by
  intro k hk
  rcases h.2 with ⟨h0, a, rfl⟩ | ⟨g, cap, cur, rfl, h0, h1, h2, h3, h4, h5, h6⟩
  · cases a <;> simp [blk] at hk
  · cases cap with
    | zero => omega
    | succ cap =>
      simp [blk] at hk
      subst hk
      exact ⟨h1, (Array.getElem?_eq_some_iff.1 h2).1⟩

theorem Own.of_block (h : Own w base e size v n zs) (hb : ∀ k, blk v = some k → w'.heap[k]? = w.heap[k]?) : Own w' base e size v n zs := by
  refine ⟨h.1, ?_⟩
  rcases h.2 with h0 | ⟨g, cap, cur, rfl, h0, h1, h2, r⟩
  · exact .inl h0
  · refine .inr ⟨g, cap, cur, rfl, h0, h1, ?_, r⟩
    rw [hb g ?_]
    · exact h2
    · cases cap with
      | zero => omega
      | succ cap => rfl

theorem Own.kept {row : Option Nat} (h : Own w base e size v n zs) (hg : w.grownBy w' row) (hne : blk v = none ∨ blk v ≠ row) : Own w' base e size v n zs :=
  h.of_block fun k hk => hg.block k (h.lt k hk).2 (by
    rcases hne with hn | hn
    · rw [hn] at hk; cases hk
    · rw [← hk]; exact hn)

theorem Own.alloc (h : Own w base e size v n zs) (o : Obj) : Own (w.alloc o) base e size v n zs :=
  h.of_block fun k hk => Below.heap_alloc w o k (h.lt k hk).2

theorem Own.drew (h : Own w base e size v n zs) : Own w.drew base e size v n zs := h.of_block fun _ _ => rfl

theorem Own.mono {base' : Nat} (h : Own w base e size v n zs) (hb : base' ≤ base) : Own w base' e size v n zs := by
  refine ⟨h.1, ?_⟩
  rcases h.2 with h0 | ⟨g, cap, cur, rfl, h0, h1, r⟩
  · exact .inl h0
  · exact .inr ⟨g, cap, cur, rfl, h0, by omega, r⟩

theorem Own.empty (w : World) (base e size : Nat) (a : Option Addr) : Own w base e size (.slice a 0 0) 0 [] := ⟨by simp, .inl ⟨rfl, a, rfl⟩⟩

/-- A new block, written out. -/
theorem Own.lit (w : World) (cs : Array Value) (e size n : Nat) (zs : List Int) (hb : base ≤ w.heap.size) (hn : 0 < n) (hm : n ≤ maxLen) (hs : zs.length = n * size) (hc : cs.toList = zs.map (Value.int .i64)) :
    Own (w.alloc (.cells cs e)) base e size (.slice (some ⟨w.heap.size, 0, none⟩) n n) n zs :=
  ⟨hs, .inr ⟨w.heap.size, n, cs, rfl, hn, hb, heap_alloc_new w _, Nat.le_refl _, hm, by rw [← Array.length_toList, hc]; simpa using hs, by rw [hc, List.take_of_length_le (by simp [hs])]⟩⟩

theorem Rd.slice_form (h : Rd w v size n zs) : ∃ a c, v = .slice a n c := by
  rcases h.2 with ⟨h0, a, c, rfl⟩ | ⟨b, off, c, rfl, _⟩
  · exact ⟨a, c, by rw [h0]⟩
  · exact ⟨_, c, rfl⟩

theorem Rd.of_cells {zs : List Int} (h : Rd w v size n zs) (hc : ∀ (p : Addr) (x : Value), w.cell? p = some x → w'.cell? p = some x) : Rd w' v size n zs := by
  refine ⟨h.1, ?_⟩
  rcases h.2 with h0 | ⟨b, off, c, rfl, h1⟩
  · exact .inl h0
  · exact .inr ⟨b, off, c, rfl, fun j z hz => hc _ _ (h1 j z hz)⟩
end

theorem below_keeps {w ws : World} (h : Below w.heap.size w ws) : ∀ (p : Addr) (x : Value), w.cell? p = some x → ws.cell? p = some x := fun p x hx => by
  rw [h.cell (World.block_lt_of_cell? w p hx)]; exact hx

theorem Rd.below {w ws : World} {v : Value} {size n : Nat} {zs : List Int} (hr : Rd w v size n zs) (h : Below w.heap.size w ws) : Rd ws v size n zs := hr.of_cells (below_keeps h)

theorem run_append_types {P : Program} {w : World} {t t2 ty e e2 : TypeId} (ht : P.underlying t = some (.slice e)) (ht2 : P.underlying t2 = some (.slice e2)) (v x : Value) :
    (Builtin.append_ #[t, t2] ty #[v, x]).run P w = (Builtin.append_ #[t, t] ty #[v, x]).run P w := by
  cases v <;> simp [Builtin.append_, run_underlying ht]
  cases (sizeOf e).run P w <;> simp [run_underlying ht, run_underlying ht2, Result.andThen]

theorem run_append_zero {P : Program} {w : World} {t ty e : TypeId} {i : TypeInfo} (ht : P.underlying t = some (.slice e)) (hi : P.info? e = some i) (a : Option Addr) (n c : Nat) (b : Option Addr) (d : Nat) (hn : n ≤ c) :
    (Builtin.append_ #[t, t] ty #[.slice a n c, .slice b 0 d]).run P w = .ok (.slice a n c) w := by
  cases a <;> cases b <;> simp [Builtin.append_, run_underlying ht, sizeOf, typeInfo, hi, Builtin.lenOf, Builtin.firstCells, loadCells, loadCellsFrom, hn, storeCells]

theorem run_app {P : Program} {w : World} (base : Nat) (t t2 ty e e2 : TypeId) (i : TypeInfo) (z : Value) (size bytes : Nat) (ht : P.underlying t = some (.slice e)) (ht2 : P.underlying t2 = some (.slice e2)) (hi : P.info? e = some i) (hz : i.zero = some z)
    (hsize : i.size = size) (hby : i.bytes = bytes) (hzs : z.cells.size = size)
    (v : Value) (n : Nat) (xs : List Int) (hown : Own w base e size v n xs)
    (x : Value) (m : Nat) (ys : List Int) (hx : Rd w x size m ys)
    (h63 : n + m ≤ maxLen) (hbytes : (n + m) * bytes ≤ 140737488355328) (hbase : base ≤ w.heap.size) :
    ∃ v' w', (Builtin.append_ #[t, t2] ty #[v, x]).run P w = .ok v' w' ∧ Own w' base e size v' (n + m) (xs ++ ys) ∧
      ((blk v' = blk v ∧ w.grownBy w' (blk v)) ∨ (blk v' = some w.heap.size ∧ w.grownBy w' none ∧ w.heap.size < w'.heap.size)) ∧ (v ≠ .slice none 0 0 → v' ≠ .slice none 0 0) := by
  rw [run_append_types ht ht2]
  have hml : ys.length = m * size := hx.1
  rcases hx.2 with ⟨rfl, b, d, rfl⟩ | ⟨b, off, c, rfl, hc⟩
  · have : ys = [] := List.eq_nil_of_length_eq_zero (by simpa using hml)
    subst this
    have hv : ∃ a c, v = .slice a n c ∧ n ≤ c := by
      rcases hown.2 with ⟨h0, a, rfl⟩ | ⟨g, cap, cur, rfl, h0, h1, h2, h3, _⟩
      · exact ⟨a, 0, by rw [h0], by omega⟩
      · exact ⟨_, cap, rfl, h3⟩
    obtain ⟨a, c, rfl, hnc⟩ := hv
    exact ⟨_, w, run_append_zero ht hi a n c b d hnc, by simpa using hown, .inl ⟨rfl, ⟨rfl, rfl, rfl, Nat.le_refl _, fun _ _ _ => rfl⟩⟩, id⟩
  · subst hsize
    subst hby
    have hnews : ∀ (j : Nat) (u : Value), (ys.map (Value.int .i64))[j]? = some u → w.cell? ((⟨b, off, none⟩ : Addr).add j) = some u := by
      intro j u hu
      rw [List.getElem?_map] at hu
      cases hy : ys[j]? with
      | none => simp [hy] at hu
      | some y =>
        simp [hy] at hu; subst hu
        rw [addr_add]; exact hc j y hy
    have h1 : ∀ u ∈ ys.map (Value.int .i64), u.oneCell' = true := by
      intro u hu
      obtain ⟨y, _, rfl⟩ := List.mem_map.1 hu
      rfl
    have hxl : xs.length = n * i.size := hown.1
    have hsmall : n + m ≤ 9223372036854775807 := by simp only [maxLen] at h63; omega
    have hlen : (xs.map (Value.int .i64) ++ ys.map (Value.int .i64)).length = (n + m) * i.size := by simp [hxl, hml, Nat.add_mul]
    have hl : (ys.map (Value.int .i64)).length = m * i.size := by simpa using hml
    have grown : ∀ (old : Nat), old < n + m →
        Own (w.drew.alloc (.cells ((xs.map (Value.int .i64)).toArray ++ (ys.map (Value.int .i64)).toArray ++ Builtin.zeroCells z.cells (grownCap w (n + m) old e - (n + m))) e)) base e i.size
          (.slice (some ⟨w.heap.size, 0, none⟩) (n + m) (grownCap w (n + m) old e)) (n + m) (xs ++ ys) ∧
        (blk (.slice (some ⟨w.heap.size, 0, none⟩) (n + m) (grownCap w (n + m) old e)) = some w.heap.size ∧
        w.grownBy (w.drew.alloc (.cells ((xs.map (Value.int .i64)).toArray ++ (ys.map (Value.int .i64)).toArray ++ Builtin.zeroCells z.cells (grownCap w (n + m) old e - (n + m))) e)) none ∧
        w.heap.size < (w.drew.alloc (.cells ((xs.map (Value.int .i64)).toArray ++ (ys.map (Value.int .i64)).toArray ++ Builtin.zeroCells z.cells (grownCap w (n + m) old e - (n + m))) e)).heap.size) := by
      intro old ho
      have hge := grownCap_ge w (n + m) old e
      have hcm : grownCap w (n + m) old e ≤ maxLen := grownCap_le_maxLen w (n + m) old e h63
      refine ⟨⟨by simp [hxl, hml, Nat.add_mul], .inr ⟨w.heap.size, _, _, rfl, by omega, hbase, heap_alloc_new w.drew _, hge, hcm, ?_, ?_⟩⟩, ?_, ⟨rfl, rfl, rfl, by simp, fun k hk _ => Below.heap_alloc w.drew _ k hk⟩, by simp⟩
      · simp only [Array.size_append, List.size_toArray, size_zeroCells, hzs, List.length_map, hxl, hml, ← Nat.add_mul]
        congr 1
        omega
      · simp only [Array.toList_append, List.append_assoc, List.map_append]
        rw [← List.append_assoc, ← hlen]
        exact List.take_left
      · cases hgc : grownCap w (n + m) old e with
        | zero => omega
        | succ k => rfl
    by_cases hm0 : m = 0
    · subst hm0
      have : ys = [] := List.eq_nil_of_length_eq_zero (by simpa using hml)
      subst this
      have hv : ∃ a c, v = .slice a n c ∧ n ≤ c := by
        rcases hown.2 with ⟨h0, a, rfl⟩ | ⟨g, cap, cur, rfl, h0, h1, h2, h3, _⟩
        · exact ⟨a, 0, by rw [h0], by omega⟩
        · exact ⟨_, cap, rfl, h3⟩
      obtain ⟨a, c', rfl, hnc⟩ := hv
      exact ⟨_, w, run_append_zero ht hi a n c' _ _ hnc, by simpa using hown, .inl ⟨rfl, ⟨rfl, rfl, rfl, Nat.le_refl _, fun _ _ _ => rfl⟩⟩, id⟩
    rcases hown.2 with ⟨rfl, a, rfl⟩ | ⟨g, cap, cur, rfl, h0, hbg, hg, hnc, hcm, hcs, htake⟩
    · have hx : xs = [] := List.eq_nil_of_length_eq_zero (by simpa using hxl)
      subst hx
      have hgr := grown 0 (by omega)
      cases a with
      | none =>
        have hr := run_append_nil (P := P) w t ty e i z ht hi hz ⟨b, off, none⟩ m c _ hl hnews (by omega) (by omega) (by have hb := hbytes; simp only [Nat.zero_add] at hb; omega)
        simp only [Nat.zero_add, List.nil_append, List.map_nil, Array.empty_append] at hgr ⊢
        exact ⟨_, _, hr, hgr.1, .inr hgr.2, by simp⟩
      | some a =>
        have hr := run_append_grow (P := P) w t ty e i z ht hi hz a 0 0 [] (by simp) (by simp) ⟨b, off, none⟩ m c _ hl hnews (by omega) (by omega) (growslice_fits (by omega) hbytes)
        simp only [Nat.zero_add, List.nil_append, List.map_nil, Array.empty_append] at hgr hr ⊢
        exact ⟨_, _, hr, hgr.1, .inr hgr.2, by simp⟩
    · have hblk : blk (.slice (some ⟨g, 0, none⟩) n cap) = some g := by
        cases cap with
        | zero => omega
        | succ c => rfl
      by_cases hroom : n + m ≤ cap
      · have hfit : n * i.size + (ys.map (Value.int .i64)).length ≤ cur.size := by rw [hl, hcs, ← Nat.add_mul]; exact Nat.mul_le_mul_right _ hroom
        have hr := run_append_room (P := P) w t ty e i ht hi g n cap cur hg ⟨b, off, none⟩ m c _ hl hnews h1 hroom hfit
        refine ⟨_, _, hr, ⟨by simp [hxl, hml, Nat.add_mul], .inr ⟨g, cap, _, rfl, h0, hbg, setRow_heap w g cur _ e _ hg, hroom, hcm, ?_, ?_⟩⟩, .inl ⟨?_, ?_⟩, by simp⟩
        · simp only [List.size_toArray, List.length_append, List.length_take, List.length_drop, Array.length_toList]
          omega
        · rw [htake, ← hlen, List.map_append]
          exact List.take_left
        · cases cap with
          | zero => omega
          | succ c => rfl
        · rw [hblk]
          exact ⟨rfl, rfl, rfl, by simp, fun k _ hk => setRow_other w g k _ (fun e => hk (by simp [e]))⟩
      · have holds : ∀ (j : Nat) (u : Value), (xs.map (Value.int .i64))[j]? = some u → w.cell? ((⟨g, 0, none⟩ : Addr).add j) = some u := by
          intro j u hu
          rw [addr_add, Nat.zero_add, cell_of_row w g j cur e (0, 0) hg]
          rw [← htake, List.getElem?_take] at hu
          split at hu
          · simpa using hu
          · cases hu
        have hr := run_append_grow (P := P) w t ty e i z ht hi hz ⟨g, 0, none⟩ n cap _ (by simpa using hxl) holds ⟨b, off, none⟩ m c _ hl hnews (by omega) (by omega) (growslice_fits (by omega) hbytes)
        have hgr := grown cap (by omega)
        exact ⟨_, _, hr, hgr.1, .inr hgr.2, by simp⟩

theorem wp_value {P : Program} {w w' : World} {o : Oper} {a : Act} {K : Act → World → Prop} {Q : Exit → Act → World → Prop} {v : Value}
    (h : (execOp a.eval o).run P w = .ok (.value v) w') (hk : K (a.put o.dst v) w') : o.wp P a w K Q := by
  unfold Oper.wp
  rw [h]
  exact hk

theorem wp_skip0 {P : Program} {w w' : World} {o : Oper} {a : Act} {K : Act → World → Prop} {Q : Exit → Act → World → Prop}
    (h : (execOp a.eval o).run P w = .ok .skip w') (hk : K (a.put o.dst undef) w') : o.wp P a w K Q := by
  unfold Oper.wp
  rw [h]
  exact hk

/-- The law for a walk: 'append(s, x...)'. -/
theorem wp_app {P : Program} {w : World} {o : Oper} {a : Act} {K : Act → World → Prop} {Q : Exit → Act → World → Prop} (s x : Operand) (t t2 : TypeId)
    (ho : o.op = .call { callee := .builtin .append, args := #[s, x], argTypes := #[t, t2] })
    (base e e2 : Nat) (i : TypeInfo) (z : Value) (size bytes : Nat) (ht : P.underlying t = some (.slice e)) (ht2 : P.underlying t2 = some (.slice e2)) (hi : P.info? e = some i) (hz : i.zero = some z)
    (hsize : i.size = size) (hby : i.bytes = bytes) (hzs : z.cells.size = size)
    (v : Value) (n : Nat) (xs : List Int) (hs : a.eval s = v) (hown : Own w base e size v n xs)
    (xv : Value) (m : Nat) (ys : List Int) (hxe : a.eval x = xv) (hx : Rd w xv size m ys)
    (h63 : n + m ≤ maxLen) (hbytes : (n + m) * bytes ≤ 140737488355328) (hbase : base ≤ w.heap.size)
    (h : ∀ v' w', Own w' base e size v' (n + m) (xs ++ ys) → ((blk v' = blk v ∧ w.grownBy w' (blk v)) ∨ (blk v' = some w.heap.size ∧ w.grownBy w' none ∧ w.heap.size < w'.heap.size)) →
      (v ≠ .slice none 0 0 → v' ≠ .slice none 0 0) → K (a.put o.dst v') w') : o.wp P a w K Q := by
  obtain ⟨v', w', hr, h2, h3, h5⟩ := run_app (P := P) base t t2 o.type e e2 i z size bytes ht ht2 hi hz hsize hby hzs v n xs hown xv m ys hx h63 hbytes hbase
  unfold Oper.wp execOp
  simp only [ho, resolve, invoke, builtin, Sem.run_bind, Sem.run_pure, Result.andThen_ok, List.map_toArray, List.map_cons, List.map_nil, hs, hxe, hr]
  exact h v' w' h2 h3 h5

theorem wpList_app {P : Program} {w : World} {ops : Array Oper} {rest : List Oper} {o : Oper} {a : Act} {Q : Exit → Act → World → Prop} (hgd : o.guard = none) (s x : Operand) (t t2 : TypeId)
    (ho : o.op = .call { callee := .builtin .append, args := #[s, x], argTypes := #[t, t2] })
    (base e e2 : Nat) (i : TypeInfo) (z : Value) (size bytes : Nat) (ht : P.underlying t = some (.slice e)) (ht2 : P.underlying t2 = some (.slice e2)) (hi : P.info? e = some i) (hz : i.zero = some z)
    (hsize : i.size = size) (hby : i.bytes = bytes) (hzs : z.cells.size = size)
    (v : Value) (n : Nat) (xs : List Int) (hs : a.eval s = v) (hown : Own w base e size v n xs)
    (xv : Value) (m : Nat) (ys : List Int) (hxe : a.eval x = xv) (hx : Rd w xv size m ys)
    (h63 : n + m ≤ maxLen) (hbytes : (n + m) * bytes ≤ 140737488355328) (hbase : base ≤ w.heap.size)
    (h : ∀ v' w', Own w' base e size v' (n + m) (xs ++ ys) → ((blk v' = blk v ∧ w.grownBy w' (blk v)) ∨ (blk v' = some w.heap.size ∧ w.grownBy w' none ∧ w.heap.size < w'.heap.size)) →
      (v ≠ .slice none 0 0 → v' ≠ .slice none 0 0) → wpList P ops Q rest (a.put o.dst v') w') : wpList P ops Q (o :: rest) a w :=
  wpList_plain hgd fun _ hK => wp_app s x t t2 ho base e e2 i z size bytes ht ht2 hi hz hsize hby hzs v n xs hs hown xv m ys hxe hx h63 hbytes hbase fun v' w' h2 h3 h5 => hK _ _ (h v' w' h2 h3 h5)
end Go.Proofs.Ytkibdolpapaflaa
