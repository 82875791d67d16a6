/- ModelOwn returns true for every input, and what is handed in reads behind the call as it read before. No condition. -/
import Derived.Test.YtkibdolpapaflaaE2
import Derived.ProofKit
import Derived.ChangeOld
import Derived.Below
import Derived.SizedLaws
import Derived.Lib.SmallJoins
import Derived.Deep.SlicePairs
namespace Go.Proofs.Ytkibdolpapaflaa
open Go.ChangeShapes Go.WideShapes Go.ChangeAt Go.RowKit Go.Joins Go.Deep
set_option linter.unusedVariables false

theorem own : ownKnob Try.prog.godebug = none := by kernel_rfl
theorem laidOut : laidOutB Try.prog = true := by kernel_rfl
theorem bytes3 : Try.prog.bytesOf 3 = 8 := by kernel_rfl
theorem bytes67 : Try.prog.bytesOf 67 = 16 := by kernel_rfl

section
variable {H : Type} {enc : TypeId × Value → H} {P : Program} {w : World} {base : Nat} {spare : Nat → Bool} {held : Bool}
theorem open_agg5 {r : Reach} {b0 : Nat} {t : TypeId} {f0 f1 f2 f3 f4 : Field} {v : Value} {d : DataW H} {p : List MemPlace} (hs : P.underlying t = some (.struct #[f0, f1, f2, f3, f4])) (hone : oneCellFields P #[f0, f1, f2, f3, f4] = true) (hC : P.cellsOf t = 5)
    (hv : Value.okWide P w r b0 t v) (h : DataW.Trod enc P w base spare held t v d p) :
    ∃ (v0 v1 v2 v3 v4 : Value) (y0 y1 y2 y3 y4 : DataW H × List MemPlace) (n : Nat), v = .agg #[v0, v1, v2, v3, v4] ∧ d = .agg [y0.1, y1.1, y2.1, y3.1, y4.1] ∧ p = y0.2 ++ (y1.2 ++ (y2.2 ++ (y3.2 ++ y4.2))) ∧
      DataW.trod enc P w base spare held n f0.type [v0] = some y0 ∧ DataW.trod enc P w base spare held n f1.type [v1] = some y1 ∧ DataW.trod enc P w base spare held n f2.type [v2] = some y2 ∧ DataW.trod enc P w base spare held n f3.type [v3] = some y3 ∧ DataW.trod enc P w base spare held n f4.type [v4] = some y4 := by
  obtain ⟨cs, rfl, hsz⟩ := okWide_struct hs hv
  obtain ⟨l⟩ := cs
  match l, hsz.trans hC with
  | [c0, c1, c2, c3, c4], _ =>
    obtain ⟨fuel, hf⟩ := h
    obtain ⟨xs, n, _, hx, _, hlen, hg⟩ := DataW.trod_struct hs hf
    obtain ⟨o0, k0⟩ := hone_of hone 0 f0 rfl
    obtain ⟨o1, k1⟩ := hone_of hone 1 f1 rfl
    obtain ⟨o2, k2⟩ := hone_of hone 2 f2 rfl
    obtain ⟨o3, k3⟩ := hone_of hone 3 f3 rfl
    obtain ⟨o4, k4⟩ := hone_of hone 4 f4 rfl
    match xs, hlen with
    | [y0, y1, y2, y3, y4], _ =>
      simp only [Prod.mk.injEq] at hx
      exact ⟨c0, c1, c2, c3, c4, y0, y1, y2, y3, y4, n, rfl, by simpa using hx.1, by simpa using hx.2, by simpa [Value.cells, o0, k0] using hg 0 f0 rfl, by simpa [Value.cells, o1, k1] using hg 1 f1 rfl, by simpa [Value.cells, o2, k2] using hg 2 f2 rfl, by simpa [Value.cells, o3, k3] using hg 3 f3 rfl, by simpa [Value.cells, o4, k4] using hg 4 f4 rfl⟩

/-- What a field that is a slice of integers comes to: a reading, and a datum of so many elements. -/
def ElemsAre {H : Type} (n : Nat) (d : DataW H) : Prop := (n = 0 ∧ d = .nil) ∨ ∃ elems rest, d = .slice elems rest ∧ elems.length = n

theorem spot_none {a : Addr} {v : Value} (h : w.cell? (a.add 0) = some v) : ∃ b off, a = ⟨b, off, none⟩ := by
  obtain ⟨b, off, spot⟩ := a
  have := World.cell?_spot h
  unfold Addr.add at this
  cases spot with
  | none => exact ⟨b, off, rfl⟩
  | some s => simp at this

theorem rd_ints {t e : TypeId} {fuel : Nat} {v : Value} {y : DataW H × List MemPlace} (ht : P.underlying t = some (.slice e)) (he : P.underlying e = some (.int .i64)) (hc : P.cellsOf e = 1) (hsp : ∀ b, spare b = true)
    (h : DataW.trod enc P w base spare held fuel t [v] = some y) : ∃ n zs, Rd w v 1 n zs ∧ ElemsAre n y.1 := by
  rcases open_ints ht he hc h with ⟨hcs, hx⟩ | ⟨a, len, cap, zs, hcs, _, hl, hm, hz, hx, hcell, _⟩
  · simp at hcs
    subst hcs
    exact ⟨0, [], ⟨rfl, .inl ⟨rfl, none, 0, rfl⟩⟩, .inl ⟨rfl, by rw [hx]⟩⟩
  · simp at hcs
    subst hcs
    rw [hsp, if_pos rfl] at hz
    refine ⟨len, zs.take len, ⟨by rw [List.length_take]; omega, ?_⟩, .inr ⟨_, _, by rw [hx], by simp [lits]; omega⟩⟩
    by_cases h0 : len = 0
    · subst h0
      exact .inl ⟨rfl, some a, cap, rfl⟩
    · obtain ⟨b, off, rfl⟩ := spot_none (hcell 0 (by omega))
      refine .inr ⟨b, off, cap, rfl, fun j z hj => ?_⟩
      have hjl : j < zs.length := by
        have := (List.getElem?_eq_some_iff.1 hj).1
        rw [List.length_take] at this
        omega
      have := hcell j hjl
      rw [addr_add] at this
      rw [this]
      rw [List.getElem?_take] at hj
      split at hj
      · rw [List.getD_eq_getElem?_getD, hj]; rfl
      · cases hj

theorem rd_pairs {t e : TypeId} {f0 f1 : Field} {fuel : Nat} {v : Value} {y : DataW H × List MemPlace} (ht : P.underlying t = some (.slice e)) (he : P.underlying e = some (.struct #[f0, f1])) (hc : P.cellsOf e = 2)
    (o0 : f0.offset = 0) (o1 : f1.offset = 1) (c0 : P.cellsOf f0.type = 1) (c1 : P.cellsOf f1.type = 1) (i0 : P.underlying f0.type = some (.int .i64)) (i1 : P.underlying f1.type = some (.int .i64)) (hsp : ∀ b, spare b = true)
    (h : DataW.trod enc P w base spare held fuel t [v] = some y) : ∃ n zs, Rd w v 2 n zs ∧ ElemsAre n y.1 := by
  rcases open_slice_pairs ht he hc o0 o1 c0 c1 h with ⟨hcs, hx⟩ | ⟨a, len, cap, m, k, V0, V1, D0, D1, P0, P1, hcs, _, hl, hm, hmm, hx, hcell⟩
  · simp at hcs
    subst hcs
    exact ⟨0, [], ⟨rfl, .inl ⟨rfl, none, 0, rfl⟩⟩, .inl ⟨rfl, by rw [hx]⟩⟩
  · simp at hcs
    subst hcs
    rw [hsp, if_pos rfl] at hmm
    have val : ∀ i, i < len → ∃ a0 a1 : Int, w.cell? (a.add (i * 2)) = some (.int .i64 a0) ∧ w.cell? (a.add (i * 2 + 1)) = some (.int .i64 a1) := by
      intro i hi
      obtain ⟨h0, h1, t0, t1⟩ := hcell i (by omega)
      obtain ⟨x0, e0, _, _⟩ := DataW.trod_int i0 t0
      obtain ⟨x1, e1, _, _⟩ := DataW.trod_int i1 t1
      simp at e0 e1
      rw [e0] at h0
      rw [e1] at h1
      exact ⟨_, _, h0, h1⟩
    have key : ∀ j, ∃ z : Int, j < len * 2 → w.cell? (a.add j) = some (.int .i64 z) := by
      intro j
      by_cases hj : j < len * 2
      · obtain ⟨a0, a1, g0, g1⟩ := val (j / 2) (by omega)
        rcases Nat.mod_two_eq_zero_or_one j with e | e
        · exact ⟨a0, fun _ => by rw [show j = j / 2 * 2 from by omega]; exact g0⟩
        · exact ⟨a1, fun _ => by rw [show j = j / 2 * 2 + 1 from by omega]; exact g1⟩
      · exact ⟨0, fun h => absurd h hj⟩
    refine ⟨len, (List.range (len * 2)).map fun j => Classical.choose (key j), ⟨by simp, ?_⟩, .inr ⟨_, _, by rw [hx], by simp⟩⟩
    by_cases h0 : len = 0
    · subst h0
      exact .inl ⟨rfl, some a, cap, rfl⟩
    · obtain ⟨a0, a1, g0, _⟩ := val 0 (by omega)
      obtain ⟨b, off, rfl⟩ := spot_none (by simpa using g0)
      refine .inr ⟨b, off, cap, rfl, fun j z hj => ?_⟩
      rw [List.getElem?_map] at hj
      have hjl : j < len * 2 := by
        apply Classical.byContradiction
        intro hn
        rw [List.getElem?_eq_none (by simp; omega)] at hj
        cases hj
      rw [List.getElem?_range hjl] at hj
      simp at hj
      subst hj
      exact (congrArg w.cell? (addr_add b off j)).symm.trans (Classical.choose_spec (key j) hjl)

theorem len_le {ts : List TypeId} {ds : List (DataW H)} (h : (DataW.weightsEach P ts ds).all (· ≤ reachBytes) = true) {j : Nat} {t e : TypeId} {n : Nat} {d : DataW H} (hd : ElemsAre n d) (ht : ts[j]? = some t) (hj : ds[j]? = some d) (hu : P.underlying t = some (.slice e)) :
    n * P.bytesOf e ≤ 140737488351232 := by
  rcases hd with ⟨rfl, _⟩ | ⟨elems, rest, rfl, rfl⟩
  · simp
  · have := sized_slice h ht hj hu
    rw [Nat.add_mul] at this
    simp only [reachBytes] at this
    omega
end

def five {α : Type} (a b c d e : α) : Nat → α
  | 0 => a | 1 => b | 2 => c | 3 => d | _ => e

set_option maxRecDepth 100000 in
theorem lifted (os : Os) (started : os.Started) (H : Type) (enc : TypeId × Value → H) :
    ReturnsInHanded {} Try.checked os 3 .any (Rows.modelOwnSpec.pre6 enc Try.prog Try.f3 Rows.modelOwnRow.domain false) (Rows.modelOwnSpec.post enc Try.prog Try.f3 false true false false) := by
  refine returnsInHanded_of_change_sized (C := Try.checked) own started (by kernel_rfl) Try.func3
    (ChangeSpec.witness6 (enc := enc) (C := Try.checked) false ⟨#[], #[.agg #[.slice none 0 0, .slice none 0 0, .slice none 0 0, .slice none 0 0, .slice none 0 0], .agg #[.int .i64 0, .int .i64 0, .int .i64 0, .int .i64 0]], []⟩ 8 (by kernel_rfl) (by kernel_rfl) (by kernel_rfl) (by kernel_rfl)) ?_
  intro W base args ds gs before hval0 hW hcnd hsz0 _
  have hval : ∀ (j : Nat) t v, Try.f3.params[j]? = some t → args[j]? = some v → Value.okWide Try.prog W .any base t v := hval0
  have hsz : (DataW.weightsEach Try.prog (Try.f3.params.toList ++ Rows.modelOwnSpec.plain.varTypes Try.prog) (ds ++ gs)).all (· ≤ reachBytes) = true := hsz0
  have hW' := hW
  obtain ⟨p, q, hA0, hV, rfl, hfz, hnd⟩ := hW
  have hA : DataW.TrodAll enc Try.prog W 0 (fun _ => true) true Try.f3.params.toList args.toList ds p := hA0
  rw [Try.params3] at hA hval hsz
  obtain ⟨v0, vs0, d0, ds0, p0, q0, hargs, rfl, rfl, h0, r0⟩ := trodAll_cons hA
  obtain ⟨v1, vs1, d1, ds1, p1, q1, rfl, rfl, rfl, h1, r1⟩ := trodAll_cons r0
  obtain ⟨rfl, rfl, rfl⟩ := trodAll_nil r1
  obtain rfl : args = #[v0, v1] := by cases args; simp_all
  obtain ⟨rfl, rfl⟩ := trodVars_none hV
  have k0 := h0
  have k1 := h1
  have lt0 : ∀ x ∈ p0, x.block < W.heap.size := by obtain ⟨m, hm⟩ := k0; exact DataW.trod_lt m _ _ _ hm
  have lt1 : ∀ x ∈ p1, x.block < W.heap.size := by obtain ⟨m, hm⟩ := k1; exact DataW.trod_lt m _ _ _ hm
  obtain ⟨a0, a1, a2, a3, a4, y0, y1, y2, y3, y4, m, rfl, rfl, _, t0, t1, t2, t3, t4⟩ := open_agg5 Try.underlying25 (by kernel_rfl) (by kernel_rfl) (hval 0 25 v0 rfl rfl) h0
  obtain ⟨b0, b1, b2, b3, z0, z1, z2, z3, mm, rfl, rfl, _, s0, s1, s2, s3⟩ := open_agg4 Try.underlying28 (by kernel_rfl) (by kernel_rfl) (hval 1 28 v1 rfl rfl) h1
  obtain ⟨n0, l0, R0, E0⟩ := rd_ints Try.underlying22 Try.underlying3 (by kernel_rfl) (fun _ => rfl) t0
  obtain ⟨n1, l1, R1, E1⟩ := rd_ints Try.underlying22 Try.underlying3 (by kernel_rfl) (fun _ => rfl) t1
  obtain ⟨n2, l2, R2, E2⟩ := rd_ints Try.underlying22 Try.underlying3 (by kernel_rfl) (fun _ => rfl) t2
  obtain ⟨n3, l3, R3, E3⟩ := rd_ints Try.underlying22 Try.underlying3 (by kernel_rfl) (fun _ => rfl) t3
  obtain ⟨n4, l4, R4, E4⟩ := rd_pairs Try.underlying23 Try.underlying67 (by kernel_rfl) rfl rfl (by kernel_rfl) (by kernel_rfl) Try.underlying3 Try.underlying3 (fun _ => rfl) t4
  obtain ⟨q0, e0, _, _⟩ := DataW.trod_int Try.underlying3 s0
  obtain ⟨q1, e1, _, _⟩ := DataW.trod_int Try.underlying26 s1
  obtain ⟨q2, e2, _, _⟩ := DataW.trod_int Try.underlying3 s2
  obtain ⟨q3, e3, _, _⟩ := DataW.trod_int Try.underlying3 s3
  simp at e0 e1 e2 e3
  subst e0 e1 e2 e3
  have hw : (DataW.weightsEach Try.prog [22, 22, 22, 22, 23] [y0.1, y1.1, y2.1, y3.1, y4.1]).all (· ≤ reachBytes) = true := by
    rw [List.all_eq_true] at hsz ⊢
    intro n hn
    refine hsz n ?_
    refine DataW.weights_mem_each (j := 0) (t := 25) (d := .agg [y0.1, y1.1, y2.1, y3.1, y4.1]) rfl rfl n ?_
    simp only [DataW.weights, Try.underlying25]
    exact hn
  have hsm : Small (five n0 n1 n2 n3 n4) := by
    intro i hi
    have g0 := len_le hw (j := 0) E0 rfl rfl Try.underlying22
    have g1 := len_le hw (j := 1) E1 rfl rfl Try.underlying22
    have g2 := len_le hw (j := 2) E2 rfl rfl Try.underlying22
    have g3 := len_le hw (j := 3) E3 rfl rfl Try.underlying22
    have g4 := len_le hw (j := 4) E4 rfl rfl Try.underlying23
    rw [bytes3] at g0 g1 g2 g3
    rw [bytes67] at g4
    rcases i with _ | _ | _ | _ | _ | i
    · exact g0
    · exact g1
    · exact g2
    · exact g3
    · exact g4
    · omega
  clear hA0 hval0
  refine (own3 W (five a0 a1 a2 a3 a4) (five n0 n1 n2 n3 n4) (five l0 l1 l2 l3 l4) q0 q1 q2 q3 (fun i hi => by
    rcases i with _ | _ | _ | _ | _ | i
    · exact R0
    · exact R1
    · exact R2
    · exact R3
    · exact R4
    · omega) hsm).mono fun e W' ⟨he, bel⟩ => ?_
  subst he
  exact ⟨_, rfl, _, _, _, [], _, [], hW', trodAll_mk1 (shut_bool Try.underlying4 _), (trodAll_cons_mk (Below.trod laidOut (by kernel_rfl) (of_decide_eq_true (by kernel_rfl)) k0 bel lt0) (trodAll_cons_mk (Below.trod laidOut (by kernel_rfl) (of_decide_eq_true (by kernel_rfl)) k1 bel lt1) trodAll_mk0)), rfl, bel.frame _, fun h => by cases h⟩

theorem over : Rows.modelOwnRow.holds Try.pinned (OpenSpec.ofChange Rows.modelOwnSpec) :=
  OpenClaim.holds_of_wide 3 Try.f3 rfl rfl rfl rfl rfl rfl rfl ⟨rfl, rfl, rfl, rfl, rfl⟩ rfl rfl rfl rfl rfl (by kernel_rfl) Try.func3 (by kernel_rfl)
    (of_decide_eq_true (by kernel_rfl)) (by unfold Func.isWrapper; first | (rw [if_pos (by decide +kernel)]; kernel_rfl) | (rw [if_neg (by decide +kernel)]; exact ⟨rfl, rfl⟩))
    (fun os started H enc _ => lifted os started H enc)

theorem proved : Rows.ModelOwnSaid := over
#print axioms proved
end Go.Proofs.Ytkibdolpapaflaa
