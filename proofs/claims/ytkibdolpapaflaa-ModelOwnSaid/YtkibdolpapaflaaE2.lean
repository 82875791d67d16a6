import Derived.Test.YtkibdolpapaflaaE1e
import Derived.StillTailTactics
namespace Go.Proofs.Ytkibdolpapaflaa
open Go.RowKit

set_option maxRecDepth 20000 in
set_option maxHeartbeats 8000000 in
theorem own3 (w : World) (v : Nat → Value) (n : Nat → Nat) (z : Nat → List Int) (q0 q1 q2 q3 : Int) (hr : ∀ i, i < 5 → Rd w (v i) (esz i) (n i) (z i)) (hb : Small n) :
    Calls Try.prog 3 #[.agg #[v 0, v 1, v 2, v 3, v 4], .agg #[.int .i64 q0, .int .i64 q1, .int .i64 q2, .int .i64 q3]] w fun e w' => e = .returned (.bool true) ∧ Below w.heap.size w w' := by
  have HR := Lib.hid hr
  have HBD := Lib.hid hb
  clear hr hb
  go_enter Try.func3, Try.ntmps3
  go_wp2_with fail
  refine (right_any _ v n z (fun i hi => (HR.out i hi).below (((Below.refl _ _).alloc (Nat.le_refl _) _).alloc (by simp) _)) HBD.out).mono ?_
  rintro e w1 ⟨s, ns, zs, rfl, hC, hm, hsm, hB⟩
  obtain ⟨h0, h1, hBw, hz⟩ := box2 hB (by simp)
  have hall := hC.one
  have b1 := setRow_heap w1 w.heap.size _ #[s 0, s 1, s 2, s 3, s 4] _ _ h0
  have b2 := (setRow_other w1 w.heap.size (w.heap.size + 1) #[s 0, s 1, s 2, s 3, s 4] (by omega)).trans h1
  have lo : Below w.heap.size w (w1.setRow w.heap.size #[s 0, s 1, s 2, s 3, s 4]) := below_setRow hBw (Nat.le_refl _) _
  have hCX : COwn (w1.setRow w.heap.size #[s 0, s 1, s 2, s 3, s 4]) w.heap.size s ns zs :=
    ⟨fun i hi => ((hC.own i hi).of_block fun j hj => setRow_other _ _ _ _ (by have := ((hC.own i hi).lt j hj).1; simp at this; omega)).mono (by simp; omega), hC.apart⟩
  obtain ⟨X1, hX1⟩ : ∃ X, X = w1.setRow w.heap.size #[s 0, s 1, s 2, s 3, s 4] := ⟨_, rfl⟩
  rw [← hX1] at b1 b2 lo hCX
  have HX1 := Lib.hid hX1
  have B1 := Lib.hid b1
  have B2 := Lib.hid b2
  have LO := Lib.hid lo
  have HC := Lib.hid hCX
  have HM := Lib.hid hm
  have HSM := Lib.hid hsm
  have a0 := cell_facts b1 0 _ rfl
  have a1 := cell_facts b1 1 _ rfl
  have a2 := cell_facts b1 2 _ rfl
  have a3 := cell_facts b1 3 _ rfl
  have a4 := cell_facts b1 4 _ rfl
  have m1 := cell_facts b2 1 _ rfl
  have m2 := cell_facts b2 2 _ rfl
  have m3 := cell_facts b2 3 _ rfl
  clear hC hm hsm hB hBw h1 b1 b2 lo hCX hX1 HR HBD
  go_wp2_with (refine wpList_store_row rfl 25 (.tmp 2) (.tmp 30) rfl w.heap.size #[s 0, s 1, s 2, s 3, s 4] rfl rfl 25 _ h0 (by kernel_rfl) rfl hall ?_; rw [← HX1.out]; clear h0)
  clear HX1 hz
  refine (pick_any q1 X1).mono ?_
  rintro e X2 ⟨⟨o, ho, rfl⟩, hB⟩
  obtain ⟨k, hk1, hk5, hko⟩ := isOp_obj ho
  have HKO := Lib.hid hko
  have HB2 := Lib.hid hB
  have kA := row_keep hB B1.out
  have kM := row_keep hB B2.out
  clear a0 a1 a2 a3 a4 m1 m2 m3
  have a0 := cell_facts kA 0 _ rfl
  have a1 := cell_facts kA 1 _ rfl
  have a2 := cell_facts kA 2 _ rfl
  have a3 := cell_facts kA 3 _ rfl
  have a4 := cell_facts kA 4 _ rfl
  clear hB hko ho
  have B1 := Lib.hid kA
  have B2 := Lib.hid kM
  have hF : Fam w 1 (upd 0 s fun _ _ => .slice none 0 0) (upd 0 ns fun _ _ => 0) (upd 0 zs fun _ _ => []) X2 := (Fam.zero w w (Below.refl _ _) _ _ _).add (LO.out.trans (HB2.out.mono LO.out.size)) (HC.out.below HB2.out) (Nat.le_refl _)
  have HF := Lib.hid hF
  clear kA kM hF HB2 LO HC
  have hb1 : ∀ i, i < 5 → (ns i + 1) * (8 * esz i) ≤ 140737488355328 := fun i hi => by have := HSM.out i hi; have e : esz i ≤ 2 := (by unfold esz; split <;> omega); rw [Nat.add_mul]; omega
  have HB1 := Lib.hid hb1
  clear hb1
  have m2 := cell_facts B2.out 2 _ rfl
  have m3 := cell_facts B2.out 3 _ rfl
  go_wp2_with fail
  refine (copy6_any X2 s ns zs (HF.out.rd (p := 0) (by omega)) HSM.out.le).mono ?_
  rintro e w3 ⟨u1, rfl, hC, hB⟩
  have hall := hC.one
  have g0 := heap_alloc_new w3 (.cells #[.slice none 0 0, .slice none 0 0, .slice none 0 0, .slice none 0 0, .slice none 0 0] 25)
  obtain ⟨hA, hBn⟩ := ansBox (w1 := w3) (u := u1)
  obtain ⟨X3, hX⟩ : ∃ X, X = (w3.alloc (.cells #[.slice none 0 0, .slice none 0 0, .slice none 0 0, .slice none 0 0, .slice none 0 0] 25)).setRow w3.heap.size #[u1 0, u1 1, u1 2, u1 3, u1 4] := ⟨_, rfl⟩
  rw [← hX] at hA hBn
  have HX := Lib.hid hX
  have hBB := hB.trans (hBn.mono hB.size)
  have HF := Lib.hid (HF.out.add hBB (hC.below hBn) (Nat.le_refl _))
  clear a0 a1 a2 a3 a4 m2 m3
  have kA := row_keep hBB B1.out
  have kM := row_keep hBB B2.out
  have a0 := cell_facts kA 0 _ rfl
  have a1 := cell_facts kA 1 _ rfl
  have a2 := cell_facts kA 2 _ rfl
  have a3 := cell_facts kA 3 _ rfl
  have a4 := cell_facts kA 4 _ rfl
  have m2 := cell_facts kM 2 _ rfl
  have m3 := cell_facts kM 3 _ rfl
  have B1 := Lib.hid kA
  have B2 := Lib.hid kM
  have BX6 := Lib.hid hA
  clear kA kM hA hBn hBB hB hC hX
  go_wp2_with (refine wpList_store_row rfl 25 (.tmp 6) (.tmp 35) rfl w3.heap.size #[u1 0, u1 1, u1 2, u1 3, u1 4] rfl rfl 25 _ g0 (by kernel_rfl) rfl hall ?_; rw [← HX.out]; clear g0)
  clear HX hall
  go_wp2_with fail
  refine (do7 X3 s ns zs o q2 q3 k hk1 hk5 HKO.out (HF.out.rd (p := 0) (by omega)) HB1.out HM.out).mono ?_
  rintro e w4 ⟨u2, n2, z2, ak2, av2, rfl, hC, hn, _, _, _, hB⟩
  have hall := hC.one
  have hallA : (#[.int .i64 ak2, .int .i64 av2] : Array Value).all (·.oneCell') = true := by simp [Value.oneCell']
  obtain ⟨g1, g2, _, _⟩ := box2 (Below.refl (w4.heap.size + 2) ((w4.alloc (.cells #[.slice none 0 0, .slice none 0 0, .slice none 0 0, .slice none 0 0, .slice none 0 0] 25)).alloc (.cells #[.int .i64 0, .int .i64 0] 33))) (Nat.le_refl _)
  have g3 := (setRow_other ((w4.alloc (.cells #[.slice none 0 0, .slice none 0 0, .slice none 0 0, .slice none 0 0, .slice none 0 0] 25)).alloc (.cells #[.int .i64 0, .int .i64 0] 33)) w4.heap.size (w4.heap.size + 1) #[u2 0, u2 1, u2 2, u2 3, u2 4] (by omega)).trans g2
  obtain ⟨X4, hX⟩ : ∃ X, X = (((w4.alloc (.cells #[.slice none 0 0, .slice none 0 0, .slice none 0 0, .slice none 0 0, .slice none 0 0] 25)).alloc (.cells #[.int .i64 0, .int .i64 0] 33)).setRow w4.heap.size #[u2 0, u2 1, u2 2, u2 3, u2 4]).setRow (w4.heap.size + 1) #[.int .i64 ak2, .int .i64 av2] := ⟨_, rfl⟩
  obtain ⟨hA, hBn⟩ := ansBox2 hX
  have HX := Lib.hid hX
  have hBB := hB.trans (hBn.mono hB.size)
  have HF := Lib.hid (HF.out.add hBB (hC.below hBn) (Nat.le_refl _))
  have N2 := Lib.hid hn
  clear hn
  have BX6 := Lib.hid (row_keep hBB BX6.out)
  clear a0 a1 a2 a3 a4 m2 m3
  have kA := row_keep hBB B1.out
  have kM := row_keep hBB B2.out
  have a0 := cell_facts kA 0 _ rfl
  have a1 := cell_facts kA 1 _ rfl
  have a2 := cell_facts kA 2 _ rfl
  have a3 := cell_facts kA 3 _ rfl
  have a4 := cell_facts kA 4 _ rfl
  have m2 := cell_facts kM 2 _ rfl
  have m3 := cell_facts kM 3 _ rfl
  have B1 := Lib.hid kA
  have B2 := Lib.hid kM
  have BX7 := Lib.hid hA
  clear kA kM hA hBn hBB hB hC hX g2
  go_wp2_with (first | (refine wpList_store_row rfl 25 (.tmp 7) (.tmp 44) rfl w4.heap.size #[u2 0, u2 1, u2 2, u2 3, u2 4] rfl rfl 25 _ g1 (by kernel_rfl) rfl hall ?_) | (refine wpList_store_row rfl 33 (.tmp 8) (.tmp 45) rfl (w4.heap.size + 1) #[.int .i64 ak2, .int .i64 av2] rfl rfl 33 _ g3 (by kernel_rfl) rfl hallA ?_; rw [← HX.out]; clear g1 g3))
  clear HX hall hallA
  go_wp2_with fail
  refine (do7 X4 s ns zs o q2 q3 k hk1 hk5 HKO.out (HF.out.rd (p := 0) (by omega)) HB1.out HM.out).mono ?_
  rintro e w5 ⟨u3, n3, z3, ak3, av3, rfl, hC, hn, _, _, _, hB⟩
  have hall := hC.one
  have hallA : (#[.int .i64 ak3, .int .i64 av3] : Array Value).all (·.oneCell') = true := by simp [Value.oneCell']
  obtain ⟨g1, g2, _, _⟩ := box2 (Below.refl (w5.heap.size + 2) ((w5.alloc (.cells #[.slice none 0 0, .slice none 0 0, .slice none 0 0, .slice none 0 0, .slice none 0 0] 25)).alloc (.cells #[.int .i64 0, .int .i64 0] 33))) (Nat.le_refl _)
  have g3 := (setRow_other ((w5.alloc (.cells #[.slice none 0 0, .slice none 0 0, .slice none 0 0, .slice none 0 0, .slice none 0 0] 25)).alloc (.cells #[.int .i64 0, .int .i64 0] 33)) w5.heap.size (w5.heap.size + 1) #[u3 0, u3 1, u3 2, u3 3, u3 4] (by omega)).trans g2
  obtain ⟨X5, hX⟩ : ∃ X, X = (((w5.alloc (.cells #[.slice none 0 0, .slice none 0 0, .slice none 0 0, .slice none 0 0, .slice none 0 0] 25)).alloc (.cells #[.int .i64 0, .int .i64 0] 33)).setRow w5.heap.size #[u3 0, u3 1, u3 2, u3 3, u3 4]).setRow (w5.heap.size + 1) #[.int .i64 ak3, .int .i64 av3] := ⟨_, rfl⟩
  obtain ⟨hA, hBn⟩ := ansBox2 hX
  have HX := Lib.hid hX
  have hBB := hB.trans (hBn.mono hB.size)
  have HF := Lib.hid (HF.out.add hBB (hC.below hBn) (Nat.le_refl _))
  have N3 := Lib.hid hn
  clear hn
  have BX6 := Lib.hid (row_keep hBB BX6.out)
  have BX7 := Lib.hid (row_keep hBB BX7.out)
  clear a0 a1 a2 a3 a4 m2 m3
  have kA := row_keep hBB B1.out
  have kM := row_keep hBB B2.out
  have a0 := cell_facts kA 0 _ rfl
  have a1 := cell_facts kA 1 _ rfl
  have a2 := cell_facts kA 2 _ rfl
  have a3 := cell_facts kA 3 _ rfl
  have a4 := cell_facts kA 4 _ rfl
  have m2 := cell_facts kM 2 _ rfl
  have m3 := cell_facts kM 3 _ rfl
  have B1 := Lib.hid kA
  have B2 := Lib.hid kM
  have BX10 := Lib.hid hA
  clear kA kM hA hBn hBB hB hC hX g2
  go_wp2_with (first | (refine wpList_store_row rfl 25 (.tmp 10) (.tmp 55) rfl w5.heap.size #[u3 0, u3 1, u3 2, u3 3, u3 4] rfl rfl 25 _ g1 (by kernel_rfl) rfl hall ?_) | (refine wpList_store_row rfl 33 (.tmp 11) (.tmp 56) rfl (w5.heap.size + 1) #[.int .i64 ak3, .int .i64 av3] rfl rfl 33 _ g3 (by kernel_rfl) rfl hallA ?_; rw [← HX.out]; clear g1 g3))
  clear HX hall hallA
  go_wp2_with fail
  refine (allows0 X5 s ns zs o q2 q3 0 0 0 0 0 k hk1 hk5 HKO.out (HF.out.rd (p := 0) (by omega)) HB1.out HM.out).mono ?_
  rintro e w6 ⟨u4, n4, z4, rfl, hC, hn, hB⟩
  have hall := hC.one
  have g0 := heap_alloc_new w6 (.cells #[.slice none 0 0, .slice none 0 0, .slice none 0 0, .slice none 0 0, .slice none 0 0] 25)
  obtain ⟨hA, hBn⟩ := ansBox (w1 := w6) (u := u4)
  obtain ⟨X6, hX⟩ : ∃ X, X = (w6.alloc (.cells #[.slice none 0 0, .slice none 0 0, .slice none 0 0, .slice none 0 0, .slice none 0 0] 25)).setRow w6.heap.size #[u4 0, u4 1, u4 2, u4 3, u4 4] := ⟨_, rfl⟩
  rw [← hX] at hA hBn
  have HX := Lib.hid hX
  have hBB := hB.trans (hBn.mono hB.size)
  have HF := Lib.hid (HF.out.add hBB (hC.below hBn) (Nat.le_refl _))
  have N4 := Lib.hid hn
  clear hn
  have BX6 := Lib.hid (row_keep hBB BX6.out)
  have BX7 := Lib.hid (row_keep hBB BX7.out)
  have BX10 := Lib.hid (row_keep hBB BX10.out)
  clear a0 a1 a2 a3 a4 m2 m3
  have kA := row_keep hBB B1.out
  have kM := row_keep hBB B2.out
  have a0 := cell_facts kA 0 _ rfl
  have a1 := cell_facts kA 1 _ rfl
  have a2 := cell_facts kA 2 _ rfl
  have a3 := cell_facts kA 3 _ rfl
  have a4 := cell_facts kA 4 _ rfl
  have m2 := cell_facts kM 2 _ rfl
  have m3 := cell_facts kM 3 _ rfl
  have B1 := Lib.hid kA
  have B2 := Lib.hid kM
  have BX13 := Lib.hid hA
  clear kA kM hA hBn hBB hB hC hX
  go_wp2_with (refine wpList_store_row rfl 25 (.tmp 13) (.tmp 67) rfl w6.heap.size #[u4 0, u4 1, u4 2, u4 3, u4 4] rfl rfl 25 _ g0 (by kernel_rfl) rfl hall ?_; rw [← HX.out]; clear g0)
  clear HX hall
  go_wp2_with fail
  refine (allows4 X6 s ns zs 1 0 0 0 0 0 0 (HF.out.rd (p := 0) (by omega)) HB1.out HM.out).mono ?_
  rintro e w7 ⟨u5, n5, z5, rfl, hC, hn, hB⟩
  have hall := hC.one
  have g0 := heap_alloc_new w7 (.cells #[.slice none 0 0, .slice none 0 0, .slice none 0 0, .slice none 0 0, .slice none 0 0] 25)
  obtain ⟨hA, hBn⟩ := ansBox (w1 := w7) (u := u5)
  obtain ⟨X7, hX⟩ : ∃ X, X = (w7.alloc (.cells #[.slice none 0 0, .slice none 0 0, .slice none 0 0, .slice none 0 0, .slice none 0 0] 25)).setRow w7.heap.size #[u5 0, u5 1, u5 2, u5 3, u5 4] := ⟨_, rfl⟩
  rw [← hX] at hA hBn
  have HX := Lib.hid hX
  have hBB := hB.trans (hBn.mono hB.size)
  have HF := Lib.hid (HF.out.add hBB (hC.below hBn) (Nat.le_refl _))
  have N5 := Lib.hid hn
  clear hn
  have BX6 := Lib.hid (row_keep hBB BX6.out)
  have BX7 := Lib.hid (row_keep hBB BX7.out)
  have BX10 := Lib.hid (row_keep hBB BX10.out)
  have BX13 := Lib.hid (row_keep hBB BX13.out)
  clear a0 a1 a2 a3 a4 m2 m3
  have kA := row_keep hBB B1.out
  have kM := row_keep hBB B2.out
  have a0 := cell_facts kA 0 _ rfl
  have a1 := cell_facts kA 1 _ rfl
  have a2 := cell_facts kA 2 _ rfl
  have a3 := cell_facts kA 3 _ rfl
  have a4 := cell_facts kA 4 _ rfl
  have m2 := cell_facts kM 2 _ rfl
  have m3 := cell_facts kM 3 _ rfl
  have B1 := Lib.hid kA
  have B2 := Lib.hid kM
  have BX16 := Lib.hid hA
  clear kA kM hA hBn hBB hB hC hX
  go_wp2_with (refine wpList_store_row rfl 25 (.tmp 16) (.tmp 75) rfl w7.heap.size #[u5 0, u5 1, u5 2, u5 3, u5 4] rfl rfl 25 _ g0 (by kernel_rfl) rfl hall ?_; rw [← HX.out]; clear g0)
  clear HX hall
  refine frame_hide fun T0 hT0 => ?_
  have HT0 := Lib.hid hT0
  have t2 : T0.getD 2 undef = .pointer (some ⟨w.heap.size, 0, none⟩) := by rw [hT0]; rfl
  have t5 : T0.getD 5 undef = .int .i64 o := by rw [hT0]; rfl
  have ts : T0.size = 196 := by rw [hT0]; rfl
  clear hT0
  refine wp_region_depa rfl (fun ws => Below X7.heap.size X7 ws) (P8 X7.heap.size s o k) (by decide +kernel) (by decide +kernel) (by decide +kernel) (by rw [show (⟨T0, []⟩ : Act).tmps.size = 196 from ts]; decide +kernel) ?_ ?_ ?_
  · exact (Below.refl _ _).drew
  · refine ⟨?_, ?_, ?_, ?_, ?_, ?_, ?_, ?_, ?_, ?_, trivial⟩
    · intro a ws K hS _ _ hk' hdep hK
      have h1 : a.tmps[2]?.getD undef = .pointer (some ⟨w.heap.size, 0, none⟩) := by simpa using (hk' 2 (by kernel_rfl)).trans t2
      have kA := row_keep hS B1.out
      have e0 := cell_facts kA 0 _ rfl
      have e1 := cell_facts kA 1 _ rfl
      have e2 := cell_facts kA 2 _ rfl
      have e3 := cell_facts kA 3 _ rfl
      have e4 := cell_facts kA 4 _ rfl
      clear hdep hk' kA
      exact wp_value (v := .agg #[s 0, s 1, s 2, s 3, s 4]) (w' := ws) (by simp [execOp, go_sem, h1, e0, e1, e2, e3, e4]) (hK _ _ hS rfl (fun j oj u hne hj hd h => h.below (Below.refl _ _) _ (.inl (by decide)) _))
    · intro a ws K hS _ _ hk' hdep hK
      have h1 : a.tmps[5]?.getD undef = .int .i64 o := by simpa using (hk' 5 (by kernel_rfl)).trans t5
      clear hdep hk'
      exact wp_value (v := .int .i64 o) (w' := ws) (by simp [execOp, go_sem, h1]) (hK _ _ hS rfl (fun j oj u hne hj hd h => h.below (Below.refl _ _) _ (.inl (by decide)) _))
    · intro a ws K hS _ _ hk' hdep hK
      obtain ⟨x, hx, hxe⟩ := hdep ⟨1, .data⟩ (by simp) rfl _ rfl
      have h1 : a.tmps[80]?.getD undef = .int .i64 o := by rw [← (show x = .int .i64 o from hxe)]; simpa using hx 80 rfl
      clear hdep hk' hx
      refine wp_call (f := 10) (args := #[.int .i64 o]) (by simp [execOp, resolve, invoke, go_sem, h1, run_callFunc_body Try.func10 (by kernel_rfl) (by kernel_rfl)]) ((object_any o ws).mono ?_)
      rintro e w' ⟨rfl, rfl⟩
      exact ⟨_, rfl, hK _ _ hS (by show Value.int _ _ = _; rw [HKO.out]) (fun j oj u hne hj hd h => h.below (Below.refl _ _) _ (.inl (by decide)) _)⟩
    · intro a ws K hS _ _ hk' hdep hK
      obtain ⟨x, hx, hxe⟩ := hdep ⟨0, .data⟩ (by simp) rfl _ rfl
      obtain ⟨y, hy, hye⟩ := hdep ⟨2, .data⟩ (by simp) rfl _ rfl
      have h1 : a.tmps[79]?.getD undef = .agg #[s 0, s 1, s 2, s 3, s 4] := by rw [← (show x = _ from hxe)]; simpa using hx 79 rfl
      have h2 : a.tmps[81]?.getD undef = .int .i64 k := by rw [← (show y = _ from hye)]; simpa using hy 81 rfl
      clear hdep hk' hx hy
      refine wp_call (f := 9) (args := #[.agg #[s 0, s 1, s 2, s 3, s 4], .int .i64 k]) (by simp [execOp, resolve, invoke, go_sem, h1, h2, run_callFunc_body Try.func9 (by kernel_rfl) (by kernel_rfl)]) ((part_any ws s ns zs k hk1 hk5 (fun i hi => (HF.out.rd (p := 0) (by omega) i hi).below hS) HSM.out HM.out).mono ?_)
      rintro e w' ⟨u, n', z', rfl, hC, hsm, hB⟩
      exact ⟨_, rfl, hK _ _ (hS.trans (hB.mono hS.size)) ⟨u, n', z', rfl, ⟨fun i hi => (hC.own i hi).mono hS.size, hC.apart⟩, hsm⟩ (fun j oj u hne hj hd h => h.below hB _ (.inl (by decide)) _)⟩
    · intro a ws K hS _ _ hk' hdep hK
      obtain ⟨x, hx, u, n', z', rfl, hC, hsm⟩ := hdep ⟨3, .data⟩ (by simp) rfl _ rfl
      have h1 := hx 82 rfl
      simp at h1
      clear hdep hk' hx
      exact wp_value (v := .tuple #[.agg #[u 0, u 1, u 2, u 3, u 4], .int .i64 0]) (w' := ws) (by simp [execOp, go_sem, h1]) (hK _ _ hS ⟨u, n', z', rfl, hC, hsm⟩ (fun j oj u hne hj hd h => h.below (Below.refl _ _) _ (.inl (by decide)) _))
    · intro a ws K hS _ _ hk' hdep hK
      obtain ⟨x, hx, u, n', z', rfl, hC, hsm⟩ := hdep ⟨4, .data⟩ (by simp) rfl _ rfl
      have h1 := hx 78 rfl
      simp at h1
      clear hdep hk' hx
      exact wp_value (v := .agg #[u 0, u 1, u 2, u 3, u 4]) (w' := ws) (by simp [execOp, go_sem, h1]) (hK _ _ hS ⟨u, n', z', rfl, hC, hsm⟩ (fun j oj u hne hj hd h => h.below (Below.refl _ _) _ (.inl (by decide)) _))
    · intro a ws K hS _ _ hk' hdep hK
      obtain ⟨x, hx, u, n', z', rfl, hC, hsm⟩ := hdep ⟨4, .data⟩ (by simp) rfl _ rfl
      have h1 := hx 78 rfl
      simp at h1
      clear hdep hk' hx
      exact wp_value (v := .int .i64 0) (w' := ws) (by simp [execOp, go_sem, h1]) (hK _ _ hS rfl (fun j oj u hne hj hd h => h.below (Below.refl _ _) _ (.inl (by decide)) _))
    · intro a ws K hS hz _ hk' hdep hK
      clear hdep hk'
      refine wp_value (v := .pointer (some ⟨ws.heap.size, 0, none⟩)) (w' := ws.alloc (.cells #[.slice none 0 0, .slice none 0 0, .slice none 0 0, .slice none 0 0, .slice none 0 0] 25)) (by simp [execOp, go_sem]) (hK _ _ (hS.alloc hS.size _) ⟨ws.heap.size, _, rfl, hS.size, heap_alloc_new _ _, rfl⟩ (fun j oj u hne hj hd h => h.below ((Below.refl _ _).alloc (Nat.le_refl _) _) _ (.inr ?_) _))
      rintro rfl
      cases hj
      exact hd ⟨7, .data⟩ (by simp) rfl rfl
    · intro a ws K hS _ _ hk' hdep hK
      obtain ⟨x, hx, A, cs, rfl, hA, hrow, hcz⟩ := hdep ⟨7, .data⟩ (by simp) rfl _ rfl
      obtain ⟨y, hy, u, n', z', rfl, hC, hsm⟩ := hdep ⟨5, .data⟩ (by simp) rfl _ rfl
      have h1 := hx 19 rfl
      have h2 := hy 83 rfl
      clear hdep hk' hx hy
      refine wp_store_row 25 (.tmp 19) (.tmp 83) rfl A #[u 0, u 1, u 2, u 3, u 4] (by simpa [Act.eval] using h1) (by simpa [Act.eval] using h2) 25 cs hrow (by kernel_rfl) (by simp [hcz]) hC.one ?_
      refine hK _ _ (below_setRow hS hA _) ⟨A, u, n', z', h1, hA, setRow_heap _ _ _ _ _ _ hrow, ⟨fun i hi => (hC.own i hi).of_block fun q hq => setRow_other _ _ _ _ fun e => hC.off hrow (by decide) i hi (by rw [hq, e]), hC.apart⟩, hsm⟩ (fun j oj u hne hj hd h => h.set hne hrow rfl _)
    · intro a ws K hS _ _ hk' hdep hK
      obtain ⟨x, hx, hxe⟩ := hdep ⟨6, .data⟩ (by simp) rfl _ rfl
      have h1 : a.tmps[84]?.getD undef = .int .i64 0 := by rw [← (show x = .int .i64 0 from hxe)]; simpa using hx 84 rfl
      clear hdep hk' hx
      exact wp_value (v := .int .i64 0) (w' := ws) (by simp [execOp, go_sem, h1]) (hK _ _ hS rfl (fun j oj u hne hj hd h => h.below (Below.refl _ _) _ (.inl (by decide)) _))
  · intro a ws hS hsz hd hk' hdone
    obtain ⟨x8, _, A, u6, n6, z6, g19, hA, hrow, hC, hsm⟩ := hdone 8 _ rfl
    obtain ⟨x9, hx9, hxe⟩ := hdone 9 _ rfl
    have g20 := hx9 20 rfl
    rw [show x9 = .int .i64 0 from hxe] at g20
    obtain ⟨t, dd⟩ := a
    replace hd : dd = [] := hd
    subst hd
    obtain ⟨f, hf, e⟩ := tmps_fun [79, 80, 81, 82, 78, 83, 84, 19, 20] t T0 hsz (fun q hq => hk' q (by
      simp at hq
      simp [writes]
      omega))
    have f19 := (hf 19).trans g19
    have f20 := (hf 20).trans g20
    clear hx9 hxe hk' hdone hsz hf g19 g20
    simp only [List.foldl_cons, List.foldl_nil] at e
    rw [f19, f20] at e
    clear f19 f20
    refine frame_hide2 _ e ?_
    clear e
    have hBB := hS
    have HF := Lib.hid (HF.out.add hBB hC (Nat.le_refl _))
    have BX6 := Lib.hid (row_keep hBB BX6.out)
    have BX7 := Lib.hid (row_keep hBB BX7.out)
    have BX10 := Lib.hid (row_keep hBB BX10.out)
    have BX13 := Lib.hid (row_keep hBB BX13.out)
    have BX16 := Lib.hid (row_keep hBB BX16.out)
    have BX19 := Lib.hid hrow
    have B1 := Lib.hid (row_keep hBB B1.out)
    have B2 := Lib.hid (row_keep hBB B2.out)
    have HS6 := Lib.hid hsm
    clear a0 a1 a2 a3 a4 m2 m3 hrow hS hBB hC hsm hA t2 t5 ts
    have a0 := cell_facts B1.out 0 _ rfl
    have a1 := cell_facts B1.out 1 _ rfl
    have a2 := cell_facts B1.out 2 _ rfl
    have a3 := cell_facts B1.out 3 _ rfl
    have a4 := cell_facts B1.out 4 _ rfl
    refine frame_hide2 _ (congrArg (fun T : Array Value => ((((((((T.setIfInBounds 79 (f 79)).setIfInBounds 80 (f 80)).setIfInBounds 81 (f 81)).setIfInBounds 82 (f 82)).setIfInBounds 78 (f 78)).setIfInBounds 83 (f 83)).setIfInBounds 84 (f 84)).setIfInBounds 19 (.pointer (some ⟨A, 0, none⟩))).setIfInBounds 20 (.int .i64 0)) HT0.out) ?_
    clear HT0
    simp only [List.setIfInBounds_toArray, List.set_cons_zero, List.set_cons_succ]
    go_wp2_with fail
    refine (play11 ws s ns zs (HF.out.rd (p := 0) (by omega)) HSM.out.le HM.out).mono ?_
    rintro e w9 ⟨u7, rfl, hC, hB⟩
    have hall := hC.one
    have g0 := heap_alloc_new w9 (.cells #[.slice none 0 0, .slice none 0 0, .slice none 0 0, .slice none 0 0, .slice none 0 0] 25)
    obtain ⟨hA, hBn⟩ := ansBox (w1 := w9) (u := u7)
    obtain ⟨X9, hX⟩ : ∃ X, X = (w9.alloc (.cells #[.slice none 0 0, .slice none 0 0, .slice none 0 0, .slice none 0 0, .slice none 0 0] 25)).setRow w9.heap.size #[u7 0, u7 1, u7 2, u7 3, u7 4] := ⟨_, rfl⟩
    rw [← hX] at hA hBn
    have HX := Lib.hid hX
    have hBB := hB.trans (hBn.mono hB.size)
    have HF := Lib.hid (HF.out.add hBB (hC.below hBn) (Nat.le_refl _))
    have BX6 := Lib.hid (row_keep hBB BX6.out)
    have BX7 := Lib.hid (row_keep hBB BX7.out)
    have BX10 := Lib.hid (row_keep hBB BX10.out)
    have BX13 := Lib.hid (row_keep hBB BX13.out)
    have BX16 := Lib.hid (row_keep hBB BX16.out)
    have BX19 := Lib.hid (row_keep hBB BX19.out)
    have B1 := Lib.hid (row_keep hBB B1.out)
    have BX21 := Lib.hid hA
    clear a0 a1 a2 a3 a4 B2 hA hBn hBB hB hC hX
    go_wp2_with (refine wpList_store_row rfl 25 (.tmp 21) (.tmp 88) rfl w9.heap.size #[u7 0, u7 1, u7 2, u7 3, u7 4] rfl rfl 25 _ g0 (by kernel_rfl) rfl hall ?_; rw [← HX.out]; clear g0)
    clear HX hall
    refine (awake12 X9).mono ?_
    rintro e X10 ⟨rfl, hBB⟩
    have HF := Lib.hid (HF.out.below hBB)
    have BX6 := Lib.hid (row_keep hBB BX6.out)
    have BX7 := Lib.hid (row_keep hBB BX7.out)
    have BX10 := Lib.hid (row_keep hBB BX10.out)
    have BX13 := Lib.hid (row_keep hBB BX13.out)
    have BX16 := Lib.hid (row_keep hBB BX16.out)
    have BX19 := Lib.hid (row_keep hBB BX19.out)
    have B1 := Lib.hid (row_keep hBB B1.out)
    have BX21 := Lib.hid (row_keep hBB BX21.out)
    clear hBB
    go_wp2_with fail
    refine frame_hide fun T0 hT0 => ?_
    have HT0 := Lib.hid hT0
    have t7 : T0.getD 7 undef = .pointer (some ⟨w4.heap.size, 0, none⟩) := by rw [hT0]; rfl
    have t10 : T0.getD 10 undef = .pointer (some ⟨w5.heap.size, 0, none⟩) := by rw [hT0]; rfl
    have t13 : T0.getD 13 undef = .pointer (some ⟨w6.heap.size, 0, none⟩) := by rw [hT0]; rfl
    have t16 : T0.getD 16 undef = .pointer (some ⟨w7.heap.size, 0, none⟩) := by rw [hT0]; rfl
    have t19 : T0.getD 19 undef = .pointer (some ⟨A, 0, none⟩) := by rw [hT0]; rfl
    have t21 : T0.getD 21 undef = .pointer (some ⟨w9.heap.size, 0, none⟩) := by rw [hT0]; rfl
    have ts : T0.size = 196 := by rw [hT0]; rfl
    clear hT0
    have hbb : ∀ j, j < 6 → ∀ i, i < 5 → (six n2 n3 n4 n5 n6 ns j i) * (8 * esz i) ≤ 140737488355328 := by
      intro j hj i hi
      have q2 := Nat.le_trans (Nat.mul_le_mul_right (8 * esz i) (N2.out i hi)) (HB1.out i hi)
      have q3 := Nat.le_trans (Nat.mul_le_mul_right (8 * esz i) (N3.out i hi)) (HB1.out i hi)
      have q4 := Nat.le_trans (Nat.mul_le_mul_right (8 * esz i) (N4.out i hi)) (HB1.out i hi)
      have q5 := Nat.le_trans (Nat.mul_le_mul_right (8 * esz i) (N5.out i hi)) (HB1.out i hi)
      rcases j with _ | _ | _ | _ | _ | _ | j
      · exact q2
      · exact q3
      · exact q4
      · exact q5
      · exact HS6.out.le i hi
      · exact HSM.out.le i hi
      · omega
    have HBB := Lib.hid hbb
    clear hbb
    refine wp_region_depa rfl (fun ws => Below X10.heap.size X10 ws) (P12 X10.heap.size (six u2 u3 u4 u5 u6 u7) (six n2 n3 n4 n5 n6 ns) (six z2 z3 z4 z5 z6 zs)) (by decide +kernel) (by decide +kernel) (by decide +kernel) (by rw [show (⟨T0, []⟩ : Act).tmps.size = 196 from ts]; decide +kernel) ?_ ?_ ?_
    · exact (Below.refl _ _).drew
    · refine ⟨?_, ?_, ?_, ?_, ?_, ?_, ?_, ?_, ?_, ?_, ?_, ?_, ?_, ?_, trivial⟩
      · intro a ws K hS _ _ hk' hdep hK
        have h1 : a.tmps[7]?.getD undef = .pointer (some ⟨w4.heap.size, 0, none⟩) := by simpa using (hk' 7 (by kernel_rfl)).trans t7
        have kA := row_keep hS BX7.out
        have e0 := cell_facts kA 0 _ rfl
        have e1 := cell_facts kA 1 _ rfl
        have e2 := cell_facts kA 2 _ rfl
        have e3 := cell_facts kA 3 _ rfl
        have e4 := cell_facts kA 4 _ rfl
        clear hdep hk' kA
        exact wp_value (v := .agg #[u2 0, u2 1, u2 2, u2 3, u2 4]) (w' := ws) (by simp [execOp, go_sem, h1, e0, e1, e2, e3, e4]) (hK _ _ hS rfl (fun j oj u hne hj hd h => h.below (Below.refl _ _)))
      · intro a ws K hS _ _ hk' hdep hK
        obtain ⟨x, hx, hxe0⟩ := hdep ⟨0, .data⟩ (by simp) rfl _ rfl
        have hxe : x = .agg #[u2 0, u2 1, u2 2, u2 3, u2 4] := hxe0
        have h1 : a.tmps[125]?.getD undef = .agg #[u2 0, u2 1, u2 2, u2 3, u2 4] := by have q := hx 125 rfl; rw [hxe] at q; simpa using q
        clear hdep hk' hx hxe hxe0
        refine wp_call (f := 6) (args := #[.agg #[u2 0, u2 1, u2 2, u2 3, u2 4]]) (by simp [execOp, resolve, invoke, go_sem, h1, run_callFunc_body Try.func6 (by kernel_rfl) (by kernel_rfl)]) ((copy6_any ws u2 (n2) (z2) (fun i hi => (HF.out.rd (p := 2) (by omega) i hi).below hS) (HBB.out 0 (by omega))).mono ?_)
        rintro e w' ⟨u, rfl, hC, hB⟩
        exact ⟨_, rfl, hK _ _ (hS.trans (hB.mono hS.size)) ⟨u, rfl, ⟨fun i hi => (hC.own i hi).mono hS.size, hC.apart⟩⟩ (fun j oj u hne hj hd h => h.below hB)⟩
      · intro a ws K hS _ _ hk' hdep hK
        have h1 : a.tmps[10]?.getD undef = .pointer (some ⟨w5.heap.size, 0, none⟩) := by simpa using (hk' 10 (by kernel_rfl)).trans t10
        have kA := row_keep hS BX10.out
        have e0 := cell_facts kA 0 _ rfl
        have e1 := cell_facts kA 1 _ rfl
        have e2 := cell_facts kA 2 _ rfl
        have e3 := cell_facts kA 3 _ rfl
        have e4 := cell_facts kA 4 _ rfl
        clear hdep hk' kA
        exact wp_value (v := .agg #[u3 0, u3 1, u3 2, u3 3, u3 4]) (w' := ws) (by simp [execOp, go_sem, h1, e0, e1, e2, e3, e4]) (hK _ _ hS rfl (fun j oj u hne hj hd h => h.below (Below.refl _ _)))
      · intro a ws K hS _ _ hk' hdep hK
        obtain ⟨x, hx, hxe0⟩ := hdep ⟨2, .data⟩ (by simp) rfl _ rfl
        have hxe : x = .agg #[u3 0, u3 1, u3 2, u3 3, u3 4] := hxe0
        have h1 : a.tmps[127]?.getD undef = .agg #[u3 0, u3 1, u3 2, u3 3, u3 4] := by have q := hx 127 rfl; rw [hxe] at q; simpa using q
        clear hdep hk' hx hxe hxe0
        refine wp_call (f := 6) (args := #[.agg #[u3 0, u3 1, u3 2, u3 3, u3 4]]) (by simp [execOp, resolve, invoke, go_sem, h1, run_callFunc_body Try.func6 (by kernel_rfl) (by kernel_rfl)]) ((copy6_any ws u3 (n3) (z3) (fun i hi => (HF.out.rd (p := 3) (by omega) i hi).below hS) (HBB.out 1 (by omega))).mono ?_)
        rintro e w' ⟨u, rfl, hC, hB⟩
        exact ⟨_, rfl, hK _ _ (hS.trans (hB.mono hS.size)) ⟨u, rfl, ⟨fun i hi => (hC.own i hi).mono hS.size, hC.apart⟩⟩ (fun j oj u hne hj hd h => h.below hB)⟩
      · intro a ws K hS _ _ hk' hdep hK
        have h1 : a.tmps[13]?.getD undef = .pointer (some ⟨w6.heap.size, 0, none⟩) := by simpa using (hk' 13 (by kernel_rfl)).trans t13
        have kA := row_keep hS BX13.out
        have e0 := cell_facts kA 0 _ rfl
        have e1 := cell_facts kA 1 _ rfl
        have e2 := cell_facts kA 2 _ rfl
        have e3 := cell_facts kA 3 _ rfl
        have e4 := cell_facts kA 4 _ rfl
        clear hdep hk' kA
        exact wp_value (v := .agg #[u4 0, u4 1, u4 2, u4 3, u4 4]) (w' := ws) (by simp [execOp, go_sem, h1, e0, e1, e2, e3, e4]) (hK _ _ hS rfl (fun j oj u hne hj hd h => h.below (Below.refl _ _)))
      · intro a ws K hS _ _ hk' hdep hK
        obtain ⟨x, hx, hxe0⟩ := hdep ⟨4, .data⟩ (by simp) rfl _ rfl
        have hxe : x = .agg #[u4 0, u4 1, u4 2, u4 3, u4 4] := hxe0
        have h1 : a.tmps[129]?.getD undef = .agg #[u4 0, u4 1, u4 2, u4 3, u4 4] := by have q := hx 129 rfl; rw [hxe] at q; simpa using q
        clear hdep hk' hx hxe hxe0
        refine wp_call (f := 6) (args := #[.agg #[u4 0, u4 1, u4 2, u4 3, u4 4]]) (by simp [execOp, resolve, invoke, go_sem, h1, run_callFunc_body Try.func6 (by kernel_rfl) (by kernel_rfl)]) ((copy6_any ws u4 (n4) (z4) (fun i hi => (HF.out.rd (p := 4) (by omega) i hi).below hS) (HBB.out 2 (by omega))).mono ?_)
        rintro e w' ⟨u, rfl, hC, hB⟩
        exact ⟨_, rfl, hK _ _ (hS.trans (hB.mono hS.size)) ⟨u, rfl, ⟨fun i hi => (hC.own i hi).mono hS.size, hC.apart⟩⟩ (fun j oj u hne hj hd h => h.below hB)⟩
      · intro a ws K hS _ _ hk' hdep hK
        have h1 : a.tmps[16]?.getD undef = .pointer (some ⟨w7.heap.size, 0, none⟩) := by simpa using (hk' 16 (by kernel_rfl)).trans t16
        have kA := row_keep hS BX16.out
        have e0 := cell_facts kA 0 _ rfl
        have e1 := cell_facts kA 1 _ rfl
        have e2 := cell_facts kA 2 _ rfl
        have e3 := cell_facts kA 3 _ rfl
        have e4 := cell_facts kA 4 _ rfl
        clear hdep hk' kA
        exact wp_value (v := .agg #[u5 0, u5 1, u5 2, u5 3, u5 4]) (w' := ws) (by simp [execOp, go_sem, h1, e0, e1, e2, e3, e4]) (hK _ _ hS rfl (fun j oj u hne hj hd h => h.below (Below.refl _ _)))
      · intro a ws K hS _ _ hk' hdep hK
        obtain ⟨x, hx, hxe0⟩ := hdep ⟨6, .data⟩ (by simp) rfl _ rfl
        have hxe : x = .agg #[u5 0, u5 1, u5 2, u5 3, u5 4] := hxe0
        have h1 : a.tmps[131]?.getD undef = .agg #[u5 0, u5 1, u5 2, u5 3, u5 4] := by have q := hx 131 rfl; rw [hxe] at q; simpa using q
        clear hdep hk' hx hxe hxe0
        refine wp_call (f := 6) (args := #[.agg #[u5 0, u5 1, u5 2, u5 3, u5 4]]) (by simp [execOp, resolve, invoke, go_sem, h1, run_callFunc_body Try.func6 (by kernel_rfl) (by kernel_rfl)]) ((copy6_any ws u5 (n5) (z5) (fun i hi => (HF.out.rd (p := 5) (by omega) i hi).below hS) (HBB.out 3 (by omega))).mono ?_)
        rintro e w' ⟨u, rfl, hC, hB⟩
        exact ⟨_, rfl, hK _ _ (hS.trans (hB.mono hS.size)) ⟨u, rfl, ⟨fun i hi => (hC.own i hi).mono hS.size, hC.apart⟩⟩ (fun j oj u hne hj hd h => h.below hB)⟩
      · intro a ws K hS _ _ hk' hdep hK
        have h1 : a.tmps[19]?.getD undef = .pointer (some ⟨A, 0, none⟩) := by simpa using (hk' 19 (by kernel_rfl)).trans t19
        have kA := row_keep hS BX19.out
        have e0 := cell_facts kA 0 _ rfl
        have e1 := cell_facts kA 1 _ rfl
        have e2 := cell_facts kA 2 _ rfl
        have e3 := cell_facts kA 3 _ rfl
        have e4 := cell_facts kA 4 _ rfl
        clear hdep hk' kA
        exact wp_value (v := .agg #[u6 0, u6 1, u6 2, u6 3, u6 4]) (w' := ws) (by simp [execOp, go_sem, h1, e0, e1, e2, e3, e4]) (hK _ _ hS rfl (fun j oj u hne hj hd h => h.below (Below.refl _ _)))
      · intro a ws K hS _ _ hk' hdep hK
        obtain ⟨x, hx, hxe0⟩ := hdep ⟨8, .data⟩ (by simp) rfl _ rfl
        have hxe : x = .agg #[u6 0, u6 1, u6 2, u6 3, u6 4] := hxe0
        have h1 : a.tmps[133]?.getD undef = .agg #[u6 0, u6 1, u6 2, u6 3, u6 4] := by have q := hx 133 rfl; rw [hxe] at q; simpa using q
        clear hdep hk' hx hxe hxe0
        refine wp_call (f := 6) (args := #[.agg #[u6 0, u6 1, u6 2, u6 3, u6 4]]) (by simp [execOp, resolve, invoke, go_sem, h1, run_callFunc_body Try.func6 (by kernel_rfl) (by kernel_rfl)]) ((copy6_any ws u6 (n6) (z6) (fun i hi => (HF.out.rd (p := 6) (by omega) i hi).below hS) (HBB.out 4 (by omega))).mono ?_)
        rintro e w' ⟨u, rfl, hC, hB⟩
        exact ⟨_, rfl, hK _ _ (hS.trans (hB.mono hS.size)) ⟨u, rfl, ⟨fun i hi => (hC.own i hi).mono hS.size, hC.apart⟩⟩ (fun j oj u hne hj hd h => h.below hB)⟩
      · intro a ws K hS _ _ hk' hdep hK
        have h1 : a.tmps[21]?.getD undef = .pointer (some ⟨w9.heap.size, 0, none⟩) := by simpa using (hk' 21 (by kernel_rfl)).trans t21
        have kA := row_keep hS BX21.out
        have e0 := cell_facts kA 0 _ rfl
        have e1 := cell_facts kA 1 _ rfl
        have e2 := cell_facts kA 2 _ rfl
        have e3 := cell_facts kA 3 _ rfl
        have e4 := cell_facts kA 4 _ rfl
        clear hdep hk' kA
        exact wp_value (v := .agg #[u7 0, u7 1, u7 2, u7 3, u7 4]) (w' := ws) (by simp [execOp, go_sem, h1, e0, e1, e2, e3, e4]) (hK _ _ hS rfl (fun j oj u hne hj hd h => h.below (Below.refl _ _)))
      · intro a ws K hS _ _ hk' hdep hK
        obtain ⟨x, hx, hxe0⟩ := hdep ⟨10, .data⟩ (by simp) rfl _ rfl
        have hxe : x = .agg #[u7 0, u7 1, u7 2, u7 3, u7 4] := hxe0
        have h1 : a.tmps[135]?.getD undef = .agg #[u7 0, u7 1, u7 2, u7 3, u7 4] := by have q := hx 135 rfl; rw [hxe] at q; simpa using q
        clear hdep hk' hx hxe hxe0
        refine wp_call (f := 6) (args := #[.agg #[u7 0, u7 1, u7 2, u7 3, u7 4]]) (by simp [execOp, resolve, invoke, go_sem, h1, run_callFunc_body Try.func6 (by kernel_rfl) (by kernel_rfl)]) ((copy6_any ws u7 (ns) (zs) (fun i hi => (HF.out.rd (p := 7) (by omega) i hi).below hS) (HBB.out 5 (by omega))).mono ?_)
        rintro e w' ⟨u, rfl, hC, hB⟩
        exact ⟨_, rfl, hK _ _ (hS.trans (hB.mono hS.size)) ⟨u, rfl, ⟨fun i hi => (hC.own i hi).mono hS.size, hC.apart⟩⟩ (fun j oj u hne hj hd h => h.below hB)⟩
      · intro a ws K hS _ _ hk' hdep hK
        obtain ⟨x0, hx0, y0, e0, hC0⟩ := hdep ⟨1, .data⟩ (by simp) rfl _ rfl
        have h0 := hx0 126 rfl
        rw [e0] at h0
        obtain ⟨x1, hx1, y1, e1, hC1⟩ := hdep ⟨3, .data⟩ (by simp) rfl _ rfl
        have h1 := hx1 128 rfl
        rw [e1] at h1
        obtain ⟨x2, hx2, y2, e2, hC2⟩ := hdep ⟨5, .data⟩ (by simp) rfl _ rfl
        have h2 := hx2 130 rfl
        rw [e2] at h2
        obtain ⟨x3, hx3, y3, e3, hC3⟩ := hdep ⟨7, .data⟩ (by simp) rfl _ rfl
        have h3 := hx3 132 rfl
        rw [e3] at h3
        obtain ⟨x4, hx4, y4, e4, hC4⟩ := hdep ⟨9, .data⟩ (by simp) rfl _ rfl
        have h4 := hx4 134 rfl
        rw [e4] at h4
        obtain ⟨x5, hx5, y5, e5, hC5⟩ := hdep ⟨11, .data⟩ (by simp) rfl _ rfl
        have h5 := hx5 136 rfl
        rw [e5] at h5
        clear hdep hk'
        obtain ⟨ie, hie, hz, hs⟩ : ∃ ie, Try.prog.info? 25 = some ie ∧ ie.zero = some (.agg #[.slice none 0 0, .slice none 0 0, .slice none 0 0, .slice none 0 0, .slice none 0 0]) ∧ ie.size = 5 := info25
        refine wp_buildSlice 47 25 6 _ rfl (row30 (six y0 y1 y2 y3 y4 y5)) ie _ Try.underlying47 hie hz (by rw [hs]; omega) (by rw [hs]; omega) (by
          rw [hs]
          refine Eq.trans ?_ (fill6 (six y0 y1 y2 y3 y4 y5))
          simp only [List.map_toArray, List.map_cons, List.map_nil, Act.eval, h0, h1, h2, h3, h4, h5]
          rfl) ?_
        refine hK _ _ (hS.alloc hS.size _) ⟨six y0 y1 y2 y3 y4 y5, ws.heap.size, rfl, heap_alloc_new _ _, hS.size, fun j hj => ?_⟩ (fun j oj u hne hj hd h => h.below ((Below.refl _ _).alloc (Nat.le_refl _) _))
        rcases j with _ | _ | _ | _ | _ | _ | j
        · exact hC0.below ((Below.refl _ _).alloc (Nat.le_refl _) _)
        · exact hC1.below ((Below.refl _ _).alloc (Nat.le_refl _) _)
        · exact hC2.below ((Below.refl _ _).alloc (Nat.le_refl _) _)
        · exact hC3.below ((Below.refl _ _).alloc (Nat.le_refl _) _)
        · exact hC4.below ((Below.refl _ _).alloc (Nat.le_refl _) _)
        · exact hC5.below ((Below.refl _ _).alloc (Nat.le_refl _) _)
        · omega
      · intro a ws K hS _ _ hk' hdep hK
        obtain ⟨x, hx, W, L, e, hr, hL, hC⟩ := hdep ⟨12, .data⟩ (by simp) rfl _ rfl
        have h1 := hx 137 rfl
        rw [e] at h1
        clear hdep hk' hx
        simp at h1
        exact wp_value (v := .slice (some ⟨L, 0, none⟩) 6 6) (w' := ws) (by simp [execOp, go_sem, h1]) (hK _ _ hS ⟨W, L, rfl, hr, hL, hC⟩ (fun j oj u hne hj hd h => h.below (Below.refl _ _)))
    · intro a ws hS hsz hd hk' hdone
      obtain ⟨x13, hx13, W, L, e13, hrow, hL, hCW⟩ := hdone 13 _ rfl
      have g24 := hx13 24 rfl
      rw [e13] at g24
      obtain ⟨t, dd⟩ := a
      replace hd : dd = [] := hd
      subst hd
      obtain ⟨f, hf, e⟩ := tmps_fun [125, 126, 127, 128, 129, 130, 131, 132, 133, 134, 135, 136, 137, 24] t T0 hsz (fun q hq => hk' q (by
        simp at hq
        simp [writes]
        omega))
      have f24 := (hf 24).trans g24
      clear hx13 e13 hk' hdone hsz hf g24
      simp only [List.foldl_cons, List.foldl_nil] at e
      rw [f24] at e
      clear f24
      refine frame_hide2 _ e ?_
      clear e
      have HW := Lib.hid hCW
      have HROW := Lib.hid hrow
      have HF10 := Lib.hid HF.out
      have hS10 := Lib.hid hS
      have BX6 := Lib.hid (row_keep hS BX6.out)
      have BX7 := Lib.hid (row_keep hS BX7.out)
      have BX10 := Lib.hid (row_keep hS BX10.out)
      have BX13 := Lib.hid (row_keep hS BX13.out)
      have BX16 := Lib.hid (row_keep hS BX16.out)
      have BX19 := Lib.hid (row_keep hS BX19.out)
      have BX21 := Lib.hid (row_keep hS BX21.out)
      have B1 := Lib.hid (row_keep hS B1.out)
      clear hS hCW hrow t7 t10 t13 t16 t19 t21 ts
      refine frame_hide2 _ (congrArg (fun T : Array Value => (((((((((((((T.setIfInBounds 125 (f 125)).setIfInBounds 126 (f 126)).setIfInBounds 127 (f 127)).setIfInBounds 128 (f 128)).setIfInBounds 129 (f 129)).setIfInBounds 130 (f 130)).setIfInBounds 131 (f 131)).setIfInBounds 132 (f 132)).setIfInBounds 133 (f 133)).setIfInBounds 134 (f 134)).setIfInBounds 135 (f 135)).setIfInBounds 136 (f 136)).setIfInBounds 137 (f 137)).setIfInBounds 24 (.slice (some ⟨L, 0, none⟩) 6 6)) HT0.out) ?_
      clear HT0
      simp only [List.setIfInBounds_toArray, List.set_cons_zero, List.set_cons_succ]
      have HV := Lib.hid (Held.make (fam8 HF10.out) hS10.out HW.out rfl rfl B1.out BX6.out HROW.out (by
        intro j hj i hi
        have q0 := HSM.out i hi
        have e : esz i ≤ 2 := (by unfold esz; split <;> omega)
        have q2 := N2.out i hi
        have q3 := N3.out i hi
        have q4 := N4.out i hi
        have q5 := N5.out i hi
        have q6 := HS6.out i hi
        rcases j with _ | _ | _ | _ | _ | _ | j
        · exact Nat.le_trans (Nat.mul_le_mul_right _ (show n2 i + 21 ≤ ns i + 22 by omega)) (by rw [Nat.add_mul]; omega)
        · exact Nat.le_trans (Nat.mul_le_mul_right _ (show n3 i + 21 ≤ ns i + 22 by omega)) (by rw [Nat.add_mul]; omega)
        · exact Nat.le_trans (Nat.mul_le_mul_right _ (show n4 i + 21 ≤ ns i + 22 by omega)) (by rw [Nat.add_mul]; omega)
        · exact Nat.le_trans (Nat.mul_le_mul_right _ (show n5 i + 21 ≤ ns i + 22 by omega)) (by rw [Nat.add_mul]; omega)
        · show (n6 i + 21) * _ ≤ _
          rw [Nat.add_mul]; omega
        · show (ns i + 21) * _ ≤ _
          rw [Nat.add_mul]; omega
        · omega) HSM.out.le)
      obtain ⟨ie, hie, hz, hs⟩ : ∃ ie, Try.prog.info? 25 = some ie ∧ ie.zero = some (.agg #[.slice none 0 0, .slice none 0 0, .slice none 0 0, .slice none 0 0, .slice none 0 0]) ∧ ie.size = 5 := info25
      have HIE := Lib.hid (And.intro hie (And.intro hz hs))
      obtain ⟨fs, hfs⟩ := struct25
      clear hie hz hs HF10 hS10 HW HROW HF B1 HBB HS6 HSM HB1 HKO HM N2 N3 N4 N5
      have l7_0 := cell_facts BX7.out 0 _ rfl
      have l7_1 := cell_facts BX7.out 1 _ rfl
      have l7_2 := cell_facts BX7.out 2 _ rfl
      have l7_3 := cell_facts BX7.out 3 _ rfl
      have l7_4 := cell_facts BX7.out 4 _ rfl
      have l10_0 := cell_facts BX10.out 0 _ rfl
      have l10_1 := cell_facts BX10.out 1 _ rfl
      have l10_2 := cell_facts BX10.out 2 _ rfl
      have l10_3 := cell_facts BX10.out 3 _ rfl
      have l10_4 := cell_facts BX10.out 4 _ rfl
      have l13_0 := cell_facts BX13.out 0 _ rfl
      have l13_1 := cell_facts BX13.out 1 _ rfl
      have l13_2 := cell_facts BX13.out 2 _ rfl
      have l13_3 := cell_facts BX13.out 3 _ rfl
      have l13_4 := cell_facts BX13.out 4 _ rfl
      have l16_0 := cell_facts BX16.out 0 _ rfl
      have l16_1 := cell_facts BX16.out 1 _ rfl
      have l16_2 := cell_facts BX16.out 2 _ rfl
      have l16_3 := cell_facts BX16.out 3 _ rfl
      have l16_4 := cell_facts BX16.out 4 _ rfl
      have l19_0 := cell_facts BX19.out 0 _ rfl
      have l19_1 := cell_facts BX19.out 1 _ rfl
      have l19_2 := cell_facts BX19.out 2 _ rfl
      have l19_3 := cell_facts BX19.out 3 _ rfl
      have l19_4 := cell_facts BX19.out 4 _ rfl
      have l21_0 := cell_facts BX21.out 0 _ rfl
      have l21_1 := cell_facts BX21.out 1 _ rfl
      have l21_2 := cell_facts BX21.out 2 _ rfl
      have l21_3 := cell_facts BX21.out 3 _ rfl
      have l21_4 := cell_facts BX21.out 4 _ rfl
      clear BX6 BX7 BX10 BX13 BX16 BX19 BX21 hall
      have HWD := Lib.hid (show Held w (ws.alloc (.cells #[u2 0, u2 1, u2 2, u2 3, u2 4, u3 0, u3 1, u3 2, u3 3, u3 4, u4 0, u4 1, u4 2, u4 3, u4 4, u5 0, u5 1, u5 2, u5 3, u5 4, u6 0, u6 1, u6 2, u6 3, u6 4, u7 0, u7 1, u7 2, u7 3, u7 4] 25)) _ _ _ _ _ _ _ _ from HV.out)
      clear HV
      go_wp2_with fail
      clear l7_0 l7_1 l7_2 l7_3 l7_4 l10_0 l10_1 l10_2 l10_3 l10_4 l13_0 l13_1 l13_2 l13_3 l13_4 l16_0 l16_1 l16_2 l16_3 l16_4 l19_0 l19_1 l19_2 l19_3 l19_4 l21_0 l21_1 l21_2 l21_3 l21_4
      obtain ⟨V, W1, N, Z, HV⟩ : ∃ V W1 N Z, Hid (Held w (ws.alloc (.cells #[u2 0, u2 1, u2 2, u2 3, u2 4, u3 0, u3 1, u3 2, u3 3, u3 4, u4 0, u4 1, u4 2, u4 3, u4 4, u5 0, u5 1, u5 2, u5 3, u5 4, u6 0, u6 1, u6 2, u6 3, u6 4, u7 0, u7 1, u7 2, u7 3, u7 4] 25)) V W1 N Z w.heap.size w3.heap.size L ws.heap.size) := ⟨_, _, _, _, HWD⟩
      clear HWD
      obtain ⟨wo, hwo⟩ : ∃ wo : World, wo = ws.alloc (.cells #[u2 0, u2 1, u2 2, u2 3, u2 4, u3 0, u3 1, u3 2, u3 3, u3 4, u4 0, u4 1, u4 2, u4 3, u4 4, u5 0, u5 1, u5 2, u5 3, u5 4, u6 0, u6 1, u6 2, u6 3, u6 4, u7 0, u7 1, u7 2, u7 3, u7 4] 25) := ⟨_, rfl⟩
      have HWO := Lib.hid hwo
      rw [← hwo] at HV
      have I0 := Lib.hid HV.out.start
      clear hwo
      go_loopw [26] (fun i wr => ∃ k : Nat, k ≤ 6 ∧ i = .int .i64 k ∧ Inv w wo V W1 N Z w.heap.size w3.heap.size L ws.heap.size k wr) (fun i _ => 6 - (intOf i).toNat)
      case atStart =>
        rw [← HWO.out]
        exact ⟨0, by omega, rfl, I0.out⟩
      case round =>
        obtain ⟨k, hk, rfl, hI⟩ := hrel
        have HI := Lib.hid hI
        clear hI I0 HWO
        by_cases hlt : k < 6
        · have c0 : wr.cell? ⟨ws.heap.size, k * 5, none⟩ = _ := HI.out.cells hlt 0 (by omega)
          have c1 := HI.out.cells hlt 1 (by omega)
          have c2 := HI.out.cells hlt 2 (by omega)
          have c3 := HI.out.cells hlt 3 (by omega)
          have c4 := HI.out.cells hlt 4 (by omega)
          have x1 : IntKind.i64.wrap ((k : Int) + 1) = (k : Int) + 1 := IntWalk.i64_in _ (by omega)
          have x2 : IntKind.i64.wrap (1000 * ((k : Int) + 1)) = 1000 * ((k : Int) + 1) := IntWalk.i64_in _ (by omega)
          go_wp2_with fail
          refine (HI.out.call13 HV.out hlt).mono ?_
          rintro e w11 ⟨⟨vv, rfl⟩, hI1⟩
          have HI1 := Lib.hid hI1
          clear hI1 c0 c1 c2 c3 c4 HI
          have HK := Lib.hid hlt
          go_wp2_with fail
          obtain ⟨wp, hwp⟩ : ∃ wp : World, wp = wr := ⟨_, rfl⟩
          go_loopw [27] (fun i wr' => ∃ q : Nat, k + 1 ≤ q ∧ q ≤ 6 ∧ i = .int .i64 q ∧ Inv w wo V W1 N Z w.heap.size w3.heap.size L ws.heap.size (k + 1) wr') (fun i _ => 6 - (intOf i).toNat)
          case atStart => exact ⟨k + 1, by omega, by omega, by go_num, HI1.out⟩
          case round =>
            obtain ⟨q, hkq, hq6, rfl, hI2⟩ := hrel
            have HI2 := Lib.hid hI2
            clear hI2 HI1
            by_cases hlq : q < 6
            · have c0 : wr.cell? ⟨ws.heap.size, q * 5, none⟩ = _ := HI2.out.cells hlq 0 (by omega)
              have c1 := HI2.out.cells hlq 1 (by omega)
              have c2 := HI2.out.cells hlq 2 (by omega)
              have c3 := HI2.out.cells hlq 3 (by omega)
              have c4 := HI2.out.cells hlq 4 (by omega)
              have d0 : wr.cell? ⟨L, q * 5, none⟩ = _ := HI2.out.cellsW hlq 0 (by omega)
              have d1 := HI2.out.cellsW hlq 1 (by omega)
              have d2 := HI2.out.cellsW hlq 2 (by omega)
              have d3 := HI2.out.cellsW hlq 3 (by omega)
              have d4 := HI2.out.cellsW hlq 4 (by omega)
              go_wp2_with fail
              go_still_tail 8, (by kernel_rfl)
              go_wp2_with fail
              refine (HI2.out.same HV.out (Below.refl _ _).drew hkq hlq).mono ?_
              rintro e w12 ⟨rfl, hI3⟩
              have HI3 := Lib.hid hI3
              clear hI3 c0 c1 c2 c3 c4 d0 d1 d2 d3 d4
              have HQ := Lib.hid (And.intro hlq hkq)
              go_wp2_with fail
              go_roundw
              case rel => exact ⟨q + 1, by omega, by omega, by go_num, HI3.out⟩
              case measure => simp [intOf]; omega
            · have s0 := cell_facts HI2.out.bS 0 _ rfl
              have s1 := cell_facts HI2.out.bS 1 _ rfl
              have s2 := cell_facts HI2.out.bS 2 _ rfl
              have s3 := cell_facts HI2.out.bS 3 _ rfl
              have s4 := cell_facts HI2.out.bS 4 _ rfl
              have d0 := cell_facts HI2.out.bK 0 _ rfl
              have d1 := cell_facts HI2.out.bK 1 _ rfl
              have d2 := cell_facts HI2.out.bK 2 _ rfl
              have d3 := cell_facts HI2.out.bK 3 _ rfl
              have d4 := cell_facts HI2.out.bK 4 _ rfl
              go_wp2_with fail
              refine (HI2.out.same0 HV.out).mono ?_
              rintro e w12 ⟨rfl, hI3⟩
              have HI3 := Lib.hid hI3
              clear hI3 s0 s1 s2 s3 s4 d0 d1 d2 d3 d4
              go_wp2_with fail
              go_roundw
              case rel => exact ⟨k + 1, by omega, by go_num, HI3.out⟩
              case measure => simp [intOf]; omega
        · have hk6 : k = 6 := by omega
          have HJ : Hid (Inv w wo V W1 N Z w.heap.size w3.heap.size L ws.heap.size 6 wr) := by rw [← hk6]; exact Lib.hid HI.out
          clear HI hk6
          go_wp2_with fail
          obtain ⟨wp, hwp⟩ : ∃ wp : World, wp = wr := ⟨_, rfl⟩
          go_loopw [28] (fun i wr' => ∃ q : Nat, q ≤ 6 ∧ i = .int .i64 q ∧ Inv w wo V W1 N Z w.heap.size w3.heap.size L ws.heap.size 6 wr') (fun i _ => 6 - (intOf i).toNat)
          case atStart => exact ⟨0, by omega, rfl, HJ.out⟩
          case round =>
            obtain ⟨q, hq6, rfl, hI2⟩ := hrel
            have HI2 := Lib.hid hI2
            clear hI2 HJ
            by_cases hlq : q < 6
            · have c0 : wr.cell? ⟨ws.heap.size, q * 5, none⟩ = _ := HI2.out.cells hlq 0 (by omega)
              have c1 := HI2.out.cells hlq 1 (by omega)
              have c2 := HI2.out.cells hlq 2 (by omega)
              have c3 := HI2.out.cells hlq 3 (by omega)
              have c4 := HI2.out.cells hlq 4 (by omega)
              have x1 : IntKind.i64.wrap ((q : Int) + 1) = (q : Int) + 1 := IntWalk.i64_in _ (by omega)
              have x2 : IntKind.i64.wrap (1000 * ((q : Int) + 1)) = 1000 * ((q : Int) + 1) := IntWalk.i64_in _ (by omega)
              go_wp2_with fail
              refine (HI2.out.spoilt HV.out hlq).mono ?_
              rintro e w12 ⟨rfl, hB⟩
              have HI3 := Lib.hid (HI2.out.below hB)
              clear hB c0 c1 c2 c3 c4 HI2
              go_wp2_with fail
              go_roundw
              case rel => exact ⟨q + 1, by omega, by go_num, HI3.out⟩
              case measure => simp [intOf]; omega
            · go_wp2_with fail
              go_ret
              exact ⟨rfl, HI2.out.low⟩
end Go.Proofs.Ytkibdolpapaflaa
