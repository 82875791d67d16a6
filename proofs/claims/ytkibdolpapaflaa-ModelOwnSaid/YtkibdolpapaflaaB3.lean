import Derived.Test.YtkibdolpapaflaaB2
namespace Go.Proofs.Ytkibdolpapaflaa
open Go.RowKit
theorem Try.underlying69 : Try.prog.underlying 69 = some (.slice 3) := by kernel_rfl
theorem Try.underlying70 : Try.prog.underlying 70 = some (.slice 3) := by kernel_rfl
theorem Try.underlying71 : Try.prog.underlying 71 = some (.slice 3) := by kernel_rfl
theorem Try.underlying72 : Try.prog.underlying 72 = some (.slice 67) := by kernel_rfl
theorem Try.underlying68 : Try.prog.underlying 68 = some (.slice 3) := by kernel_rfl

def ClonePost (E sz n : Nat) (zs : List Int) (w : World) (e : Ending) (w' : World) : Prop :=
  ∃ v' : Value, e = .returned v' ∧ Own w' w.heap.size E sz v' n zs ∧ (∃ ad' c', v' = .slice (some ad') n c') ∧ Below w.heap.size w w'

theorem Own.addr {w : World} {base e size : Nat} {v : Value} {n : Nat} {zs : List Int} (h : Own w base e size v n zs) (hv : v ≠ .slice none 0 0) : ∃ ad c, v = .slice (some ad) n c := by
  rcases h.2 with ⟨rfl, a, rfl⟩ | ⟨g, cap, cur, rfl, _⟩
  · cases a with
    | none => exact absurd rfl hv
    | some ad => exact ⟨ad, 0, rfl⟩
  · exact ⟨_, cap, rfl⟩

theorem grown_below {B : Nat} {w w' : World} {v v' : Value} (hg : (blk v' = blk v ∧ w.grownBy w' (blk v)) ∨ (blk v' = some w.heap.size ∧ w.grownBy w' none ∧ w.heap.size < w'.heap.size)) (hB : B ≤ w.heap.size) (hb : ∀ k, blk v = some k → B ≤ k) : Below B w w' := by
  rcases hg with ⟨_, h⟩ | ⟨_, h, _⟩
  · exact (Below.refl B w).grown h hB hb
  · exact (Below.refl B w).grown h hB (by simp)

set_option maxHeartbeats 400000 in
theorem clone48 (w : World) (ad : Addr) (n c : Nat) (zs : List Int) (hr : Rd w (.slice (some ad) n c) 1 n zs) (hb : n * 8 ≤ 140737488355328) :
    Calls Try.prog 48 #[.slice (some ad) n c] w fun e w' => ClonePost 3 1 n zs w e w' := by
  obtain ⟨i0, hi, hz, hs, hby⟩ := info_parts Try.info3
  have heq := Lib.run_eql_slice_nil (P := Try.prog) w 69 3 (some ad) n c 0 0 Try.underlying69
  have hr1 : Rd (w.alloc (.cells #[] 3)) (.slice (some ad) n c) 1 n zs := hr.below ((Below.refl _ _).alloc (Nat.le_refl _) _)
  have HR := Lib.hid hr1
  clear hr hr1
  go_enter Try.func48, Try.ntmps48
  go_wp2_with (refine wpList_app rfl (.tmp 5) (.tmp 6) 69 69 rfl w.heap.size 3 3 i0 (.int .i64 0) 1 8 Try.underlying69 Try.underlying69 hi hz hs hby rfl (.slice (some ⟨w.heap.size, 0, none⟩) 0 0) 0 [] rfl (Own.empty _ _ _ _ _) (.slice (some ad) n c) n zs rfl HR.out (by unfold maxLen; omega) (by omega) (by simp) ?_; intro v' w' hO hg hne; have HO := Lib.hid hO; have HG := Lib.hid hg; have HN := Lib.hid hne; clear hO hg hne)
  go_ret
  have hO : Own w' w.heap.size 3 1 v' n zs := by simpa using HO.out
  exact ⟨v', rfl, hO, hO.addr (HN.out (by simp)), ((Below.refl _ _).alloc (Nat.le_refl _) _).trans ((grown_below (B := w.heap.size + 1) HG.out (by simp) (by simp [blk])).mono (by omega))⟩

set_option maxHeartbeats 400000 in
theorem clone51 (w : World) (ad : Addr) (n c : Nat) (zs : List Int) (hr : Rd w (.slice (some ad) n c) 1 n zs) (hb : n * 8 ≤ 140737488355328) :
    Calls Try.prog 51 #[.slice (some ad) n c] w fun e w' => ClonePost 3 1 n zs w e w' := by
  obtain ⟨i0, hi, hz, hs, hby⟩ := info_parts Try.info3
  have heq := Lib.run_eql_slice_nil (P := Try.prog) w 70 3 (some ad) n c 0 0 Try.underlying70
  have hr1 : Rd (w.alloc (.cells #[] 3)) (.slice (some ad) n c) 1 n zs := hr.below ((Below.refl _ _).alloc (Nat.le_refl _) _)
  have HR := Lib.hid hr1
  clear hr hr1
  go_enter Try.func51, Try.ntmps51
  go_wp2_with (refine wpList_app rfl (.tmp 5) (.tmp 6) 70 70 rfl w.heap.size 3 3 i0 (.int .i64 0) 1 8 Try.underlying70 Try.underlying70 hi hz hs hby rfl (.slice (some ⟨w.heap.size, 0, none⟩) 0 0) 0 [] rfl (Own.empty _ _ _ _ _) (.slice (some ad) n c) n zs rfl HR.out (by unfold maxLen; omega) (by omega) (by simp) ?_; intro v' w' hO hg hne; have HO := Lib.hid hO; have HG := Lib.hid hg; have HN := Lib.hid hne; clear hO hg hne)
  go_ret
  have hO : Own w' w.heap.size 3 1 v' n zs := by simpa using HO.out
  exact ⟨v', rfl, hO, hO.addr (HN.out (by simp)), ((Below.refl _ _).alloc (Nat.le_refl _) _).trans ((grown_below (B := w.heap.size + 1) HG.out (by simp) (by simp [blk])).mono (by omega))⟩

set_option maxHeartbeats 400000 in
theorem clone57 (w : World) (ad : Addr) (n c : Nat) (zs : List Int) (hr : Rd w (.slice (some ad) n c) 1 n zs) (hb : n * 8 ≤ 140737488355328) :
    Calls Try.prog 57 #[.slice (some ad) n c] w fun e w' => ClonePost 3 1 n zs w e w' := by
  obtain ⟨i0, hi, hz, hs, hby⟩ := info_parts Try.info3
  have heq := Lib.run_eql_slice_nil (P := Try.prog) w 71 3 (some ad) n c 0 0 Try.underlying71
  have hr1 : Rd (w.alloc (.cells #[] 3)) (.slice (some ad) n c) 1 n zs := hr.below ((Below.refl _ _).alloc (Nat.le_refl _) _)
  have HR := Lib.hid hr1
  clear hr hr1
  go_enter Try.func57, Try.ntmps57
  go_wp2_with (refine wpList_app rfl (.tmp 5) (.tmp 6) 71 71 rfl w.heap.size 3 3 i0 (.int .i64 0) 1 8 Try.underlying71 Try.underlying71 hi hz hs hby rfl (.slice (some ⟨w.heap.size, 0, none⟩) 0 0) 0 [] rfl (Own.empty _ _ _ _ _) (.slice (some ad) n c) n zs rfl HR.out (by unfold maxLen; omega) (by omega) (by simp) ?_; intro v' w' hO hg hne; have HO := Lib.hid hO; have HG := Lib.hid hg; have HN := Lib.hid hne; clear hO hg hne)
  go_ret
  have hO : Own w' w.heap.size 3 1 v' n zs := by simpa using HO.out
  exact ⟨v', rfl, hO, hO.addr (HN.out (by simp)), ((Below.refl _ _).alloc (Nat.le_refl _) _).trans ((grown_below (B := w.heap.size + 1) HG.out (by simp) (by simp [blk])).mono (by omega))⟩

set_option maxHeartbeats 400000 in
theorem clone72 (w : World) (ad : Addr) (n c : Nat) (zs : List Int) (hr : Rd w (.slice (some ad) n c) 2 n zs) (hb : n * 16 ≤ 140737488355328) :
    Calls Try.prog 72 #[.slice (some ad) n c] w fun e w' => ClonePost 67 2 n zs w e w' := by
  obtain ⟨i0, hi, hz, hs, hby⟩ := info_parts Try.info67
  have heq := Lib.run_eql_slice_nil (P := Try.prog) w 72 67 (some ad) n c 0 0 Try.underlying72
  have hr1 : Rd (w.alloc (.cells #[] 67)) (.slice (some ad) n c) 2 n zs := hr.below ((Below.refl _ _).alloc (Nat.le_refl _) _)
  have HR := Lib.hid hr1
  clear hr hr1
  go_enter Try.func72, Try.ntmps72
  go_wp2_with (refine wpList_app rfl (.tmp 5) (.tmp 6) 72 72 rfl w.heap.size 67 67 i0 (.agg #[.int .i64 0, .int .i64 0]) 2 16 Try.underlying72 Try.underlying72 hi hz hs hby rfl (.slice (some ⟨w.heap.size, 0, none⟩) 0 0) 0 [] rfl (Own.empty _ _ _ _ _) (.slice (some ad) n c) n zs rfl HR.out (by unfold maxLen; omega) (by omega) (by simp) ?_; intro v' w' hO hg hne; have HO := Lib.hid hO; have HG := Lib.hid hg; have HN := Lib.hid hne; clear hO hg hne)
  go_ret
  have hO : Own w' w.heap.size 67 2 v' n zs := by simpa using HO.out
  exact ⟨v', rfl, hO, hO.addr (HN.out (by simp)), ((Below.refl _ _).alloc (Nat.le_refl _) _).trans ((grown_below (B := w.heap.size + 1) HG.out (by simp) (by simp [blk])).mono (by omega))⟩


set_option maxHeartbeats 400000 in
theorem less60 (x y : Int) (w : World) : Calls Try.prog 60 #[.int .i64 x, .int .i64 y] w fun e w' => e = .returned (.bool (decide (x < y))) ∧ w = w' := by
  go_enter Try.func60, Try.ntmps60
  go_wp2
  go_ret
  exact ⟨rfl, rfl⟩
theorem nan61 (x : Int) (w : World) : Calls Try.prog 61 #[.int .i64 x] w fun e w' => e = .returned (.bool false) ∧ w = w' := by
  go_enter Try.func61, Try.ntmps61
  go_wp2
  go_ret
  exact ⟨by simp, rfl⟩

def BsPost (n : Nat) (w : World) (e : Ending) (w' : World) : Prop := ∃ (i : Nat) (ok : Bool), e = .returned (.tuple #[.int .i64 i, .bool ok]) ∧ i ≤ n ∧ (ok = true → i < n) ∧ w' = w

set_option maxHeartbeats 400000 in
theorem bs55 (w : World) (v : Value) (n : Nat) (zs : List Int) (x : Int) (hr : Rd w v 1 n zs) (hb : n * 8 ≤ 140737488355328) :
    Calls Try.prog 55 #[v, .int .i64 x] w fun e w' => BsPost n w e w' := by
  obtain ⟨a, c, rfl, h0⟩ := hr.at
  have H0 := Lib.hid h0
  clear h0 hr
  go_enter Try.func55, Try.ntmps55
  go_wp2
  go_loop [7, 8] (fun i j => ∃ p q : Nat, p ≤ q ∧ q ≤ n ∧ i = .int .i64 p ∧ j = .int .i64 q) (fun i j => (intOf j - intOf i).toNat)
  case atStart => exact ⟨0, n, by omega, by omega, rfl, rfl⟩
  case round =>
    obtain ⟨p, q, hpq, hq, rfl, rfl⟩ := hrel
    by_cases hlt : p < q
    · obtain ⟨b, off, rfl, hc⟩ := H0.out (by omega)
      have h1 := hc ((p + q) / 2) (by omega)
      clear hc
      go_wp2_with (go_at_call 60; refine (less60 _ _ _).mono ?_; rintro e w' ⟨rfl, rfl⟩)
      · go_round
        case rel => exact ⟨(p + q) / 2 + 1, q, by omega, by omega, by go_num, rfl⟩
        case measure => simp [intOf]; omega
      · go_round
        case rel => exact ⟨p, (p + q) / 2, by omega, by omega, rfl, by go_num⟩
        case measure => simp [intOf]; omega
    · have hpq2 : q = p := by omega
      subst hpq2
      by_cases hn : q < n
      · obtain ⟨b, off, rfl, hc⟩ := H0.out (by omega)
        have h1 := hc q (by omega)
        clear hc
        go_wp2_with (go_at_call 61; refine (nan61 _ _).mono ?_; rintro e w' ⟨rfl, rfl⟩)
        all_goals
          go_ret2
          exact ⟨q, _, rfl, by omega, fun _ => hn, rfl⟩
      · go_wp2_with (go_at_call 61; refine (nan61 _ _).mono ?_; rintro e w' ⟨rfl, rfl⟩)
        all_goals
          go_ret2
          exact ⟨q, _, rfl, by omega, fun h => by simp at h, rfl⟩
end Go.Proofs.Ytkibdolpapaflaa
