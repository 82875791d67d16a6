import Derived.Test.YtkibdolpapaflaaLib2
import Derived.StillTailTactics
namespace Go.Proofs.Ytkibdolpapaflaa
open Go.RowKit

def InsPost (base E sz n : Nat) (w : World) (e : Ending) (w' : World) : Prop :=
  ∃ (v' : Value) (zs' : List Int), e = .returned v' ∧ Own w' base E sz v' n zs' ∧ (∃ ad' c', v' = .slice (some ad') n c') ∧ Below base w w'
theorem Try.underlying3 : Try.prog.underlying 3 = some (.int .i64) := by kernel_rfl

set_option maxRecDepth 20000 in
set_option maxHeartbeats 800000 in
theorem ins56' (w : World) (base : Nat) (ad : Addr) (n c i : Nat) (zs : List Int) (vb : Nat) (hown : Own w base 3 1 (.slice (some ad) n c) n zs) (hin : i ≤ n)
    (ys : List Int) (hv : Own w base 3 1 (.slice (some ⟨vb, 0, none⟩) 1 1) 1 ys) (hne0 : ad.block ≠ vb ∨ n = 0) (hbase : base ≤ w.heap.size) (hb : (n + 1) * 8 ≤ 140737488355328) :
    Calls Try.prog 56 #[.slice (some ad) n c, .int .i64 i, .slice (some ⟨vb, 0, none⟩) 1 1] w fun e w' => InsPost base 3 1 (n + 1) w e w' := by
  obtain ⟨i0, hi, hz, hs, hby⟩ := info_parts Try.info3
  have hnc : n ≤ c := by
    rcases hown.2 with ⟨h0, a, e⟩ | ⟨g, cap, cur, e, h0, h1, h2, h3, _⟩
    · omega
    · cases e; exact h3
  have hc1 : c ≤ maxLen := by
    rcases hown.2 with ⟨h0, a, e⟩ | ⟨g, cap, cur, e, h0, h1, h2, h3, h4, _⟩
    · cases e; simp [maxLen]
    · cases e; exact h4
  unfold maxLen at hc1
  have HZ : Hid (∀ j, j < 1 → ∃ q, (Value.cells (.int .i64 0))[j]? = some (Value.int .i64 q)) := by
    intro j hj
    match j, hj with
    | 0, _ => exact ⟨0, rfl⟩
  have HO := Lib.hid hown
  have HV := Lib.hid hv
  by_cases h : i = n
  · subst h
    clear hown hv hne0
    by_cases hci : i = c
    case' pos => subst hci
    all_goals
     go_enter Try.func56, Try.ntmps56
     go_wp2_with (refine wpList_app rfl (.tmp 23) (.tmp 24) 71 22 rfl base 3 3 i0 (.int .i64 0) 1 8 Try.underlying71 Try.underlying22 hi hz hs hby rfl (.slice (some ad) i _) i zs rfl HO.out (.slice (some ⟨vb, 0, none⟩) 1 1) 1 ys rfl HV.out.rd (by unfold maxLen; omega) (by omega) hbase ?_; intro v' w' hO hg hne; have HO2 := Lib.hid hO; have HG := Lib.hid hg; have HN := Lib.hid hne; clear hO hg hne)
     go_ret
     exact ⟨v', _, rfl, HO2.out, HO2.out.addr (HN.out (by simp)), grown_below HG.out hbase (fun k hk => (HO.out.lt k hk).1)⟩
  · have hlt : i < n := by omega
    have hne : ad.block ≠ vb := hne0.resolve_right (by omega)
    clear hne0
    obtain ⟨g, cap, e, h0, hbg, hgl, _, _, hrow⟩ := hown.row (by omega)
    cases e
    obtain ⟨vg, vcap, e, hv0, hvg, hvgl, _, _, hvrow⟩ := hv.row (by omega)
    cases e
    have hvrd : ∀ j, j < 1 * 1 → ∃ q, w.cell? ⟨vb, j, none⟩ = some (Value.int .i64 q) := fun j hj => hvrow.cell j (by omega)
    clear hown hv hnc
    have HR := Lib.hid hrow
    have HVW := Lib.hid hvrow
    have HVR := Lib.hid hvrd
    clear hrow hvrd hvrow
    have HS0 : Hid (∀ j, j < i * 1 → ∃ q, w.cell? ((⟨g, 0, none⟩ : Addr).add j) = some (Value.int .i64 q)) := fun j hj => by
      rw [addr_add, Nat.zero_add]; exact HR.out.cell j (by omega)
    have w1 : IntKind.i64.wrap (↑n + 1) = (n : Int) + 1 := IntWalk.i64_in _ (by omega)
    by_cases hc : n + 1 ≤ c
    · have hov : ∀ l d : Nat, (callFunc 62 #[.slice (some ⟨vb, 0, none⟩) 1 1, .slice (some ⟨g, i + 1, none⟩) l d]).run Try.prog w = .ok (.value (.bool false)) w := by
        intro l d
        obtain ⟨cu, hcu, hcs, _, _⟩ := HR.out
        obtain ⟨cv, hcv, hvs, _, _⟩ := HVW.out
        rw [run_callFunc_extern Try.func62 (by kernel_rfl) (by kernel_rfl) (by kernel_rfl) (e := Extern.SlicesOverlaps.overlaps #[22, 22] #[4]) (by kernel_rfl),
          Lib.run_overlaps_apart w 22 4 3 Try.underlying22 1 (fun _ => by simp [sizeOf, typeInfo, hi, hs]) ⟨vb, 0, none⟩ ⟨g, i + 1, none⟩ 1 1 l d (fun e => hne e.symm) 3 3 cv.size cu.size (by simp [World.shape?, hcv]) (by simp [World.shape?, hcu]) (by omega) (by simp [World.frozen?, hcv]) (by simp [World.frozen?, hcv])]
        rfl
      have HS1 : Hid (∀ j, j < 1 * 1 → ∃ q, w.cell? ((⟨vb, 0, none⟩ : Addr).add j) = some (Value.int .i64 q)) := fun j hj => by
        rw [addr_add, Nat.zero_add]; exact HVR.out j hj
      go_enter Try.func56, Try.ntmps56
      go_wp2
      have w2' : IntKind.i64.wrap (↑i + 1) = (i : Int) + 1 := IntWalk.i64_in _ (by omega)
      have w3' : ((i : Int) + 1).toNat = i + 1 := by omega
      have p1 : (0 : Int) ≤ (i : Int) + 1 := by omega
      have p2 : (i : Int) ≤ (n : Int) + 1 := by omega
      have m1 : ¬ (c = i + 1) := by omega
      have m2 : ¬ (c = i) := by omega
      go_still_tail 8, (by kernel_rfl)
      change wpList _ _ _ _ _ w.drew
      refine wpList_cp rfl (.tmp 73) (.tmp 76) 71 71 rfl 3 Try.underlying71 i0 1 hi hs g (i + 1) (n - i) (c - (i + 1)) ⟨g, i, none⟩ (n + 1 - i) (c - i) rfl rfl 3 (c * 1) _ (n - i) (by omega) (HR.out.of_block rfl) (fun j hj => ?_) (by omega) (by omega) ?_
      · rw [addr_add, World.cell?_drew]
        exact HR.out.cell _ (by omega)
      intro w3 hr3 hg3
      have HR4 := Lib.hid hr3
      have HG4 := Lib.hid hg3
      have HS2 : Hid (∀ j, j < 1 * 1 → ∃ q, w3.cell? ((⟨vb, 0, none⟩ : Addr).add j) = some (Value.int .i64 q)) := fun j hj => by
        rw [addr_add, Nat.zero_add, World.cell?_of_block (w := w) (HG4.out.block vb hvgl (by simp; omega))]; exact HVR.out j hj
      clear hr3 hg3 hov
      go_wp2_with (refine wpList_cp rfl (.tmp 80) (.tmp 81) 71 22 rfl 3 Try.underlying71 i0 1 hi hs g (i) (n + 1 - i) (c - i) ⟨vb, 0, none⟩ 1 1 rfl rfl 3 (c * 1) _ 1 (by omega) HR4.out HS2.out (by omega) (by omega) ?_; intro w4 hr4 hg4; have HR5 := Lib.hid hr4; have HG5 := Lib.hid hg4; clear hr4 hg4)
      go_ret
      obtain ⟨zs', hO'⟩ := HR5.out.own (base := base) (n := n + 1) rfl (by omega) (by omega) (by omega) (by unfold maxLen; omega) (by omega)
      refine ⟨_, zs', rfl, hO', ⟨_, _, rfl⟩, ?_⟩
      exact (((Below.refl base w).drew).grown HG4.out hbase (fun k hk => by cases hk; omega)).grown HG5.out (by have := HG4.out.size; exact Nat.le_trans hbase this) (fun k hk => by cases hk; omega)
    · go_enter Try.func56, Try.ntmps56
      go_wp2_with (first | (refine wpList_cp rfl (.tmp 43) (.tmp 44) 71 22 rfl 3 Try.underlying71 i0 1 hi hs w.heap.size (i) (n + 1 - i) (cap' - i) ⟨vb, 0, none⟩ 1 1 rfl rfl 3 (cap' * 1) ((n + 1) * 1) 1 (by omega) HR2.out HS1.out (by omega) (by omega) ?_; intro w2 hr2 hg2; have HR3 := Lib.hid hr2; have HG3 := Lib.hid hg2; clear hr2 hg2) | (refine wpList_appz rfl (.tmp 34) (.tmp 39) 71 3 rfl 3 i0 (.int .i64 0) 1 8 .i64 Try.underlying71 Try.underlying3 hi hz hs hby (by omega) (by omega) rfl HZ.out ⟨g, 0, none⟩ i c (n + 1 - i) (n + 1) _ rfl rfl (by omega) (by omega) (by omega) (by omega) HS0.out (by omega) ?_; intro cap' w' hc1' hc2' hr' hg' hz'; have HR2 := Lib.hid hr'; have HG2 := Lib.hid hg'; clear hr' hg'; have HS1 : Hid (∀ j, j < 1 * 1 → ∃ q, w'.cell? ((⟨vb, 0, none⟩ : Addr).add j) = some (Value.int .i64 q)) := fun j hj => (by rw [addr_add, Nat.zero_add, World.cell?_of_block (w := w) (HG2.out.block vb hvgl (by simp))]; exact HVR.out j hj)))
      have w2' : IntKind.i64.wrap (↑i + 1) = (i : Int) + 1 := IntWalk.i64_in _ (by omega)
      have w3' : ((i : Int) + 1).toNat = i + 1 := by omega
      have p1 : (0 : Int) ≤ (i : Int) + 1 := by omega
      have m1 : ¬ (cap' = i + 1) := by omega
      have m2 : ¬ (c = i) := by omega
      go_still_tail 8, (by kernel_rfl)
      change wpList _ _ _ _ _ w2.drew
      refine wpList_cp rfl (.tmp 50) (.tmp 53) 71 71 rfl 3 Try.underlying71 i0 1 hi hs w.heap.size (i + 1) (n - i) (cap' - (i + 1)) ⟨g, i, none⟩ (n - i) (c - i) rfl rfl 3 (cap' * 1) _ (n - i) (by omega) (HR3.out.of_block rfl) (fun j hj => ?_) (by omega) (by omega) ?_
      · rw [addr_add, World.cell?_drew, World.cell?_of_block (w := w') (HG3.out.block g (by omega) (by simp; omega)), World.cell?_of_block (w := w) (HG2.out.block g hgl (by simp))]
        exact HR.out.cell _ (by omega)
      intro w3 hr3 hg3
      have HR4 := Lib.hid hr3
      have HG4 := Lib.hid hg3
      clear hr3 hg3
      go_wp2
      go_ret
      obtain ⟨zs', hO'⟩ := HR4.out.own (base := base) (n := n + 1) rfl (by omega) (by omega) (by omega) hc2' (by omega)
      refine ⟨_, zs', rfl, hO', ⟨_, _, rfl⟩, ?_⟩
      exact ((((Below.refl base w).grown HG2.out (by omega) (by simp)).grown HG3.out (by omega) (fun k hk => by cases hk; omega)).drew).grown HG4.out (show base ≤ w2.drew.heap.size from (by have := HG3.out.size; omega : base ≤ w2.heap.size)) (fun k hk => by cases hk; omega)

set_option maxRecDepth 20000 in
set_option maxHeartbeats 800000 in
theorem ins71' (w : World) (base : Nat) (ad : Addr) (n c i : Nat) (zs : List Int) (vb : Nat) (hown : Own w base 67 2 (.slice (some ad) n c) n zs) (hin : i ≤ n)
    (ys : List Int) (hv : Own w base 67 2 (.slice (some ⟨vb, 0, none⟩) 1 1) 1 ys) (hne0 : ad.block ≠ vb ∨ n = 0) (hbase : base ≤ w.heap.size) (hb : (n + 1) * 16 ≤ 140737488355328) :
    Calls Try.prog 71 #[.slice (some ad) n c, .int .i64 i, .slice (some ⟨vb, 0, none⟩) 1 1] w fun e w' => InsPost base 67 2 (n + 1) w e w' := by
  obtain ⟨i0, hi, hz, hs, hby⟩ := info_parts Try.info67
  have hnc : n ≤ c := by
    rcases hown.2 with ⟨h0, a, e⟩ | ⟨g, cap, cur, e, h0, h1, h2, h3, _⟩
    · omega
    · cases e; exact h3
  have hc1 : c ≤ maxLen := by
    rcases hown.2 with ⟨h0, a, e⟩ | ⟨g, cap, cur, e, h0, h1, h2, h3, h4, _⟩
    · cases e; simp [maxLen]
    · cases e; exact h4
  unfold maxLen at hc1
  have HZ : Hid (∀ j, j < 2 → ∃ q, (Value.cells (.agg #[.int .i64 0, .int .i64 0]))[j]? = some (Value.int .i64 q)) := by
    intro j hj
    match j, hj with
    | 0, _ => exact ⟨0, rfl⟩
    | 1, _ => exact ⟨0, rfl⟩
  have HO := Lib.hid hown
  have HV := Lib.hid hv
  by_cases h : i = n
  · subst h
    clear hown hv hne0
    by_cases hci : i = c
    case' pos => subst hci
    all_goals
     go_enter Try.func71, Try.ntmps71
     go_wp2_with (refine wpList_app rfl (.tmp 23) (.tmp 24) 72 23 rfl base 67 67 i0 (.agg #[.int .i64 0, .int .i64 0]) 2 16 Try.underlying72 Try.underlying23 hi hz hs hby rfl (.slice (some ad) i _) i zs rfl HO.out (.slice (some ⟨vb, 0, none⟩) 1 1) 1 ys rfl HV.out.rd (by unfold maxLen; omega) (by omega) hbase ?_; intro v' w' hO hg hne; have HO2 := Lib.hid hO; have HG := Lib.hid hg; have HN := Lib.hid hne; clear hO hg hne)
     go_ret
     exact ⟨v', _, rfl, HO2.out, HO2.out.addr (HN.out (by simp)), grown_below HG.out hbase (fun k hk => (HO.out.lt k hk).1)⟩
  · have hlt : i < n := by omega
    have hne : ad.block ≠ vb := hne0.resolve_right (by omega)
    clear hne0
    obtain ⟨g, cap, e, h0, hbg, hgl, _, _, hrow⟩ := hown.row (by omega)
    cases e
    obtain ⟨vg, vcap, e, hv0, hvg, hvgl, _, _, hvrow⟩ := hv.row (by omega)
    cases e
    have hvrd : ∀ j, j < 1 * 2 → ∃ q, w.cell? ⟨vb, j, none⟩ = some (Value.int .i64 q) := fun j hj => hvrow.cell j (by omega)
    clear hown hv hnc
    have HR := Lib.hid hrow
    have HVW := Lib.hid hvrow
    have HVR := Lib.hid hvrd
    clear hrow hvrd hvrow
    have HS0 : Hid (∀ j, j < i * 2 → ∃ q, w.cell? ((⟨g, 0, none⟩ : Addr).add j) = some (Value.int .i64 q)) := fun j hj => by
      rw [addr_add, Nat.zero_add]; exact HR.out.cell j (by omega)
    have w1 : IntKind.i64.wrap (↑n + 1) = (n : Int) + 1 := IntWalk.i64_in _ (by omega)
    by_cases hc : n + 1 ≤ c
    · have hov : ∀ l d : Nat, (callFunc 76 #[.slice (some ⟨vb, 0, none⟩) 1 1, .slice (some ⟨g, (i + 1) * 2, none⟩) l d]).run Try.prog w = .ok (.value (.bool false)) w := by
        intro l d
        obtain ⟨cu, hcu, hcs, _, _⟩ := HR.out
        obtain ⟨cv, hcv, hvs, _, _⟩ := HVW.out
        rw [run_callFunc_extern Try.func76 (by kernel_rfl) (by kernel_rfl) (by kernel_rfl) (e := Extern.SlicesOverlaps.overlaps #[23, 23] #[4]) (by kernel_rfl),
          Lib.run_overlaps_apart w 23 4 67 Try.underlying23 2 (fun _ => by simp [sizeOf, typeInfo, hi, hs]) ⟨vb, 0, none⟩ ⟨g, (i + 1) * 2, none⟩ 1 1 l d (fun e => hne e.symm) 67 67 cv.size cu.size (by simp [World.shape?, hcv]) (by simp [World.shape?, hcu]) (by omega) (by simp [World.frozen?, hcv]) (by simp [World.frozen?, hcv])]
        rfl
      have HS1 : Hid (∀ j, j < 1 * 2 → ∃ q, w.cell? ((⟨vb, 0, none⟩ : Addr).add j) = some (Value.int .i64 q)) := fun j hj => by
        rw [addr_add, Nat.zero_add]; exact HVR.out j hj
      go_enter Try.func71, Try.ntmps71
      go_wp2
      have w2' : IntKind.i64.wrap (↑i + 1) = (i : Int) + 1 := IntWalk.i64_in _ (by omega)
      have w3' : ((i : Int) + 1).toNat = i + 1 := by omega
      have p1 : (0 : Int) ≤ (i : Int) + 1 := by omega
      have p2 : (i : Int) ≤ (n : Int) + 1 := by omega
      have m1 : ¬ (c = i + 1) := by omega
      have m2 : ¬ (c = i) := by omega
      go_still_tail 8, (by kernel_rfl)
      change wpList _ _ _ _ _ w.drew
      refine wpList_cp rfl (.tmp 73) (.tmp 76) 72 72 rfl 67 Try.underlying72 i0 2 hi hs g ((i + 1) * 2) (n - i) (c - (i + 1)) ⟨g, i * 2, none⟩ (n + 1 - i) (c - i) rfl rfl 67 (c * 2) _ (n - i) (by omega) (HR.out.of_block rfl) (fun j hj => ?_) (by omega) (by omega) ?_
      · rw [addr_add, World.cell?_drew]
        exact HR.out.cell _ (by omega)
      intro w3 hr3 hg3
      have HR4 := Lib.hid hr3
      have HG4 := Lib.hid hg3
      have HS2 : Hid (∀ j, j < 1 * 2 → ∃ q, w3.cell? ((⟨vb, 0, none⟩ : Addr).add j) = some (Value.int .i64 q)) := fun j hj => by
        rw [addr_add, Nat.zero_add, World.cell?_of_block (w := w) (HG4.out.block vb hvgl (by simp; omega))]; exact HVR.out j hj
      clear hr3 hg3 hov
      go_wp2_with (refine wpList_cp rfl (.tmp 80) (.tmp 81) 72 23 rfl 67 Try.underlying72 i0 2 hi hs g (i * 2) (n + 1 - i) (c - i) ⟨vb, 0, none⟩ 1 1 rfl rfl 67 (c * 2) _ 1 (by omega) HR4.out HS2.out (by omega) (by omega) ?_; intro w4 hr4 hg4; have HR5 := Lib.hid hr4; have HG5 := Lib.hid hg4; clear hr4 hg4)
      go_ret
      obtain ⟨zs', hO'⟩ := HR5.out.own (base := base) (n := n + 1) rfl (by omega) (by omega) (by omega) (by unfold maxLen; omega) (by omega)
      refine ⟨_, zs', rfl, hO', ⟨_, _, rfl⟩, ?_⟩
      exact (((Below.refl base w).drew).grown HG4.out hbase (fun k hk => by cases hk; omega)).grown HG5.out (by have := HG4.out.size; exact Nat.le_trans hbase this) (fun k hk => by cases hk; omega)
    · go_enter Try.func71, Try.ntmps71
      go_wp2_with (first | (refine wpList_cp rfl (.tmp 43) (.tmp 44) 72 23 rfl 67 Try.underlying72 i0 2 hi hs w.heap.size (i * 2) (n + 1 - i) (cap' - i) ⟨vb, 0, none⟩ 1 1 rfl rfl 67 (cap' * 2) ((n + 1) * 2) 1 (by omega) HR2.out HS1.out (by omega) (by omega) ?_; intro w2 hr2 hg2; have HR3 := Lib.hid hr2; have HG3 := Lib.hid hg2; clear hr2 hg2) | (refine wpList_appz rfl (.tmp 34) (.tmp 39) 72 3 rfl 67 i0 (.agg #[.int .i64 0, .int .i64 0]) 2 16 .i64 Try.underlying72 Try.underlying3 hi hz hs hby (by omega) (by omega) rfl HZ.out ⟨g, 0, none⟩ i c (n + 1 - i) (n + 1) _ rfl rfl (by omega) (by omega) (by omega) (by omega) HS0.out (by omega) ?_; intro cap' w' hc1' hc2' hr' hg' hz'; have HR2 := Lib.hid hr'; have HG2 := Lib.hid hg'; clear hr' hg'; have HS1 : Hid (∀ j, j < 1 * 2 → ∃ q, w'.cell? ((⟨vb, 0, none⟩ : Addr).add j) = some (Value.int .i64 q)) := fun j hj => (by rw [addr_add, Nat.zero_add, World.cell?_of_block (w := w) (HG2.out.block vb hvgl (by simp))]; exact HVR.out j hj)))
      have w2' : IntKind.i64.wrap (↑i + 1) = (i : Int) + 1 := IntWalk.i64_in _ (by omega)
      have w3' : ((i : Int) + 1).toNat = i + 1 := by omega
      have p1 : (0 : Int) ≤ (i : Int) + 1 := by omega
      have m1 : ¬ (cap' = i + 1) := by omega
      have m2 : ¬ (c = i) := by omega
      go_still_tail 8, (by kernel_rfl)
      change wpList _ _ _ _ _ w2.drew
      refine wpList_cp rfl (.tmp 50) (.tmp 53) 72 72 rfl 67 Try.underlying72 i0 2 hi hs w.heap.size ((i + 1) * 2) (n - i) (cap' - (i + 1)) ⟨g, i * 2, none⟩ (n - i) (c - i) rfl rfl 67 (cap' * 2) _ (n - i) (by omega) (HR3.out.of_block rfl) (fun j hj => ?_) (by omega) (by omega) ?_
      · rw [addr_add, World.cell?_drew, World.cell?_of_block (w := w') (HG3.out.block g (by omega) (by simp; omega)), World.cell?_of_block (w := w) (HG2.out.block g hgl (by simp))]
        exact HR.out.cell _ (by omega)
      intro w3 hr3 hg3
      have HR4 := Lib.hid hr3
      have HG4 := Lib.hid hg3
      clear hr3 hg3
      go_wp2
      go_ret
      obtain ⟨zs', hO'⟩ := HR4.out.own (base := base) (n := n + 1) rfl (by omega) (by omega) (by omega) hc2' (by omega)
      refine ⟨_, zs', rfl, hO', ⟨_, _, rfl⟩, ?_⟩
      exact ((((Below.refl base w).grown HG2.out (by omega) (by simp)).grown HG3.out (by omega) (fun k hk => by cases hk; omega)).drew).grown HG4.out (show base ≤ w2.drew.heap.size from (by have := HG3.out.size; omega : base ≤ w2.heap.size)) (fun k hk => by cases hk; omega)

end Go.Proofs.Ytkibdolpapaflaa
