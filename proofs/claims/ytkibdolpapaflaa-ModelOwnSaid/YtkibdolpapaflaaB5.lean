import Derived.Test.YtkibdolpapaflaaB4
namespace Go.Proofs.Ytkibdolpapaflaa
open Go.RowKit

/-- 'append(s, x...)' within the capacity of a row of integers. -/
theorem wpList_appr {P : Program} {w : World} {ops : Array Oper} {rest : List Oper} {o : Oper} {a : Act} {Q : Exit → Act → World → Prop} (hgd : o.guard = none) (s x : Operand) (t : TypeId)
    (ho : o.op = .call { callee := .builtin .append, args := #[s, x], argTypes := #[t, t] }) (e : TypeId) (i : TypeInfo) (size : Nat)
    (ht : P.underlying t = some (.slice e)) (hi : P.info? e = some i) (hsize : i.size = size)
    (g n c L M tot : Nat) (ad : Addr) (m d : Nat) (hs : a.eval s = .slice (some ⟨g, 0, none⟩) n c) (hx : a.eval x = .slice (some ad) m d) (htot : n + m = tot) (hroom : tot ≤ c)
    (hrow : IntRow w g e L M) (hL : L = c * size) (hM : n * size ≤ M)
    (hsrc : ∀ j, j < m * size → ∃ q, w.cell? (ad.add j) = some (Value.int .i64 q))
    (h : ∀ w', IntRow w' g e L (max M (tot * size)) → w.grownBy w' (some g) → wpList P ops Q rest (a.put o.dst (.slice (some ⟨g, 0, none⟩) tot c)) w') : wpList P ops Q (o :: rest) a w := by
  obtain ⟨cs, hl, hint, hcs⟩ := cells_list _ hsrc
  subst htot
  subst hsize
  have hfit : n * i.size + cs.length ≤ L := by rw [hl, hL, ← Nat.add_mul]; exact Nat.mul_le_mul_right _ hroom
  obtain ⟨cur, hg, hcz, hrow'⟩ := hrow.splice (n * i.size) cs hint hfit hM
  have hr := run_append_room (P := P) w t o.type e i ht hi g n c cur hg ad m d cs hl hcs (fun u hu => by obtain ⟨z, rfl⟩ := hint u hu; rfl) hroom (by omega)
  have hmul : n * i.size + m * i.size = (n + m) * i.size := (Nat.add_mul _ _ _).symm
  refine Lib.wpList_append_run w hgd s x t t ho _ _ hs hx _ _ hr (h _ ?_ (grown_setRow _ _ _))
  have : n * i.size + cs.length = (n + m) * i.size := by rw [hl]; exact hmul
  rw [← this]
  exact hrow'

def DelPost (base E sz n : Nat) (w : World) (e : Ending) (w' : World) : Prop := InsPost base E sz n w e w'

set_option maxRecDepth 20000 in
set_option maxHeartbeats 800000 in
theorem del59 (w : World) (base : Nat) (ad : Addr) (n c i : Nat) (zs : List Int) (hown : Own w base 3 1 (.slice (some ad) n c) n zs) (hin : i < n)
    (hbase : base ≤ w.heap.size) (hb : n * 8 ≤ 140737488355328) :
    Calls Try.prog 59 #[.slice (some ad) n c, .int .i64 i, .int .i64 (i + 1)] w fun e w' => InsPost base 3 1 (n - 1) w e w' := by
  obtain ⟨i0, hi, hz, hs, hby⟩ := info_parts Try.info3
  have HZ : Hid (∀ j, j < 1 → ∃ q, (Value.cells (.int .i64 0))[j]? = some (Value.int .i64 q)) := by
    intro j hj
    match j, hj with
    | 0, _ => exact ⟨0, rfl⟩
  obtain ⟨g, cap, e, h0, hbg, hgl, hnc, hc1, hrow⟩ := hown.row (by omega)
  cases e
  unfold maxLen at hc1
  have HR := Lib.hid hrow
  clear hrow hown
  have HS0 : Hid (∀ j, j < (n - (i + 1)) * 1 → ∃ q, w.drew.cell? ((⟨g, i + 1, none⟩ : Addr).add j) = some (Value.int .i64 q)) := fun j hj => by
    rw [addr_add, World.cell?_drew]; exact HR.out.cell _ (by omega)
  have m0 : ¬ ((i : Int) = (i : Int) + 1) := by omega
  by_cases hci : c = i + 1
  · have hn : n = i + 1 := by omega
    subst hn
    subst hci
    go_enter Try.func59, Try.ntmps59
    go_wp2
    have w3' : ((i : Int) + 1).toNat = i + 1 := by omega
    have p1 : (0 : Int) ≤ (i : Int) + 1 := by omega
    have p3 : (i : Int) ≤ (i : Int) + 1 := by omega
    go_still_tail 6, (by kernel_rfl)
    change wpList _ _ _ _ _ w.drew
    refine wpList_appr rfl (.tmp 22) (.tmp 25) 71 rfl 3 i0 1 Try.underlying71 hi hs g i (i + 1) _ _ i ⟨g, 0, none⟩ 0 _ rfl rfl (by omega) (by omega) (HR.out.of_block rfl) (by omega) (by omega) (fun j hj => by omega) ?_
    intro w3 hr3 hg3
    have HR4 := Lib.hid hr3
    have HG4 := Lib.hid hg3
    clear hr3 hg3
    go_wp2_with (refine wpList_clr rfl (.tmp 31) 71 rfl 3 Try.underlying71 i0 (.int .i64 0) 1 hi hz rfl (by omega) HZ.out g (i) 1 _ rfl (by omega) 3 ((i + 1) * 1) _ HR4.out (by omega) (by omega) ?_; intro w4 hr4 hg4; have HR5 := Lib.hid hr4; have HG5 := Lib.hid hg4; clear hr4 hg4)
    go_ret
    obtain ⟨zs', hO'⟩ := HR5.out.own (base := base) (n := i) rfl (by omega) (by omega) (by omega) (by unfold maxLen; omega) (by omega)
    refine ⟨_, zs', rfl, hO', ⟨_, _, rfl⟩, ?_⟩
    exact (((Below.refl base w).drew).grown HG4.out hbase (fun k hk => by cases hk; omega)).grown HG5.out (by have := HG4.out.size; exact Nat.le_trans hbase this) (fun k hk => by cases hk; omega)
  · obtain ⟨k, rfl⟩ : ∃ k, n = k + 1 := ⟨n - 1, by omega⟩
    have HS0 : Hid (∀ j, j < (k - i) * 1 → ∃ q, w.drew.cell? ((⟨g, i + 1, none⟩ : Addr).add j) = some (Value.int .i64 q)) := fun j hj => HS0.out j (by omega)
    go_enter Try.func59, Try.ntmps59
    go_wp2
    have w3' : ((i : Int) + 1).toNat = i + 1 := by omega
    have p1 : (0 : Int) ≤ (i : Int) + 1 := by omega
    have p2 : (i : Int) + 1 ≤ (k : Int) + 1 := by omega
    have p3 : (i : Int) ≤ (c : Int) := by omega
    go_still_tail 6, (by kernel_rfl)
    change wpList _ _ _ _ _ w.drew
    refine wpList_appr rfl (.tmp 22) (.tmp 25) 71 rfl 3 i0 1 Try.underlying71 hi hs g i c _ _ k ⟨g, i + 1, none⟩ (k - i) _ rfl rfl (by omega) (by omega) (HR.out.of_block rfl) (by omega) (by omega) HS0.out ?_
    intro w3 hr3 hg3
    have HR4 := Lib.hid hr3
    have HG4 := Lib.hid hg3
    clear hr3 hg3
    go_wp2_with (refine wpList_clr rfl (.tmp 31) 71 rfl 3 Try.underlying71 i0 (.int .i64 0) 1 hi hz rfl (by omega) HZ.out g (k) 1 _ rfl (by omega) 3 (c * 1) _ HR4.out (by omega) (by omega) ?_; intro w4 hr4 hg4; have HR5 := Lib.hid hr4; have HG5 := Lib.hid hg4; clear hr4 hg4)
    go_ret
    obtain ⟨zs', hO'⟩ := HR5.out.own (base := base) (n := k) rfl (by omega) (by omega) (by omega) (by unfold maxLen; omega) (by omega)
    refine ⟨_, zs', rfl, hO', ⟨_, _, rfl⟩, ?_⟩
    exact (((Below.refl base w).drew).grown HG4.out hbase (fun k hk => by cases hk; omega)).grown HG5.out (by have := HG4.out.size; exact Nat.le_trans hbase this) (fun k hk => by cases hk; omega)

set_option maxRecDepth 20000 in
set_option maxHeartbeats 800000 in
theorem del73 (w : World) (base : Nat) (ad : Addr) (n c i : Nat) (zs : List Int) (hown : Own w base 67 2 (.slice (some ad) n c) n zs) (hin : i < n)
    (hbase : base ≤ w.heap.size) (hb : n * 16 ≤ 140737488355328) :
    Calls Try.prog 73 #[.slice (some ad) n c, .int .i64 i, .int .i64 (i + 1)] w fun e w' => InsPost base 67 2 (n - 1) w e w' := by
  obtain ⟨i0, hi, hz, hs, hby⟩ := info_parts Try.info67
  have HZ : Hid (∀ j, j < 2 → ∃ q, (Value.cells (.agg #[.int .i64 0, .int .i64 0]))[j]? = some (Value.int .i64 q)) := by
    intro j hj
    match j, hj with
    | 0, _ => exact ⟨0, rfl⟩
    | 1, _ => exact ⟨0, rfl⟩
  obtain ⟨g, cap, e, h0, hbg, hgl, hnc, hc1, hrow⟩ := hown.row (by omega)
  cases e
  unfold maxLen at hc1
  have HR := Lib.hid hrow
  clear hrow hown
  have HS0 : Hid (∀ j, j < (n - (i + 1)) * 2 → ∃ q, w.drew.cell? ((⟨g, (i + 1) * 2, none⟩ : Addr).add j) = some (Value.int .i64 q)) := fun j hj => by
    rw [addr_add, World.cell?_drew]; exact HR.out.cell _ (by omega)
  have m0 : ¬ ((i : Int) = (i : Int) + 1) := by omega
  by_cases hci : c = i + 1
  · have hn : n = i + 1 := by omega
    subst hn
    subst hci
    go_enter Try.func73, Try.ntmps73
    go_wp2
    have w3' : ((i : Int) + 1).toNat = i + 1 := by omega
    have p1 : (0 : Int) ≤ (i : Int) + 1 := by omega
    have p3 : (i : Int) ≤ (i : Int) + 1 := by omega
    go_still_tail 6, (by kernel_rfl)
    change wpList _ _ _ _ _ w.drew
    refine wpList_appr rfl (.tmp 22) (.tmp 25) 72 rfl 67 i0 2 Try.underlying72 hi hs g i (i + 1) _ _ i ⟨g, 0, none⟩ 0 _ rfl rfl (by omega) (by omega) (HR.out.of_block rfl) (by omega) (by omega) (fun j hj => by omega) ?_
    intro w3 hr3 hg3
    have HR4 := Lib.hid hr3
    have HG4 := Lib.hid hg3
    clear hr3 hg3
    go_wp2_with (refine wpList_clr rfl (.tmp 31) 72 rfl 67 Try.underlying72 i0 (.agg #[.int .i64 0, .int .i64 0]) 2 hi hz rfl (by omega) HZ.out g (i * 2) 1 _ rfl (by omega) 67 ((i + 1) * 2) _ HR4.out (by omega) (by omega) ?_; intro w4 hr4 hg4; have HR5 := Lib.hid hr4; have HG5 := Lib.hid hg4; clear hr4 hg4)
    go_ret
    obtain ⟨zs', hO'⟩ := HR5.out.own (base := base) (n := i) rfl (by omega) (by omega) (by omega) (by unfold maxLen; omega) (by omega)
    refine ⟨_, zs', rfl, hO', ⟨_, _, rfl⟩, ?_⟩
    exact (((Below.refl base w).drew).grown HG4.out hbase (fun k hk => by cases hk; omega)).grown HG5.out (by have := HG4.out.size; exact Nat.le_trans hbase this) (fun k hk => by cases hk; omega)
  · obtain ⟨k, rfl⟩ : ∃ k, n = k + 1 := ⟨n - 1, by omega⟩
    have HS0 : Hid (∀ j, j < (k - i) * 2 → ∃ q, w.drew.cell? ((⟨g, (i + 1) * 2, none⟩ : Addr).add j) = some (Value.int .i64 q)) := fun j hj => HS0.out j (by omega)
    go_enter Try.func73, Try.ntmps73
    go_wp2
    have w3' : ((i : Int) + 1).toNat = i + 1 := by omega
    have p1 : (0 : Int) ≤ (i : Int) + 1 := by omega
    have p2 : (i : Int) + 1 ≤ (k : Int) + 1 := by omega
    have p3 : (i : Int) ≤ (c : Int) := by omega
    go_still_tail 6, (by kernel_rfl)
    change wpList _ _ _ _ _ w.drew
    refine wpList_appr rfl (.tmp 22) (.tmp 25) 72 rfl 67 i0 2 Try.underlying72 hi hs g i c _ _ k ⟨g, (i + 1) * 2, none⟩ (k - i) _ rfl rfl (by omega) (by omega) (HR.out.of_block rfl) (by omega) (by omega) HS0.out ?_
    intro w3 hr3 hg3
    have HR4 := Lib.hid hr3
    have HG4 := Lib.hid hg3
    clear hr3 hg3
    go_wp2_with (refine wpList_clr rfl (.tmp 31) 72 rfl 67 Try.underlying72 i0 (.agg #[.int .i64 0, .int .i64 0]) 2 hi hz rfl (by omega) HZ.out g (k * 2) 1 _ rfl (by omega) 67 (c * 2) _ HR4.out (by omega) (by omega) ?_; intro w4 hr4 hg4; have HR5 := Lib.hid hr4; have HG5 := Lib.hid hg4; clear hr4 hg4)
    go_ret
    obtain ⟨zs', hO'⟩ := HR5.out.own (base := base) (n := k) rfl (by omega) (by omega) (by omega) (by unfold maxLen; omega) (by omega)
    refine ⟨_, zs', rfl, hO', ⟨_, _, rfl⟩, ?_⟩
    exact (((Below.refl base w).drew).grown HG4.out hbase (fun k hk => by cases hk; omega)).grown HG5.out (by have := HG4.out.size; exact Nat.le_trans hbase this) (fun k hk => by cases hk; omega)

end Go.Proofs.Ytkibdolpapaflaa
