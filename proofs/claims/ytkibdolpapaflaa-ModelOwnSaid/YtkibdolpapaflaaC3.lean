import Derived.Test.YtkibdolpapaflaaC2
namespace Go.Proofs.Ytkibdolpapaflaa
open Go.RowKit

def SZ (k : Nat) (op arg : Int) (zs zs' : List Int) : Prop := k = 2 → (op = 30 → zs' = arg :: zs) ∧ (op ≠ 30 → ∀ x r, zs = x :: r → zs' = r)
def SA (k : Nat) (op : Int) (zs : List Int) (ak av : Int) : Prop := k = 2 → (op = 30 → ak = 1 ∧ av = 0) ∧ (op ≠ 30 → ∀ x r, zs = x :: r → ak = 2 ∧ av = x)

theorem DoPost.imp {T E sz b n : Nat} {v : Value} {S S' : List Int → Int → Int → Prop} {w w' : World} {e : Ending} (h : DoPost T E sz b n v S w e w') (hS : ∀ z a c, S z a c → S' z a c) : DoPost T E sz b n v S' w e w' := by
  obtain ⟨v', n', zs', ak, av, h1, h2, h3, h4, h5, h6, h7⟩ := h
  exact ⟨v', n', zs', ak, av, h1, h2, h3, h4, h5, h6, hS _ _ _ h7⟩

theorem do_any (w : World) (b : Nat) (ad : Addr) (n c : Nat) (zs : List Int) (k : Nat) (op arg data : Int) (hk : 1 ≤ k) (hk5 : k ≤ 5) (hown : Own w b (ety (k - 1)) (esz (k - 1)) (.slice (some ad) n c) n zs) (hb : b ≤ w.heap.size) (hsz : (n + 1) * (8 * esz (k - 1)) ≤ 140737488355328) :
    Calls Try.prog (doF (k - 1)) #[.slice (some ad) n c, .int .i64 op, .int .i64 arg, .int .i64 data] w fun e w' => DoPost (67 + k) (ety (k - 1)) (esz (k - 1)) b n (.slice (some ad) n c) (fun zs' ak av => SZ k op arg zs zs' ∧ SA k op zs ak av) w e w' := by
  match k, hk, hk5 with
  | 1, _, _ => exact (do42 w b ad n c zs op arg data hown hb).mono fun e w' h => h.imp fun _ _ _ _ => ⟨fun h => by omega, fun h => by omega⟩
  | 2, _, _ => exact (do46 w b ad n c zs op arg data hown hb (by simpa [esz] using hsz)).mono fun e w' h => h.imp fun z a c h => ⟨fun _ => ⟨fun h30 => (h.1 h30).1, fun hn x r hz => (h.2 hn x r hz).1⟩, fun _ => ⟨fun h30 => (h.1 h30).2, fun hn x r hz => (h.2 hn x r hz).2⟩⟩
  | 3, _, _ => exact (do49 w b ad n c zs op arg data hown hb (by simpa [esz] using hsz)).mono fun e w' h => h.imp fun _ _ _ _ => ⟨fun h => by omega, fun h => by omega⟩
  | 4, _, _ => exact (do52 w b ad n c zs op arg data hown hb (by simpa [esz] using hsz)).mono fun e w' h => h.imp fun _ _ _ _ => ⟨fun h => by omega, fun h => by omega⟩
  | 5, _, _ => exact (do67 w b ad n c zs op arg data hown hb (by simpa [esz] using hsz)).mono fun e w' h => h.imp fun _ _ _ _ => ⟨fun h => by omega, fun h => by omega⟩

theorem wp_call {P : Program} {w : World} {o : Oper} {a : Act} {K : Act → World → Prop} {Q : Exit → Act → World → Prop} {f : FuncId} {args : Array Value}
    (h : (execOp a.eval o).run P w = .ok (.enter f args) w) (hc : Calls P f args w fun e w' => ∃ v, e = .returned v ∧ K (a.put o.dst v) w') : o.wp P a w K Q := by
  unfold Oper.wp
  rw [h]
  exact hc.mono fun e w' ⟨v, he, hk⟩ => by subst he; exact hk

def ResZ (X : World) (b E sz n k : Nat) (op arg : Int) (zs : List Int) (v v' : Value) (n' : Nat) (zs' : List Int) (ws : World) : Prop :=
  Own ws b E sz v' n' zs' ∧ n' ≤ n + 1 ∧ (∃ ad c, v' = .slice (some ad) n' c) ∧ (v' = v ∨ Own ws X.heap.size E sz v' n' zs') ∧ SZ k op arg zs zs'

theorem ResZ.mono {X : World} {b E sz n k : Nat} {op arg : Int} {zs : List Int} {v v' : Value} {n' : Nat} {zs' : List Int} {w w' : World} (h : ResZ X b E sz n k op arg zs v v' n' zs' w) (hB : Below w.heap.size w w') : ResZ X b E sz n k op arg zs v v' n' zs' w' :=
  ⟨h.1.below hB, h.2.1, h.2.2.1, h.2.2.2.1.imp id (fun h => h.below hB), h.2.2.2.2⟩

def phiDo (X : World) (b E sz n k : Nat) (op arg data : Int) (zs : List Int) (u : Nat → Value) (i : Nat) (x : Value) (ws : World) : Prop :=
  match i with
  | 0 => x = .agg #[u 0, u 1, u 2, u 3, u 4]
  | 1 => x = .int .i64 op
  | 2 => x = .int .i64 k
  | 3 => x = .iface (67 + k) (u (k - 1))
  | 4 => x = .int .i64 op
  | 5 => x = .int .i64 arg
  | 6 => x = .int .i64 data
  | 7 => ∃ v' n' zs' ak av, x = .tuple #[.iface (67 + k) v', .agg #[.int .i64 ak, .int .i64 av]] ∧ ResZ X b E sz n k op arg zs (u (k - 1)) v' n' zs' ws ∧ SA k op zs ak av
  | 8 => ∃ v' n' zs' ak av, x = .tuple #[.iface (67 + k) v', .agg #[.int .i64 ak, .int .i64 av]] ∧ ResZ X b E sz n k op arg zs (u (k - 1)) v' n' zs' ws ∧ SA k op zs ak av
  | 9 => ∃ v' n' zs', x = .iface (67 + k) v' ∧ ResZ X b E sz n k op arg zs (u (k - 1)) v' n' zs' ws
  | 12 => ∃ v' n' zs', x = .iface (67 + k) v' ∧ ResZ X b E sz n k op arg zs (u (k - 1)) v' n' zs' ws
  | 10 => ∃ ak av, x = .agg #[.int .i64 ak, .int .i64 av] ∧ SA k op zs ak av
  | _ => ∃ (A : Nat) (p q : Int), x = .pointer (some ⟨A, 0, none⟩) ∧ X.heap.size ≤ A ∧ ws.heap[A]? = some (.cells #[.int .i64 p, .int .i64 q] 33 (0, 0))

theorem phiDo_mono {X : World} {b E sz n k : Nat} {op arg data : Int} {zs : List Int} {u : Nat → Value} {i : Nat} {x : Value} {w w' : World} (h : phiDo X b E sz n k op arg data zs u i x w) (hB : Below w.heap.size w w') : phiDo X b E sz n k op arg data zs u i x w' := by
  unfold phiDo at h ⊢
  split at h
  all_goals first
    | exact h
    | (obtain ⟨v', n', zs', ak, av, h1, h2, h3⟩ := h; exact ⟨v', n', zs', ak, av, h1, h2.mono hB, h3⟩)
    | (obtain ⟨v', n', zs', h1, h2⟩ := h; exact ⟨v', n', zs', h1, h2.mono hB⟩)
    | (obtain ⟨A, p, q, h1, h2, h3⟩ := h; exact ⟨A, p, q, h1, h2, by rw [hB.block _ (Array.getElem?_eq_some_iff.1 h3).1]; exact h3⟩)

theorem arr40 (t : Array Value) (h : t.size = 40) : ∃ x0 x1 x2 x3 x4 x5 x6 x7 x8 x9 x10 x11 x12 x13 x14 x15 x16 x17 x18 x19 x20 x21 x22 x23 x24 x25 x26 x27 x28 x29 x30 x31 x32 x33 x34 x35 x36 x37 x38 x39 : Value, t = #[x0, x1, x2, x3, x4, x5, x6, x7, x8, x9, x10, x11, x12, x13, x14, x15, x16, x17, x18, x19, x20, x21, x22, x23, x24, x25, x26, x27, x28, x29, x30, x31, x32, x33, x34, x35, x36, x37, x38, x39] := by
  obtain ⟨l⟩ := t
  match l, h with
  | x0 :: x1 :: x2 :: x3 :: x4 :: x5 :: x6 :: x7 :: x8 :: x9 :: x10 :: x11 :: x12 :: x13 :: x14 :: x15 :: x16 :: x17 :: x18 :: x19 :: x20 :: x21 :: x22 :: x23 :: x24 :: x25 :: x26 :: x27 :: x28 :: x29 :: x30 :: x31 :: x32 :: x33 :: x34 :: x35 :: x36 :: x37 :: x38 :: x39 :: [], _ => exact ⟨x0, x1, x2, x3, x4, x5, x6, x7, x8, x9, x10, x11, x12, x13, x14, x15, x16, x17, x18, x19, x20, x21, x22, x23, x24, x25, x26, x27, x28, x29, x30, x31, x32, x33, x34, x35, x36, x37, x38, x39, rfl⟩

theorem Own.ne_of_type {w : World} {base e size : Nat} {v : Value} {n : Nat} {zs : List Int} (h : Own w base e size v n zs) {A : Nat} {cs : Array Value} {T : TypeId} {fr : Nat × Nat} (hA : w.heap[A]? = some (.cells cs T fr)) (hne : e ≠ T) : ∀ g, blk v = some g → g ≠ A := by
  intro g hg e'
  subst e'
  rcases h.2 with ⟨_, a, rfl⟩ | ⟨g', cap, cur, rfl, h0, h1, h2, r⟩
  · cases a <;> simp [blk] at hg
  · cases cap with
    | zero => omega
    | succ c =>
      simp [blk] at hg
      subst hg
      rw [h2] at hA
      simp at hA
      exact hne hA.2.1

theorem ety_ne (i : Nat) : ety i ≠ 33 ∧ ety i ≠ 25 := by unfold ety; split <;> exact ⟨by omega, by omega⟩

def updV (k : Nat) (x : Value) (u : Nat → Value) (i : Nat) : Value := if i = k then x else u i
def updN (k n : Nat) (u : Nat → Nat) (i : Nat) : Nat := if i = k then n else u i
def updZ (k : Nat) (z : List Int) (u : Nat → List Int) (i : Nat) : List Int := if i = k then z else u i

theorem setU {w : World} {B : Nat} (k : Nat) (hk : k < 5) (u : Nat → Value) (h : w.heap[B]? = some (.cells #[u 0, u 1, u 2, u 3, u 4] 25 (0, 0))) (x : Value) :
    (w.setCell ⟨B, k, none⟩ x).heap[B]? = some (.cells #[updV k x u 0, updV k x u 1, updV k x u 2, updV k x u 3, updV k x u 4] 25 (0, 0)) := by
  rw [setCell_eq_setRow w B k _ 25 (0, 0) x h, setRow_heap w B _ _ 25 (0, 0) h]
  match k, hk with
  | 0, _ => rfl
  | 1, _ => rfl
  | 2, _ => rfl
  | 3, _ => rfl
  | 4, _ => rfl

def DoRes (w : World) (n : Nat → Nat) (z : Nat → List Int) (k : Nat) (op arg : Int) (e : Ending) (w' : World) : Prop :=
  ∃ (u : Nat → Value) (n' : Nat → Nat) (z' : Nat → List Int) (ak av : Int), e = .returned (.tuple #[.agg #[u 0, u 1, u 2, u 3, u 4], .agg #[.int .i64 ak, .int .i64 av], .int .i64 0]) ∧ COwn w' w.heap.size u n' z' ∧
    (∀ i, i < 5 → n' i ≤ n i + 1) ∧ (∀ i, i < 5 → i ≠ k - 1 → n' i = n i ∧ z' i = z i) ∧ SZ k op arg (z 1) (z' 1) ∧ SA k op (z 1) ak av ∧ Below w.heap.size w w'

set_option maxRecDepth 20000 in
set_option maxHeartbeats 1000000 in
theorem do7 (w : World) (v : Nat → Value) (n : Nat → Nat) (z : Nat → List Int) (op arg data : Int) (k : Nat) (hk : 1 ≤ k) (hk5 : k ≤ 5) (hop : objOf op = k) (hr : ∀ i, i < 5 → Rd w (v i) (esz i) (n i) (z i)) (hb : ∀ i, i < 5 → (n i + 1) * (8 * esz i) ≤ 140737488355328) (hm : MayP n z) :
    Calls Try.prog 7 #[.agg #[v 0, v 1, v 2, v 3, v 4], .int .i64 op, .int .i64 arg, .int .i64 data] w fun e w' => DoRes w n z k op arg e w' := by
  have hb1 : ∀ i, i < 5 → n i * (8 * esz i) ≤ 140737488355328 := fun i hi => Nat.le_trans (Nat.mul_le_mul_right _ (by omega)) (hb i hi)
  have hne : objOf op ≠ 0 := by omega
  let W0 := ((w.alloc (.cells #[v 0, v 1, v 2, v 3, v 4] 25)).alloc (.cells #[.slice none 0 0, .slice none 0 0, .slice none 0 0, .slice none 0 0, .slice none 0 0] 25)).alloc (.cells #[.int .i64 0, .int .i64 0] 33)
  have hBW : Below w.heap.size w W0 := (((Below.refl _ _).alloc (Nat.le_refl _) _).alloc (by simp) _).alloc (by simp; omega) _
  have hW0 : W0.heap[w.heap.size]? = some (.cells #[v 0, v 1, v 2, v 3, v 4] 25 (0, 0)) := by
    rw [Below.heap_alloc _ _ _ (by simp; omega), Below.heap_alloc _ _ _ (by simp)]
    exact heap_alloc_new w _
  have hW1 : W0.heap[w.heap.size + 1]? = some (.cells #[.slice none 0 0, .slice none 0 0, .slice none 0 0, .slice none 0 0, .slice none 0 0] 25 (0, 0)) := by
    rw [Below.heap_alloc _ _ _ (by simp), show w.heap.size + 1 = (w.alloc (.cells #[v 0, v 1, v 2, v 3, v 4] 25)).heap.size from by simp]
    exact heap_alloc_new _ _
  have hW2 : W0.heap[w.heap.size + 2]? = some (.cells #[.int .i64 0, .int .i64 0] 33 (0, 0)) := by
    rw [show w.heap.size + 2 = ((w.alloc (.cells #[v 0, v 1, v 2, v 3, v 4] 25)).alloc (.cells #[.slice none 0 0, .slice none 0 0, .slice none 0 0, .slice none 0 0, .slice none 0 0] 25)).heap.size from by simp]
    exact heap_alloc_new _ _
  have hWs : W0.heap.size = w.heap.size + 3 := by simp [W0]
  have HW0 := Lib.hid hW0
  have HW1 := Lib.hid hW1
  have HW2 := Lib.hid hW2
  have HWs := Lib.hid hWs
  have HBW := Lib.hid hBW
  have HRF := Lib.hid (refused19 W0 v n z op (fun i hi => (hr i hi).below hBW) hb1 hm hne)
  have HR := Lib.hid hr
  have HBD := Lib.hid hb1
  have HB1 := Lib.hid hb
  have HOP := Lib.hid hop
  clear hr hb hb1 hm hne hop hW0 hW1 hW2 hWs hBW
  go_enter Try.func7, Try.ntmps7
  go_wp2_with fail
  refine HRF.out.mono ?_
  rintro e w1 ⟨rfl, hB⟩
  have x0 := cell_facts ((hB.block _ (by have := HWs.out; omega)).trans HW0.out) 0 _ rfl
  have x1 := cell_facts ((hB.block _ (by have := HWs.out; omega)).trans HW0.out) 1 _ rfl
  have x2 := cell_facts ((hB.block _ (by have := HWs.out; omega)).trans HW0.out) 2 _ rfl
  have x3 := cell_facts ((hB.block _ (by have := HWs.out; omega)).trans HW0.out) 3 _ rfl
  have x4 := cell_facts ((hB.block _ (by have := HWs.out; omega)).trans HW0.out) 4 _ rfl
  have HBa := Lib.hid hB
  clear hB HRF
  go_wp2_with fail
  refine (copied_any _ v n z (fun i hi => ((HR.out i hi).below HBW.out).below HBa.out) HBD.out).mono ?_
  rintro e w2 ⟨u, rfl, hC, hn, hB2⟩
  have HC := Lib.hid hC
  have HN := Lib.hid hn
  have HBb := Lib.hid hB2
  clear hC hn hB2 x0 x1 x2 x3 x4
  have hcs : ∀ i, i < 5 → ∃ ad c, u i = .slice (some ad) (n i) c := fun i hi => (HC.out.own i hi).addr (HN.out i hi)
  have HCS := Lib.hid hcs
  clear hcs
  have hall := HC.out.one
  have hLn : (w2.alloc (.cells #[.slice none 0 0, .slice none 0 0, .slice none 0 0, .slice none 0 0, .slice none 0 0] 25)).heap[w2.heap.size]? = some (.cells #[.slice none 0 0, .slice none 0 0, .slice none 0 0, .slice none 0 0, .slice none 0 0] 25 (0, 0)) := heap_alloc_new w2 _
  go_wp2_with (refine wpList_store_row rfl 25 (.tmp 12) (.tmp 24) rfl w2.heap.size #[u 0, u 1, u 2, u 3, u 4] rfl rfl 25 _ hLn (by kernel_rfl) rfl hall ?_)
  have hX0 := setRow_heap _ _ _ #[u 0, u 1, u 2, u 3, u 4] _ _ hLn
  have hXB : Below w2.heap.size w2 ((w2.alloc (.cells #[.slice none 0 0, .slice none 0 0, .slice none 0 0, .slice none 0 0, .slice none 0 0] 25)).setRow w2.heap.size #[u 0, u 1, u 2, u 3, u 4]) := below_setRow ((Below.refl _ _).alloc (Nat.le_refl _) _) (Nat.le_refl _) _
  have hXs : ((w2.alloc (.cells #[.slice none 0 0, .slice none 0 0, .slice none 0 0, .slice none 0 0, .slice none 0 0] 25)).setRow w2.heap.size #[u 0, u 1, u 2, u 3, u 4]).heap.size = w2.heap.size + 1 := by simp [World.setRow]
  generalize (w2.alloc (.cells #[.slice none 0 0, .slice none 0 0, .slice none 0 0, .slice none 0 0, .slice none 0 0] 25)).setRow w2.heap.size #[u 0, u 1, u 2, u 3, u 4] = X at *
  have HX0 := Lib.hid hX0
  have HXB := Lib.hid hXB
  have HXs := Lib.hid hXs
  clear hX0 hXB hXs hLn hall
  have hL : w2.heap.size < X.heap.size := by have := HXs.out; omega
  obtain ⟨adk, ck, huk⟩ := HCS.out (k - 1) (by omega)
  have HOK : Hid (Own X W0.heap.size (ety (k - 1)) (esz (k - 1)) (.slice (some adk) (n (k - 1)) ck) (n (k - 1)) (z (k - 1))) := by
    have := (((HC.out.own (k - 1) (by omega)).below HXB.out).mono HBa.out.size)
    rw [huk] at this
    exact this
  have HUK := Lib.hid huk
  clear huk
  have pm := fun w => do_method k hk hk5 (some adk) (n (k - 1)) ck w
  have pc := fun args w => do_call k hk hk5 args w
  have cX : ∀ (ws : World), Below X.heap.size X ws → ∀ (j : Nat) (x : Value), (#[u 0, u 1, u 2, u 3, u 4] : Array Value)[j]? = some x → ws.cell? ⟨w2.heap.size, j, none⟩ = some x := by
    intro ws hB j x hx
    exact cell_facts ((hB.block _ hL).trans HX0.out) j x hx
  refine wp_region_dept 13 rfl (fun ws => Below X.heap.size X ws) (phiDo X W0.heap.size (ety (k - 1)) (esz (k - 1)) (n (k - 1)) k op arg data (z (k - 1)) u) (by decide +kernel) (by decide +kernel) (by decide +kernel) (by decide +kernel) (by simp) (by omega) (by rfl) ?_ ?_ ?_
  · exact (Below.refl _ _).drew
  · refine ⟨?_, ?_, ?_, ?_, ?_, ?_, ?_, ?_, ?_, ?_, ?_, ?_, ?_, trivial⟩
    · intro a ws K hS _ hk' hdep hK
      have h1 : a.tmps[12]?.getD undef = .pointer (some ⟨w2.heap.size, 0, none⟩) := by simpa [Act.put] using hk' 12 (by kernel_rfl)
      have e0 := cX ws hS 0 _ rfl
      have e1 := cX ws hS 1 _ rfl
      have e2 := cX ws hS 2 _ rfl
      have e3 := cX ws hS 3 _ rfl
      have e4 := cX ws hS 4 _ rfl
      clear hdep hk'
      exact wp_value (v := .agg #[u 0, u 1, u 2, u 3, u 4]) (w' := ws) (by simp [execOp, go_sem, h1, e0, e1, e2, e3, e4]) (hK _ _ hS rfl (fun _ _ _ h => h))
    · intro a ws K hS _ hk' hdep hK
      have h1 : a.tmps[1]?.getD undef = .int .i64 op := by simpa [Act.put] using hk' 1 (by kernel_rfl)
      clear hdep hk'
      exact wp_value (v := .int .i64 op) (w' := ws) (by simp [execOp, go_sem, h1]) (hK _ _ hS rfl (fun _ _ _ h => h))
    · intro a ws K hS _ hk' hdep hK
      obtain ⟨x, hx, hxe⟩ := hdep ⟨1, .data⟩ (by simp) rfl _ rfl
      have h1 : a.tmps[27]?.getD undef = .int .i64 op := by rw [← (show x = .int .i64 op from hxe)]; simpa using hx 27 rfl
      clear hdep hk' hx
      refine wp_call (f := 10) (args := #[.int .i64 op]) (by simp [execOp, resolve, invoke, go_sem, h1, run_callFunc_body Try.func10 (by kernel_rfl) (by kernel_rfl)]) ((object_any op ws).mono ?_)
      rintro e w' ⟨rfl, rfl⟩
      exact ⟨_, rfl, hK _ _ hS (by show Value.int _ _ = _; rw [HOP.out]) (fun _ _ _ h => h)⟩
    · intro a ws K hS _ hk' hdep hK
      obtain ⟨x, hx, hxe⟩ := hdep ⟨0, .data⟩ (by simp) rfl _ rfl
      obtain ⟨y, hy, hye⟩ := hdep ⟨2, .data⟩ (by simp) rfl _ rfl
      have h1 : a.tmps[26]?.getD undef = .agg #[u 0, u 1, u 2, u 3, u 4] := by rw [← (show x = _ from hxe)]; simpa using hx 26 rfl
      have h2 : a.tmps[28]?.getD undef = .int .i64 k := by rw [← (show y = _ from hye)]; simpa using hy 28 rfl
      clear hdep hk' hx hy
      refine wp_call (f := 21) (args := #[.agg #[u 0, u 1, u 2, u 3, u 4], .int .i64 k]) (by simp [execOp, resolve, invoke, go_sem, h1, h2, run_callFunc_body Try.func21 (by kernel_rfl) (by kernel_rfl)]) ((of21 ws u k hk hk5).mono ?_)
      rintro e w' ⟨rfl, hB⟩
      exact ⟨_, rfl, hK _ _ (hS.trans (hB.mono hS.size)) rfl (fun _ _ _ h => phiDo_mono h hB)⟩
    · intro a ws K hS _ hk' hdep hK
      have h1 : a.tmps[1]?.getD undef = .int .i64 op := by simpa [Act.put] using hk' 1 (by kernel_rfl)
      clear hdep hk'
      exact wp_value (v := .int .i64 op) (w' := ws) (by simp [execOp, go_sem, h1]) (hK _ _ hS rfl (fun _ _ _ h => h))
    · intro a ws K hS _ hk' hdep hK
      have h1 : a.tmps[2]?.getD undef = .int .i64 arg := by simpa [Act.put] using hk' 2 (by kernel_rfl)
      clear hdep hk'
      exact wp_value (v := .int .i64 arg) (w' := ws) (by simp [execOp, go_sem, h1]) (hK _ _ hS rfl (fun _ _ _ h => h))
    · intro a ws K hS _ hk' hdep hK
      have h1 : a.tmps[3]?.getD undef = .int .i64 data := by simpa [Act.put] using hk' 3 (by kernel_rfl)
      clear hdep hk'
      exact wp_value (v := .int .i64 data) (w' := ws) (by simp [execOp, go_sem, h1]) (hK _ _ hS rfl (fun _ _ _ h => h))
    · intro a ws K hS _ hk' hdep hK
      obtain ⟨x3, hx3, hxe3⟩ := hdep ⟨3, .data⟩ (by simp) rfl _ rfl
      obtain ⟨x4, hx4, hxe4⟩ := hdep ⟨4, .data⟩ (by simp) rfl _ rfl
      obtain ⟨x5, hx5, hxe5⟩ := hdep ⟨5, .data⟩ (by simp) rfl _ rfl
      obtain ⟨x6, hx6, hxe6⟩ := hdep ⟨6, .data⟩ (by simp) rfl _ rfl
      have h3 : a.tmps[29]?.getD undef = .iface (67 + k) (.slice (some adk) (n (k - 1)) ck) := by rw [← HUK.out, ← (show x3 = _ from hxe3)]; simpa using hx3 29 rfl
      have h4 : a.tmps[30]?.getD undef = .int .i64 op := by rw [← (show x4 = _ from hxe4)]; simpa using hx4 30 rfl
      have h5 : a.tmps[31]?.getD undef = .int .i64 arg := by rw [← (show x5 = _ from hxe5)]; simpa using hx5 31 rfl
      have h6 : a.tmps[32]?.getD undef = .int .i64 data := by rw [← (show x6 = _ from hxe6)]; simpa using hx6 32 rfl
      clear hdep hk' hx3 hx4 hx5 hx6
      refine wp_call (f := doF (k - 1)) (args := #[.slice (some adk) (n (k - 1)) ck, .int .i64 op, .int .i64 arg, .int .i64 data]) (by simp [execOp, resolve, invoke, go_sem, h3, h4, h5, h6, pm, pc]) ((do_any ws W0.heap.size adk (n (k - 1)) ck (z (k - 1)) k op arg data hk hk5 (HOK.out.below hS) (by have := HBa.out.size; have := HBb.out.size; have := HXs.out; have := hS.size; omega) (HB1.out (k - 1) (by omega))).mono ?_)
      rintro e w' ⟨v', n', zs', ak, av, rfl, hO, hnn, hsl, hor, hB, hSZ, hSA⟩
      refine ⟨_, rfl, hK _ _ (hS.trans (hB.mono hS.size)) ⟨v', n', zs', ak, av, rfl, ⟨hO, hnn, hsl, ?_, hSZ⟩, hSA⟩ (fun _ _ _ h => phiDo_mono h hB)⟩
      rw [HUK.out]
      exact hor.imp id (fun h => h.mono hS.size)
    · intro a ws K hS _ hk' hdep hK
      obtain ⟨x, hx, hxe⟩ := hdep ⟨7, .data⟩ (by simp) rfl _ rfl
      have h1 : a.tmps[33]?.getD undef = x := by simpa using hx 33 rfl
      clear hdep hk' hx
      exact wp_value (v := x) (w' := ws) (by simp [execOp, go_sem, h1]) (hK _ _ hS hxe (fun _ _ _ h => h))
    · intro a ws K hS _ hk' hdep hK
      obtain ⟨x, hx, v', n', zs', ak, av, rfl, hR, hA⟩ := hdep ⟨8, .data⟩ (by simp) rfl _ rfl
      have h1 : a.tmps[25]?.getD undef = .tuple #[.iface (67 + k) v', .agg #[.int .i64 ak, .int .i64 av]] := by simpa using hx 25 rfl
      clear hdep hk' hx
      exact wp_value (v := .iface (67 + k) v') (w' := ws) (by simp [execOp, go_sem, h1]) (hK _ _ hS ⟨v', n', zs', rfl, hR⟩ (fun _ _ _ h => h))
    · intro a ws K hS _ hk' hdep hK
      obtain ⟨x, hx, v', n', zs', ak, av, rfl, hR, hA⟩ := hdep ⟨8, .data⟩ (by simp) rfl _ rfl
      have h1 : a.tmps[25]?.getD undef = .tuple #[.iface (67 + k) v', .agg #[.int .i64 ak, .int .i64 av]] := by simpa using hx 25 rfl
      clear hdep hk' hx
      exact wp_value (v := .agg #[.int .i64 ak, .int .i64 av]) (w' := ws) (by simp [execOp, go_sem, h1]) (hK _ _ hS ⟨ak, av, rfl, hA⟩ (fun _ _ _ h => h))
    · intro a ws K hS _ hk' hdep hK
      clear hdep hk'
      exact wp_value (v := .pointer (some ⟨ws.heap.size, 0, none⟩)) (w' := ws.alloc (.cells #[.int .i64 0, .int .i64 0] 33)) (by simp [execOp, go_sem]) (hK _ _ (hS.alloc hS.size _) ⟨ws.heap.size, 0, 0, rfl, hS.size, heap_alloc_new ws _⟩ (fun _ _ _ h => phiDo_mono h ((Below.refl _ _).alloc (Nat.le_refl _) _)))
    · intro a ws K hS _ hk' hdep hK
      obtain ⟨x, hx, v', n', zs', rfl, hR⟩ := hdep ⟨9, .data⟩ (by simp) rfl _ rfl
      have h1 : a.tmps[34]?.getD undef = .iface (67 + k) v' := by simpa using hx 34 rfl
      clear hdep hk' hx
      exact wp_value (v := .iface (67 + k) v') (w' := ws) (by simp [execOp, go_sem, h1]) (hK _ _ hS ⟨v', n', zs', rfl, hR⟩ (fun _ _ _ h => h))
  · intro a ws hS hsz hd hk' hdone
    obtain ⟨y12, hy12, v', n', zs', rfl, hR⟩ := hdone 12 _ (by omega) rfl
    obtain ⟨y10, hy10, ak, av, rfl, hA⟩ := hdone 10 _ (by omega) rfl
    obtain ⟨y11, hy11, A, p, q, rfl, hAX, hAh⟩ := hdone 11 _ (by omega) rfl
    have g13 := hy12 13 rfl
    have g35 := hy10 35 rfl
    have g14 := hy11 14 rfl
    have g8 := hk' 8 (by kernel_rfl)
    have g9 := hk' 9 (by kernel_rfl)
    have g12 := hk' 12 (by kernel_rfl)
    obtain ⟨t, dd⟩ := a
    obtain ⟨x0, x1, x2, x3, x4, x5, x6, x7, x8, x9, x10, x11, x12, x13, x14, x15, x16, x17, x18, x19, x20, x21, x22, x23, x24, x25, x26, x27, x28, x29, x30, x31, x32, x33, x34, x35, x36, x37, x38, x39, rfl⟩ := arr40 t (by simpa [Act.put] using hsz)
    simp [Act.put] at g8 g9 g12 g13 g14 g35
    replace hd : dd = [] := hd
    subst g8 g9 g12 g13 g14 g35 hd
    clear hsz hk' hdone hy12 hy10 hy11
    obtain ⟨hO, hnn, ⟨ad', c', rfl⟩, hor, hSZ⟩ := hR
    have HO := Lib.hid hO
    have HOR := Lib.hid hor
    have HSZ := Lib.hid hSZ
    have HSA := Lib.hid hA
    have HS := Lib.hid hS
    clear hO hor hSZ hA hS pm pc
    have hallA : (#[.int .i64 ak, .int .i64 av] : Array Value).all (·.oneCell') = true := by simp [Value.oneCell']
    have pm := fun w => put_method k hk hk5 (some ad') n' c' w
    have pc := fun args w => put_call k hk hk5 args w
    simp only [List.drop_succ_cons, List.drop_zero]
    go_wp2_with (refine wpList_store_row rfl 33 (.tmp 14) (.tmp 35) rfl A #[.int .i64 ak, .int .i64 av] rfl rfl 33 _ hAh (by kernel_rfl) rfl hallA ?_)
    have hy0 : ∀ j, j ≠ A → (ws.setRow A #[.int .i64 ak, .int .i64 av]).heap[j]? = ws.heap[j]? := fun j hj => setRow_other ws A j _ hj
    have hyA := setRow_heap ws A _ #[.int .i64 ak, .int .i64 av] 33 (0, 0) hAh
    have hys : ws.heap.size ≤ (ws.setRow A #[.int .i64 ak, .int .i64 av]).heap.size := by simp [World.setRow]
    have hyL : (ws.setRow A #[.int .i64 ak, .int .i64 av]).heap[w2.heap.size]? = some (.cells #[u 0, u 1, u 2, u 3, u 4] 25 (0, 0)) := (hy0 _ (by omega)).trans ((HS.out.block _ hL).trans HX0.out)
    have hBy : Below X.heap.size X (ws.setRow A #[.int .i64 ak, .int .i64 av]) := below_setRow HS.out hAX _
    have hOy : Own (ws.setRow A #[.int .i64 ak, .int .i64 av]) W0.heap.size (ety (k - 1)) (esz (k - 1)) (.slice (some ad') n' c') n' zs' := HO.out.of_block fun j hj => hy0 j (HO.out.ne_of_type hAh (ety_ne _).1 j hj)
    have hORy : (.slice (some ad') n' c' : Value) = u (k - 1) ∨ Own (ws.setRow A #[.int .i64 ak, .int .i64 av]) X.heap.size (ety (k - 1)) (esz (k - 1)) (.slice (some ad') n' c') n' zs' := HOR.out.imp (fun h => h) fun h => h.of_block fun j hj => hy0 j (h.ne_of_type hAh (ety_ne _).1 j hj)
    clear hAh HS HO HOR hy0
    generalize ws.setRow A #[.int .i64 ak, .int .i64 av] = y at *
    have HY := Lib.hid hBy
    have HOY := Lib.hid hOy
    have HORY := Lib.hid hORy
    clear hBy hOy hORy
    refine (put_any (k - 1) (by omega) y w2.heap.size (some ad') n' c' _ hyL rfl).mono ?_
    rintro e w6 ⟨rfl, rfl⟩
    have h6L := setU (k - 1) (by omega) u hyL (.slice (some ad') n' c')
    have h60 : ∀ j, j ≠ w2.heap.size → (y.setCell ⟨w2.heap.size, k - 1, none⟩ (.slice (some ad') n' c')).heap[j]? = y.heap[j]? := fun j hj => Below.heap_setCell _ _ _ _ hj
    have h6A := (h60 A (by omega)).trans hyA
    have h6z : (y.setCell ⟨w2.heap.size, k - 1, none⟩ (.slice (some ad') n' c')).heap.size = y.heap.size := by simp [World.setCell]
    have hlow : ∀ j, j < W0.heap.size → (y.setCell ⟨w2.heap.size, k - 1, none⟩ (.slice (some ad') n' c')).heap[j]? = W0.heap[j]? := by
      intro j hj
      have g1 := HBa.out.size
      have g2 := HBb.out.size
      rw [h60 j (by omega), HY.out.block j (by omega), HXB.out.block j (by omega), HBb.out.block j (by omega), HBa.out.block j hj]
    have h6B1 := (hlow (w.heap.size + 1) (by have := HWs.out; omega)).trans HW1.out
    have h6B2 := (hlow (w.heap.size + 2) (by have := HWs.out; omega)).trans HW2.out
    have hB6 : Below w.heap.size w (y.setCell ⟨w2.heap.size, k - 1, none⟩ (.slice (some ad') n' c')) := by
      have g0 := HWs.out
      have g1 := HBa.out.size
      have g2 := HBb.out.size
      exact ((((HBW.out.trans (HBa.out.mono (by omega))).trans (HBb.out.mono (by omega))).trans (HXB.out.mono (by omega))).trans (HY.out.mono (by omega))).setCell (by simp; omega) _
    have hC6 : COwn (y.setCell ⟨w2.heap.size, k - 1, none⟩ (.slice (some ad') n' c')) W0.heap.size (updV (k - 1) (.slice (some ad') n' c') u) (updN (k - 1) n' n) (updZ (k - 1) zs' z) := by
      have g1 := HBa.out.size
      have g2 := HBb.out.size
      have hu : ∀ i, i < 5 → Own y W0.heap.size (ety i) (esz i) (u i) (n i) (z i) := fun i hi => (((HC.out.own i hi).below HXB.out).below HY.out).mono g1
      have hlt : ∀ i, i < 5 → ∀ j, blk (u i) = some j → j < w2.heap.size := fun i hi j hj => ((HC.out.own i hi).lt j hj).2
      have hvne : ∀ i, i < 5 → i ≠ k - 1 → blk (.slice (some ad') n' c') = none ∨ blk (.slice (some ad') n' c') ≠ blk (u i) := by
        intro i hi hik
        rcases HORY.out with e | hO
        · rw [e]; exact HC.out.apart (k - 1) i (by omega) hi (fun e => hik e.symm)
        · cases hb : blk (.slice (some ad') n' c') with
          | none => exact .inl rfl
          | some g =>
            refine .inr fun e => ?_
            have := (hO.lt g hb).1
            have := hlt i hi g e.symm
            omega
      refine ⟨fun i hi => ?_, fun i j hi hj hij => ?_⟩
      · unfold updV updN updZ
        by_cases hik : i = k - 1
        · subst hik
          rw [if_pos rfl, if_pos rfl, if_pos rfl]
          exact HOY.out.of_block fun j hj => h60 j (HOY.out.ne_of_type hyL (ety_ne _).2 j hj)
        · rw [if_neg hik, if_neg hik, if_neg hik]
          exact (hu i hi).of_block fun j hj => h60 j (by have := hlt i hi j hj; omega)
      · unfold updV
        by_cases hik : i = k - 1
        · rw [if_pos hik, if_neg (by omega)]
          exact hvne j hj (by omega)
        · rw [if_neg hik]
          by_cases hjk : j = k - 1
          · rw [if_pos hjk]
            rcases hvne i hi hik with h | h
            · by_cases hb : blk (u i) = none
              · exact .inl hb
              · exact .inr (by rw [h]; exact hb)
            · exact .inr (fun e => h e.symm)
          · rw [if_neg hjk]
            exact HC.out.apart i j hi hj hij
    have hAw : w.heap.size + 2 < A ∧ w.heap.size + 2 < w2.heap.size ∧ A ≠ w2.heap.size := by
      have g0 := HWs.out
      have g1 := HBa.out.size
      have g2 := HBb.out.size
      exact ⟨by omega, by omega, by omega⟩
    generalize hV : updV (k - 1) (.slice (some ad') n' c') u = V at *
    generalize y.setCell ⟨w2.heap.size, k - 1, none⟩ (.slice (some ad') n' c') = w6 at *
    have H6L := Lib.hid h6L
    have H6A := Lib.hid h6A
    have H6B1 := Lib.hid h6B1
    have H6B2 := Lib.hid h6B2
    have HB6 := Lib.hid hB6
    have HC6 := Lib.hid hC6
    clear hV h6L h6A h6B1 h6B2 hB6 hC6 h60 h6z hlow hyL hyA pm pc
    go_wp2_with fail
    let S7 : World → Prop := fun ws => (∀ j, j ≠ w.heap.size + 1 → ws.heap[j]? = w6.heap[j]?) ∧ (∃ cs, ws.heap[w.heap.size + 1]? = some (.cells cs 25 (0, 0)) ∧ cs.size = 5) ∧ Below w.heap.size w6 ws
    have h7L : ∀ ws, S7 ws → ∀ (j : Nat) (x : Value), (#[V 0, V 1, V 2, V 3, V 4] : Array Value)[j]? = some x → ws.cell? ⟨w2.heap.size, j, none⟩ = some x := fun ws h j x hx => cell_facts ((h.1 _ (by omega)).trans H6L.out) j x hx
    have h7A : ∀ ws, S7 ws → ∀ (j : Nat) (x : Value), (#[.int .i64 ak, .int .i64 av] : Array Value)[j]? = some x → ws.cell? ⟨A, j, none⟩ = some x := fun ws h j x hx => cell_facts ((h.1 _ (by omega)).trans H6A.out) j x hx
    refine wp_region_dept 3 rfl S7 (fun i x ws => if i = 0 then x = .agg #[V 0, V 1, V 2, V 3, V 4] else if i = 1 then x = .agg #[.int .i64 ak, .int .i64 av] else if i = 2 then ws.heap[w.heap.size + 1]? = some (.cells #[V 0, V 1, V 2, V 3, V 4] 25 (0, 0)) else True) (by decide +kernel) (by decide +kernel) (by decide +kernel) (by decide +kernel) (by simp) (by omega) (by rfl) ?_ ?_ ?_
    · exact ⟨fun _ _ => rfl, ⟨_, H6B1.out, rfl⟩, (Below.refl _ _).drew⟩
    · refine ⟨?_, ?_, ?_, trivial⟩
      · intro a ws K hS _ hk' hdep hK
        have h1 : a.tmps[12]?.getD undef = .pointer (some ⟨w2.heap.size, 0, none⟩) := by simpa [Act.put] using hk' 12 (by kernel_rfl)
        have e0 := h7L ws hS 0 _ rfl
        have e1 := h7L ws hS 1 _ rfl
        have e2 := h7L ws hS 2 _ rfl
        have e3 := h7L ws hS 3 _ rfl
        have e4 := h7L ws hS 4 _ rfl
        clear hdep hk'
        exact wp_value (v := .agg #[V 0, V 1, V 2, V 3, V 4]) (w' := ws) (by simp [execOp, go_sem, h1, e0, e1, e2, e3, e4]) (hK _ _ hS rfl (fun _ _ _ h => h))
      · intro a ws K hS _ hk' hdep hK
        have h1 : a.tmps[14]?.getD undef = .pointer (some ⟨A, 0, none⟩) := by simpa [Act.put] using hk' 14 (by kernel_rfl)
        have e0 := h7A ws hS 0 _ rfl
        have e1 := h7A ws hS 1 _ rfl
        clear hdep hk'
        exact wp_value (v := .agg #[.int .i64 ak, .int .i64 av]) (w' := ws) (by simp [execOp, go_sem, h1, e0, e1]) (hK _ _ hS rfl (fun _ _ _ h => h))
      · intro a ws K hS _ hk' hdep hK
        have h1 : a.tmps[8]?.getD undef = .pointer (some ⟨w.heap.size + 1, 0, none⟩) := by simpa [Act.put] using hk' 8 (by kernel_rfl)
        obtain ⟨x, hx, hxe⟩ := hdep ⟨0, .data⟩ (by simp) rfl _ rfl
        have h2 : a.tmps[38]?.getD undef = .agg #[V 0, V 1, V 2, V 3, V 4] := by rw [← (show x = _ from hxe)]; simpa using hx 38 rfl
        clear hdep hk' hx
        obtain ⟨cs, hcs, hcz⟩ := hS.2.1
        refine wp_store_row 25 (.tmp 8) (.tmp 38) rfl (w.heap.size + 1) #[V 0, V 1, V 2, V 3, V 4] (by simpa [Act.eval] using h1) (by simpa [Act.eval] using h2) 25 cs hcs (by kernel_rfl) (by simp [hcz]) HC6.out.one ?_
        have hnew := setRow_heap ws (w.heap.size + 1) cs #[V 0, V 1, V 2, V 3, V 4] 25 (0, 0) hcs
        refine hK _ _ ⟨fun j hj => (setRow_other ws _ j _ hj).trans (hS.1 j hj), ⟨_, hnew, rfl⟩, below_setRow hS.2.2 (by omega) _⟩ hnew (fun j x hj h => ?_)
        simp only [if_neg (show ¬ j = 2 from hj)] at h ⊢
        exact h
    · intro a ws hS hsz hd hk' hdone
      obtain ⟨z1, hz1, hz1e⟩ := hdone 1 _ (by omega) rfl
      obtain ⟨z2, hz2, hz2e⟩ := hdone 2 _ (by omega) rfl
      have g39 := hz1 39 rfl
      rw [show z1 = .agg #[.int .i64 ak, .int .i64 av] from hz1e] at g39
      have hr1 : ws.heap[w.heap.size + 1]? = some (.cells #[V 0, V 1, V 2, V 3, V 4] 25 (0, 0)) := hz2e
      have g8 := hk' 8 (by kernel_rfl)
      have g9 := hk' 9 (by kernel_rfl)
      obtain ⟨t, dd⟩ := a
      obtain ⟨y0, y1, y2, y3, y4, y5, y6, y7, y8, y9, y10, y11, y12, y13, y14, y15, y16, y17, y18, y19, y20, y21, y22, y23, y24, y25, y26, y27, y28, y29, y30, y31, y32, y33, y34, y35, y36, y37, y38, y39, rfl⟩ := arr40 t (by simpa [Act.put] using hsz)
      simp [Act.put] at g8 g9 g39
      replace hd : dd = [] := hd
      subst g8 g9 g39 hd
      clear hsz hk' hdone hz1 hz2 hz1e hz2e
      have hr2 := (hS.1 (w.heap.size + 2) (by omega)).trans H6B2.out
      have c0 := setRow_cells (cs := #[.int .i64 ak, .int .i64 av]) hr2 0 _ rfl
      have c1 := setRow_cells (cs := #[.int .i64 ak, .int .i64 av]) hr2 1 _ rfl
      have hr3 := (setRow_other ws (w.heap.size + 2) (w.heap.size + 1) #[.int .i64 ak, .int .i64 av] (by omega)).trans hr1
      have d0 := cell_facts hr3 0 _ rfl
      have d1 := cell_facts hr3 1 _ rfl
      have d2 := cell_facts hr3 2 _ rfl
      have d3 := cell_facts hr3 3 _ rfl
      have d4 := cell_facts hr3 4 _ rfl
      have HS7 := Lib.hid hS
      have HS7a := Lib.hid hS.1
      have HS7b := Lib.hid hS.2.2
      clear HS7 hr1 hr3 hS h7L h7A S7
      simp only [List.drop_succ_cons, List.drop_zero]
      go_wp2_with (refine wpList_store_row rfl 33 (.tmp 9) (.tmp 39) rfl (w.heap.size + 2) #[.int .i64 ak, .int .i64 av] rfl rfl 33 _ hr2 (by kernel_rfl) rfl hallA ?_)
      refine bodyPost_ret (v := .tuple #[.agg #[V 0, V 1, V 2, V 3, V 4], .agg #[.int .i64 ak, .int .i64 av], .int .i64 0]) (by simp [results, Try.results7, go_sem, c0, c1, d0, d1, d2, d3, d4]) rfl
        ⟨V, updN (k - 1) n' n, updZ (k - 1) zs' z, ak, av, rfl, HC6.out.of_cut (by have := HWs.out; omega) (fun j hj => (setRow_other _ _ _ _ (by have := HWs.out; omega)).trans (HS7a.out j (by have := HWs.out; omega))), ?_, ?_, ?_, ?_, below_setRow (HB6.out.trans HS7b.out) (by omega) _⟩
      · intro i hi
        unfold updN
        split
        · rename_i h; subst h; exact hnn
        · omega
      · intro i hi hik
        unfold updN updZ
        exact ⟨if_neg hik, if_neg hik⟩
      · intro hk2
        have := HSZ.out
        subst hk2
        exact this rfl
      · intro hk2
        have := HSA.out
        subst hk2
        exact this rfl
end Go.Proofs.Ytkibdolpapaflaa
