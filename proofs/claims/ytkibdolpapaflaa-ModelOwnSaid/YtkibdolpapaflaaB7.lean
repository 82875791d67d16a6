import Derived.Test.YtkibdolpapaflaaB6
namespace Go.Proofs.Ytkibdolpapaflaa
open Go.RowKit

def DoPost (T E sz b n : Nat) (v : Value) (S : List Int → Int → Int → Prop) (w : World) (e : Ending) (w' : World) : Prop :=
  ∃ (v' : Value) (n' : Nat) (zs' : List Int) (ak av : Int), e = .returned (.tuple #[.iface T v', .agg #[.int .i64 ak, .int .i64 av]]) ∧ Own w' b E sz v' n' zs' ∧ n' ≤ n + 1 ∧ (∃ ad c, v' = .slice (some ad) n' c) ∧
    (v' = v ∨ Own w' w.heap.size E sz v' n' zs') ∧ Below w.heap.size w w' ∧ S zs' ak av

theorem Own.below {w w' : World} {base e size : Nat} {v : Value} {n : Nat} {zs : List Int} (h : Own w base e size v n zs) (hB : Below w.heap.size w w') : Own w' base e size v n zs :=
  h.of_block fun k hk => hB.block k (h.lt k hk).2

theorem frozen_row {w : World} {g : Nat} {cs : Array Value} {t : TypeId} (h : w.heap[g]? = some (.cells cs t (0, 0))) (k : Nat) : w.frozen? ⟨g, k, none⟩ = false := by
  simp [World.frozen?, h]

theorem cell_set_ne {w : World} {p q : Addr} (h : ¬ p.block = q.block) (v : Value) : (w.setCell q v).cell? p = w.cell? p :=
  World.cell?_of_block (w := w) (Below.heap_setCell w q v p.block h)

theorem set2 {w : World} {g : Nat} {p q : Value} {T : TypeId} (h : w.heap[g]? = some (.cells #[p, q] T (0, 0))) (v u : Value) :
    ((w.setCell ⟨g, 0, none⟩ v).setCell ⟨g, 1, none⟩ u).heap[g]? = some (.cells #[v, u] T (0, 0)) ∧ (∀ k, k ≠ g → ((w.setCell ⟨g, 0, none⟩ v).setCell ⟨g, 1, none⟩ u).heap[k]? = w.heap[k]?) := by
  have e1 := setCell_eq_setRow w g 0 _ T (0, 0) v h
  have h1 := setRow_heap w g _ ((#[p, q] : Array Value).setIfInBounds 0 v) T (0, 0) h
  rw [← e1] at h1
  have e2 := setCell_eq_setRow _ g 1 _ T (0, 0) u h1
  have h2 := setRow_heap _ g _ (((#[p, q] : Array Value).setIfInBounds 0 v).setIfInBounds 1 u) T (0, 0) h1
  rw [← e2] at h2
  exact ⟨by simpa using h2, fun k hk => by rw [Below.heap_setCell _ _ _ _ hk, Below.heap_setCell _ _ _ _ hk]⟩

def StackS (op arg : Int) (zs zs' : List Int) (ak av : Int) : Prop :=
  (op = 30 → zs' = arg :: zs ∧ ak = 1 ∧ av = 0) ∧ (op ≠ 30 → ∀ x r, zs = x :: r → zs' = r ∧ ak = 2 ∧ av = x)

theorem DoPost.same {T E sz b n : Nat} {ad : Addr} {c : Nat} {zs : List Int} {S : List Int → Int → Int → Prop} {w w' : World} (ho : Own w b E sz (.slice (some ad) n c) n zs) (hB : Below w.heap.size w w') {ak av : Int} (hS : S zs ak av) :
    DoPost T E sz b n (.slice (some ad) n c) S w (.returned (.tuple #[.iface T (.slice (some ad) n c), .agg #[.int .i64 ak, .int .i64 av]])) w' :=
  ⟨_, n, zs, ak, av, rfl, ho.below hB, by omega, ⟨ad, c, rfl⟩, .inl rfl, hB, hS⟩

theorem DoPost.new {T E sz b n n' : Nat} {v : Value} {ad : Addr} {c : Nat} {zs : List Int} {S : List Int → Int → Int → Prop} {w w' : World} (ho : Own w' w.heap.size E sz (.slice (some ad) n' c) n' zs) (hb : b ≤ w.heap.size) (hn : n' ≤ n + 1) (hB : Below w.heap.size w w') {ak av : Int} (hS : S zs ak av) :
    DoPost T E sz b n v S w (.returned (.tuple #[.iface T (.slice (some ad) n' c), .agg #[.int .i64 ak, .int .i64 av]])) w' :=
  ⟨_, n', zs, ak, av, rfl, ho.mono hb, hn, ⟨ad, c, rfl⟩, .inr ho, hB, hS⟩

set_option maxRecDepth 20000 in
set_option maxHeartbeats 800000 in
theorem do46 (w : World) (b : Nat) (ad : Addr) (n c : Nat) (zs : List Int) (op arg data : Int) (hown : Own w b 3 1 (.slice (some ad) n c) n zs) (hb : b ≤ w.heap.size) (hsz : (n + 1) * 8 ≤ 140737488355328) :
    Calls Try.prog 46 #[.slice (some ad) n c, .int .i64 op, .int .i64 arg, .int .i64 data] w fun e w' => DoPost 69 3 1 b n (.slice (some ad) n c) (StackS op arg zs) w e w' := by
  obtain ⟨i0, hi, hz, hs, hby⟩ := info_parts Try.info3
  have HO := Lib.hid hown
  clear hown
  by_cases hop : op = 30
  · subst hop
    have HL : Hid (Own ((w.alloc (.cells #[.int .i64 0, .int .i64 0] 33)).alloc (.cells #[.int .i64 arg] 3)) (w.heap.size + 1) 3 1 (.slice (some ⟨w.heap.size + 1, 0, none⟩) 1 1) 1 [arg]) := by
      have := Own.lit (base := w.heap.size + 1) (w.alloc (.cells #[.int .i64 0, .int .i64 0] 33)) #[.int .i64 arg] 3 1 1 [arg] (by simp) (by omega) (by simp [maxLen]) (by simp) rfl
      exact Lib.hid (by simpa using this)
    have HR : Hid (Rd ((w.alloc (.cells #[.int .i64 0, .int .i64 0] 33)).alloc (.cells #[.int .i64 arg] 3)) (.slice (some ad) n c) 1 n zs) := HO.out.rd.below (((Below.refl _ _).alloc (Nat.le_refl _) _).alloc (by simp) _)
    have hBB : Below w.heap.size w ((w.alloc (.cells #[.int .i64 0, .int .i64 0] 33)).alloc (.cells #[.int .i64 arg] 3)) := ((Below.refl _ _).alloc (Nat.le_refl _) _).alloc (by simp) _
    have HBB := Lib.hid hBB
    clear hBB
    go_enter Try.func46, Try.ntmps46
    go_wp2_with (refine wpList_app rfl (.tmp 13) (.tmp 14) 69 69 rfl (w.heap.size + 1) 3 3 i0 (.int .i64 0) 1 8 Try.underlying69 Try.underlying69 hi hz hs hby rfl (.slice (some ⟨w.heap.size + 1, 0, none⟩) 1 1) 1 [arg] rfl HL.out (.slice (some ad) n c) n zs rfl HR.out (by unfold maxLen; omega) (by omega) (by simp) ?_; intro v' w1 hO hg hne; obtain ⟨ad', c', rfl⟩ := hO.addr (hne (by simp)); have HO2 := Lib.hid hO; have HG := Lib.hid hg; clear hO hg hne)
    have hB1 : Below (w.heap.size + 1) ((w.alloc (.cells #[.int .i64 0, .int .i64 0] 33)).alloc (.cells #[.int .i64 arg] 3)) w1 := grown_below HG.out (by simp) (by simp [blk])
    refine (told_any _ _).mono ?_
    rintro e w2 ⟨rfl, hB2⟩
    have hB3 := (((Below.refl (w.heap.size + 1) (w.alloc (.cells #[.int .i64 0, .int .i64 0] 33))).alloc (by simp) (.cells #[.int .i64 arg] 3)).trans hB1).trans (hB2.mono (by have := hB1.size; simp at this; omega))
    obtain ⟨h0, hBw, hz⟩ := box1h hB3 (Nat.le_refl _)
    have hf : Own (w2.setRow w.heap.size #[.int .i64 1, .int .i64 0]) w.heap.size 3 1 (.slice (some ad') (1 + n) c') (1 + n) ([arg] ++ zs) := ((HO2.out.below hB2).of_block fun k hk => setRow_other _ _ _ _ (by have := (HO2.out.lt k hk).1; omega)).mono (by omega)
    have HF := Lib.hid hf
    have HB := Lib.hid hBw
    clear hB1 hB2 hB3 hBw hf
    have c0 := setRow_cells (cs := #[.int .i64 1, .int .i64 0]) h0 0 _ rfl
    have c1 := setRow_cells (cs := #[.int .i64 1, .int .i64 0]) h0 1 _ rfl
    have hall : (#[.int .i64 1, .int .i64 0] : Array Value).all (·.oneCell') = true := by simp [Value.oneCell']
    go_wp2_with (refine wpList_store_row rfl 33 (.tmp 9) (.tmp 17) rfl w.heap.size #[.int .i64 1, .int .i64 0] rfl rfl 33 _ h0 (by kernel_rfl) rfl hall ?_)
    exact bodyPost_ret (v := .tuple #[.iface 69 (.slice (some ad') (1 + n) c'), .agg #[.int .i64 1, .int .i64 0]]) (by simp [results, Try.results46, go_sem, c0, c1]) rfl (DoPost.new HF.out hb (by omega) (below_setRow HB.out (Nat.le_refl _) _) ⟨fun _ => ⟨rfl, rfl, rfl⟩, fun h => absurd rfl h⟩)
  · have hopb : (op == 30) = false := by simpa using hop
    by_cases hn : n = 0
    · subst hn
      go_enter Try.func46, Try.ntmps46
      go_wp2_with fail
      refine (told_any _ _).mono ?_
      rintro e w2 ⟨rfl, hB2⟩
      obtain ⟨h0, hBw, hz⟩ := box1h hB2 (by simp)
      have HB := Lib.hid hBw
      clear hB2 hBw
      have c0 := setRow_cells (cs := #[.int .i64 3, .int .i64 0]) h0 0 _ rfl
      have c1 := setRow_cells (cs := #[.int .i64 3, .int .i64 0]) h0 1 _ rfl
      have hall : (#[.int .i64 3, .int .i64 0] : Array Value).all (·.oneCell') = true := by simp [Value.oneCell']
      go_wp2_with (refine wpList_store_row rfl 33 (.tmp 9) (.tmp 23) rfl w.heap.size #[.int .i64 3, .int .i64 0] rfl rfl 33 _ h0 (by kernel_rfl) rfl hall ?_)
      refine bodyPost_ret (v := .tuple #[.iface 69 (.slice (some ad) 0 c), .agg #[.int .i64 3, .int .i64 0]]) (by simp [results, Try.results46, go_sem, c0, c1]) rfl (DoPost.same HO.out (below_setRow HB.out (Nat.le_refl _) _) ⟨fun h => absurd h hop, fun _ x r hz => ?_⟩)
      have := HO.out.1
      rw [hz] at this
      simp at this
    · obtain ⟨g, cap, e, h0, hbg, hgl, hnc, hc1, hrow⟩ := HO.out.row (by omega)
      cases e
      unfold maxLen at hc1
      obtain ⟨x, r, hzs⟩ : ∃ x r, zs = x :: r := by
        cases zs with
        | nil => have := HO.out.1; simp at this; omega
        | cons x r => exact ⟨x, r, rfl⟩
      subst hzs
      have hat : ∀ j z, (x :: r)[j]? = some z → w.cell? ⟨g, j, none⟩ = some (.int .i64 z) := by
        intro j z hj
        rcases HO.out.rd.2 with ⟨h, _⟩ | ⟨b', off, c', e, hc⟩
        · omega
        · cases e; simpa using hc j z hj
      have hx : w.cell? ⟨g, 0, none⟩ = some (.int .i64 x) := hat 0 x rfl
      have hrl : r.length = n - 1 := by have := HO.out.1; simp at this; omega
      have HAT := Lib.hid hat
      clear hat hrow
      by_cases hc : c = 1
      · have hn1 : n = 1 := by omega
        subst hc
        subst hn1
        obtain rfl : r = [] := List.eq_nil_of_length_eq_zero (by omega)
        have hrd : Rd w (.slice (some ⟨g, 0, none⟩) 0 0) 1 0 [] := ⟨by omega, .inl ⟨rfl, _, _, rfl⟩⟩
        have HRD := Lib.hid hrd
        have HRL := Lib.hid hrl
        clear hrd hrl
        go_enter Try.func46, Try.ntmps46
        go_wp2_with fail
        have HX0 : ∀ ws, Below (w.heap.size + 1) (w.alloc (.cells #[.int .i64 0, .int .i64 0] 33)) ws → ws.cell? ⟨g, 0, none⟩ = some (.int .i64 x) := fun ws hB => (box1 hB).2.1 _ _ hx
        have hB0 : Below (w.heap.size + 1) (w.alloc (.cells #[.int .i64 0, .int .i64 0] 33)) (w.alloc (.cells #[.int .i64 0, .int .i64 0] 33)).drew := (Below.refl _ _).drew
        have HX := Lib.hid HX0
        have HB0 := Lib.hid hB0
        clear HX0 hB0
        go_region_held3 (fun ws : World => ws.cell? ⟨g, 0, none⟩ = some (.int .i64 x)) (first | exact HX.out _ HB2.out | exact HX.out _ HB1.out | exact HX.out _ HB0.out | exact (cell_set_ne hgn _).trans ((cell_set_ne hgn _).trans (HX.out _ HB2.out))) (first | (go_at_call 48; refine (clone48 _ _ _ _ [] (HRD.out.below ((Below.refl _ _).alloc (Nat.le_refl _) _).drew) (by omega)).mono ?_; rintro e w1 ⟨v', rfl, hO, ⟨ad', c', rfl⟩, hB⟩; have HB1 := Lib.hid (HB0.out.trans (hB.mono (by simp))); have HO1 := Lib.hid hO; clear hO hB) | (go_at_call 45; refine (value_any _ _).mono ?_; rintro e w2 ⟨rfl, hB⟩; have HB2 := Lib.hid (HB1.out.trans (hB.mono (by have := HB1.out.size; simpa using this))); have HO2 := Lib.hid (HO1.out.below hB); obtain ⟨h0, _, _⟩ := box1h HB2.out (Nat.le_refl _); have e0 := cell_facts h0 0 _ rfl; have e1 := cell_facts h0 1 _ rfl; have f0 := frozen_row h0 0; have f1 := frozen_row h0 1; have HH0 := Lib.hid h0; have hx2 := HX.out _ HB2.out; have hgn : ¬ (g = w.heap.size) := (by omega); clear hB h0))
        clear hx
        go_wp2
        obtain ⟨hn0, hno⟩ := set2 HH0.out (.int .i64 2) (.int .i64 x)
        have c0 := cell_facts hn0 0 _ rfl
        have c1 := cell_facts hn0 1 _ rfl
        have hBf : Below w.heap.size w ((w2.setCell ⟨w.heap.size, 0, none⟩ (.int .i64 2)).setCell ⟨w.heap.size, 1, none⟩ (.int .i64 x)) := ((((Below.refl _ _).alloc (Nat.le_refl _) _).trans (HB2.out.mono (by omega))).setCell (Nat.le_refl _) _).setCell (Nat.le_refl _) _
        refine bodyPost_ret (v := .tuple #[.iface 69 (.slice (some ad') 0 c'), .agg #[.int .i64 2, .int .i64 x]]) (by simp [results, Try.results46, go_sem, c0, c1]) rfl (DoPost.new ((HO2.out.of_block fun k hk => hno k (by have := (HO2.out.lt k hk).1; simp at this; omega)).mono (by simp)) hb (by omega) hBf ⟨fun h => absurd h hop, fun _ x' r' hz => ?_⟩)
        cases hz
        exact ⟨rfl, rfl, rfl⟩
      · have hrd : Rd w (.slice (some ⟨g, 1, none⟩) (n - 1) (c - 1)) 1 (n - 1) r := ⟨by omega, .inr ⟨g, 1, c - 1, rfl, fun j z hj => by rw [Nat.add_comm 1 j]; exact HAT.out (j + 1) z (by simpa using hj)⟩⟩
        have HRD := Lib.hid hrd
        have HRL := Lib.hid hrl
        clear hrd hrl
        have q1 : (1 : Int) ≤ n := by omega
        have q2 : ¬ (c = 1) := hc
        have q3 : (0 : Int) < n := by omega
        have q4 : 0 < n := by omega
        go_enter Try.func46, Try.ntmps46
        go_wp2_with fail
        have HX0 : ∀ ws, Below (w.heap.size + 1) (w.alloc (.cells #[.int .i64 0, .int .i64 0] 33)) ws → ws.cell? ⟨g, 0, none⟩ = some (.int .i64 x) := fun ws hB => (box1 hB).2.1 _ _ hx
        have hB0 : Below (w.heap.size + 1) (w.alloc (.cells #[.int .i64 0, .int .i64 0] 33)) (w.alloc (.cells #[.int .i64 0, .int .i64 0] 33)).drew := (Below.refl _ _).drew
        have HX := Lib.hid HX0
        have HB0 := Lib.hid hB0
        clear HX0 hB0
        go_region_held3 (fun ws : World => ws.cell? ⟨g, 0, none⟩ = some (.int .i64 x)) (first | exact HX.out _ HB2.out | exact HX.out _ HB1.out | exact HX.out _ HB0.out | exact (cell_set_ne hgn _).trans ((cell_set_ne hgn _).trans (HX.out _ HB2.out))) (first | (go_at_call 48; refine (clone48 _ _ _ _ r (HRD.out.below ((Below.refl _ _).alloc (Nat.le_refl _) _).drew) (by omega)).mono ?_; rintro e w1 ⟨v', rfl, hO, ⟨ad', c', rfl⟩, hB⟩; have HB1 := Lib.hid (HB0.out.trans (hB.mono (by simp))); have HO1 := Lib.hid hO; clear hO hB) | (go_at_call 45; refine (value_any _ _).mono ?_; rintro e w2 ⟨rfl, hB⟩; have HB2 := Lib.hid (HB1.out.trans (hB.mono (by have := HB1.out.size; simpa using this))); have HO2 := Lib.hid (HO1.out.below hB); obtain ⟨h0, _, _⟩ := box1h HB2.out (Nat.le_refl _); have e0 := cell_facts h0 0 _ rfl; have e1 := cell_facts h0 1 _ rfl; have f0 := frozen_row h0 0; have f1 := frozen_row h0 1; have HH0 := Lib.hid h0; have hx2 := HX.out _ HB2.out; have hgn : ¬ (g = w.heap.size) := (by omega); clear hB h0))
        clear hx
        go_wp2
        obtain ⟨hn0, hno⟩ := set2 HH0.out (.int .i64 2) (.int .i64 x)
        have c0 := cell_facts hn0 0 _ rfl
        have c1 := cell_facts hn0 1 _ rfl
        have hBf : Below w.heap.size w ((w2.setCell ⟨w.heap.size, 0, none⟩ (.int .i64 2)).setCell ⟨w.heap.size, 1, none⟩ (.int .i64 x)) := ((((Below.refl _ _).alloc (Nat.le_refl _) _).trans (HB2.out.mono (by omega))).setCell (Nat.le_refl _) _).setCell (Nat.le_refl _) _
        refine bodyPost_ret (v := .tuple #[.iface 69 (.slice (some ad') (n - 1) c'), .agg #[.int .i64 2, .int .i64 x]]) (by simp [results, Try.results46, go_sem, c0, c1]) rfl (DoPost.new ((HO2.out.of_block fun k hk => hno k (by have := (HO2.out.lt k hk).1; simp at this; omega)).mono (by simp)) hb (by omega) hBf ⟨fun h => absurd h hop, fun _ x' r' hz => ?_⟩)
        cases hz
        exact ⟨rfl, rfl, rfl⟩
end Go.Proofs.Ytkibdolpapaflaa
