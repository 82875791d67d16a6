import Derived.Test.YtkibdolpapaflaaE1c
import Derived.Great.BuildSlice
namespace Go.Proofs.Ytkibdolpapaflaa
open Go.RowKit

theorem fill6 (W : Nat → Nat → Value) : Instr.fill (fun i => some (i * 5, 5)) ((Array.range (6 * 5)).map ((Value.agg #[.slice none 0 0, .slice none 0 0, .slice none 0 0, .slice none 0 0, .slice none 0 0]).cells[· % (Value.agg #[.slice none 0 0, .slice none 0 0, .slice none 0 0, .slice none 0 0, .slice none 0 0]).cells.size]!))
    [(0, .agg #[W 0 0, W 0 1, W 0 2, W 0 3, W 0 4]), (1, .agg #[W 1 0, W 1 1, W 1 2, W 1 3, W 1 4]), (2, .agg #[W 2 0, W 2 1, W 2 2, W 2 3, W 2 4]), (3, .agg #[W 3 0, W 3 1, W 3 2, W 3 3, W 3 4]), (4, .agg #[W 4 0, W 4 1, W 4 2, W 4 3, W 4 4]), (5, .agg #[W 5 0, W 5 1, W 5 2, W 5 3, W 5 4])] = some (row30 W) := by kernel_rfl

theorem Try.underlying47 : Try.prog.underlying 47 = some (.slice 25) := by kernel_rfl
theorem Try.info25 : (Try.prog.info? 25).map (fun i => (i.zero, i.size)) = some (some (.agg #[.slice none 0 0, .slice none 0 0, .slice none 0 0, .slice none 0 0, .slice none 0 0]), 5) := by kernel_rfl
theorem info25 : ∃ ie, Try.prog.info? 25 = some ie ∧ ie.zero = some (.agg #[.slice none 0 0, .slice none 0 0, .slice none 0 0, .slice none 0 0, .slice none 0 0]) ∧ ie.size = 5 := by
  have h := Try.info25
  cases hq : Try.prog.info? 25 with
  | none => rw [hq] at h; cases h
  | some i =>
    rw [hq] at h
    simp only [Option.map_some, Option.some.injEq, Prod.mk.injEq] at h
    exact ⟨i, rfl, h.1, h.2⟩
end Go.Proofs.Ytkibdolpapaflaa
