/- Rows of houses. -/
import Derived.Test.YtbeophjdiddomaaGreatDoorOpened
namespace Go.Proofs.YtbeophjdiddomaaGreatDoor
open Go.RowKit

theorem info_house : (Tryz.prog.info? 31).map (fun i => (i.zero, i.size, i.bytes)) = some (some (.agg #[.int .i64 0, .int .i64 0, .int .i64 0, .int .i64 0, .int .i64 0, .int .i64 0]), 6, 48) := by kernel_rfl
theorem E_houses : Elem Tryz.prog 24 31 6 48 (.agg #[.int .i64 0, .int .i64 0, .int .i64 0, .int .i64 0, .int .i64 0, .int .i64 0]) := by
  obtain ⟨i, h1, h2, h3, h4⟩ := info_parts info_house
  exact ⟨Tryz.underlying24, ⟨i, h1, h2, h3, h4⟩, rfl, by decide⟩
theorem houses_one (hs : List House) : ∀ u ∈ hs.flatMap House.cells, u.oneCell' = true := by
  intro u hu
  obtain ⟨h, _, hu⟩ := List.mem_flatMap.1 hu
  simp only [House.cells, List.mem_cons, List.not_mem_nil, or_false] at hu
  rcases hu with rfl | rfl | rfl | rfl | rfl | rfl <;> rfl
theorem houses_len (hs : List House) : (hs.flatMap House.cells).length = hs.length * 6 := len_flat hs
theorem cell_set_ne {W : World} {g o : Nat} {u : Value} {b p : Nat} (h : b ≠ g) : (W.setCell ⟨g, o, none⟩ u).cell? ⟨b, p, none⟩ = W.cell? ⟨b, p, none⟩ :=
  World.cell?_setCell_other _ _ _ _ (fun e => h (congrArg Addr.block e).symm)
end Go.Proofs.YtbeophjdiddomaaGreatDoor
