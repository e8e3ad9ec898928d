/- Openers: sacks. -/
import Derived.Test.YtdmdabhdcpjkiaaGreatDoorOpen
namespace Go.Proofs.YtdmdabhdcpjkiaaGreatDoor
open Go.ChangeShapes Go.WideShapes Go.ChangeAt Go.RowKit Go.Deep
theorem cellsShell : Tryz.prog.cellsOf 76 = 2 := by kernel_rfl
theorem cellsSack : Tryz.prog.cellsOf 28 = 2 := by kernel_rfl
theorem cellsTest : Tryz.prog.cellsOf 113 = 2 := by kernel_rfl
theorem cellsBool : Tryz.prog.cellsOf 4 = 1 := by kernel_rfl
theorem cellsShells : Tryz.prog.cellsOf 25 = 1 := by kernel_rfl
theorem cellsTests : Tryz.prog.cellsOf 26 = 1 := by kernel_rfl
section
variable {H : Type} {enc : TypeId × Value → H} {w : World} {base : Nat} {spare : Nat → Bool} {held : Bool}
theorem bool_at {n : Nat} {cs : List Value} {j : Nat} {y : DataW H × List MemPlace} (h : DataW.trod enc Tryz.prog w base spare held n 4 ((cs.drop j).take (Tryz.prog.cellsOf 4)) = some y) : ∃ z, cs[j]? = some (.bool z) := by
 rw [cellsBool] at h
 obtain ⟨z, hz, _⟩ := DataW.trod_bool Tryz.underlying4 h
 refine ⟨z, ?_⟩
 have := congrArg (·[0]?) hz
 simpa [List.getElem?_take, List.getElem?_drop] using this
theorem test_cells {n : Nat} {cs : List Value} {y : DataW H × List MemPlace} (h : DataW.trod enc Tryz.prog w base spare held n 113 cs = some y) : ∃ x : Int × Bool, cs = testC x := by
 obtain ⟨ys, m, _, _, hl, hn, hf⟩ := DataW.trod_struct Tryz.underlying113 h
 rw [cellsTest] at hl
 obtain ⟨y0, y1, rfl⟩ := list2 (l := ys) (by simpa using hn)
 obtain ⟨c0, c1, rfl⟩ := list2 hl
 obtain ⟨z0, h0⟩ := int_at (hf 0 _ rfl)
 obtain ⟨z1, h1⟩ := bool_at (hf 1 _ rfl)
 refine ⟨(z0, z1), ?_⟩
 simp at h0 h1
 subst h0 h1
 rfl
theorem tests_cells {n : Nat} {c : Value} {y : DataW H × List MemPlace} (h : DataW.trod enc Tryz.prog w base spare held n 26 [c] = some y) : ∃ xs, RowOf testC w c xs := by
 have : Inhabited (Int × Bool) := ⟨(0, false)⟩
 obtain ⟨xs, hx, _⟩ := row_of Tryz.underlying26 testC 2 cellsTest (by omega) (fun _ => rfl) (fun _ => True) (fun n cs y h => by obtain ⟨x, hx⟩ := test_cells h; exact ⟨x, hx, trivial⟩) h
 exact ⟨xs, hx⟩
theorem shell_cells {n : Nat} {cs : List Value} {y : DataW H × List MemPlace} (h : DataW.trod enc Tryz.prog w base spare held n 76 cs = some y) : ∃ x : Value × Shell, cs = shellC x ∧ IntsAt w x.1 x.2.rings := by
 obtain ⟨ys, m, _, _, hl, hn, hf⟩ := DataW.trod_struct Tryz.underlying76 h
 rw [cellsShell] at hl
 obtain ⟨y0, y1, rfl⟩ := list2 (l := ys) (by simpa using hn)
 obtain ⟨c0, c1, rfl⟩ := list2 hl
 have h0 := hf 0 _ rfl
 obtain ⟨z1, h1⟩ := int_at (hf 1 _ rfl)
 simp [cellsInts] at h0 h1
 obtain ⟨xs, hx⟩ := ints_cells h0
 subst h1
 exact ⟨(c0, ⟨xs, z1⟩), rfl, hx⟩
theorem shells_cells {n : Nat} {c : Value} {y : DataW H × List MemPlace} (h : DataW.trod enc Tryz.prog w base spare held n 25 [c] = some y) : ∃ ss, ShellsAt w c ss := by
 have : Inhabited (Value × Shell) := ⟨(undef, ⟨[], 0⟩)⟩
 obtain ⟨xs, hx, hq⟩ := row_of Tryz.underlying25 shellC 2 cellsShell (by omega) (fun _ => rfl) (fun x => IntsAt w x.1 x.2.rings) (fun n cs y h => shell_cells h) h
 exact ⟨_, xs, rfl, hx, hq⟩
set_option maxRecDepth 100000 in
theorem sack_of {r : Reach} {b0 : Nat} {v : Value} {d : DataW H} {p : List MemPlace} (hv : Value.okWide Tryz.prog w r b0 28 v) (h : DataW.Trod enc Tryz.prog w base spare held 28 v d p) : ∃ s, SackAt w v s := by
 obtain ⟨cs, rfl, hsz⟩ := okWide_struct Tryz.underlying28 hv
 rw [cellsSack] at hsz
 obtain ⟨n, hn⟩ := h
 obtain ⟨ys, m, _, _, hl, hyn, hf⟩ := DataW.trod_struct Tryz.underlying28 hn
 obtain ⟨l⟩ := cs
 obtain ⟨y0, y1, rfl⟩ := list2 (l := ys) (by simpa using hyn)
 obtain ⟨c0, c1, rfl⟩ := list2 (l := l) (by simpa using hsz)
 have h0 := hf 0 _ rfl
 have h1 := hf 1 _ rfl
 simp [Value.cells, cellsShells, cellsTests] at h0 h1
 obtain ⟨ss, hs⟩ := shells_cells h0
 obtain ⟨ts, ht⟩ := tests_cells h1
 exact ⟨⟨ss, ts⟩, _, _, rfl, hs, ht⟩
end
end Go.Proofs.YtdmdabhdcpjkiaaGreatDoor
