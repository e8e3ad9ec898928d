/- From what a row's condition gives (readings): rows of ints, shells, origins, licences, takes. -/
import Derived.Test.YtnhpibnneidmgaaGreatDoorOpen
import Derived.Test.YtnhpibnneidmgaaGreatDoorLics
namespace Go.Proofs.YtnhpibnneidmgaaGreatDoor
open Go.ChangeShapes Go.WideShapes Go.ChangeAt Go.RowKit Go.Deep
theorem cellsShell : Tryz.prog.cellsOf 31 = 2 := by kernel_rfl
theorem cellsOrigin : Tryz.prog.cellsOf 50 = 2 := by kernel_rfl
theorem cellsLicence : Tryz.prog.cellsOf 176 = 4 := by kernel_rfl
theorem cellsTake : Tryz.prog.cellsOf 178 = 4 := by kernel_rfl
section
variable {H : Type} {enc : TypeId × Value → H} {w : World} {base : Nat} {spare : Nat → Bool} {held : Bool}
theorem introws_cells {n : Nat} {c : Value} {y : DataW H × List MemPlace} (h : DataW.trod enc Tryz.prog w base spare held n 79 [c] = some y) : ∃ xss, IntRowsAt w c xss := by
 have : Inhabited (Value × List Int) := ⟨(undef, [])⟩
 obtain ⟨xs, hx, hq⟩ := row_of Tryz.underlying79 (fun x : Value × List Int => [x.1]) 1 cellsInts (by omega) (fun _ => rfl) (fun x => IntsAt w x.1 x.2) (fun n cs y h => by
  have hl : cs.length = 1 := by
   rcases open_slice Tryz.underlying29 h with ⟨hc, _⟩ | ⟨a, len, cap, m, kk, D, Pl, hc, _⟩
   ·rw [hc]; rfl
   ·rw [hc]; rfl
  match cs, hl with
  | [x], _ =>
   obtain ⟨xs, hx⟩ := ints_cells h
   exact ⟨(x, xs), rfl, hx⟩) h
 exact ⟨_, xs, rfl, hx, hq⟩
set_option maxRecDepth 100000 in
theorem introws_of {r : Reach} {b0 : Nat} {v : Value} {d : DataW H} {p : List MemPlace} (hv : Value.okWide Tryz.prog w r b0 79 v) (h : DataW.Trod enc Tryz.prog w base spare held 79 v d p) : ∃ xss, IntRowsAt w v xss := by
 obtain ⟨n, hn⟩ := h
 obtain ⟨a, k, m, rfl⟩ := okWide_slice Tryz.underlying79 hv
 exact introws_cells hn
set_option maxRecDepth 100000 in
theorem shell_of {r : Reach} {b0 : Nat} {v : Value} {d : DataW H} {p : List MemPlace} (hv : Value.okWide Tryz.prog w r b0 31 v) (h : DataW.Trod enc Tryz.prog w base spare held 31 v d p) : ∃ s, ShellAt w v s := by
 obtain ⟨cs, rfl, hsz⟩ := okWide_struct Tryz.underlying31 hv
 rw [cellsShell] at hsz
 obtain ⟨n, hn⟩ := h
 obtain ⟨ys, m, _, _, hl, hyn, hf⟩ := DataW.trod_struct Tryz.underlying31 hn
 obtain ⟨l⟩ := cs
 obtain ⟨y0, y1, rfl⟩ := list2 (l := ys) (by simpa using hyn)
 obtain ⟨c0, c1, rfl⟩ := list2 (l := l) (by simpa using hsz)
 have h0 := hf 0 _ rfl
 obtain ⟨z1, h1⟩ := int_at (hf 1 _ rfl)
 simp [Value.cells, cellsInts] at h0 h1
 obtain ⟨xs, hx⟩ := ints_cells h0
 subst h1
 exact ⟨⟨xs, z1⟩, _, rfl, hx⟩
set_option maxRecDepth 100000 in
theorem origin_of {r : Reach} {b0 : Nat} {v : Value} {d : DataW H} {p : List MemPlace} (hv : Value.okWide Tryz.prog w r b0 50 v) (h : DataW.Trod enc Tryz.prog w base spare held 50 v d p) : ∃ o : Org, v = .agg #[.int .i64 o.1, .int .i64 o.2] := by
 obtain ⟨cs, rfl, hsz⟩ := okWide_struct Tryz.underlying50 hv
 rw [cellsOrigin] at hsz
 obtain ⟨n, hn⟩ := h
 obtain ⟨ys, m, _, _, hl, hyn, hf⟩ := DataW.trod_struct Tryz.underlying50 hn
 obtain ⟨l⟩ := cs
 obtain ⟨y0, y1, rfl⟩ := list2 (l := ys) (by simpa using hyn)
 obtain ⟨c0, c1, rfl⟩ := list2 (l := l) (by simpa using hsz)
 obtain ⟨z0, h0⟩ := int_at (hf 0 _ rfl)
 obtain ⟨z1, h1⟩ := int_at (hf 1 _ rfl)
 simp [Value.cells] at h0 h1
 subst h0 h1
 exact ⟨(z0, z1), rfl⟩
theorem licence_of {n : Nat} {cs : List Value} {y : DataW H × List MemPlace} (h : DataW.trod enc Tryz.prog w base spare held n 176 cs = some y) : ∃ x : Licence, cs = licC x := by
 obtain ⟨ys, m, _, _, hl, hn, hf⟩ := DataW.trod_struct Tryz.underlying176 h
 rw [cellsLicence] at hl
 obtain ⟨y0, y1, y2, y3, rfl⟩ := list4 (l := ys) (by simpa using hn)
 obtain ⟨c0, c1, c2, c3, rfl⟩ := list4 hl
 obtain ⟨z0, h0⟩ := int_at (hf 0 _ rfl)
 obtain ⟨z1, h1⟩ := int_at (hf 1 _ rfl)
 obtain ⟨z2, h2⟩ := int_at (hf 2 _ rfl)
 obtain ⟨z3, h3⟩ := int_at (hf 3 _ rfl)
 refine ⟨⟨z0, z1, z2, z3⟩, ?_⟩
 simp at h0 h1 h2 h3
 subst h0 h1 h2 h3
 rfl
theorem take_of {n : Nat} {cs : List Value} {y : DataW H × List MemPlace} (h : DataW.trod enc Tryz.prog w base spare held n 178 cs = some y) : ∃ x : Take, cs = takC x := by
 obtain ⟨ys, m, _, _, hl, hn, hf⟩ := DataW.trod_struct Tryz.underlying178 h
 rw [cellsTake] at hl
 obtain ⟨y0, y1, y2, rfl⟩ := list3 (l := ys) (by simpa using hn)
 obtain ⟨c0, c1, c2, c3, rfl⟩ := list4 hl
 obtain ⟨z0, h0⟩ := int_at (hf 0 _ rfl)
 obtain ⟨z3, h3⟩ := int_at (hf 2 _ rfl)
 have hb := hf 1 _ rfl
 obtain ⟨x, hx⟩ := span_of hb
 obtain ⟨x1, x2⟩ := x
 simp [pairC, cellsSpan] at h0 h3 hx
 obtain ⟨rfl, rfl⟩ := hx
 subst h0 h3
 exact ⟨⟨z0, x1, x2, z3⟩, rfl⟩
set_option maxRecDepth 100000 in
theorem lics_of {r : Reach} {b0 : Nat} {v : Value} {d : DataW H} {p : List MemPlace} (hv : Value.okWide Tryz.prog w r b0 110 v) (h : DataW.Trod enc Tryz.prog w base spare held 110 v d p) : ∃ l, RowOf licC w v l := by
 obtain ⟨n, hn⟩ := h
 obtain ⟨a, k, m, rfl⟩ := okWide_slice Tryz.underlying110 hv
 have : Inhabited Licence := ⟨⟨0, 0, 0, 0⟩⟩
 obtain ⟨xs, hx, _⟩ := row_of Tryz.underlying110 licC 4 cellsLicence (by omega) (fun _ => rfl) (fun _ => True) (fun n cs y h => by obtain ⟨x, hx⟩ := licence_of h; exact ⟨x, hx, trivial⟩) hn
 exact ⟨xs, hx⟩
set_option maxRecDepth 100000 in
theorem taks_of {r : Reach} {b0 : Nat} {v : Value} {d : DataW H} {p : List MemPlace} (hv : Value.okWide Tryz.prog w r b0 112 v) (h : DataW.Trod enc Tryz.prog w base spare held 112 v d p) : ∃ l, RowOf takC w v l := by
 obtain ⟨n, hn⟩ := h
 obtain ⟨a, k, m, rfl⟩ := okWide_slice Tryz.underlying112 hv
 have : Inhabited Take := ⟨⟨0, 0, 0, 0⟩⟩
 obtain ⟨xs, hx, _⟩ := row_of Tryz.underlying112 takC 4 cellsTake (by omega) (fun _ => rfl) (fun _ => True) (fun n cs y h => by obtain ⟨x, hx⟩ := take_of h; exact ⟨x, hx, trivial⟩) hn
 exact ⟨xs, hx⟩
end
end Go.Proofs.YtnhpibnneidmgaaGreatDoor
