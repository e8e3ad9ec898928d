/- From what a row's condition gives (readings) to ints, rows, books, shells, licences, takes, origins as the walks know them. -/
import Derived.Test.YtiodjapdiflphaaGreatDoorBookq
import Derived.WalkKit
import Derived.ProofKit
import Derived.OpenShut
import Derived.Deep.Slices
import Derived.Lib.SmallJoins
import Derived.Lib.LaidTab
import Derived.LaidSub
import Derived.Carry
namespace Go.Proofs.YtiodjapdiflphaaGreatDoor
open Go.ChangeShapes Go.WideShapes Go.ChangeAt Go.RowKit Go.Deep
def TrueP (w : World) (e : Ending) (w' : World) : Prop := e = .returned (.bool true) ∧ Ext w w'
theorem laidOut : laidOutB Tryz.prog = true := by kernel_rfl
theorem cellsInt : Tryz.prog.cellsOf 3 = 1 := by kernel_rfl
theorem cellsInts : Tryz.prog.cellsOf 63 = 1 := by kernel_rfl
theorem cellsSpan : Tryz.prog.cellsOf 52 = 2 := by kernel_rfl
theorem cellsSpans : Tryz.prog.cellsOf 60 = 1 := by kernel_rfl
theorem cellsRiver : Tryz.prog.cellsOf 62 = 3 := by kernel_rfl
theorem cellsRivers : Tryz.prog.cellsOf 22 = 1 := by kernel_rfl
theorem cellsBook : Tryz.prog.cellsOf 24 = 2 := by kernel_rfl
theorem list2 {α : Type} {l : List α} (h : l.length = 2) : ∃ a b, l = [a, b] := by
 match l, h with
 | [a, b], _ => exact ⟨a, b, rfl⟩
theorem list3 {α : Type} {l : List α} (h : l.length = 3) : ∃ a b c, l = [a, b, c] := by
 match l, h with
 | [a, b, c], _ => exact ⟨a, b, c, rfl⟩
section
variable {H : Type} {enc : TypeId × Value → H} {w : World} {base : Nat} {spare : Nat → Bool} {held : Bool}
/-- A field that is an int. -/
theorem int_at {n : Nat} {cs : List Value} {j : Nat} {y : DataW H × List MemPlace} (h : DataW.trod enc Tryz.prog w base spare held n 3 ((cs.drop j).take (Tryz.prog.cellsOf 3)) = some y) : ∃ z, cs[j]? = some (.int .i64 z) := by
 rw [cellsInt] at h
 obtain ⟨z, hz, _⟩ := DataW.trod_int Tryz.underlying3 h
 refine ⟨z, ?_⟩
 have := congrArg (·[0]?) hz
 simpa [List.getElem?_take, List.getElem?_drop] using this
theorem spot_none {a : Addr} {u : Value} (h : w.cell? a = some u) : a = ⟨a.block, a.off, none⟩ := by
 obtain ⟨b, o, s⟩ := a
 cases s with
 | none => rfl
 | some s =>
  unfold World.cell? at h
  cases ho : w.heap[b]? with
  | none => simp [ho] at h
  | some x => cases x <;> simp [ho] at h
theorem flat_len {α β : Type} (f : α → List β) (k : Nat) (hf : ∀ x, (f x).length = k) : ∀ l : List α, (l.flatMap f).length = l.length * k
 | [] => by simp
 | x :: l => by rw [List.flatMap_cons, List.length_append, flat_len f k hf l, hf, List.length_cons, Nat.succ_mul]; omega
/-- A slice, out of what its elements read as. -/
theorem row_of {α : Type} [Inhabited α] {t e : TypeId} (hu : Tryz.prog.underlying t = some (.slice e)) (f : α → List Value) (k : Nat) (hk : Tryz.prog.cellsOf e = k) (k0 : 0 < k) (hf : ∀ x, (f x).length = k) (Q : α → Prop)
  (hof : ∀ (n : Nat) (cs : List Value) (y : DataW H × List MemPlace), DataW.trod enc Tryz.prog w base spare held n e cs = some y → ∃ x, cs = f x ∧ Q x)
  {n : Nat} {c : Value} {y : DataW H × List MemPlace} (h : DataW.trod enc Tryz.prog w base spare held n t [c] = some y) : ∃ xs : List α, RowOf f w c xs ∧ ∀ x, x ∈ xs → Q x := by
 rcases open_slice hu h with ⟨hc, _⟩ | ⟨a, len, cap, m, kk, D, Pl, hc, _, hl, hm, hmm, _, hi⟩
 ·simp only [List.cons.injEq, and_true] at hc
  subst hc
  exact ⟨[], RowOf.nil f w, fun x hx => by simp at hx⟩
 ·simp only [List.cons.injEq, and_true] at hc
  subst hc
  have hle : len ≤ m := by rw [hmm]; split <;> omega
  have key : ∀ i, i < len → ∃ x : α, w.cells? base (a.add (i * k)) k = some (f x) ∧ Q x := fun i hlt => by
   obtain ⟨cs, h1, h2⟩ := hi i (by omega)
   rw [hk] at h1
   obtain ⟨x, rfl, hx⟩ := hof _ _ _ h2
   exact ⟨x, h1, hx⟩
  obtain ⟨F, hF⟩ := choose_lt key
  refine ⟨(List.range len).map F, ⟨some a, cap, by simp, by simpa using hl, hm, (fun h => by cases h), fun j u hu => ?_⟩, fun x hx => ?_⟩
  ·have hj : j < len * k := by
    have h1 := (List.getElem?_eq_some_iff.1 hu).1
    rw [flat_len f k hf] at h1
    simpa using h1
   have hq : j / k < len := Nat.div_lt_of_lt_mul (by rw [Nat.mul_comm]; exact hj)
   have hr : j % k < k := Nat.mod_lt _ k0
   have hjj : j = j / k * k + j % k := by rw [Nat.mul_comm]; exact (Nat.div_add_mod j k).symm
   rw [hjj, flatMap_at f k hf _ (j / k) (j % k) (F (j / k)) (by simp [hq]) hr] at hu
   obtain ⟨_, _, hat⟩ := World.cells?_some (hF (j / k) hq).1
   have hcell := (hat (j % k) hr).trans hu
   rw [Go.Deep.add_add, ← hjj] at hcell
   have ha : a = ⟨a.block, a.off, none⟩ := by
    obtain ⟨_, _, hat0⟩ := World.cells?_some (hF 0 (Nat.lt_of_le_of_lt (Nat.zero_le _) hq)).1
    have h0 := hat0 0 k0
    rw [Go.Deep.add_add] at h0
    have hl0 : 0 < (f (F 0)).length := by rw [hf]; exact k0
    rw [List.getElem?_eq_getElem hl0] at h0
    have h0' : w.cell? a = some (f (F 0))[0] := by simpa [Addr.add] using h0
    exact spot_none h0'
   refine ⟨a.block, a.off, by rw [← ha], ?_⟩
   rw [ha] at hcell
   unfold Addr.add at hcell
   by_cases h0 : j = 0
   ·simpa [h0] using hcell
   ·simpa [h0] using hcell
  ·obtain ⟨i, hi', rfl⟩ := List.mem_map.1 hx
   exact (hF i (List.mem_range.1 hi')).2
theorem flat_ints : ∀ xs : List Int, xs.flatMap (fun x : Int => [Value.int .i64 x]) = xs.map (.int .i64)
 | [] => rfl
 | x :: l => by rw [List.flatMap_cons, flat_ints l]; rfl
theorem ints_cells {n : Nat} {c : Value} {y : DataW H × List MemPlace} (h : DataW.trod enc Tryz.prog w base spare held n 63 [c] = some y) : ∃ xs, IntsAt w c xs := by
 have : Inhabited Int := ⟨0⟩
 obtain ⟨xs, hx, _⟩ := row_of Tryz.underlying63 (fun x : Int => [.int .i64 x]) 1 cellsInt (by omega) (fun _ => rfl) (fun _ => True) (fun n cs y h => by
  obtain ⟨z, hz, _⟩ := DataW.trod_int Tryz.underlying3 h
  exact ⟨z, hz, trivial⟩) h
 refine ⟨xs, ?_⟩
 unfold RowOf at hx
 rw [flat_ints] at hx; exact hx
theorem span_of {n : Nat} {cs : List Value} {y : DataW H × List MemPlace} (h : DataW.trod enc Tryz.prog w base spare held n 52 cs = some y) : ∃ x : Int × Int, cs = pairC x := by
 obtain ⟨ys, m, _, _, hl, hn, hf⟩ := DataW.trod_struct Tryz.underlying52 h
 rw [cellsSpan] at hl
 obtain ⟨y0, y1, rfl⟩ := list2 (l := ys) (by simpa using hn)
 obtain ⟨c0, c1, rfl⟩ := list2 hl
 obtain ⟨z0, h0⟩ := int_at (hf 0 _ rfl)
 obtain ⟨z1, h1⟩ := int_at (hf 1 _ rfl)
 refine ⟨(z0, z1), ?_⟩
 simp at h0 h1
 subst h0 h1
 rfl
theorem spans_cells {n : Nat} {c : Value} {y : DataW H × List MemPlace} (h : DataW.trod enc Tryz.prog w base spare held n 60 [c] = some y) : ∃ xs, PairsAt w c xs := by
 have : Inhabited (Int × Int) := ⟨(0, 0)⟩
 obtain ⟨xs, hx, _⟩ := row_of Tryz.underlying60 pairC 2 cellsSpan (by omega) (fun _ => rfl) (fun _ => True) (fun n cs y h => by obtain ⟨x, hx⟩ := span_of h; exact ⟨x, hx, trivial⟩) h
 exact ⟨xs, hx⟩
theorem river_of {n : Nat} {cs : List Value} {y : DataW H × List MemPlace} (h : DataW.trod enc Tryz.prog w base spare held n 62 cs = some y) : ∃ x : Value × River, cs = riverC x ∧ PairsAt w x.1 x.2.grow := by
 obtain ⟨ys, m, _, _, hl, hn, hf⟩ := DataW.trod_struct Tryz.underlying62 h
 rw [cellsRiver] at hl
 obtain ⟨y0, y1, y2, rfl⟩ := list3 (l := ys) (by simpa using hn)
 obtain ⟨c0, c1, c2, rfl⟩ := list3 hl
 have h0 := hf 0 _ rfl
 obtain ⟨z1, h1⟩ := int_at (hf 1 _ rfl)
 obtain ⟨z2, h2⟩ := int_at (hf 2 _ rfl)
 simp [cellsSpans] at h0 h1 h2
 obtain ⟨xs, hx⟩ := spans_cells h0
 subst h1 h2
 exact ⟨(c0, ⟨xs, z1, z2⟩), rfl, hx⟩
theorem rivers_cells {n : Nat} {c : Value} {y : DataW H × List MemPlace} (h : DataW.trod enc Tryz.prog w base spare held n 22 [c] = some y) : ∃ xs, RiversAt w c xs := by
 have : Inhabited (Value × River) := ⟨(undef, ⟨[], 0, 0⟩)⟩
 obtain ⟨xs, hx, hq⟩ := row_of Tryz.underlying22 riverC 3 cellsRiver (by omega) (fun _ => rfl) (fun x => PairsAt w x.1 x.2.grow) (fun n cs y h => river_of h) h
 exact ⟨_, xs, rfl, hx, hq⟩
set_option maxRecDepth 100000 in
theorem book_of {r : Reach} {b0 : Nat} {v : Value} {d : DataW H} {p : List MemPlace} (hv : Value.okWide Tryz.prog w r b0 24 v) (h : DataW.Trod enc Tryz.prog w base spare held 24 v d p) : ∃ b, BookAt w v b := by
 obtain ⟨cs, rfl, hsz⟩ := okWide_struct Tryz.underlying24 hv
 rw [cellsBook] at hsz
 obtain ⟨n, hn⟩ := h
 obtain ⟨ys, m, _, _, hl, hyn, hf⟩ := DataW.trod_struct Tryz.underlying24 hn
 obtain ⟨l⟩ := cs
 obtain ⟨y0, y1, rfl⟩ := list2 (l := ys) (by simpa using hyn)
 obtain ⟨c0, c1, rfl⟩ := list2 (l := l) (by simpa using hsz)
 obtain ⟨z0, h0⟩ := int_at (hf 0 _ rfl)
 have h1 := hf 1 _ rfl
 simp [Value.cells, cellsRivers] at h0 h1
 obtain ⟨rs, hr⟩ := rivers_cells h1
 subst h0
 exact ⟨⟨z0, rs⟩, _, rfl, hr⟩
end
end Go.Proofs.YtiodjapdiflphaaGreatDoor

/- Openers: sacks. -/
namespace Go.Proofs.YtiodjapdiflphaaGreatDoor
open Go.ChangeShapes Go.WideShapes Go.ChangeAt Go.RowKit Go.Deep
theorem cellsShell : Tryz.prog.cellsOf 65 = 2 := by kernel_rfl
theorem cellsSack : Tryz.prog.cellsOf 28 = 2 := by kernel_rfl
theorem cellsTest : Tryz.prog.cellsOf 104 = 2 := by kernel_rfl
theorem cellsBool : Tryz.prog.cellsOf 4 = 1 := by kernel_rfl
theorem cellsShells : Tryz.prog.cellsOf 25 = 1 := by kernel_rfl
theorem cellsTests : Tryz.prog.cellsOf 26 = 1 := by kernel_rfl
section
variable {H : Type} {enc : TypeId × Value → H} {w : World} {base : Nat} {spare : Nat → Bool} {held : Bool}
theorem bool_at {n : Nat} {cs : List Value} {j : Nat} {y : DataW H × List MemPlace} (h : DataW.trod enc Tryz.prog w base spare held n 4 ((cs.drop j).take (Tryz.prog.cellsOf 4)) = some y) : ∃ z, cs[j]? = some (.bool z) := by
 rw [cellsBool] at h
 obtain ⟨z, hz, _⟩ := DataW.trod_bool Tryz.underlying4 h
 refine ⟨z, ?_⟩
 have := congrArg (·[0]?) hz
 simpa [List.getElem?_take, List.getElem?_drop] using this
theorem test_cells {n : Nat} {cs : List Value} {y : DataW H × List MemPlace} (h : DataW.trod enc Tryz.prog w base spare held n 104 cs = some y) : ∃ x : Int × Bool, cs = testC x := by
 obtain ⟨ys, m, _, _, hl, hn, hf⟩ := DataW.trod_struct Tryz.underlying104 h
 rw [cellsTest] at hl
 obtain ⟨y0, y1, rfl⟩ := list2 (l := ys) (by simpa using hn)
 obtain ⟨c0, c1, rfl⟩ := list2 hl
 obtain ⟨z0, h0⟩ := int_at (hf 0 _ rfl)
 obtain ⟨z1, h1⟩ := bool_at (hf 1 _ rfl)
 refine ⟨(z0, z1), ?_⟩
 simp at h0 h1
 subst h0 h1
 rfl
theorem tests_cells {n : Nat} {c : Value} {y : DataW H × List MemPlace} (h : DataW.trod enc Tryz.prog w base spare held n 26 [c] = some y) : ∃ xs, RowOf testC w c xs := by
 have : Inhabited (Int × Bool) := ⟨(0, false)⟩
 obtain ⟨xs, hx, _⟩ := row_of Tryz.underlying26 testC 2 cellsTest (by omega) (fun _ => rfl) (fun _ => True) (fun n cs y h => by obtain ⟨x, hx⟩ := test_cells h; exact ⟨x, hx, trivial⟩) h
 exact ⟨xs, hx⟩
theorem shell_cells {n : Nat} {cs : List Value} {y : DataW H × List MemPlace} (h : DataW.trod enc Tryz.prog w base spare held n 65 cs = some y) : ∃ x : Value × Shell, cs = shellC x ∧ IntsAt w x.1 x.2.rings := by
 obtain ⟨ys, m, _, _, hl, hn, hf⟩ := DataW.trod_struct Tryz.underlying65 h
 rw [cellsShell] at hl
 obtain ⟨y0, y1, rfl⟩ := list2 (l := ys) (by simpa using hn)
 obtain ⟨c0, c1, rfl⟩ := list2 hl
 have h0 := hf 0 _ rfl
 obtain ⟨z1, h1⟩ := int_at (hf 1 _ rfl)
 simp [cellsInts] at h0 h1
 obtain ⟨xs, hx⟩ := ints_cells h0
 subst h1
 exact ⟨(c0, ⟨xs, z1⟩), rfl, hx⟩
theorem shells_cells {n : Nat} {c : Value} {y : DataW H × List MemPlace} (h : DataW.trod enc Tryz.prog w base spare held n 25 [c] = some y) : ∃ ss, ShellsAt w c ss := by
 have : Inhabited (Value × Shell) := ⟨(undef, ⟨[], 0⟩)⟩
 obtain ⟨xs, hx, hq⟩ := row_of Tryz.underlying25 shellC 2 cellsShell (by omega) (fun _ => rfl) (fun x => IntsAt w x.1 x.2.rings) (fun n cs y h => shell_cells h) h
 exact ⟨_, xs, rfl, hx, hq⟩
set_option maxRecDepth 100000 in
theorem sack_of {r : Reach} {b0 : Nat} {v : Value} {d : DataW H} {p : List MemPlace} (hv : Value.okWide Tryz.prog w r b0 28 v) (h : DataW.Trod enc Tryz.prog w base spare held 28 v d p) : ∃ s, SackAt w v s := by
 obtain ⟨cs, rfl, hsz⟩ := okWide_struct Tryz.underlying28 hv
 rw [cellsSack] at hsz
 obtain ⟨n, hn⟩ := h
 obtain ⟨ys, m, _, _, hl, hyn, hf⟩ := DataW.trod_struct Tryz.underlying28 hn
 obtain ⟨l⟩ := cs
 obtain ⟨y0, y1, rfl⟩ := list2 (l := ys) (by simpa using hyn)
 obtain ⟨c0, c1, rfl⟩ := list2 (l := l) (by simpa using hsz)
 have h0 := hf 0 _ rfl
 have h1 := hf 1 _ rfl
 simp [Value.cells, cellsShells, cellsTests] at h0 h1
 obtain ⟨ss, hs⟩ := shells_cells h0
 obtain ⟨ts, ht⟩ := tests_cells h1
 exact ⟨⟨ss, ts⟩, _, _, rfl, hs, ht⟩
end
end Go.Proofs.YtiodjapdiflphaaGreatDoor
