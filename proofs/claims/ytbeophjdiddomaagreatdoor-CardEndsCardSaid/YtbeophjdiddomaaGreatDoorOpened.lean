/- What a law's walk ends with; from what a row's condition gives (readings) to rounds as the walks know them. -/
import Derived.Test.YtbeophjdiddomaaGreatDoorKnownc
import Derived.WalkKit
import Derived.ProofKit
import Derived.OpenShut
import Derived.Deep.Slices
import Derived.Lib.SmallJoins
import Derived.Lib.LaidTab
import Derived.LaidSub
import Derived.Carry
namespace Go.Proofs.YtbeophjdiddomaaGreatDoor
open Go.RowKit

def TrueP (w : World) (e : Ending) (w' : World) : Prop := e = .returned (.bool true) ∧ Ext w w'
end Go.Proofs.YtbeophjdiddomaaGreatDoor

/- From what a row's condition gives (readings) to rounds as the walks know them. -/
namespace Go.Proofs.YtbeophjdiddomaaGreatDoor
open Go.ChangeShapes Go.WideShapes Go.ChangeAt Go.RowKit Go.Deep

theorem laidOut : laidOutB Tryz.prog = true := by kernel_rfl
theorem cellsRound : Tryz.prog.cellsOf 26 = 8 := by kernel_rfl
theorem cellsHouses : Tryz.prog.cellsOf 24 = 1 := by kernel_rfl
theorem cellsHouse : Tryz.prog.cellsOf 31 = 6 := by kernel_rfl
theorem cellsSpan : Tryz.prog.cellsOf 23 = 2 := by kernel_rfl
theorem cellsInt : Tryz.prog.cellsOf 3 = 1 := by kernel_rfl

section
variable {H : Type} {enc : TypeId × Value → H} {w : World} {base : Nat} {spare : Nat → Bool} {held : Bool}

/-- A field that is an int. -/
theorem int_at {n : Nat} {cs : List Value} {j : Nat} {y : DataW H × List MemPlace} (h : DataW.trod enc Tryz.prog w base spare held n 3 ((cs.drop j).take (Tryz.prog.cellsOf 3)) = some y) : ∃ z, cs[j]? = some (.int .i64 z) := by
  rw [cellsInt] at h
  obtain ⟨z, hz, _⟩ := DataW.trod_int Tryz.underlying3 h
  refine ⟨z, ?_⟩
  have := congrArg (·[0]?) hz
  simpa [List.getElem?_take, List.getElem?_drop] using this

theorem list6 {α : Type} {l : List α} (h : l.length = 6) : ∃ a b c d e f, l = [a, b, c, d, e, f] := by
  match l, h with
  | [a, b, c, d, e, f], _ => exact ⟨a, b, c, d, e, f, rfl⟩
theorem list7 {α : Type} {l : List α} (h : l.length = 7) : ∃ a b c d e f g, l = [a, b, c, d, e, f, g] := by
  match l, h with
  | [a, b, c, d, e, f, g], _ => exact ⟨a, b, c, d, e, f, g, rfl⟩
theorem list8 {α : Type} {l : List α} (h : l.length = 8) : ∃ a b c d e f g i, l = [a, b, c, d, e, f, g, i] := by
  match l, h with
  | [a, b, c, d, e, f, g, i], _ => exact ⟨a, b, c, d, e, f, g, i, rfl⟩
theorem list2 {α : Type} {l : List α} (h : l.length = 2) : ∃ a b, l = [a, b] := by
  match l, h with
  | [a, b], _ => exact ⟨a, b, rfl⟩

theorem len_flat : ∀ l : List House, (l.flatMap House.cells).length = l.length * 6
  | [] => rfl
  | x :: l => by
    rw [List.flatMap_cons, List.length_append, len_flat l, List.length_cons]
    show 6 + l.length * 6 = _
    omega
theorem house_of {n : Nat} {cs : List Value} {y : DataW H × List MemPlace} (h : DataW.trod enc Tryz.prog w base spare held n 31 cs = some y) : ∃ x : House, cs = x.cells := by
  obtain ⟨ys, m, _, _, hl, hn, hf⟩ := DataW.trod_struct Tryz.underlying31 h
  rw [cellsHouse] at hl
  obtain ⟨y0, y1, y2, y3, y4, y5, rfl⟩ := list6 (l := ys) (by simpa using hn)
  obtain ⟨c0, c1, c2, c3, c4, c5, rfl⟩ := list6 hl
  obtain ⟨z0, h0⟩ := int_at (hf 0 _ rfl)
  obtain ⟨z1, h1⟩ := int_at (hf 1 _ rfl)
  obtain ⟨z2, h2⟩ := int_at (hf 2 _ rfl)
  obtain ⟨z3, h3⟩ := int_at (hf 3 _ rfl)
  obtain ⟨z4, h4⟩ := int_at (hf 4 _ rfl)
  obtain ⟨z5, h5⟩ := int_at (hf 5 _ rfl)
  refine ⟨⟨z0, z1, z2, z3, z4, z5⟩, ?_⟩
  simp at h0 h1 h2 h3 h4 h5
  subst h0 h1 h2 h3 h4 h5
  rfl

theorem spot_none {a : Addr} {u : Value} (h : w.cell? a = some u) : a = ⟨a.block, a.off, none⟩ := by
  obtain ⟨b, o, s⟩ := a
  cases s with
  | none => rfl
  | some s =>
    unfold World.cell? at h
    cases ho : w.heap[b]? with
    | none => simp [ho] at h
    | some x => cases x <;> simp [ho] at h

theorem houses_of {n : Nat} {c : Value} {y : DataW H × List MemPlace} (h : DataW.trod enc Tryz.prog w base spare held n 24 [c] = some y) : ∃ hs, HousesAt w c hs := by
  rcases open_slice Tryz.underlying24 h with ⟨hc, _⟩ | ⟨a, len, cap, m, k, D, Pl, hc, _, hl, hm, hmm, _, hi⟩
  · simp only [List.cons.injEq, and_true] at hc
    subst hc
    exact ⟨[], none, 0, rfl, Nat.le_refl _, Nat.zero_le _, fun _ => rfl, fun j u hu => by simp at hu⟩
  · simp only [List.cons.injEq, and_true] at hc
    subst hc
    have hle : len ≤ m := by rw [hmm]; split <;> omega
    have key : ∀ i, i < len → ∃ x : House, w.cells? base (a.add (i * 6)) 6 = some x.cells := fun i hlt => by
      obtain ⟨cs, h1, h2⟩ := hi i (by omega)
      rw [cellsHouse] at h1
      obtain ⟨x, rfl⟩ := house_of h2
      exact ⟨x, h1⟩
    have : Inhabited House := ⟨⟨0, 0, 0, 0, 0, 0⟩⟩
    obtain ⟨F, hF⟩ := choose_lt key
    refine ⟨(List.range len).map F, some a, cap, by simp, by simpa using hl, hm, (fun h => by cases h), fun j u hu => ?_⟩
    have hj : j < len * 6 := by
      have h1 := (List.getElem?_eq_some_iff.1 hu).1
      rw [len_flat] at h1
      simpa using h1
    have hq : j / 6 < len := by omega
    have hr : j % 6 < 6 := Nat.mod_lt _ (by omega)
    have hjj : j = j / 6 * 6 + j % 6 := by omega
    rw [hjj, flatMap_at House.cells 6 (fun _ => rfl) _ (j / 6) (j % 6) (F (j / 6)) (by simp [hq]) hr] at hu
    obtain ⟨_, _, hat⟩ := World.cells?_some (hF (j / 6) hq)
    have hcell := (hat (j % 6) hr).trans hu
    rw [Go.Deep.add_add, ← hjj] at hcell
    have ha : a = ⟨a.block, a.off, none⟩ := by
      obtain ⟨_, _, hat0⟩ := World.cells?_some (hF 0 (by omega))
      have h0 := hat0 0 (by omega)
      rw [Go.Deep.add_add] at h0
      exact spot_none (u := .int .i64 (F 0).out) h0
    refine ⟨a.block, a.off, by rw [← ha], ?_⟩
    rw [ha] at hcell
    unfold Addr.add at hcell
    by_cases h0 : j = 0
    · simpa [h0] using hcell
    · simpa [h0] using hcell

set_option maxRecDepth 100000 in
theorem round_of {r : Reach} {b0 : Nat} {v : Value} {d : DataW H} {p : List MemPlace} (hv : Value.okWide Tryz.prog w r b0 26 v) (h : DataW.Trod enc Tryz.prog w base spare held 26 v d p) : ∃ x, RoundAt w v x := by
  obtain ⟨cs, rfl, hsz⟩ := okWide_struct Tryz.underlying26 hv
  rw [cellsRound] at hsz
  obtain ⟨n, hn⟩ := h
  obtain ⟨ys, m, _, _, hl, hyn, hf⟩ := DataW.trod_struct Tryz.underlying26 hn
  obtain ⟨l⟩ := cs
  obtain ⟨y0, y1, y2, y3, y4, y5, y6, rfl⟩ := list7 (l := ys) (by simpa using hyn)
  obtain ⟨c0, c1, c2, c3, c4, c5, c6, c7, rfl⟩ := list8 (l := l) (by simpa using hsz)
  obtain ⟨z0, h0⟩ := int_at (hf 0 _ rfl)
  have hb := hf 1 _ rfl
  obtain ⟨z3, h3⟩ := int_at (hf 2 _ rfl)
  obtain ⟨z4, h4⟩ := int_at (hf 3 _ rfl)
  have hhs := hf 4 _ rfl
  obtain ⟨z6, h6⟩ := int_at (hf 5 _ rfl)
  obtain ⟨z7, h7⟩ := int_at (hf 6 _ rfl)
  obtain ⟨bs, mb, _, _, hbl, hbn, hbf⟩ := DataW.trod_struct Tryz.underlying23 hb
  obtain ⟨b0, b1, rfl⟩ := list2 (l := bs) (by simpa using hbn)
  obtain ⟨z1, h1⟩ := int_at (hbf 0 _ rfl)
  obtain ⟨z2, h2⟩ := int_at (hbf 1 _ rfl)
  simp [Value.cells, cellsSpan, cellsHouses] at h0 h1 h2 h3 h4 h6 h7 hhs
  obtain ⟨hs, hhs⟩ := houses_of hhs
  subst h0 h1 h2 h3 h4 h6 h7
  exact ⟨⟨z0, z1, z2, z3, z4, hs, z6, z7⟩, c5, rfl, hhs⟩
end

/-- The digits' table, out of the row's list. -/
theorem tab_of {l : List (String × DataW Unit)} {w : World} (hl : l.filter (fun x => x.1 == "internal/strconv.uint64pow10") = [("internal/strconv.uint64pow10", Lib.tabData .u64 Lib.pow10Tab)]) (h : laidMetH Tryz.prog l w) : TabOk w := by
  have h1 := laidMetH.filter (fun x => x.1 == "internal/strconv.uint64pow10") h
  rw [hl] at h1
  exact Lib.tabIs_of_head (rest := []) (g := 1) (t := 227) (e := 208) (by kernel_rfl) (by kernel_rfl) Tryz.underlying227 Tryz.underlying208 (by kernel_rfl) (by kernel_rfl) h1
end Go.Proofs.YtbeophjdiddomaaGreatDoor
