/- What every law's last text shares: the condition behind the call, the witness's world. -/
import Derived.Test.YtbeophjdiddomaaGreatDoorOpened
import Derived.Test.YtbeophjdiddomaaGreatDoorCards
import Derived.Test.YtbeophjdiddomaaGreatDoorTie
import Derived.Deep.DeepHandedRow
import Derived.WideKeyArgs
namespace Go.Proofs.YtbeophjdiddomaaGreatDoor
open Go.ChangeShapes Go.WideShapes Go.ChangeAt Go.RowKit

section
variable {H : Type} {enc : TypeId × Value → H}

def Reads (ts : List TypeId) : Prop := ∀ t, t ∈ ts → Tryz.prog.readableRec t = true ∧ t < Tryz.prog.types.size

theorem trodAll_stays {W W' : World} (hx : Ext W W') : ∀ {ts : List TypeId} {vs : List Value} {ds : List (DataW H)} {ps : List MemPlace}, Reads ts → DataW.TrodAll enc Tryz.prog W 0 (fun _ => true) true ts vs ds ps →
    (∀ x, x ∈ ps → x.block < W.heap.size) → DataW.TrodAll enc Tryz.prog W' 0 (fun b => decide (b < W.heap.size)) true ts vs ds ps
  | [], _, _, _, _, h, _ => by
    obtain ⟨rfl, rfl, rfl⟩ := trodAll_nil h
    exact trodAll_mk0
  | t :: ts, _, _, _, hr, h, hlt => by
    obtain ⟨v, vs1, d, ds1, a, b, rfl, rfl, rfl, h1, h2⟩ := trodAll_cons h
    obtain ⟨hq, hs⟩ := hr t (List.mem_cons_self ..)
    exact trodAll_cons_mk (Below.trod laidOut hq hs h1 hx (fun x hx => hlt x (List.mem_append_left _ hx)))
      (trodAll_stays hx (fun u hu => hr u (List.mem_cons_of_mem _ hu)) h2 (fun x hx => hlt x (List.mem_append_right _ hx)))

/-- Behind a call that answered true and left old memory alone. -/
theorem post_true {f : Func} {s : ChangeSpec} {W W' : World} {args : Array Value} {ds gs : List (DataW H)} {before : List MemPlace} (hv : s.vars = []) (hr : f.resultTypes = #[4]) (hp : Reads f.params.toList)
    (hW : DataW.Whole enc Tryz.prog f.params.toList s.vars false W args.toList ds gs before) (hfn : (s.fn H (ds ++ gs)).results = [.lit (.bool true)] ∧ (s.fn H (ds ++ gs)).args = ds ∧ (s.fn H (ds ++ gs)).vars = []) (hx : Ext W W') :
    s.post enc Tryz.prog f false true false false W args (.bool true) W' := by
  obtain ⟨f1, f2, f3⟩ := hfn
  have hlt := fun x hx => hW.lt x hx
  have hW' := hW
  obtain ⟨p, q, hA, hV, rfl, _, _⟩ := hW
  rw [hv] at hV
  obtain ⟨rfl, rfl⟩ := trodVars_none hV
  refine ⟨ds, [], p ++ [], [], p, [], hW', ?_, ?_, ?_, ?_, fun h => by cases h⟩
  · rw [f1, hr]
    exact trodAll_cons_mk (shut_bool Tryz.underlying4 _) trodAll_mk0
  · rw [f2]
    exact trodAll_stays hx hp hA (fun x hx => hlt x (List.mem_append_left _ hx))
  · rw [f3, hv]
    rfl
  · refine World.keptBut_mono (fun x hx => ⟨hx, Or.inr (Or.inl (by simpa using hx))⟩) (Below.frame hx _)
end

/-! ### The witness's world: the settled one, the tables holding what the row lists -/
def cellOf : DataW Unit → Value
  | .lit (.int k z) => .int k z
  | _ => .bool false
def cellsOfTab : DataW Unit → Array Value
  | .agg xs => (xs.map cellOf).toArray
  | _ => #[]
def lay (d : DataW Unit) : Obj → Obj
  | .cells _ t frozen => .cells (cellsOfTab d) t frozen
  | o => o
noncomputable def laidWorld (os : Os) : World :=
  { World.holding Tryz.prog os ⟨#[], #[], []⟩ with heap := (((World.holding Tryz.prog os ⟨#[], #[], []⟩).heap.modify 1 (lay Rows.laid_internal_strconv_uint64pow10)).modify 4 (lay Rows.laid_math_bits_deBruijn32tab)).modify 5 (lay Rows.laid_math_bits_deBruijn64tab) }
theorem laid_met (os : Os) (args : Array Value) : laidMet Tryz.prog Rows.cardEndsRow.laid ((laidWorld os).forCall (fun _ _ => 0) ⟨#[], args, []⟩).memory :=
  laidMet_of_run' 8 (by kernel_rfl) (by kernel_rfl)
theorem tab_rows {W : World} (h : laidMetH Tryz.prog Rows.cardEndsRow.laid W) : TabOk W := tab_of (by kernel_rfl) h
theorem own : ownKnob Tryz.prog.godebug = none := by kernel_rfl
/-- The zero round. -/
def zero : Value := .int .i64 0
def zeroRound : Value := .agg #[zero, zero, zero, zero, zero, .slice none 0 0, zero, zero]
def zeroD {H : Type} : DataW H := .lit (.int .i64 0)
def zeroRoundD {H : Type} : DataW H := .agg [zeroD, .agg [zeroD, zeroD], zeroD, zeroD, .nil, zeroD, zeroD]
end Go.Proofs.YtbeophjdiddomaaGreatDoor

/- From what a row's condition gives (readings) to lists of ints, rows of ints, roads, kinds, truths as the walks know them. -/
namespace Go.Proofs.YtbeophjdiddomaaGreatDoor
open Go.ChangeShapes Go.WideShapes Go.ChangeAt Go.RowKit Go.Deep

theorem cellsInts : Tryz.prog.cellsOf 33 = 1 := by kernel_rfl

section
variable {H : Type} {enc : TypeId × Value → H} {w : World} {base : Nat} {spare : Nat → Bool} {held : Bool}

theorem ints_cells {n : Nat} {c : Value} {y : DataW H × List MemPlace} (h : DataW.trod enc Tryz.prog w base spare held n 33 [c] = some y) : ∃ xs, IntsAt w c xs := by
  rcases open_ints Tryz.underlying33 Tryz.underlying3 cellsInt h with ⟨hc, _⟩ | ⟨a, len, cap, zs, hc, _, hl, hm, hmm, _, hi, _⟩
  · simp only [List.cons.injEq, and_true] at hc
    subst hc
    exact ⟨[], IntsAt.nil _⟩
  · simp only [List.cons.injEq, and_true] at hc
    subst hc
    have hle : len ≤ zs.length := by rw [hmm]; split <;> omega
    have hlen : (zs.take len).length = len := by simp [hle]
    refine ⟨zs.take len, some a, cap, by rw [hlen], by rw [hlen]; exact hl, hm, (fun h => by cases h), fun j u hu => ?_⟩
    have hj : j < len := by
      have h1 := (List.getElem?_eq_some_iff.1 hu).1
      rw [List.length_map, hlen] at h1
      exact h1
    have hu2 : u = .int .i64 (zs.getD j 0) := by
      rw [List.getElem?_map, List.getElem?_take, if_pos hj, List.getElem?_eq_getElem (by omega)] at hu
      simp only [Option.map_some, Option.some.injEq] at hu
      rw [← hu]
      simp [List.getD, List.getElem?_eq_getElem (show j < zs.length by omega)]
    have hcell := hi j (by omega)
    have h0 := hi 0 (by omega)
    have ha : a = ⟨a.block, a.off, none⟩ := spot_none h0
    refine ⟨a.block, a.off, by rw [← ha], ?_⟩
    rw [hu2, ← hcell, ha]
    unfold Addr.add
    by_cases h0 : j = 0
    · simp [h0]
    · simp [h0]
set_option maxRecDepth 100000 in
theorem ints_of {r : Reach} {b0 : Nat} {v : Value} {d : DataW H} {p : List MemPlace} (hv : Value.okWide Tryz.prog w r b0 33 v) (h : DataW.Trod enc Tryz.prog w base spare held 33 v d p) : ∃ xs, IntsAt w v xs := by
  obtain ⟨n, hn⟩ := h
  obtain ⟨a, k, m, rfl⟩ := okWide_slice Tryz.underlying33 hv
  exact ints_cells hn
theorem rows_cells {n : Nat} {c : Value} {y : DataW H × List MemPlace} (h : DataW.trod enc Tryz.prog w base spare held n 67 [c] = some y) : ∃ xss, RowsAt w c xss := by
  rcases open_slice Tryz.underlying67 h with ⟨hc, _⟩ | ⟨a, len, cap, m, k, D, Pl, hc, _, hl, hm, hmm, _, hi⟩
  · simp only [List.cons.injEq, and_true] at hc
    subst hc
    exact ⟨[], RowsAt.nil _⟩
  · simp only [List.cons.injEq, and_true] at hc
    subst hc
    have hle : len ≤ m := by rw [hmm]; split <;> omega
    have key : ∀ i, i < len → ∃ p : Value × List Int, w.cell? (a.add i) = some p.1 ∧ IntsAt w p.1 p.2 := fun i hlt => by
      obtain ⟨cs, h1, h2⟩ := hi i (by omega)
      rw [cellsInts] at h1
      obtain ⟨_, hcl, hat⟩ := World.cells?_some h1
      obtain ⟨x, rfl⟩ : ∃ x, cs = [x] := by
        match cs, hcl with
        | [x], _ => exact ⟨x, rfl⟩
      obtain ⟨xs, hx⟩ := ints_cells h2
      have h3 := hat 0 (by omega)
      rw [Go.Deep.add_add] at h3
      exact ⟨(x, xs), by simpa using h3, hx⟩
    have : Inhabited (Value × List Int) := ⟨(undef, [])⟩
    obtain ⟨F, hF⟩ := choose_lt key
    refine ⟨(List.range len).map (fun i => (F i).2), (List.range len).map (fun i => (F i).1), by simp, ⟨some a, cap, by simp, by simpa using hl, hm, (fun h => by cases h), fun j u hj => ?_⟩, fun i x xs hx hxs => ?_⟩
    · have hj' : j < len := by have := (List.getElem?_eq_some_iff.1 hj).1; simpa using this
      rw [List.getElem?_map, List.getElem?_range hj'] at hj
      simp only [Option.map_some, Option.some.injEq] at hj
      subst hj
      have ha : a = ⟨a.block, a.off, none⟩ := spot_none (hF 0 (by omega)).1
      refine ⟨a.block, a.off, by rw [← ha], ?_⟩
      have hc := (hF j hj').1
      rw [ha] at hc
      unfold Addr.add at hc
      by_cases h0 : j = 0
      · simpa [h0] using hc
      · simpa [h0] using hc
    · have hi' : i < len := by have := (List.getElem?_eq_some_iff.1 hx).1; simpa using this
      rw [List.getElem?_map, List.getElem?_range hi'] at hx hxs
      simp only [Option.map_some, Option.some.injEq] at hx hxs
      subst hx hxs
      exact (hF i hi').2
set_option maxRecDepth 100000 in
theorem rows_of {r : Reach} {b0 : Nat} {v : Value} {d : DataW H} {p : List MemPlace} (hv : Value.okWide Tryz.prog w r b0 67 v) (h : DataW.Trod enc Tryz.prog w base spare held 67 v d p) : ∃ xss, RowsAt w v xss := by
  obtain ⟨n, hn⟩ := h
  obtain ⟨a, k, m, rfl⟩ := okWide_slice Tryz.underlying67 hv
  exact rows_cells hn
theorem cellsKind : Tryz.prog.cellsOf 123 = 2 := by kernel_rfl
theorem len_flatK : ∀ l : List Kind, (l.flatMap Kind.cells).length = l.length * 2
  | [] => rfl
  | x :: l => by
    rw [List.flatMap_cons, List.length_append, len_flatK l, List.length_cons]
    show 2 + l.length * 2 = _
    omega
theorem kind_of {n : Nat} {cs : List Value} {y : DataW H × List MemPlace} (h : DataW.trod enc Tryz.prog w base spare held n 123 cs = some y) : ∃ x : Kind, cs = x.cells := by
  obtain ⟨ys, m, _, _, hl, hn, hf⟩ := DataW.trod_struct Tryz.underlying123 h
  rw [cellsKind] at hl
  obtain ⟨y0, y1, rfl⟩ := list2 (l := ys) (by simpa using hn)
  obtain ⟨c0, c1, rfl⟩ := list2 hl
  obtain ⟨z0, h0⟩ := int_at (hf 0 _ rfl)
  obtain ⟨z1, h1⟩ := int_at (hf 1 _ rfl)
  refine ⟨⟨z0, z1⟩, ?_⟩
  simp at h0 h1
  subst h0 h1
  rfl
theorem kinds_cells {n : Nat} {c : Value} {y : DataW H × List MemPlace} (h : DataW.trod enc Tryz.prog w base spare held n 74 [c] = some y) : ∃ hs, KindsAt w c hs := by
  rcases open_slice Tryz.underlying74 h with ⟨hc, _⟩ | ⟨a, len, cap, m, k, D, Pl, hc, _, hl, hm, hmm, _, hi⟩
  · simp only [List.cons.injEq, and_true] at hc
    subst hc
    exact ⟨[], none, 0, rfl, Nat.le_refl _, Nat.zero_le _, fun _ => rfl, fun j u hu => by simp at hu⟩
  · simp only [List.cons.injEq, and_true] at hc
    subst hc
    have hle : len ≤ m := by rw [hmm]; split <;> omega
    have key : ∀ i, i < len → ∃ x : Kind, w.cells? base (a.add (i * 2)) 2 = some x.cells := fun i hlt => by
      obtain ⟨cs, h1, h2⟩ := hi i (by omega)
      rw [cellsKind] at h1
      obtain ⟨x, rfl⟩ := kind_of h2
      exact ⟨x, h1⟩
    have : Inhabited Kind := ⟨⟨0, 0⟩⟩
    obtain ⟨F, hF⟩ := choose_lt key
    refine ⟨(List.range len).map F, some a, cap, by simp, by simpa using hl, hm, (fun h => by cases h), fun j u hu => ?_⟩
    have hj : j < len * 2 := by
      have h1 := (List.getElem?_eq_some_iff.1 hu).1
      rw [len_flatK] at h1
      simpa using h1
    have hq : j / 2 < len := by omega
    have hr : j % 2 < 2 := Nat.mod_lt _ (by omega)
    have hjj : j = j / 2 * 2 + j % 2 := by omega
    rw [hjj, flatMap_at Kind.cells 2 (fun _ => rfl) _ (j / 2) (j % 2) (F (j / 2)) (by simp [hq]) hr] at hu
    obtain ⟨_, _, hat⟩ := World.cells?_some (hF (j / 2) hq)
    have hcell := (hat (j % 2) hr).trans hu
    rw [Go.Deep.add_add, ← hjj] at hcell
    have ha : a = ⟨a.block, a.off, none⟩ := by
      obtain ⟨_, _, hat0⟩ := World.cells?_some (hF 0 (by omega))
      have h0 := hat0 0 (by omega)
      rw [Go.Deep.add_add] at h0
      exact spot_none (u := .int .i64 (F 0).holds) h0
    refine ⟨a.block, a.off, by rw [← ha], ?_⟩
    rw [ha] at hcell
    unfold Addr.add at hcell
    by_cases h0 : j = 0
    · simpa [h0] using hcell
    · simpa [h0] using hcell
set_option maxRecDepth 100000 in
theorem kinds_of {r : Reach} {b0 : Nat} {v : Value} {d : DataW H} {p : List MemPlace} (hv : Value.okWide Tryz.prog w r b0 74 v) (h : DataW.Trod enc Tryz.prog w base spare held 74 v d p) : ∃ ks, KindsAt w v ks := by
  obtain ⟨n, hn⟩ := h
  obtain ⟨a, k, m, rfl⟩ := okWide_slice Tryz.underlying74 hv
  exact kinds_cells hn
theorem cellsRoads : Tryz.prog.cellsOf 69 = 3 := by kernel_rfl
theorem cellsRows : Tryz.prog.cellsOf 67 = 1 := by kernel_rfl
theorem list3 {α : Type} {l : List α} (h : l.length = 3) : ∃ a b c, l = [a, b, c] := by
  match l, h with
  | [a, b, c], _ => exact ⟨a, b, c, rfl⟩
set_option maxRecDepth 100000 in
theorem roads_of {r : Reach} {b0 : Nat} {v : Value} {d : DataW H} {p : List MemPlace} (hv : Value.okWide Tryz.prog w r b0 69 v) (h : DataW.Trod enc Tryz.prog w base spare held 69 v d p) : ∃ c, RoadsAt w v c := by
  obtain ⟨cs, rfl, hsz⟩ := okWide_struct Tryz.underlying69 hv
  rw [cellsRoads] at hsz
  obtain ⟨n, hn⟩ := h
  obtain ⟨ys, m, _, _, hl, hyn, hf⟩ := DataW.trod_struct Tryz.underlying69 hn
  obtain ⟨l⟩ := cs
  obtain ⟨y0, y1, y2, rfl⟩ := list3 (l := ys) (by simpa using hyn)
  obtain ⟨c0, c1, c2, rfl⟩ := list3 (l := l) (by simpa using hsz)
  have h0 := hf 0 _ rfl
  obtain ⟨z1, h1⟩ := int_at (hf 1 _ rfl)
  have h2 := hf 2 _ rfl
  simp [Value.cells, cellsInts, cellsRows] at h0 h1 h2
  obtain ⟨xs, hx⟩ := ints_cells h0
  obtain ⟨xss, hxx⟩ := rows_cells h2
  subst h1
  exact ⟨⟨xs, z1, xss⟩, c0, c2, rfl, hx, hxx⟩
end
/-- What a truth says: the weight of a button, full cards and loose buttons. -/
structure Truth where
  button : Int
  full : List Int
  loose : List Int
def TruthAt (w : World) (v : Value) (x : Truth) : Prop := ∃ fv lv, v = .agg #[.int .i64 x.button, fv, lv] ∧ IntsAt w fv x.full ∧ IntsAt w lv x.loose
theorem TruthAt.ext {w w' : World} {v : Value} {x : Truth} (h : TruthAt w v x) (k : Ext w w') : TruthAt w' v x := by
  obtain ⟨fv, lv, h1, h2, h3⟩ := h
  exact ⟨fv, lv, h1, h2.ext k, h3.ext k⟩
theorem cellsTruth : Tryz.prog.cellsOf 42 = 3 := by kernel_rfl
section
variable {H : Type} {enc : TypeId × Value → H} {w : World} {base : Nat} {spare : Nat → Bool} {held : Bool}
set_option maxRecDepth 100000 in
theorem truth_of {r : Reach} {b0 : Nat} {v : Value} {d : DataW H} {p : List MemPlace} (hv : Value.okWide Tryz.prog w r b0 42 v) (h : DataW.Trod enc Tryz.prog w base spare held 42 v d p) : ∃ x, TruthAt w v x := by
  obtain ⟨cs, rfl, hsz⟩ := okWide_struct Tryz.underlying42 hv
  rw [cellsTruth] at hsz
  obtain ⟨n, hn⟩ := h
  obtain ⟨ys, m, _, _, hl, hyn, hf⟩ := DataW.trod_struct Tryz.underlying42 hn
  obtain ⟨l⟩ := cs
  obtain ⟨y0, y1, y2, rfl⟩ := list3 (l := ys) (by simpa using hyn)
  obtain ⟨c0, c1, c2, rfl⟩ := list3 (l := l) (by simpa using hsz)
  obtain ⟨z0, h0⟩ := int_at (hf 0 _ rfl)
  have h1 := hf 1 _ rfl
  have h2 := hf 2 _ rfl
  simp [Value.cells, cellsInts] at h0 h1 h2
  obtain ⟨xs, hx⟩ := ints_cells h1
  obtain ⟨ys, hy⟩ := ints_cells h2
  subst h0
  exact ⟨⟨z0, xs, ys⟩, c1, c2, rfl, hx, hy⟩
end
end Go.Proofs.YtbeophjdiddomaaGreatDoor
