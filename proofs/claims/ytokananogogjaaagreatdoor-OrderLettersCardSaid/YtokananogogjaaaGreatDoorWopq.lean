/- From what a row's condition gives (readings) to ints, rows, books, truths, packs, sellers, buyers as the walks know them. -/
import Derived.Test.YtokananogogjaaaGreatDoorOft
import Derived.Test.YtokananogogjaaaGreatDoorOpk
import Derived.Test.YtokananogogjaaaGreatDoorOlt
import Derived.WalkKit
import Derived.ProofKit
import Derived.OpenShut
import Derived.Deep.Slices
import Derived.Lib.SmallJoins
import Derived.Lib.LaidTab
import Derived.LaidSub
import Derived.Carry
import Derived.Test.YtokananogogjaaaGreatDoorOpr
import Derived.Test.YtokananogogjaaaGreatDoorCards
import Derived.Test.YtokananogogjaaaGreatDoorTie
import Derived.Deep.DeepHandedRow
import Derived.WideKeyArgs
namespace Go.Proofs.YtokananogogjaaaGreatDoor
open Go.ChangeShapes Go.WideShapes Go.ChangeAt Go.RowKit Go.Deep
theorem laidOut : laidOutB Tryz.prog = true := by kernel_rfl
theorem cellsInt : Tryz.prog.cellsOf 3 = 1 := by kernel_rfl
theorem cellsInts : Tryz.prog.cellsOf 42 = 1 := by kernel_rfl
theorem cellsGood : Tryz.prog.cellsOf 62 = 1 := by kernel_rfl
theorem cellsGoods : Tryz.prog.cellsOf 22 = 1 := by kernel_rfl
theorem cellsEntry : Tryz.prog.cellsOf 64 = 3 := by kernel_rfl
theorem cellsEntries : Tryz.prog.cellsOf 23 = 1 := by kernel_rfl
theorem cellsBook : Tryz.prog.cellsOf 25 = 4 := by kernel_rfl
theorem cellsRows : Tryz.prog.cellsOf 29 = 1 := by kernel_rfl
theorem cellsTruth : Tryz.prog.cellsOf 31 = 1 := by kernel_rfl
theorem cellsPack : Tryz.prog.cellsOf 118 = 2 := by kernel_rfl
theorem cellsSeller : Tryz.prog.cellsOf 139 = 3 := by kernel_rfl
theorem list1 {α : Type} {l : List α} (h : l.length = 1) : ∃ a, l = [a] := by
 match l, h with
 | [a], _ => exact ⟨a, rfl⟩
theorem list2 {α : Type} {l : List α} (h : l.length = 2) : ∃ a b, l = [a, b] := by
 match l, h with
 | [a, b], _ => exact ⟨a, b, rfl⟩
theorem list3 {α : Type} {l : List α} (h : l.length = 3) : ∃ a b c, l = [a, b, c] := by
 match l, h with
 | [a, b, c], _ => exact ⟨a, b, c, rfl⟩
theorem list4 {α : Type} {l : List α} (h : l.length = 4) : ∃ a b c d, l = [a, b, c, d] := by
 match l, h with
 | [a, b, c, d], _ => exact ⟨a, b, c, d, rfl⟩
section
variable {H : Type} {enc : TypeId × Value → H} {w : World} {base : Nat} {spare : Nat → Bool} {held : Bool}
/-- A field that is an int. -/
theorem int_at {n : Nat} {cs : List Value} {j : Nat} {y : DataW H × List MemPlace} (h : DataW.trod enc Tryz.prog w base spare held n 3 ((cs.drop j).take (Tryz.prog.cellsOf 3)) = some y) : ∃ z, cs[j]? = some (.int .i64 z) := by
 rw [cellsInt] at h
 obtain ⟨z, hz, _⟩ := DataW.trod_int Tryz.underlying3 h
 refine ⟨z, ?_⟩
 have := congrArg (·[0]?) hz
 simpa [List.getElem?_take, List.getElem?_drop] using this
theorem spot_none {a : Addr} {u : Value} (h : w.cell? a = some u) : a = ⟨a.block, a.off, none⟩ := by
 obtain ⟨b, o, s⟩ := a
 cases s with
 | none => rfl
 | some s =>
  unfold World.cell? at h
  cases ho : w.heap[b]? with
  | none => simp [ho] at h
  | some x => cases x <;> simp [ho] at h
theorem flat_len {α β : Type} (f : α → List β) (k : Nat) (hf : ∀ x, (f x).length = k) : ∀ l : List α, (l.flatMap f).length = l.length * k
 | [] => by simp
 | x :: l => by rw [List.flatMap_cons, List.length_append, flat_len f k hf l, hf, List.length_cons, Nat.succ_mul]; omega
/-- A slice, out of what its elements read as. -/
theorem row_of {α : Type} [Inhabited α] {t e : TypeId} (hu : Tryz.prog.underlying t = some (.slice e)) (f : α → List Value) (k : Nat) (hk : Tryz.prog.cellsOf e = k) (k0 : 0 < k) (hf : ∀ x, (f x).length = k) (Q : α → Prop)
  (hof : ∀ (n : Nat) (cs : List Value) (y : DataW H × List MemPlace), DataW.trod enc Tryz.prog w base spare held n e cs = some y → ∃ x, cs = f x ∧ Q x)
  {n : Nat} {c : Value} {y : DataW H × List MemPlace} (h : DataW.trod enc Tryz.prog w base spare held n t [c] = some y) : ∃ xs : List α, RowOf f w c xs ∧ ∀ x, x ∈ xs → Q x := by
 rcases open_slice hu h with ⟨hc, _⟩ | ⟨a, len, cap, m, kk, D, Pl, hc, _, hl, hm, hmm, _, hi⟩
 ·simp only [List.cons.injEq, and_true] at hc
  subst hc
  exact ⟨[], RowOf.nil f w, fun x hx => by simp at hx⟩
 ·simp only [List.cons.injEq, and_true] at hc
  subst hc
  have hle : len ≤ m := by rw [hmm]; split <;> omega
  have key : ∀ i, i < len → ∃ x : α, w.cells? base (a.add (i * k)) k = some (f x) ∧ Q x := fun i hlt => by
   obtain ⟨cs, h1, h2⟩ := hi i (by omega)
   rw [hk] at h1
   obtain ⟨x, rfl, hx⟩ := hof _ _ _ h2
   exact ⟨x, h1, hx⟩
  obtain ⟨F, hF⟩ := choose_lt key
  refine ⟨(List.range len).map F, ⟨some a, cap, by simp, by simpa using hl, hm, (fun h => by cases h), fun j u hu => ?_⟩, fun x hx => ?_⟩
  ·have hj : j < len * k := by
    have h1 := (List.getElem?_eq_some_iff.1 hu).1
    rw [flat_len f k hf] at h1
    simpa using h1
   have hq : j / k < len := Nat.div_lt_of_lt_mul (by rw [Nat.mul_comm]; exact hj)
   have hr : j % k < k := Nat.mod_lt _ k0
   have hjj : j = j / k * k + j % k := by rw [Nat.mul_comm]; exact (Nat.div_add_mod j k).symm
   rw [hjj, flatMap_at f k hf _ (j / k) (j % k) (F (j / k)) (by simp [hq]) hr] at hu
   obtain ⟨_, _, hat⟩ := World.cells?_some (hF (j / k) hq).1
   have hcell := (hat (j % k) hr).trans hu
   rw [Go.Deep.add_add, ← hjj] at hcell
   have ha : a = ⟨a.block, a.off, none⟩ := by
    obtain ⟨_, _, hat0⟩ := World.cells?_some (hF 0 (Nat.lt_of_le_of_lt (Nat.zero_le _) hq)).1
    have h0 := hat0 0 k0
    rw [Go.Deep.add_add] at h0
    have hl0 : 0 < (f (F 0)).length := by rw [hf]; exact k0
    rw [List.getElem?_eq_getElem hl0] at h0
    have h0' : w.cell? a = some (f (F 0))[0] := by simpa [Addr.add] using h0
    exact spot_none h0'
   refine ⟨a.block, a.off, by rw [← ha], ?_⟩
   rw [ha] at hcell
   unfold Addr.add at hcell
   by_cases h0 : j = 0
   ·simpa [h0] using hcell
   ·simpa [h0] using hcell
  ·obtain ⟨i, hi', rfl⟩ := List.mem_map.1 hx
   exact (hF i (List.mem_range.1 hi')).2
theorem flat_intsw : ∀ xs : List Int, xs.flatMap (fun x : Int => [Value.int .i64 x]) = xs.map (.int .i64)
 | [] => rfl
 | x :: l => by rw [List.flatMap_cons, flat_intsw l]; rfl
theorem ints_cells {n : Nat} {c : Value} {y : DataW H × List MemPlace} (h : DataW.trod enc Tryz.prog w base spare held n 42 [c] = some y) : ∃ xs, IntsAt w c xs := by
 have : Inhabited Int := ⟨0⟩
 obtain ⟨xs, hx, _⟩ := row_of Tryz.underlying42 (fun x : Int => [.int .i64 x]) 1 cellsInt (by omega) (fun _ => rfl) (fun _ => True) (fun n cs y h => by
  obtain ⟨z, hz, _⟩ := DataW.trod_int Tryz.underlying3 h
  exact ⟨z, hz, trivial⟩) h
 refine ⟨xs, ?_⟩
 unfold RowOf at hx
 rw [flat_intsw] at hx; exact hx
set_option maxRecDepth 100000 in
theorem ints_of {r : Reach} {b0 : Nat} {v : Value} {d : DataW H} {p : List MemPlace} (hv : Value.okWide Tryz.prog w r b0 42 v) (h : DataW.Trod enc Tryz.prog w base spare held 42 v d p) : ∃ xs, IntsAt w v xs := by
 obtain ⟨n, hn⟩ := h
 obtain ⟨a, k, m, rfl⟩ := okWide_slice Tryz.underlying42 hv
 exact ints_cells hn
theorem good_of {n : Nat} {cs : List Value} {y : DataW H × List MemPlace} (h : DataW.trod enc Tryz.prog w base spare held n 62 cs = some y) : ∃ x : Int, cs = [.int .i64 x] := by
 obtain ⟨ys, m, _, _, hl, hn, hf⟩ := DataW.trod_struct Tryz.underlying62 h
 rw [cellsGood] at hl
 obtain ⟨y0, rfl⟩ := list1 (l := ys) (by simpa using hn)
 obtain ⟨c0, rfl⟩ := list1 hl
 obtain ⟨z0, h0⟩ := int_at (hf 0 _ rfl)
 refine ⟨z0, ?_⟩
 simp at h0
 subst h0
 rfl
theorem goods_cells {n : Nat} {c : Value} {y : DataW H × List MemPlace} (h : DataW.trod enc Tryz.prog w base spare held n 22 [c] = some y) : ∃ xs, IntsAt w c xs := by
 have : Inhabited Int := ⟨0⟩
 obtain ⟨xs, hx, _⟩ := row_of Tryz.underlying22 (fun x : Int => [.int .i64 x]) 1 cellsGood (by omega) (fun _ => rfl) (fun _ => True) (fun n cs y h => by
  obtain ⟨z, hz⟩ := good_of h
  exact ⟨z, hz, trivial⟩) h
 refine ⟨xs, ?_⟩
 unfold RowOf at hx
 rw [flat_intsw] at hx; exact hx
theorem entry_of {n : Nat} {cs : List Value} {y : DataW H × List MemPlace} (h : DataW.trod enc Tryz.prog w base spare held n 64 cs = some y) : ∃ x : Int × Int × Int, cs = entryC x := by
 obtain ⟨ys, m, _, _, hl, hn, hf⟩ := DataW.trod_struct Tryz.underlying64 h
 rw [cellsEntry] at hl
 obtain ⟨y0, y1, y2, rfl⟩ := list3 (l := ys) (by simpa using hn)
 obtain ⟨c0, c1, c2, rfl⟩ := list3 hl
 obtain ⟨z0, h0⟩ := int_at (hf 0 _ rfl)
 obtain ⟨z1, h1⟩ := int_at (hf 1 _ rfl)
 obtain ⟨z2, h2⟩ := int_at (hf 2 _ rfl)
 refine ⟨(z0, z1, z2), ?_⟩
 simp at h0 h1 h2
 subst h0 h1 h2
 rfl
theorem entries_cells {n : Nat} {c : Value} {y : DataW H × List MemPlace} (h : DataW.trod enc Tryz.prog w base spare held n 23 [c] = some y) : ∃ xs, RowOf entryC w c xs := by
 have : Inhabited (Int × Int × Int) := ⟨(0, 0, 0)⟩
 obtain ⟨xs, hx, _⟩ := row_of Tryz.underlying23 entryC 3 cellsEntry (by omega) (fun _ => rfl) (fun _ => True) (fun n cs y h => by obtain ⟨x, hx⟩ := entry_of h; exact ⟨x, hx, trivial⟩) h
 exact ⟨xs, hx⟩
theorem rows_cells {n : Nat} {c : Value} {y : DataW H × List MemPlace} (h : DataW.trod enc Tryz.prog w base spare held n 29 [c] = some y) : ∃ xss, IntRowsAt w c xss := by
 have : Inhabited (Value × List Int) := ⟨(undef, [])⟩
 obtain ⟨xs, hx, hq⟩ := row_of Tryz.underlying29 (fun x : Value × List Int => [x.1]) 1 cellsInts (by omega) (fun _ => rfl) (fun x => IntsAt w x.1 x.2) (fun n cs y h => by
  have hl : cs.length = 1 := by
   rcases open_slice Tryz.underlying42 h with ⟨hc, _⟩ | ⟨a, len, cap, m, kk, D, Pl, hc, _⟩
   ·rw [hc]; rfl
   ·rw [hc]; rfl
  match cs, hl with
  | [x], _ =>
   obtain ⟨xs, hx⟩ := ints_cells h
   exact ⟨(x, xs), rfl, hx⟩) h
 exact ⟨_, xs, rfl, hx, hq⟩
set_option maxRecDepth 100000 in
theorem introws_of {r : Reach} {b0 : Nat} {v : Value} {d : DataW H} {p : List MemPlace} (hv : Value.okWide Tryz.prog w r b0 29 v) (h : DataW.Trod enc Tryz.prog w base spare held 29 v d p) : ∃ xss, IntRowsAt w v xss := by
 obtain ⟨n, hn⟩ := h
 obtain ⟨a, k, m, rfl⟩ := okWide_slice Tryz.underlying29 hv
 exact rows_cells hn
set_option maxRecDepth 100000 in
theorem book_of {r : Reach} {b0 : Nat} {v : Value} {d : DataW H} {p : List MemPlace} (hv : Value.okWide Tryz.prog w r b0 25 v) (h : DataW.Trod enc Tryz.prog w base spare held 25 v d p) : ∃ b, BookAt w v b := by
 obtain ⟨cs, rfl, hsz⟩ := okWide_struct Tryz.underlying25 hv
 rw [cellsBook] at hsz
 obtain ⟨n, hn⟩ := h
 obtain ⟨ys, m, _, _, hl, hyn, hf⟩ := DataW.trod_struct Tryz.underlying25 hn
 obtain ⟨l⟩ := cs
 obtain ⟨y0, y1, y2, y3, rfl⟩ := list4 (l := ys) (by simpa using hyn)
 obtain ⟨c0, c1, c2, c3, rfl⟩ := list4 (l := l) (by simpa using hsz)
 have h0 := hf 0 _ rfl
 obtain ⟨z1, h1⟩ := int_at (hf 1 _ rfl)
 obtain ⟨z2, h2⟩ := int_at (hf 2 _ rfl)
 have h3 := hf 3 _ rfl
 simp [Value.cells, cellsGoods, cellsEntries] at h0 h1 h2 h3
 obtain ⟨gs, hg⟩ := goods_cells h0
 obtain ⟨es, he⟩ := entries_cells h3
 subst h1 h2
 exact ⟨⟨gs, z1, z2, es⟩, _, _, rfl, hg, he⟩
set_option maxRecDepth 100000 in
theorem truth_of {r : Reach} {b0 : Nat} {v : Value} {d : DataW H} {p : List MemPlace} (hv : Value.okWide Tryz.prog w r b0 31 v) (h : DataW.Trod enc Tryz.prog w base spare held 31 v d p) : ∃ t, TruthAt w v t := by
 obtain ⟨cs, rfl, hsz⟩ := okWide_struct Tryz.underlying31 hv
 rw [cellsTruth] at hsz
 obtain ⟨n, hn⟩ := h
 obtain ⟨ys, m, _, _, hl, hyn, hf⟩ := DataW.trod_struct Tryz.underlying31 hn
 obtain ⟨l⟩ := cs
 obtain ⟨y0, rfl⟩ := list1 (l := ys) (by simpa using hyn)
 obtain ⟨c0, rfl⟩ := list1 (l := l) (by simpa using hsz)
 have h0 := hf 0 _ rfl
 simp [Value.cells, cellsRows] at h0
 obtain ⟨xss, hx⟩ := rows_cells h0
 exact ⟨xss, _, rfl, hx⟩
set_option maxRecDepth 100000 in
theorem entryv_of {r : Reach} {b0 : Nat} {v : Value} {d : DataW H} {p : List MemPlace} (hv : Value.okWide Tryz.prog w r b0 64 v) (h : DataW.Trod enc Tryz.prog w base spare held 64 v d p) : ∃ x : Int × Int × Int, v = .agg #[.int .i64 x.1, .int .i64 x.2.1, .int .i64 x.2.2] := by
 obtain ⟨cs, rfl, hsz⟩ := okWide_struct Tryz.underlying64 hv
 obtain ⟨n, hn⟩ := h
 obtain ⟨l⟩ := cs
 obtain ⟨x, hx⟩ := entry_of hn
 simp [Value.cells, entryC] at hx
 subst hx
 exact ⟨x, rfl⟩
theorem pack_of {n : Nat} {cs : List Value} {y : DataW H × List MemPlace} (h : DataW.trod enc Tryz.prog w base spare held n 118 cs = some y) : ∃ x : Int × Int, cs = packC x := by
 obtain ⟨ys, m, _, _, hl, hn, hf⟩ := DataW.trod_struct Tryz.underlying118 h
 rw [cellsPack] at hl
 obtain ⟨y0, y1, rfl⟩ := list2 (l := ys) (by simpa using hn)
 obtain ⟨c0, c1, rfl⟩ := list2 hl
 obtain ⟨z0, h0⟩ := int_at (hf 0 _ rfl)
 obtain ⟨z1, h1⟩ := int_at (hf 1 _ rfl)
 refine ⟨(z0, z1), ?_⟩
 simp at h0 h1
 subst h0 h1
 rfl
set_option maxRecDepth 100000 in
theorem packs_of {r : Reach} {b0 : Nat} {v : Value} {d : DataW H} {p : List MemPlace} (hv : Value.okWide Tryz.prog w r b0 76 v) (h : DataW.Trod enc Tryz.prog w base spare held 76 v d p) : ∃ l, RowOf packC w v l := by
 obtain ⟨n, hn⟩ := h
 obtain ⟨a, k, m, rfl⟩ := okWide_slice Tryz.underlying76 hv
 have : Inhabited (Int × Int) := ⟨(0, 0)⟩
 obtain ⟨xs, hx, _⟩ := row_of Tryz.underlying76 packC 2 cellsPack (by omega) (fun _ => rfl) (fun _ => True) (fun n cs y h => by obtain ⟨x, hx⟩ := pack_of h; exact ⟨x, hx, trivial⟩) hn
 exact ⟨xs, hx⟩
theorem seller_of {n : Nat} {cs : List Value} {y : DataW H × List MemPlace} (h : DataW.trod enc Tryz.prog w base spare held n 139 cs = some y) : ∃ r : SlR, cs = slrC r ∧ IntsAt w r.st r.s.stock ∧ IntsAt w r.pr r.s.price := by
 obtain ⟨ys, m, _, _, hl, hn, hf⟩ := DataW.trod_struct Tryz.underlying139 h
 rw [cellsSeller] at hl
 obtain ⟨y0, y1, y2, rfl⟩ := list3 (l := ys) (by simpa using hn)
 obtain ⟨c0, c1, c2, rfl⟩ := list3 hl
 obtain ⟨z0, h0⟩ := int_at (hf 0 _ rfl)
 have h1 := hf 1 _ rfl
 have h2 := hf 2 _ rfl
 simp [cellsInts] at h0 h1 h2
 obtain ⟨xs, hx⟩ := ints_cells h1
 obtain ⟨ps, hp⟩ := ints_cells h2
 subst h0
 exact ⟨{ s := ⟨z0, xs, ps⟩, st := c1, pr := c2 }, rfl, hx, hp⟩
set_option maxRecDepth 100000 in
theorem sellersw_of {r : Reach} {b0 : Nat} {v : Value} {d : DataW H} {p : List MemPlace} (hv : Value.okWide Tryz.prog w r b0 80 v) (h : DataW.Trod enc Tryz.prog w base spare held 80 v d p) : ∃ l, SellersAt w v l := by
 obtain ⟨n, hn⟩ := h
 obtain ⟨a, k, m, rfl⟩ := okWide_slice Tryz.underlying80 hv
 have : Inhabited SlR := ⟨{ s := ⟨0, [], []⟩, st := undef, pr := undef }⟩
 obtain ⟨xs, hx, hq⟩ := row_of Tryz.underlying80 slrC 3 cellsSeller (by omega) (fun _ => rfl) (fun r => IntsAt w r.st r.s.stock ∧ IntsAt w r.pr r.s.price) (fun n cs y h => seller_of h) hn
 exact ⟨_, xs, rfl, hx, hq⟩
set_option maxRecDepth 100000 in
theorem sellerv_of {r : Reach} {b0 : Nat} {v : Value} {d : DataW H} {p : List MemPlace} (hv : Value.okWide Tryz.prog w r b0 139 v) (h : DataW.Trod enc Tryz.prog w base spare held 139 v d p) : ∃ r : SlR, v = .agg #[.int .i64 r.s.parcel, r.st, r.pr] ∧ IntsAt w r.st r.s.stock ∧ IntsAt w r.pr r.s.price := by
 obtain ⟨cs, rfl, hsz⟩ := okWide_struct Tryz.underlying139 hv
 obtain ⟨n, hn⟩ := h
 obtain ⟨l⟩ := cs
 obtain ⟨x, hx, h1, h2⟩ := seller_of hn
 simp [Value.cells, slrC] at hx
 subst hx
 exact ⟨x, rfl, h1, h2⟩
end
end Go.Proofs.YtokananogogjaaaGreatDoor

/- What every law's last text shares: the condition behind the call, the witness's world. -/
namespace Go.Proofs.YtokananogogjaaaGreatDoor
open Go.ChangeShapes Go.WideShapes Go.ChangeAt Go.RowKit
section
variable {H : Type} {enc : TypeId × Value → H}
def Reads (ts : List TypeId) : Prop := ∀ t, t ∈ ts → Tryz.prog.readableRec t = true ∧ t < Tryz.prog.types.size
theorem trodAll_stays {W W' : World} (hx : Ext W W') : ∀ {ts : List TypeId} {vs : List Value} {ds : List (DataW H)} {ps : List MemPlace}, Reads ts → DataW.TrodAll enc Tryz.prog W 0 (fun _ => true) true ts vs ds ps →
  (∀ x, x ∈ ps → x.block < W.heap.size) → DataW.TrodAll enc Tryz.prog W' 0 (fun b => decide (b < W.heap.size)) true ts vs ds ps
 | [], _, _, _, _, h, _ => by
  obtain ⟨rfl, rfl, rfl⟩ := trodAll_nil h
  exact trodAll_mk0
 | t :: ts, _, _, _, hr, h, hlt => by
  obtain ⟨v, vs1, d, ds1, a, b, rfl, rfl, rfl, h1, h2⟩ := trodAll_cons h
  obtain ⟨hq, hs⟩ := hr t (List.mem_cons_self ..)
  exact trodAll_cons_mk (Below.trod laidOut hq hs h1 hx (fun x hx => hlt x (List.mem_append_left _ hx)))
   (trodAll_stays hx (fun u hu => hr u (List.mem_cons_of_mem _ hu)) h2 (fun x hx => hlt x (List.mem_append_right _ hx)))
/-- Behind a call that answered true and left old memory alone. -/
theorem post_true {f : Func} {s : ChangeSpec} {W W' : World} {args : Array Value} {ds gs : List (DataW H)} {before : List MemPlace} (hv : s.vars = []) (hr : f.resultTypes = #[4]) (hp : Reads f.params.toList)
  (hW : DataW.Whole enc Tryz.prog f.params.toList s.vars false W args.toList ds gs before) (hfn : (s.fn H (ds ++ gs)).results = [.lit (.bool true)] ∧ (s.fn H (ds ++ gs)).args = ds ∧ (s.fn H (ds ++ gs)).vars = []) (hx : Ext W W') :
  s.post enc Tryz.prog f false true false false W args (.bool true) W' := by
 obtain ⟨f1, f2, f3⟩ := hfn
 have hlt := fun x hx => hW.lt x hx
 have hW' := hW
 obtain ⟨p, q, hA, hV, rfl, _, _⟩ := hW
 rw [hv] at hV
 obtain ⟨rfl, rfl⟩ := trodVars_none hV
 refine ⟨ds, [], p ++ [], [], p, [], hW', ?_, ?_, ?_, ?_, fun h => by cases h⟩
 ·rw [f1, hr]
  exact trodAll_cons_mk (shut_bool Tryz.underlying4 _) trodAll_mk0
 ·rw [f2]
  exact trodAll_stays hx hp hA (fun x hx => hlt x (List.mem_append_left _ hx))
 ·rw [f3, hv]
  rfl
 ·refine World.keptBut_mono (fun x hx => ⟨hx, Or.inr (Or.inl (by simpa using hx))⟩) (Below.frame hx _)
end
/-! ### The witness's world: the settled one, the tables holding what the row lists -/
def cellOf : DataW Unit → Value
 | .lit (.int k z) => .int k z
 | _ => .bool false
def cellsOfTab : DataW Unit → Array Value
 | .agg xs => (xs.map cellOf).toArray
 | _ => #[]
def lay (d : DataW Unit) : Obj → Obj
 | .cells _ t frozen => .cells (cellsOfTab d) t frozen
 | o => o
/-! Tables whose elements are structs: their cells one after another. -/
def cellsOfT : DataW Unit → List Value
 | .lit (.int k z) => [.int k z]
 | .agg xs => xs.map cellOf
 | _ => []
def layT (d : DataW Unit) : Obj → Obj
 | .cells _ t frozen => .cells (match d with | .agg xs => (xs.flatMap cellsOfT).toArray | _ => #[]) t frozen
 | o => o
noncomputable def laidWorld (os : Os) : World :=
 { World.holding Tryz.prog os ⟨#[], #[], []⟩ with heap := (((((World.holding Tryz.prog os ⟨#[], #[], []⟩).heap.modify 3 (lay Rows.laid_internal_strconv_uint64pow10)).modify 4 (lay Rows.laid_math_bits_deBruijn32tab)).modify 5 (lay Rows.laid_math_bits_deBruijn64tab)).modify 2 (layT Rows.laid_unicode_utf8_acceptRanges)).modify 1 (layT Rows.laid_unicode_utf8_first) }
theorem laid_met (os : Os) (args : Array Value) : laidMet Tryz.prog Rows.orderLettersRow.laid ((laidWorld os).forCall (fun _ _ => 0) ⟨#[], args, []⟩).memory :=
 laidMet_of_run' 8 (by kernel_rfl) (by kernel_rfl)
/-- The digits' table, out of the row's list. -/
theorem tab_of {l : List (String × DataW Unit)} {w : World} (hl : l.filter (fun x => x.1 == "internal/strconv.uint64pow10") = [("internal/strconv.uint64pow10", Lib.tabData .u64 Lib.pow10Tab)]) (h : laidMetH Tryz.prog l w) : TabOk w := by
 have h1 := laidMetH.filter (fun x => x.1 == "internal/strconv.uint64pow10") h
 rw [hl] at h1
 exact Lib.tabIs_of_head (rest := []) (g := 3) (t := 251) (e := 214) (by kernel_rfl) (by kernel_rfl) Tryz.underlying251 Tryz.underlying214 (by kernel_rfl) (by kernel_rfl) h1
theorem tab_rows {W : World} (h : laidMetH Tryz.prog Rows.orderLettersRow.laid W) : TabOk W := tab_of (by kernel_rfl) h
theorem own : ownKnob Tryz.prog.godebug = none := by kernel_rfl
def zero : Value := .int .i64 0
def zeroD {H : Type} : DataW H := .lit (.int .i64 0)
end Go.Proofs.YtokananogogjaaaGreatDoor

/- From what a row's condition gives to a buyer. -/
namespace Go.Proofs.YtokananogogjaaaGreatDoor
open Go.ChangeShapes Go.WideShapes Go.ChangeAt Go.RowKit Go.Deep
theorem cellsSpan : Tryz.prog.cellsOf 51 = 2 := by kernel_rfl
theorem cellsLetter : Tryz.prog.cellsOf 53 = 4 := by kernel_rfl
theorem cellsLetters : Tryz.prog.cellsOf 26 = 1 := by kernel_rfl
theorem cellsBuyer : Tryz.prog.cellsOf 28 = 2 := by kernel_rfl
section
variable {H : Type} {enc : TypeId × Value → H} {w : World} {base : Nat} {spare : Nat → Bool} {held : Bool}
theorem span_of {n : Nat} {cs : List Value} {y : DataW H × List MemPlace} (h : DataW.trod enc Tryz.prog w base spare held n 51 cs = some y) : ∃ x : Int × Int, cs = [.int .i64 x.1, .int .i64 x.2] := by
 obtain ⟨ys, m, _, _, hl, hn, hf⟩ := DataW.trod_struct Tryz.underlying51 h
 rw [cellsSpan] at hl
 obtain ⟨y0, y1, rfl⟩ := list2 (l := ys) (by simpa using hn)
 obtain ⟨c0, c1, rfl⟩ := list2 hl
 obtain ⟨z0, h0⟩ := int_at (hf 0 _ rfl)
 obtain ⟨z1, h1⟩ := int_at (hf 1 _ rfl)
 refine ⟨(z0, z1), ?_⟩
 simp at h0 h1
 subst h0 h1
 rfl
theorem letter_of {n : Nat} {cs : List Value} {y : DataW H × List MemPlace} (h : DataW.trod enc Tryz.prog w base spare held n 53 cs = some y) : ∃ x : Letter, cs = letC x := by
 obtain ⟨ys, m, _, _, hl, hn, hf⟩ := DataW.trod_struct Tryz.underlying53 h
 rw [cellsLetter] at hl
 obtain ⟨y0, y1, y2, rfl⟩ := list3 (l := ys) (by simpa using hn)
 obtain ⟨c0, c1, c2, c3, rfl⟩ := list4 hl
 obtain ⟨z0, h0⟩ := int_at (hf 0 _ rfl)
 have h1 := hf 1 _ rfl
 obtain ⟨z3, h3⟩ := int_at (hf 2 _ rfl)
 simp [cellsInt, cellsSpan] at h0 h1 h3
 obtain ⟨⟨z1, z2⟩, hs⟩ := span_of h1
 simp at hs
 obtain ⟨rfl, rfl⟩ := hs
 subst h0 h3
 exact ⟨(z0, z1, z2, z3), rfl⟩
theorem letters_cells {n : Nat} {c : Value} {y : DataW H × List MemPlace} (h : DataW.trod enc Tryz.prog w base spare held n 26 [c] = some y) : ∃ xs, RowOf letC w c xs := by
 have : Inhabited Letter := ⟨(0, 0, 0, 0)⟩
 obtain ⟨xs, hx, _⟩ := row_of Tryz.underlying26 letC 4 cellsLetter (by omega) (fun _ => rfl) (fun _ => True) (fun n cs y h => by obtain ⟨x, hx⟩ := letter_of h; exact ⟨x, hx, trivial⟩) h
 exact ⟨xs, hx⟩
set_option maxRecDepth 100000 in
theorem buyer_of {r : Reach} {b0 : Nat} {v : Value} {d : DataW H} {p : List MemPlace} (hv : Value.okWide Tryz.prog w r b0 28 v) (h : DataW.Trod enc Tryz.prog w base spare held 28 v d p) : ∃ x, BuyerAt w v x := by
 obtain ⟨cs, rfl, hsz⟩ := okWide_struct Tryz.underlying28 hv
 rw [cellsBuyer] at hsz
 obtain ⟨n, hn⟩ := h
 obtain ⟨ys, m, _, _, hl, hyn, hf⟩ := DataW.trod_struct Tryz.underlying28 hn
 obtain ⟨l⟩ := cs
 obtain ⟨y0, y1, rfl⟩ := list2 (l := ys) (by simpa using hyn)
 obtain ⟨c0, c1, rfl⟩ := list2 (l := l) (by simpa using hsz)
 obtain ⟨z0, h0⟩ := int_at (hf 0 _ rfl)
 have h1 := hf 1 _ rfl
 simp [Value.cells, cellsLetters, cellsInt] at h0 h1
 obtain ⟨ls, hx⟩ := letters_cells h1
 subst h0
 exact ⟨⟨z0, ls⟩, _, rfl, hx⟩
end
end Go.Proofs.YtokananogogjaaaGreatDoor
