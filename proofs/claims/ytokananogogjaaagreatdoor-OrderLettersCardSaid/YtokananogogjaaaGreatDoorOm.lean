/- The library's functions that the program calls, as the shelf's contracts ask for them: the numbers of functions and types, field by field. -/
import Derived.Shelf.Lays
import Derived.Shelf.Lays2
import Derived.Shelf.Sort.Plain
import Derived.Test.YtokananogogjaaaGreatDoorProg
import Derived.Test.YtokananogogjaaaGreatDoorOw
import Derived.Shelf.Slices.CompactI
import Derived.Shelf.Slices.Reverse
import Derived.Shelf.Slices.Turned
import Derived.Sort.Grow
namespace Go.Proofs.YtokananogogjaaaGreatDoor
open Go.Shelf

def Tryz.sortI_ren : Go.Shelf.Ren := ⟨fun | 189 => 80 | 125 => 114 | 257 => 113 | 128 => 145 | 129 => 146 | 294 => 136 | 295 => 137 | 296 => 138 | 297 => 139 | 298 => 140 | 299 => 141 | 216 => 142 | 300 => 143 | 301 => 144 | 328 => 159 | 329 => 160 | 330 => 161 | 331 => 162 | 332 => 163 | 215 => 125 | 343 => 170 | n => n, fun | 28 => 42 | 3 => 3 | 46 => 180 | 0 => 0 | 51 => 212 | 53 => 214 | 4 => 4 | 183 => 205 | 182 => 204 | 131 => 209 | 5 => 5 | 9 => 9 | 218 => 226 | 222 => 230 | 228 => 237 | 229 => 238 | n => n, fun | n => n⟩
theorem Tryz.sortI : Go.Proofs.Lays.n189 Tryz.prog Tryz.sortI_ren := {
 mixed := by kernel_rfl
 f125 := Tryz.func114.trans (congrArg some (by kernel_rfl))
 f128 := Tryz.func145.trans (congrArg some (by kernel_rfl))
 f129 := Tryz.func146.trans (congrArg some (by kernel_rfl))
 f189 := Tryz.func80.trans (congrArg some (by kernel_rfl))
 f215 := Tryz.func125.trans (congrArg some (by kernel_rfl))
 f216 := Tryz.func142.trans (congrArg some (by kernel_rfl))
 f257 := Tryz.func113.trans (congrArg some (by kernel_rfl))
 f294 := Tryz.func136.trans (congrArg some (by kernel_rfl))
 f295 := Tryz.func137.trans (congrArg some (by kernel_rfl))
 f296 := Tryz.func138.trans (congrArg some (by kernel_rfl))
 f297 := Tryz.func139.trans (congrArg some (by kernel_rfl))
 f298 := Tryz.func140.trans (congrArg some (by kernel_rfl))
 f299 := Tryz.func141.trans (congrArg some (by kernel_rfl))
 f300 := Tryz.func143.trans (congrArg some (by kernel_rfl))
 f301 := Tryz.func144.trans (congrArg some (by kernel_rfl))
 f328 := Tryz.func159.trans (congrArg some (by kernel_rfl))
 f329 := Tryz.func160.trans (congrArg some (by kernel_rfl))
 f330 := Tryz.func161.trans (congrArg some (by kernel_rfl))
 f331 := Tryz.func162.trans (congrArg some (by kernel_rfl))
 f332 := Tryz.func163.trans (congrArg some (by kernel_rfl))
 f343 := Tryz.func170.trans (congrArg some (by kernel_rfl))
 t0 := Tryz.underlying0
 a0 := Tryz.isAgg0
 z0 := Tryz.sizeOf0
 v0 := Tryz.zeroValue0
 t3 := Tryz.underlying3
 a3 := Tryz.isAgg3
 z3 := Tryz.sizeOf3
 v3 := Tryz.zeroValue3
 t4 := Tryz.underlying4
 a4 := Tryz.isAgg4
 z4 := Tryz.sizeOf4
 v4 := Tryz.zeroValue4
 t5 := Tryz.underlying5
 a5 := Tryz.isAgg5
 z5 := Tryz.sizeOf5
 v5 := Tryz.zeroValue5
 t9 := Tryz.underlying9
 a9 := Tryz.isAgg9
 z9 := Tryz.sizeOf9
 v9 := Tryz.zeroValue9
 t28 := Tryz.underlying42
 a28 := Tryz.isAgg42
 z28 := Tryz.sizeOf42
 v28 := Tryz.zeroValue42
 t46 := Tryz.underlying180
 a46 := Tryz.isAgg180
 z46 := Tryz.sizeOf180
 v46 := Tryz.zeroValue180
 t51 := Tryz.underlying212
 a51 := Tryz.isAgg212
 z51 := Tryz.sizeOf212
 v51 := Tryz.zeroValue212
 t53 := Tryz.underlying214
 a53 := Tryz.isAgg214
 z53 := Tryz.sizeOf214
 v53 := Tryz.zeroValue214
 t131 := Tryz.underlying209
 a131 := Tryz.isAgg209
 z131 := Tryz.sizeOf209
 v131 := Tryz.zeroValue209
 t182 := Tryz.underlying204
 a182 := Tryz.isAgg204
 z182 := Tryz.sizeOf204
 v182 := Tryz.zeroValue204
 t183 := Tryz.underlying205
 a183 := Tryz.isAgg205
 z183 := Tryz.sizeOf205
 v183 := Tryz.zeroValue205
 t218 := Tryz.underlying226
 a218 := Tryz.isAgg226
 z218 := Tryz.sizeOf226
 v218 := Tryz.zeroValue226
 t222 := Tryz.underlying230
 a222 := Tryz.isAgg230
 z222 := Tryz.sizeOf230
 v222 := Tryz.zeroValue230
 t228 := Tryz.underlying237
 a228 := Tryz.isAgg237
 z228 := Tryz.sizeOf237
 v228 := Tryz.zeroValue237
 t229 := Tryz.underlying238
 a229 := Tryz.isAgg238
 z229 := Tryz.sizeOf238
 v229 := Tryz.zeroValue238 }

def Tryz.compI_ren : Go.Shelf.Ren := ⟨fun | 20 => 81 | n => n, fun | 22 => 42 | 3 => 3 | 4 => 4 | 0 => 0 | n => n, fun | n => n⟩
theorem Tryz.compI : Go.Proofs.Lays2.n20 Tryz.prog Tryz.compI_ren := {
 mixed := by kernel_rfl
 f20 := Tryz.func81.trans (congrArg some (by kernel_rfl))
 t0 := Tryz.underlying0
 a0 := Tryz.isAgg0
 z0 := Tryz.sizeOf0
 v0 := Tryz.zeroValue0
 t3 := Tryz.underlying3
 a3 := Tryz.isAgg3
 z3 := Tryz.sizeOf3
 v3 := Tryz.zeroValue3
 t4 := Tryz.underlying4
 a4 := Tryz.isAgg4
 z4 := Tryz.sizeOf4
 v4 := Tryz.zeroValue4
 t22 := Tryz.underlying42
 a22 := Tryz.isAgg42
 z22 := Tryz.sizeOf42
 v22 := Tryz.zeroValue42
 i3 := by kernel_rfl }

def Tryz.revI_ren : Go.Shelf.Ren := ⟨fun | 112 => 99 | n => n, fun | 28 => 42 | 3 => 3 | 4 => 4 | 0 => 0 | n => n, fun | n => n⟩
theorem Tryz.revI : Go.Proofs.Lays.n112 Tryz.prog Tryz.revI_ren := {
 mixed := by kernel_rfl
 f112 := Tryz.func99.trans (congrArg some (by kernel_rfl))
 t0 := Tryz.underlying0
 a0 := Tryz.isAgg0
 z0 := Tryz.sizeOf0
 v0 := Tryz.zeroValue0
 t3 := Tryz.underlying3
 a3 := Tryz.isAgg3
 z3 := Tryz.sizeOf3
 v3 := Tryz.zeroValue3
 t4 := Tryz.underlying4
 a4 := Tryz.isAgg4
 z4 := Tryz.sizeOf4
 v4 := Tryz.zeroValue4
 t28 := Tryz.underlying42
 a28 := Tryz.isAgg42
 z28 := Tryz.sizeOf42
 v28 := Tryz.zeroValue42 }

def Tryz.maxI_ren : Go.Shelf.Ren := ⟨fun | 113 => 57 | n => n, fun | 28 => 42 | 3 => 3 | 4 => 4 | 9 => 9 | 20 => 20 | 0 => 0 | n => n, fun | n => n⟩
theorem Tryz.maxI : Go.Proofs.Lays.n113 Tryz.prog Tryz.maxI_ren := {
 mixed := by kernel_rfl
 f113 := Tryz.func57.trans (congrArg some (by kernel_rfl))
 t0 := Tryz.underlying0
 a0 := Tryz.isAgg0
 z0 := Tryz.sizeOf0
 v0 := Tryz.zeroValue0
 t3 := Tryz.underlying3
 a3 := Tryz.isAgg3
 z3 := Tryz.sizeOf3
 v3 := Tryz.zeroValue3
 t4 := Tryz.underlying4
 a4 := Tryz.isAgg4
 z4 := Tryz.sizeOf4
 v4 := Tryz.zeroValue4
 t9 := Tryz.underlying9
 a9 := Tryz.isAgg9
 z9 := Tryz.sizeOf9
 v9 := Tryz.zeroValue9
 t20 := Tryz.underlying20
 a20 := Tryz.isAgg20
 z20 := Tryz.sizeOf20
 v20 := Tryz.zeroValue20
 t28 := Tryz.underlying42
 a28 := Tryz.isAgg42
 z28 := Tryz.sizeOf42
 v28 := Tryz.zeroValue42 }

end Go.Proofs.YtokananogogjaaaGreatDoor

/- listed; the library's Sort, Compact, Reverse and Max at integers. -/
namespace Go.Proofs.YtokananogogjaaaGreatDoor
open Go.RowKit
attribute [local go_sem] Oper.semAt_some
/-! ### In plain Lean -/
theorem compact_sorted {d : Array Int} (hs : ∀ i j, i ≤ j → j < d.size → d[i]! ≤ d[j]!) : ∀ m, m ≤ d.size → (Go.Lib.compactUpTo d m).Pairwise (· < ·) ∧ (∀ x, x ∈ Go.Lib.compactUpTo d m ↔ ∃ j, j < m ∧ d[j]! = x)
 | 0, _ => by simp [Go.Lib.compactUpTo]
 | m + 1, hm => by
  obtain ⟨h1, h2⟩ := compact_sorted hs m (by omega)
  rw [Go.Lib.compactUpTo_succ]
  cases hk : Go.Lib.keeps d m with
  | true =>
   rw [if_pos rfl]
   refine ⟨List.pairwise_append.2 ⟨h1, List.pairwise_singleton _ _, fun x hx y hy => ?_⟩, fun x => ?_⟩
   ·rw [List.mem_singleton] at hy
    subst hy
    obtain ⟨j, hj, rfl⟩ := (h2 x).1 hx
    have h3 := hs j (m - 1) (by omega) (by omega)
    have h4 := hs (m - 1) m (by omega) (by omega)
    have h5 : m = 0 ∨ d[m]! ≠ d[m - 1]! := by simpa [Go.Lib.keeps] using hk
    rcases h5 with h5 | h5
    ·omega
    ·omega
   ·rw [List.mem_append, h2, List.mem_singleton]
    constructor
    ·rintro (⟨j, hj, rfl⟩ | rfl)
     ·exact ⟨j, by omega, rfl⟩
     ·exact ⟨m, by omega, rfl⟩
    ·rintro ⟨j, hj, rfl⟩
     rcases (by omega : j < m ∨ j = m) with h | rfl
     ·exact .inl ⟨j, h, rfl⟩
     ·exact .inr rfl
  | false =>
   rw [if_neg (by simp), List.append_nil]
   refine ⟨h1, fun x => ?_⟩
   rw [h2]
   have h5 : ¬ (m = 0 ∨ d[m]! ≠ d[m - 1]!) := by simpa [Go.Lib.keeps] using hk
   constructor
   ·rintro ⟨j, hj, rfl⟩
    exact ⟨j, by omega, rfl⟩
   ·rintro ⟨j, hj, rfl⟩
    rcases (by omega : j < m ∨ j = m) with h | rfl
    ·exact ⟨j, h, rfl⟩
    ·exact ⟨j - 1, by omega, by have : ¬ d[j]! ≠ d[j - 1]! := fun h => h5 (.inr h); omega⟩
theorem compact_len (d : Array Int) (m : Nat) : (Go.Lib.compactUpTo d m).length ≤ m := by
 unfold Go.Lib.compactUpTo
 rw [List.length_map]
 exact Nat.le_trans (List.length_filter_le _ _) (by simp)
def sortL (l : List Int) : List Int := l.mergeSort fun x y => decide (x ≤ y)
theorem sortL_len (l : List Int) : (sortL l).length = l.length := List.length_mergeSort _
theorem listed_eq (l : List Int) : Go.Lib.compact (sortL l) = listedL l := by
 have hp : (sortL l).Pairwise (fun x y => decide (x ≤ y) = true) := List.pairwise_mergeSort (le := fun (x y : Int) => decide (x ≤ y)) (fun a b c h k => by simp at *; omega) (fun a b => by simp; omega) l
 have hs : ∀ i j, i ≤ j → j < (sortL l).toArray.size → (sortL l).toArray[i]! ≤ (sortL l).toArray[j]! := fun i j hij hj => by
  have hj' : j < (sortL l).length := by simpa using hj
  rcases Nat.lt_or_ge i j with h | h
  ·have := List.pairwise_iff_getElem.1 hp i j (by omega) hj' h
   rw [getElem!_pos _ i (by simp; omega), getElem!_pos _ j (by simpa using hj)]
   simpa using this
  ·have : i = j := by omega
   subst this; omega
 obtain ⟨h1, h2⟩ := compact_sorted hs (sortL l).length (by simp)
 refine (listedL_eq h1 fun x => ?_).symm
 rw [h2]
 have hm : x ∈ l ↔ x ∈ sortL l := ((List.mergeSort_perm l fun x y => decide (x ≤ y)).mem_iff).symm
 rw [hm, List.mem_iff_getElem]
 constructor
 ·rintro ⟨j, hj, rfl⟩
  exact ⟨j, hj, by rw [getElem!_pos _ j (by simpa using hj)]; simp⟩
 ·rintro ⟨j, hj, rfl⟩
  exact ⟨j, hj, by rw [getElem!_pos _ j (by simpa using hj)]; simp⟩
/-! ### The library at integers -/
structure HoldI (w : World) (g : Nat) (zs : List Int) : Prop where
 h : Go.Sort.Holds (Value.int .i64) w g 0 zs.toArray
 lt : g < w.heap.size
theorem HoldI.of_owns {w : World} {base g cap : Nat} {zs : List Int} (hown : w.ownsRow base 3 1 (.slice (some ⟨g, 0, none⟩) zs.length cap) zs.length (zs.map (.int .i64))) : HoldI w g zs :=
 ⟨fun j hj => by
  have hj' : j < zs.length := by simpa using hj
  rw [Nat.zero_add]
  refine ⟨?_, hown.frozenAt j⟩
  rw [hown.cellAt j (by omega)]
  simp [hj'], (World.ownsRow.lt hown g rfl).2⟩
theorem HoldI.ints {w : World} {g n cap : Nat} {zs ys : List Int} (h : HoldI w g (zs ++ ys)) (hn : n = zs.length) (h1 : zs.length ≤ cap) (h2 : cap ≤ 9223372036854775807) : IntsAt w (.slice (some ⟨g, 0, none⟩) n cap) zs := by
 subst hn
 refine ⟨_, cap, rfl, h1, h2, (fun h => by cases h), fun j u hj => ⟨g, 0, rfl, ?_⟩⟩
 rw [List.getElem?_map] at hj
 cases hm : zs[j]? with
 | none => rw [hm] at hj; cases hj
 | some z =>
  rw [hm] at hj
  cases hj
  have hjl := (List.getElem?_eq_some_iff.1 hm).1
  have hjl2 : j < (zs ++ ys).length := by rw [List.length_append]; omega
  have h1 := (h.h j (by simpa using hjl2)).1
  have h2 : ((zs ++ ys).toArray)[j]! = z := by
   rw [getElem!_pos _ j (by simpa using hjl2)]
   simp only [List.getElem_toArray]
   rw [List.getElem_append_left hjl]
   exact (List.getElem?_eq_some_iff.1 hm).2
  rw [h2] at h1
  exact h1
theorem put_touch (w : World) (q g : Nat) (d : Array Int) : Touch (· = g) w (Go.Sort.putRow (Value.int .i64) (Go.Sort.ahead w q) g 0 d) := by
 refine ⟨rfl, rfl, rfl, ?_, fun k o hk hn => ?_⟩
 ·simp [Go.Sort.putRow, Go.Sort.mapBlock, Go.Sort.ahead]
 ·simp only [Go.Sort.putRow, Go.Sort.mapBlock, Go.Sort.ahead]
  rw [Array.getElem?_modify, if_neg (fun e => hn e.symm)]
  exact hk
theorem HoldI.put {w : World} {g : Nat} {zs ys : List Int} (h : HoldI w g zs) (q : Nat) (hl : ys.length = zs.length) : HoldI (Go.Sort.putRow (Value.int .i64) (Go.Sort.ahead w q) g 0 ys.toArray) g ys :=
 ⟨Go.Sort.holds_putRow _ _ _ _ zs.toArray ys.toArray (Go.Sort.holds_ahead _ _ q _ _ _ h.h) (by simp [hl]), Nat.lt_of_lt_of_le h.lt (put_touch w q g ys.toArray).size⟩
open Go.Shelf Go.Lib Go.Sort in
theorem sortI_any (zs : List Int) (g cap : Nat) (w : World) (hH : HoldI w g zs) (hl : zs.length ≤ 100000) :
  Calls Tryz.prog 80 #[.slice (some ⟨g, 0, none⟩) zs.length cap] w fun e w' => e = .returned (.tuple #[]) ∧ Touch (· = g) w w' ∧ HoldI w' g (sortL zs) := by
 have hcon := Any.slices_Sort_int Tryz.sortI g 0 cap zs w hH.h hH.lt (by omega)
 refine hcon.mono ?_
 rintro e w' ⟨rfl, n, os, rfl⟩
 have hpt := hH.put n (ys := zs.mergeSort fun x y => decide (x ≤ y)) (by simp)
 have hHw := holds_grow (Value.int .i64) _ os g 0 _ hpt.lt hpt.h
 have hT : Touch (· = g) w (grow (putRow (Value.int .i64) (Sort.ahead w n) g 0 (zs.mergeSort fun x y => decide (x ≤ y)).toArray) os) := by
  refine ⟨rfl, rfl, rfl, ?_, fun k o hk hn => ?_⟩
  ·simp [grow, putRow, mapBlock, Sort.ahead]
  ·have hlt := (Array.getElem?_eq_some_iff.1 hk).1
   simp only [grow, putRow, mapBlock, Sort.ahead]
   rw [Array.getElem?_append_left (by simpa using hlt), Array.getElem?_modify, if_neg (fun e => hn e.symm)]
   exact hk
 exact ⟨rfl, hT, hHw, Nat.lt_of_lt_of_le hH.lt hT.size⟩
theorem compI_any (zs : List Int) (g cap : Nat) (w : World) (hH : HoldI w g zs) (hl : zs.length ≤ 100000) (hc : zs.length ≤ cap) (hc2 : cap ≤ 9223372036854775807) :
  Calls Tryz.prog 81 #[.slice (some ⟨g, 0, none⟩) zs.length cap] w fun e w' => ∃ v, e = .returned v ∧ Touch (· = g) w w' ∧ IntsAt w' v (Go.Lib.compact zs) := by
 have hle : (Go.Lib.compact zs).length ≤ zs.length := compact_len _ _
 refine (Any.slices_Compact_int Tryz.compI g 0 cap zs w hH.h (by omega) hc).mono ?_
 rintro e w' ⟨rfl, q, rfl⟩
 refine ⟨_, rfl, put_touch _ _ _ _, ?_⟩
 have hp := hH.put q (ys := Go.Lib.compact zs ++ List.replicate (zs.length - (Go.Lib.compact zs).length) 0) (by rw [List.length_append, List.length_replicate]; omega)
 exact hp.ints rfl (by omega) hc2
theorem revI_any (zs : List Int) (g cap : Nat) (w : World) (hH : HoldI w g zs) (hl : zs.length ≤ 100000) :
  Calls Tryz.prog 99 #[.slice (some ⟨g, 0, none⟩) zs.length cap] w fun e w' => e = .returned (.tuple #[]) ∧ Touch (· = g) w w' ∧ HoldI w' g zs.reverse := by
 refine (Any.slices_Reverse_int Tryz.revI g 0 cap zs w hH.h (by omega)).mono ?_
 rintro e w' ⟨rfl, q, rfl⟩
 exact ⟨rfl, put_touch _ _ _ _, hH.put q (by simp)⟩
/-! ### listed -/
set_option maxRecDepth 100000 in
theorem listed_any (v : Value) (xs : List Int) (w : World) (hv : IntsAt w v xs) (h0 : 0 < xs.length) (hl : xs.length ≤ 100000) :
 Calls Tryz.prog 44 #[v] w fun e w' => ∃ u, e = .returned u ∧ Ext w w' ∧ IntsAt w' u (listedL xs) := by
 have HC := Lib.hid (clone_any v xs w hv (by omega))
 obtain ⟨a, c, rfl, _⟩ := hv
 have HSO := Lib.hid (fun g cap W hH => sortI_any xs g cap W hH hl)
 have HCO := Lib.hid (fun g cap W hH h1 h2 => compI_any (sortL xs) g cap W hH (by rw [sortL_len]; exact hl) h1 h2)
 rw [sortL_len, listed_eq] at HCO
 go_enter Tryz.func44, Tryz.ntmps44
 go_wp2_with (first
  | (go_at_call 65; refine HC.out.mono ?_; rintro e w1 ⟨u, rfl, hown, hx⟩; obtain ⟨g, cap, rfl, hg1, hg2⟩ := owns_some hown h0; have hcp := owns_slice hown; obtain ⟨_, _, hve, hp1, hp2⟩ := hcp; cases hve; have hH := HoldI.of_owns hown; clear hown)
  | (go_at_call 80; refine (HSO.out _ _ _ hH).mono ?_; rintro e w2 ⟨rfl, hT, hH2⟩)
  | (go_at_call 81; refine (HCO.out _ _ _ hH2 hp1 hp2).mono ?_; rintro e w3 ⟨u, rfl, hT2, hI⟩))
 go_ret
 exact ⟨_, rfl, Touch.ext hx (hT.trans hT2) (fun i hi => by omega), hI⟩
end Go.Proofs.YtokananogogjaaaGreatDoor

/- What is open behind asked. -/
namespace Go.Proofs.YtokananogogjaaaGreatDoor
open Go.RowKit
theorem ext_new {w w' : World} {o : Obj} (h : Ext (w.alloc o) w') : w'.heap[w.heap.size]? = some o := (h.block (by simp)).trans (World.alloc_heap_new w o)
theorem ext_newd {w w' : World} {o : Obj} (h : Ext (w.alloc o).drew w') : w'.heap[w.heap.size]? = some o := (h.block (by simp)).trans (World.alloc_heap_new w o)
theorem ext_block {w w' : World} {B : Nat} {o : Obj} (h : Ext w w') (zb : w.heap[B]? = some o) : w'.heap[B]? = some o := (h.block (Array.getElem?_eq_some_iff.1 zb).1).trans zb
theorem askErr_or (b : Book) (fine : Bool) : askErr b fine = 0 ∧ isBookB b = true ∧ fine = true ∧ pageB b 0 ≠ [] ∨ askErr b fine ≠ 0 := by
 unfold askErr
 cases isBookB b <;> cases fine <;> simp
 cases h : pageB b 0 <;> simp
theorem edition_eq {b : Book} (hb : isBookB b = true) (n : Int) : isEditionW b n = isEditionB b n := by
 have h1 := (bookB_of hb).e1
 have h2 := (bookB_of hb).e3
 unfold isEditionW isEditionB
 rw [IntWalk.wrap64_in (b.editions - 1) (by omega)]
/-- asked, whatever it answers. -/
theorem asked5_any (v : Value) (b : Book) (fine : Bool) (w : World) (hb : BookAt w v b) :
 Calls Tryz.prog 45 #[v, .bool fine] w fun e w' => ∃ a1 n1 c1 x y a2 n2 c2 a3 n3 c3, e = .returned (.tuple #[.agg #[.slice a1 n1 c1, .int .i64 x, .int .i64 y, .slice a2 n2 c2, .slice a3 n3 c3], .int .i64 (askErr b fine)]) ∧ Ext w w' ∧
  (askErr b fine = 0 → ∀ W', BookAt W' v b → KeepC w.heap.size w' W' → OpenAt W' (.agg #[.slice a1 n1 c1, .int .i64 x, .int .i64 y, .slice a2 n2 c2, .slice a3 n3 c3]) b) := by
 refine (asked_any v b fine w hb).mono ?_
 rintro e w' ⟨hx, ⟨hz, rfl⟩ | ⟨hz, ga, gc, ea, ec, pv, rfl, h⟩⟩
 ·exact ⟨_, _, _, _, _, _, _, _, _, _, _, rfl, hx, fun h => absurd h hz⟩
 ·have h0 := h w' (hb.ext hx) (KeepC.refl _ _)
  obtain ⟨gv, ev, pv', hve, _, a, c, rows, hp, _⟩ := h0
  cases hve
  subst hp
  exact ⟨_, _, _, _, _, _, _, _, _, _, _, by rw [hz], hx, fun _ => h⟩
/-- The open book's box lies at block B. -/
def OpenIn (b : Book) (W : World) (B : Nat) (z : Int) (w' : World) : Prop :=
 Ext W w' ∧ ∃ a1 n1 c1 x y a2 n2 c2 a3 n3 c3, w'.heap[B]? = some (.cells #[.slice a1 n1 c1, .int .i64 x, .int .i64 y, .slice a2 n2 c2, .slice a3 n3 c3] 95) ∧ (z = 0 → OpenAt w' (.agg #[.slice a1 n1 c1, .int .i64 x, .int .i64 y, .slice a2 n2 c2, .slice a3 n3 c3]) b)
theorem openIn_store {v : Value} {b : Book} {W w1 w2 w3 : World} {B : Nat} {z : Int} {a1 a2 a3 : Option Addr} {n1 c1 n2 c2 n3 c3 : Nat} {x y : Int} {z0 z1 z2 z3 z4 : Value} (hb : BookAt W v b) (h2 : Ext W w3) (h3 : Ext w2 w3) (hzb : w3.heap[B]? = some (.cells #[z0, z1, z2, z3, z4] 95)) (hB : W.heap.size ≤ B) (hlt : B < w1.heap.size ∨ w2.heap.size ≤ B)
  (hop : z = 0 → ∀ W', BookAt W' v b → KeepC w1.heap.size w2 W' → OpenAt W' (.agg #[.slice a1 n1 c1, .int .i64 x, .int .i64 y, .slice a2 n2 c2, .slice a3 n3 c3]) b) :
  OpenIn b W B z (((((w3.setCell ⟨B, 0, none⟩ (.slice a1 n1 c1)).setCell ⟨B, 1, none⟩ (.int .i64 x)).setCell ⟨B, 2, none⟩ (.int .i64 y)).setCell ⟨B, 3, none⟩ (.slice a2 n2 c2)).setCell ⟨B, 4, none⟩ (.slice a3 n3 c3)) := by
 have hT := open_touch w3 B (.slice a1 n1 c1) (.int .i64 x) (.int .i64 y) (.slice a2 n2 c2) (.slice a3 n3 c3)
 have hX := Touch.ext h2 hT (fun i hi => by omega)
 refine ⟨hX, _, _, _, _, _, _, _, _, _, _, _, open_store hzb _ _ _ _ _, fun hz => hop hz _ (hb.ext hX) (fun k o hk ho hc => ?_)⟩
 have hk2 := (Array.getElem?_eq_some_iff.1 ho).1
 exact hT.keep k o ((h3.block hk2).trans ho) (by omega)
theorem openIn_before {v : Value} {b : Book} {W w1 w2 : World} {B : Nat} {z : Int} {a1 a2 a3 : Option Addr} {n1 c1 n2 c2 n3 c3 : Nat} {x y : Int} {z0 z1 z2 z3 z4 : Value} (hb : BookAt W v b) (h2 : Ext W w2) (hzb : w2.heap[B]? = some (.cells #[z0, z1, z2, z3, z4] 95)) (hB : W.heap.size ≤ B) (hlt : B < w1.heap.size)
  (hop : z = 0 → ∀ W', BookAt W' v b → KeepC w1.heap.size w2 W' → OpenAt W' (.agg #[.slice a1 n1 c1, .int .i64 x, .int .i64 y, .slice a2 n2 c2, .slice a3 n3 c3]) b) :
  OpenIn b W B z (((((w2.setCell ⟨B, 0, none⟩ (.slice a1 n1 c1)).setCell ⟨B, 1, none⟩ (.int .i64 x)).setCell ⟨B, 2, none⟩ (.int .i64 y)).setCell ⟨B, 3, none⟩ (.slice a2 n2 c2)).setCell ⟨B, 4, none⟩ (.slice a3 n3 c3)) :=
 openIn_store hb h2 (Ext.refl _) hzb hB (.inl hlt) hop
theorem openIn_after {v : Value} {b : Book} {W w1 w2 : World} {z : Int} {a1 a2 a3 : Option Addr} {n1 c1 n2 c2 n3 c3 : Nat} {x y : Int} (hb : BookAt W v b) (h2 : Ext W w2)
  (hop : z = 0 → ∀ W', BookAt W' v b → KeepC w1.heap.size w2 W' → OpenAt W' (.agg #[.slice a1 n1 c1, .int .i64 x, .int .i64 y, .slice a2 n2 c2, .slice a3 n3 c3]) b) :
  OpenIn b W w2.heap.size z (w2.alloc (.cells #[.slice a1 n1 c1, .int .i64 x, .int .i64 y, .slice a2 n2 c2, .slice a3 n3 c3] 95)) :=
 ⟨h2.alloc _, _, _, _, _, _, _, _, _, _, _, _, World.alloc_heap_new _ _, fun hz => hop hz _ (hb.ext (h2.alloc _)) (KeepC.of_ext ((Ext.refl w2).alloc _))⟩
def NumsRes (b : Book) (fine : Bool) (l : List Int) (w : World) (e : Ending) (w' : World) : Prop :=
 Ext w w' ∧ ((askErr b fine ≠ 0 ∧ e = .returned (.tuple #[.slice none 0 0, .int .i64 (askErr b fine)])) ∨ (askErr b fine = 0 ∧ ∃ u, e = .returned (.tuple #[u, .int .i64 0]) ∧ IntsAt w' u l))
end Go.Proofs.YtokananogogjaaaGreatDoor
