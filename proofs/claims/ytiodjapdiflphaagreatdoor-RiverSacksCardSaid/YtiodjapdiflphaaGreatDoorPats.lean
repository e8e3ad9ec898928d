/- many, patterns. -/
import Derived.Test.YtiodjapdiflphaaGreatDoorAsked
import Derived.Shelf.Sort.Plain
import Derived.Test.YtiodjapdiflphaaGreatDoorOrgs
namespace Go.Proofs.YtiodjapdiflphaaGreatDoor
open Go.RowKit
attribute [local go_sem] Oper.semAt_some
def manyTo (p k : Nat) : Nat := ((List.range k).filter (hasB p)).length
theorem manyTo_succ (p k : Nat) : manyTo p (k + 1) = manyTo p k + if p.testBit k then 1 else 0 := by
 unfold manyTo; rw [List.range_succ, List.filter_append, List.length_append]
 congr 1
 by_cases h : p.testBit k = true <;> simp [hasB, h]
theorem manyTo_le (p k : Nat) : manyTo p k ≤ k := Nat.le_trans (List.length_filter_le _ _) (by simp)
set_option maxRecDepth 100000 in
set_option maxHeartbeats 1000000 in
theorem many_any (p : Nat) (w : World) (hp : p < 4611686018427387904) : Calls Tryz.prog 52 #[.int .i64 p] w fun e w' => e = .returned (.int .i64 (manyB p)) ∧ w = w' := by
 have HH := Lib.hid (fun k (hk : k < 64) => has_any p k w hp hk)
 go_enter Tryz.func52, Tryz.ntmps52
 go_wp2
 go_loop [3, 5] (fun n i => ∃ k : Nat, k ≤ 4 ∧ i = .int .i64 k ∧ n = .int .i64 (manyTo p k)) (fun _ i => 4 - (intOf i).toNat)
 case atStart => exact ⟨0, by omega, rfl, rfl⟩
 case round =>
  obtain ⟨k, hk, rfl, rfl⟩ := hrel
  by_cases hlt : k < 4
  ·have t1 : decide ((k : Int) < 4) = true := by simp; omega
   have HK := Lib.hid (HH.out k (by omega))
   have hs := manyTo_succ p k
   have hm := manyTo_le p k
   cases hb : p.testBit k with
   | true =>
    rw [hb] at HK hs
    have HS := Lib.hid hs
    clear hs hb
    go_wp2_with (go_at_call 74; refine HK.out.mono ?_; rintro e w' ⟨rfl, rfl⟩)
    go_round
    case rel => exact ⟨k + 1, by omega, by go_num, by rw [HS.out, if_pos (by trivial)]; go_num⟩
    case measure => simp [intOf]; omega
   | false =>
    rw [hb] at HK hs
    have HS := Lib.hid hs
    clear hs hb
    go_wp2_with (go_at_call 74; refine HK.out.mono ?_; rintro e w' ⟨rfl, rfl⟩)
    go_round
    case rel => exact ⟨k + 1, by omega, by go_num, by rw [HS.out, if_neg (by simp)]; rfl⟩
    case measure => simp [intOf]; omega
  ·have hk4 : k = 4 := by omega
   subst hk4
   go_wp2
   go_ret
   exact ⟨rfl, rfl⟩
/-! ### In plain Lean -/
def patTo (b : Book) (x : State) : Nat → Nat
 | 0 => 0
 | k + 1 => patTo b x k + if closedB b (orgAt x k) then 2 ^ k else 0
theorem patTo_lt (b : Book) (x : State) : ∀ k, patTo b x k < 2 ^ k
 | 0 => by simp [patTo]
 | k + 1 => by
  have := patTo_lt b x k
  unfold patTo
  rw [Nat.pow_succ]
  split <;> omega
theorem patTo_or (b : Book) (x : State) (k : Nat) : patTo b x k ||| 2 ^ k = patTo b x k + 2 ^ k := by
 have h := Nat.two_pow_add_eq_or_of_lt (patTo_lt b x k) 1
 rw [Nat.mul_one] at h
 rw [Nat.or_comm, ← h, Nat.add_comm]
theorem patternOf_eq (b : Book) (x : State) : patternOf b x = patTo b x x.org.length := by
 unfold patternOf
 generalize x.org.length = n
 induction n with
 | zero => rfl
 | succ n ih =>
  rw [List.range_succ, List.filter_append, List.foldl_append, ih, show patTo b x (n + 1) = patTo b x n + (if closedB b (orgAt x n) then 2 ^ n else 0) from rfl]
  by_cases h : closedB b (orgAt x n) = true <;> simp [h]
def patsL (b : Book) (s : Sack) (k : Nat) : List Nat := firsts (((truthsOf b s).take k).map (patternOf b))
theorem patsL_zero (b : Book) (s : Sack) : patsL b s 0 = [] := by simp [patsL, firsts]
theorem patsL_succ {b : Book} {s : Sack} {k : Nat} {x : State} (h : (truthsOf b s)[k]? = some x) : patsL b s (k + 1) = addNew (patsL b s k) (patternOf b x) := by
 unfold patsL; rw [List.take_add_one, h]; simp only [Option.toList_some, List.map_append, List.map_cons, List.map_nil]; exact firsts_push _ _
theorem pattern_lt {b : Book} {s : Sack} (hB : BookB b) (hS : SackB s) {x : State} (h : x ∈ truthsOf b s) : patternOf b x < 16 := by
 rw [patternOf_eq, (truth_facts hB hS h).2.1]
 refine Nat.lt_of_lt_of_le (patTo_lt b x _) ?_
 exact Nat.pow_le_pow_right (by decide) hS.n2
theorem patsL_len {b : Book} {s : Sack} (hB : BookB b) (hS : SackB s) (k : Nat) : (patsL b s k).length ≤ 16 := by
 have h := List.Nodup.length_le_of_subset (l₁ := patsL b s k) (l₂ := List.range 16) (firsts_nodup _) (fun p hp => by
  obtain ⟨x, hx, rfl⟩ := List.mem_map.1 ((firsts_mem _ p).1 hp)
  exact List.mem_range.2 (pattern_lt hB hS (List.mem_of_mem_take hx)))
 simpa using h
theorem pats_sorted {b : Book} {s : Sack} (hB : BookB b) (hS : SackB s) {ys : List Nat} (hp : ys.Perm (patsL b s (truthsOf b s).length)) (hs : ys.Pairwise fun a b => a ≤ b) : ys = patternsOf b s := by
 have hcd : (patternsOf b s).Nodup := by unfold patternsOf; exact List.Pairwise.filter _ List.nodup_range
 refine List.Perm.eq_of_pairwise (le := fun a b => a ≤ b) (fun a b _ _ h k => Nat.le_antisymm h k) hs ?_ (hp.trans ?_)
 ·unfold patternsOf
  exact (List.pairwise_lt_range.imp fun h => Nat.le_of_lt h).filter _
 ·refine (List.perm_ext_iff_of_nodup (firsts_nodup _) hcd).2 fun p => ?_
  rw [firsts_mem, List.take_length]
  unfold patternsOf
  rw [List.mem_map, List.mem_filter, List.any_eq_true]
  constructor
  ·rintro ⟨x, hx, rfl⟩
   exact ⟨List.mem_range.2 (pattern_lt hB hS hx), x, hx, by simp⟩
  ·rintro ⟨_, x, hx, h⟩
   exact ⟨x, hx, by simpa using h⟩
theorem patterns_lt {b : Book} {s : Sack} {p : Nat} (h : p ∈ patternsOf b s) : p < 16 := by
 unfold patternsOf at h; exact List.mem_range.1 (List.mem_filter.1 h).1
/-! ### slices.Sort at integers -/
def natsI (l : List Nat) : List Int := l.map fun (n : Nat) => (n : Int)
theorem pats_merge {b : Book} {s : Sack} (hB : BookB b) (hS : SackB s) : (natsI (patsL b s (truthsOf b s).length)).mergeSort (fun x y => decide (x ≤ y)) = natsI (patternsOf b s) := by
 have h1 : ((patsL b s (truthsOf b s).length).mergeSort (fun x y => decide (x ≤ y))) = patternsOf b s := by
  refine pats_sorted hB hS (List.mergeSort_perm _ _) ?_
  exact (List.pairwise_mergeSort (le := fun (x y : Nat) => decide (x ≤ y)) (fun a b c h k => by simp at *; omega) (fun a b => by simp; omega) _).imp (fun h => by simpa using h)
 rw [← h1]
 refine List.Perm.eq_of_pairwise (le := fun a b => a ≤ b) (fun a b _ _ h k => Int.le_antisymm h k) ?_ ?_ ((List.mergeSort_perm _ _).trans ((List.mergeSort_perm _ _).symm.map _))
 ·exact (List.pairwise_mergeSort (le := fun (x y : Int) => decide (x ≤ y)) (fun a b c h k => by simp at *; omega) (fun a b => by simp; omega) _).imp (fun h => by simpa using h)
 ·unfold natsI
  rw [List.pairwise_map]
  exact (List.pairwise_mergeSort (le := fun (x y : Nat) => decide (x ≤ y)) (fun a b c h k => by simp at *; omega) (fun a b => by simp; omega) _).imp (fun h => by simp at h ⊢; omega)
open Go.Shelf Go.Lib Go.Sort in
theorem sortI_any (zs : List Int) (base g cap : Nat) (w : World) (hown : w.ownsRow base 3 1 (.slice (some ⟨g, 0, none⟩) zs.length cap) zs.length (zs.map (.int .i64))) (hl : zs.length ≤ 1000) (hgw : g < w.heap.size) :
  Calls Tryz.prog 72 #[.slice (some ⟨g, 0, none⟩) zs.length cap] w fun e w' =>
   e = .returned (.tuple #[]) ∧ Touch (· = g) w w' ∧ IntsAt w' (.slice (some ⟨g, 0, none⟩) zs.length cap) (zs.mergeSort fun x y => decide (x ≤ y)) := by
 have hH : Holds (Value.int .i64) w g 0 zs.toArray := fun j hj => by
  have hj' : j < zs.length := by simpa using hj
  rw [Nat.zero_add]
  refine ⟨?_, hown.frozenAt j⟩
  rw [hown.cellAt j (by omega)]
  simp [hj']
 have hcon := Any.slices_Sort_int Tryz.sortI g 0 cap zs w hH hgw (by omega)
 refine hcon.mono ?_
 rintro e w' ⟨rfl, n, os, rfl⟩
 have hlen : (zs.mergeSort fun x y => decide (x ≤ y)).length = zs.length := List.length_mergeSort _
 have hHw := holds_sortWorld (Value.int .i64) w g 0 n zs.toArray (zs.mergeSort fun x y => decide (x ≤ y)).toArray os hgw hH (by simp [hlen])
 refine ⟨rfl, ⟨rfl, rfl, rfl, ?_, fun k o hk hn => ?_⟩, ?_⟩
 ·simp [grow, putRow, mapBlock, Sort.ahead]
 ·have hlt := (Array.getElem?_eq_some_iff.1 hk).1
  simp only [grow, putRow, mapBlock, Sort.ahead]
  rw [Array.getElem?_append_left (by simpa using hlt), Array.getElem?_modify, if_neg (fun e => hn e.symm)]
  exact hk
 ·obtain ⟨a, c, hv, r1, r2, r0, r3⟩ := RowAt.of_owns hown
  cases hv
  generalize hms : (zs.mergeSort fun x y => decide (x ≤ y)) = ms at hlen hHw ⊢
  refine ⟨_, cap, by rw [hlen], by rw [hlen]; exact r1, r2, (fun h => by cases h), fun j u hj => ⟨g, 0, rfl, ?_⟩⟩
  rw [List.getElem?_map] at hj
  cases hmj : ms[j]? with
  | none => rw [hmj] at hj; cases hj
  | some z =>
   rw [hmj] at hj
   cases hj
   have hjl := (List.getElem?_eq_some_iff.1 hmj).1
   have h1 := (hHw j (by simpa using hjl)).1
   have h2 : (ms.toArray)[j]! = z := by
    rw [getElem!_pos _ j (by simpa using hjl)]
    simpa using (List.getElem?_eq_some_iff.1 hmj).2
   rw [h2] at h1
   exact h1
end Go.Proofs.YtiodjapdiflphaaGreatDoor
/- patterns: the walk. -/
namespace Go.Proofs.YtiodjapdiflphaaGreatDoor
open Go.RowKit
attribute [local go_sem] Oper.semAt_some
structure PatI (b : Book) (s : Sack) (rv sv tv : Value) (w : World) (k : Nat) (ov : Value) (O : Nat → Prop) (W : World) : Prop where
 s0 : W.cell? ⟨w.heap.size, 0, none⟩ = some (.int .i64 b.years)
 s1 : W.cell? ⟨w.heap.size, 1, none⟩ = some rv
 s2 : W.cell? ⟨w.heap.size, 2, none⟩ = some sv
 s3 : W.cell? ⟨w.heap.size, 3, none⟩ = some tv
 col : ColI w (w.heap.size + 1) 3 1 (natsI (patsL b s k)).length ((natsI (patsL b s k)).map (.int .i64)) ov O W
 nz : ov = .slice none 0 0 ∨ 0 < (natsI (patsL b s k)).length
theorem ints_nb (xs : List Int) : ∀ u, u ∈ xs.map (Value.int .i64) → NB u := by
 intro u hu
 obtain ⟨x, _, rfl⟩ := List.mem_map.1 hu
 exact NB.int _ _
theorem natsI_mem (l : List Nat) (p : Nat) : (p : Int) ∈ natsI l ↔ p ∈ l := by
 unfold natsI; rw [List.mem_map]
 exact ⟨fun ⟨q, hq, h⟩ => by have : q = p := (by omega); exact this ▸ hq, fun h => ⟨p, h, rfl⟩⟩
theorem pats_same {b : Book} {s : Sack} {k : Nat} {x : State} (h : (truthsOf b s)[k]? = some x) (hm : patternOf b x ∈ patsL b s k) : patsL b s (k + 1) = patsL b s k := by rw [patsL_succ h]; unfold addNew; rw [if_pos hm]
theorem pats_more {b : Book} {s : Sack} {k : Nat} {x : State} (h : (truthsOf b s)[k]? = some x) (hm : ¬ patternOf b x ∈ patsL b s k) : natsI (patsL b s (k + 1)) = natsI (patsL b s k) ++ [(patternOf b x : Int)] := by rw [patsL_succ h]; unfold addNew; rw [if_neg hm]; simp [natsI]
theorem pat_or (q j : Nat) (hq : q < 16) (hj : j < 4) : bits .or .i64 (q : Int) (wrap64 (2 ^ j)) = ((q ||| 2 ^ j : Nat) : Int) := by
 have h2 : wrap64 ((2 : Int) ^ j) = ((2 ^ j : Nat) : Int) := by
  rcases (by omega : j = 0 ∨ j = 1 ∨ j = 2 ∨ j = 3) with rfl | rfl | rfl | rfl <;> kernel_rfl
 have h3 : (2 : Nat) ^ j < 4611686018427387904 := by
  rcases (by omega : j = 0 ∨ j = 1 ∨ j = 2 ∨ j = 3) with rfl | rfl | rfl | rfl <;> decide
 rw [h2]; exact or_i64 q (2 ^ j) (by omega) h3
set_option maxRecDepth 100000 in
set_option maxHeartbeats 8000000 in
theorem patterns_any (b : Book) (s : Sack) (rv sv tv : Value) (w : World) (hB : BookB b) (hS : SackB s) (hr : RiversAt w rv b.rivers) (hs : ShellsAt w sv s.shells) (ht : RowOf testC w tv s.tests) (hp : possB b s = true) :
  Calls Tryz.prog 37 #[sackV b rv sv tv] w fun e w' => ∃ v, e = .returned v ∧ Ext w w' ∧ IntsAt w' v (natsI (patternsOf b s)) ∧ OffV (· < w.heap.size) v := by
 have HIT := Lib.hid (fun (W1 : World) (h : Ext w W1) (O0 : Nat → Prop) (hO : ∀ j, O0 j → w.heap.size ≤ j) => truths_iter b s rv sv tv w W1 O0 hB hS hr hs ht h hO)
 have HCL := Lib.hid (fun (r y : Nat) (w1 : World) (h : Ext w w1) (h1 : r < b.rivers.length) (h2 : (y : Int) < b.years) => closed_any b rv sv tv r y w1 hB (hr.ext h) (by obtain ⟨_, _, rfl, _⟩ := hs.open; exact ⟨_, _, _, rfl⟩) (by obtain ⟨_, _, rfl, _⟩ := RowAt.open ht; exact ⟨_, _, _, rfl⟩) h1 h2)
 obtain ⟨ra, rc, rfl, _⟩ := hr.open
 obtain ⟨sa, sc, rfl, _⟩ := hs.open
 obtain ⟨ta, tc, rfl, _⟩ := RowAt.open ht
 have HBS := Lib.hid (And.intro hB hS)
 clear hr hs ht
 unfold sackV at HIT HCL ⊢
 refine (callsIn_wide (n := 0)).1 ?_
 refine callsIn_of_wp_marks Tryz.func37 rfl trivial ?_ rfl
 simp only [Tryz.ntmps37, List.size_toArray, List.length_cons, List.length_nil, Nat.reduceAdd, Nat.reduceSub, Array.replicate_succ, Array.replicate_zero, List.push_toArray, List.append_toArray, List.nil_append, List.cons_append]
 gi_wp2
 have h0 : PatI b s (.slice ra b.rivers.length rc) (.slice sa s.shells.length sc) (.slice ta s.tests.length tc) w 0 (.slice none 0 0) (fun j => j = w.heap.size + 1) ((w.alloc (.cells #[.int .i64 b.years, .slice ra b.rivers.length rc, .slice sa s.shells.length sc, .slice ta s.tests.length tc] 89)).alloc (.cells #[.slice none 0 0] 63)) :=
  ⟨by go_simp, by go_simp, by go_simp, by go_simp, ⟨(((Ext.refl w).alloc _).alloc _), by go_simp, by go_simp, by rw [patsL_zero]; exact World.ownsRow_nil _ _ _ _, fun j => ⟨.inl, fun h => h.elim id (fun h => by cases h)⟩⟩, .inl rfl⟩
 generalize hW0 : ((w.alloc (.cells #[.int .i64 b.years, .slice ra b.rivers.length rc, .slice sa s.shells.length sc, .slice ta s.tests.length tc] 89)).alloc (.cells #[.slice none 0 0] 63)) = W0 at h0 ⊢
 have hz : W0.heap.size = w.heap.size + 2 := by rw [← hW0]; simp
 clear hW0
 refine wpIn_rangeF (gf := 50) (fi := #[.agg #[.int .i64 b.years, .slice ra b.rivers.length rc, .slice sa s.shells.length sc, .slice ta s.tests.length tc]]) (lb := #[]) (by rfl) enters_truths StIn (fun O O' A x v h k => StIn.less k h) (truthsOf b s) (fun j => j = w.heap.size + 1) ?hM ?hiter
  (fun k O W => ∃ ov, PatI b s (.slice ra b.rivers.length rc) (.slice sa s.shells.length sc) (.slice ta s.tests.length tc) w k ov O W) (fun _ _ => False) ?hI (fun _ _ _ h _ => h.elim) ⟨_, h0⟩
  (fun k O x v a' W => ∃ (bb : Nat) (xo xw : Value), v = .agg #[xo, xw] ∧ StIn O W x v ∧ W.cell? ⟨bb, 0, none⟩ = some xo ∧ W.cell? ⟨bb, 1, none⟩ = some xw ∧
   ∃ (u0 u2 u5 u6 u7 u8 u9 u10 u11 u12 u13 u14 u15 u16 u17 u18 u19 u20 u21 u22 u23 u24 u25 u26 u27 u28 u29 u30 u31 u32 u33 u34 u35 u36 u37 : Value), a' = { tmps := #[u0, .pointer (some ⟨w.heap.size, 0, none⟩), u2, .pointer (some ⟨w.heap.size + 1, 0, none⟩), .pointer (some ⟨bb, 0, none⟩), u5, u6, u7, u8, u9, u10, u11, u12, u13, u14, u15, u16, u17, u18, u19, u20, u21, u22, u23, u24, u25, u26, u27, u28, u29, u30, u31, u32, u33, u34, u35, u36, u37], defers := [] }) ?hAx ?hassign ?hbody ?hdone ?hstop
 case hM => intro j hj; omega
 case hiter =>
  intro W1 h1 h2
  exact HIT.out W1 (h0.col.ext.trans h1) _ (fun j hj => by rcases hj with hj | hj <;> omega)
 case hI =>
  rintro k O A B ⟨ov, h⟩ q
  exact ⟨ov, q.cell h.s0 (NB.int _ _), q.cell h.s1 (NB.slice _ _ _), q.cell h.s2 (NB.slice _ _ _), q.cell h.s3 (NB.slice _ _ _), h.col.quiet q (by omega) (ints_nb _) (.inr (h.nz.imp id (fun h => ⟨h, by decide⟩))), h.nz⟩
 case hAx =>
  rintro k O x v a' A B ⟨bb, xo, xw, rfl, h1, h2, h3, h4⟩ q
  obtain ⟨_, _, e, p1, p2⟩ := id h1
  cases e
  obtain ⟨_, _, rfl, _⟩ := p1.1.open
  obtain ⟨_, _, p3, _⟩ := p2
  obtain ⟨_, _, rfl, _⟩ := RowAt.open (by assumption)
  exact ⟨bb, _, _, rfl, h1.quiet q, q.cell h2 (NB.slice _ _ _), q.cell h3 (NB.slice _ _ _), h4⟩
 case hstop => intro D c W _ h; exact h.elim
 case hassign =>
  intro l k O x v W K hi hx hen hK
  have HK := Lib.hid hK
  have hen' := hen
  obtain ⟨_, _, rfl, p1, p2⟩ := hen'
  obtain ⟨_, _, rfl, _⟩ := p1.1.open
  obtain ⟨_, _, p3, _⟩ := p2
  obtain ⟨_, _, rfl, _⟩ := RowAt.open (by assumption)
  clear hK p3 p1
  gi_wp2
  refine HK.out _ (W.alloc (.cells #[_, _] 113)) ((Ext.refl W).alloc _) ⟨W.heap.size, _, _, rfl, hen.ext ((Ext.refl W).alloc _), by go_simp, by go_simp, ?_⟩
  (repeat apply Exists.intro)
  rfl
 case hbody =>
  rintro l k O x v a' W hl ⟨r, hr⟩ hO ⟨ov, hc⟩ hx ⟨bb, xo, xw, rfl, hst, g0, g1, hA⟩ hsz
  obtain ⟨u0, hA⟩ := hA
  obtain ⟨u2, hA⟩ := hA
  obtain ⟨u5, hA⟩ := hA
  obtain ⟨u6, hA⟩ := hA
  obtain ⟨u7, hA⟩ := hA
  obtain ⟨u8, hA⟩ := hA
  obtain ⟨u9, hA⟩ := hA
  obtain ⟨u10, hA⟩ := hA
  obtain ⟨u11, hA⟩ := hA
  obtain ⟨u12, hA⟩ := hA
  obtain ⟨u13, hA⟩ := hA
  obtain ⟨u14, hA⟩ := hA
  obtain ⟨u15, hA⟩ := hA
  obtain ⟨u16, hA⟩ := hA
  obtain ⟨u17, hA⟩ := hA
  obtain ⟨u18, hA⟩ := hA
  obtain ⟨u19, hA⟩ := hA
  obtain ⟨u20, hA⟩ := hA
  obtain ⟨u21, hA⟩ := hA
  obtain ⟨u22, hA⟩ := hA
  obtain ⟨u23, hA⟩ := hA
  obtain ⟨u24, hA⟩ := hA
  obtain ⟨u25, hA⟩ := hA
  obtain ⟨u26, hA⟩ := hA
  obtain ⟨u27, hA⟩ := hA
  obtain ⟨u28, hA⟩ := hA
  obtain ⟨u29, hA⟩ := hA
  obtain ⟨u30, hA⟩ := hA
  obtain ⟨u31, hA⟩ := hA
  obtain ⟨u32, hA⟩ := hA
  obtain ⟨u33, hA⟩ := hA
  obtain ⟨u34, hA⟩ := hA
  obtain ⟨u35, hA⟩ := hA
  obtain ⟨u36, hA⟩ := hA
  obtain ⟨u37, hA⟩ := hA
  subst hA
  have hxm := List.mem_of_getElem? hx
  have hf := truth_facts HBS.out.1 HBS.out.2 hxm
  obtain ⟨_, _, e, p1, _⟩ := hst
  cases e
  obtain ⟨pa, pc, rfl, l1, l2, l3⟩ := p1.1.open
  have hL3 := Lib.hid l3
  have hon : ∀ j y, x.org[j]? = some y → j < s.shells.length → ∃ r yy : Nat, y = ((r : Int), (yy : Int)) ∧ r < b.rivers.length ∧ (yy : Int) < b.years ∧ orgAt x j = y := fun j y hy hj => by
   have h1 := hf.2.2 j hj
   have h2 : orgAt x j = y := by unfold orgAt; rw [List.getD_eq_getElem?_getD, hy]; rfl
   rw [h2] at h1
   obtain ⟨r, yy, h3, h4, h5, _⟩ := originsOf_mem HBS.out.1 (HBS.out.2.shell _ (by unfold shellAt; rw [List.getD_eq_getElem?_getD, List.getElem?_eq_getElem hj]; exact List.getElem_mem hj)).n1 h1
   exact ⟨r, yy, h3, h4, h5, h2⟩
  have HON := Lib.hid hon
  have hol : x.org.length = s.shells.length := hf.2.1
  have hol4 : x.org.length ≤ 4 := by have := HBS.out.2.n2; omega
  have hn : NB ov := owns_nb hc.col.own
  have hform : ∃ a n c, ov = .slice a n c := by obtain ⟨_, ⟨rfl, _⟩ | ⟨g, cap, cur, rfl, _⟩⟩ := hc.col.own <;> exact ⟨_, _, _, rfl⟩
  obtain ⟨va, vn, vc, rfl⟩ := hform
  have HC := Lib.hid hc
  have HX := Lib.hid hx
  have HO := Lib.hid hO
  have HOL := Lib.hid hol
  have hpw : ∀ j, j ≤ 4 → patTo b x j < 16 := fun j hj => Nat.lt_of_lt_of_le (patTo_lt b x j) (Nat.pow_le_pow_right (by decide) hj)
  have HPW := Lib.hid hpw
  clear hc hx hO hf l3 p1 hn hon hol hpw
  gi_wp2
  gi_loopw [5, 14] (fun t i wr => ∃ j : Nat, j ≤ x.org.length ∧ i = .int .i64 j ∧ t = .int .i64 (patTo b x j) ∧ Ext W wr) (fun _ i _ => x.org.length - (intOf i).toNat)
  case atStart => exact ⟨0, Nat.zero_le _, rfl, rfl, Ext.refl _⟩
  case round =>
   obtain ⟨j, hj, rfl, rfl, hxr⟩ := hrel
   by_cases hlt : j < x.org.length
   ·obtain ⟨pb, po, y, rfl, hy, y0, y1⟩ := hL3.out j hlt
    obtain ⟨rr, yy, rfl, hr1, hr2, hoe⟩ := HON.out j y hy.out (by have := HOL.out; omega)
    have t1 : decide ((j : Int) < (x.org.length : Int)) = true := by simpa using hlt
    have i1 : (0 : Int) ≤ (j : Int) := by omega
    have i2 : (j : Int) < (x.org.length : Int) := by omega
    have z0 := hxr.cell y0
    have z1 := hxr.cell y1
    have hx7 := hxr.alloc (.cells #[.int .i64 rr, .int .i64 yy] 84)
    have s0 := hx7.cell HC.out.s0
    have s1 := hx7.cell HC.out.s1
    have s2 := hx7.cell HC.out.s2
    have s3 := hx7.cell HC.out.s3
    have HCC := Lib.hid (HCL.out rr yy _ (HC.out.col.ext.trans hx7) hr1 hr2)
    have hps : patTo b x (j + 1) = patTo b x j + if closedB b ((rr : Int), (yy : Int)) then 2 ^ j else 0 := by rw [← hoe]; rfl
    have hpo := patTo_or b x j
    have hpj := HPW.out j (by omega)
    have HX7 := Lib.hid hx7
    clear hx7 hxr y0 y1 hoe
    generalize hQ : patTo b x j = q at hps hpo hpj
    have HQ := Lib.hid hQ
    clear hQ
    cases hcb : closedB b ((rr : Int), (yy : Int)) with
    | true =>
     rw [hcb, if_pos rfl] at hps
     rw [hcb] at HCC
     have HPS := Lib.hid (hps.trans hpo.symm)
     clear hps hpo hcb
     gi_wp2_with (gi_at_call 70; refine (callsIn_round HCC.out).mono ?_; rintro e w2 ⟨rfl, hx2⟩)
     exact ⟨⟨j + 1, by omega, by go_num, by rw [HPS.out, pat_or q j hpj (by omega)], HX7.out.trans hx2⟩, by simp [intOf]; omega⟩
    | false =>
     rw [hcb, if_neg (by decide), Nat.add_zero] at hps
     rw [hcb] at HCC
     have HPS := Lib.hid hps
     clear hps hpo hcb
     gi_wp2_with (gi_at_call 70; refine (callsIn_round HCC.out).mono ?_; rintro e w2 ⟨rfl, hx2⟩)
     exact ⟨⟨j + 1, by omega, by go_num, by rw [HPS.out, Nat.add_zero], HX7.out.trans hx2⟩, by simp [intOf]; omega⟩
   ·have t1 : decide ((j : Int) < (x.org.length : Int)) = false := by simpa using hlt
    have hje : j = x.org.length := by omega
    have HQ := Lib.hid (show patTo b x j = patternOf b x by rw [patternOf_eq, hje])
    have hmem := natsI_mem (patsL b s k) (patternOf b x)
    have HCT := Lib.hid (fun (W1 : World) (h : Ext W W1) => contains_any (.slice va vn vc) (natsI (patsL b s k)) (patternOf b x) W1 (show IntsAt W1 _ _ from RowAt.of_owns (owns_ext HC.out.col.own h)))
    have hlen : (natsI (patsL b s k)).length ≤ 16 := by unfold natsI; rw [List.length_map]; exact patsL_len HBS.out.1 HBS.out.2 k
    have HSZ := Lib.hid (show (natsI (patsL b s k)).length + 1 ≤ maxLen ∧ ((natsI (patsL b s k)).length + 1) * 8 ≤ 140737488355328 by unfold maxLen; omega)
    have o1 := (HC.out.col.ext' hxr).o
    have HXR := Lib.hid hxr
    rw [HQ.out]
    have HM := Lib.hid (pats_more (b := b) (s := s) HX.out)
    have HE := Lib.hid (pats_same (b := b) (s := s) HX.out)
    generalize patternOf b x = p at hmem HCT HM HE ⊢
    clear hje hlen HQ hxr
    by_cases hm : p ∈ patsL b s k
    ·rw [show decide ((p : Int) ∈ natsI (patsL b s k)) = true by simpa using hmem.2 hm] at HCT
     replace HE := Lib.hid (HE.out hm)
     clear hm hmem HM
     gi_wp2_with (gi_at_call 71; refine (callsIn_round (HCT.out _ HXR.out)).mono ?_; rintro e w2 ⟨rfl, rfl⟩)
     refine ⟨Touch.of_ext HXR.out, O, fun i hi => ⟨.inl hi, by have := (HO.out i hi).2; have := HXR.out.size; omega⟩, .slice va vn vc, ?_⟩
     refine ⟨HXR.out.cell HC.out.s0, HXR.out.cell HC.out.s1, HXR.out.cell HC.out.s2, HXR.out.cell HC.out.s3, ?_, ?_⟩
     ·rw [HE.out]; exact HC.out.col.ext' HXR.out
     ·rw [HE.out]; exact HC.out.nz
    ·rw [show decide ((p : Int) ∈ natsI (patsL b s k)) = false by rw [decide_eq_false_iff_not]; exact fun h => hm (hmem.1 h)] at HCT
     replace HM := Lib.hid (HM.out hm)
     have hbz : w.heap.size + 1 + 1 ≤ wr.heap.size := by have := lt_of_cell o1; exact this
     clear hm hmem HE
     gi_wp2_with (first
      | (gi_at_call 71; refine (callsIn_round (HCT.out _ HXR.out)).mono ?_; rintro e w2 ⟨rfl, rfl⟩)
      | (gi_at_builtin; refine wpListIn_push_at E_ints rfl _ _ rfl (w.heap.size + 1 + 1) rfl (HC.out.col.ext' HXR.out).own rfl (by simp) rfl (by simp [Value.oneCell']) ?_ HSZ.out.1 HSZ.out.2 hbz; intro g cap w5 hown5 hext5 hg5 hloc5; obtain ⟨⟨z0, z1⟩, z2, z3, z4⟩ := HC.out.col.push (by omega) HXR.out hown5 hg5 hloc5; have HZ := Lib.hid (And.intro z2 (And.intro z3 z4)); clear z2 z3 z4 hown5 hext5 hg5 hloc5))
     have nl : ¬ O w.heap.size := fun h => by
      rcases (HC.out.col.low _).1 h with h | h
      ·omega
      ·have := owns_block HC.out.col.own _ h; omega
     refine ⟨HZ.out.1, _, HZ.out.2.1, .slice (some ⟨g, 0, none⟩) ((natsI (patsL b s k)).length + 1) cap, ?_⟩
     refine ⟨HZ.out.1.cell HC.out.s0 nl, HZ.out.1.cell HC.out.s1 nl, HZ.out.1.cell HC.out.s2 nl, HZ.out.1.cell HC.out.s3 nl, ?_, .inr ?_⟩
     ·rw [HM.out, List.length_append, List.map_append]; exact HZ.out.2.2
     ·rw [HM.out, List.length_append]; simp
 case hdone =>
  intro D O W hD hO ⟨ov, hc⟩ hd
  have hDw : w.heap.size ≤ D := by omega
  have o1 := hc.col.o
  have HL := Lib.hid (pats_merge HBS.out.1 HBS.out.2)
  have hlen : (natsI (patsL b s (truthsOf b s).length)).length ≤ 16 := by unfold natsI; rw [List.length_map]; exact patsL_len HBS.out.1 HBS.out.2 _
  have hne : 0 < (natsI (patsL b s (truthsOf b s).length)).length := by
   unfold possB at hp
   cases ht : truthsOf b s with
   | nil => rw [ht] at hp; cases hp
   | cons x l =>
    have : patternOf b x ∈ patsL b s (truthsOf b s).length := (firsts_mem _ _).2 (by rw [List.take_length, ht]; simp)
    rw [ht] at this
    unfold natsI; rw [List.length_map]
    exact List.length_pos_of_mem this
  have hcol := hc.col
  generalize natsI (patsL b s (truthsOf b s).length) = L at hcol hlen HL hne
  obtain ⟨m, hm⟩ : ∃ m, L.length = m + 1 := ⟨L.length - 1, by omega⟩
  clear hc h0
  have HX := Lib.hid hcol.ext
  have hown := hcol.own
  rw [hm] at hown
  obtain ⟨g, cap, rfl, hob, hgl⟩ := owns_head hown
  rw [← hm] at hown
  have hgb := owns_block hown g rfl
  have hso := sortI_any L (w.heap.size + 1 + 1) g cap W hown (by omega) hgl
  rw [HL.out] at hso
  have HSO := Lib.hid hso
  have hDg : ¬ D = g := by
   rintro rfl
   have h1 := hown.cellAt 0 (by omega)
   unfold World.cell? at h1
   rw [hd] at h1
   have h2 : (L.map (Value.int .i64))[0]? = some (.int .i64 L[0]) := by rw [List.getElem?_map, List.getElem?_eq_getElem (by omega)]; rfl
   rw [h2] at h1
   cases h1
  have hno : ¬ w.heap.size + 1 = g := by omega
  rw [← hm] at o1
  clear hcol hown hso hm hlen hne
  gi_wp2_with (gi_at_call 72; refine (callsIn_wide.2 HSO.out).mono ?_; rintro e w4 ⟨rfl, ht4, hpa⟩; have o4 := ht4.cell o1 hno; have HPA := Lib.hid hpa; clear hpa)
  have hd4 := ht4.keep _ _ hd hDg
  refine ⟨by simp, .inl ⟨_, _, rfl, run_takeDeferred hd4, ?_⟩⟩
  have hq := Quiet.putObj (n := w.heap.size) (.deferred none) hd4 hDw rfl
  exact ⟨_, by simp [results, Tryz.results37, go_sem], _, rfl, (Touch.ext HX.out ht4 (fun j hj => by omega)).quiet (Nat.le_refl _) hq, hq.row HPA.out (ints_nb _), fun a n c hv hlt => by cases hv; simp only at hlt; omega⟩
end Go.Proofs.YtiodjapdiflphaaGreatDoor
