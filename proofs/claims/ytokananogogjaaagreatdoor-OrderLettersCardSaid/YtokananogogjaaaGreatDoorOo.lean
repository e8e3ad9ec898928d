/- The iterator over the orders of some numbers. -/
import Derived.Test.YtokananogogjaaaGreatDoorOc
import Derived.Test.YtokananogogjaaaGreatDoorRange
import Derived.RangeFuncBound
import Derived.RangeFuncCalls
import Derived.Shelf.RegionOpen
import Derived.OwnWalkIn
import Derived.TacticsInMore
import Derived.LoopNIn
import Derived.LoopIn
import Derived.Laws.EntriesVeiled
namespace Go.Proofs.YtokananogogjaaaGreatDoor
open Go.RowKit
/-- How many orders the first i numbers of a node lead to. -/
def ordCnt (hs : List Int) (f : Nat) (now : List Int) (i : Nat) : Nat := ((hs.take i).flatMap fun n => if n ∈ now then [] else ordersFrom hs f (now ++ [n])).length
theorem ordCnt_succ {hs : List Int} {f : Nat} {now : List Int} {i : Nat} {n : Int} (h : hs[i]? = some n) : ordCnt hs f now (i + 1) = ordCnt hs f now i + (if n ∈ now then 0 else (ordersFrom hs f (now ++ [n])).length) := by
 unfold ordCnt; rw [List.take_add_one, h]; simp only [Option.toList_some, List.flatMap_append, List.flatMap_cons, List.flatMap_nil, List.append_nil, List.length_append]
 split <;> simp
theorem ordCnt_all {hs : List Int} {f : Nat} {now : List Int} {i : Nat} (h : hs.length ≤ i) : ordCnt hs f now i = (ordersFrom hs (f + 1) now).length := by
 show _ = (hs.flatMap fun n => if n ∈ now then [] else ordersFrom hs f (now ++ [n])).length
 unfold ordCnt; rw [List.take_of_length_le h]
theorem flatMap_split {α β : Type} (g : α → List β) {hs : List α} {i : Nat} (hi : i < hs.length) : hs.flatMap g = (hs.take i).flatMap g ++ g hs[i] ++ (hs.drop (i + 1)).flatMap g := by
 conv => lhs; rw [← List.take_append_drop i hs, List.drop_eq_getElem_cons hi]
 simp only [List.flatMap_append, List.flatMap_cons, List.append_assoc]
theorem ord_at {hs : List Int} {f : Nat} {now : List Int} {i j : Nat} {n : Int} {x : List Int} (h : hs[i]? = some n) (hn : n ∉ now) (hx : (ordersFrom hs f (now ++ [n]))[j]? = some x) : (ordersFrom hs (f + 1) now)[ordCnt hs f now i + j]? = some x := by
 obtain ⟨hi, rfl⟩ := List.getElem?_eq_some_iff.1 h
 show (hs.flatMap fun n => if n ∈ now then [] else ordersFrom hs f (now ++ [n]))[_]? = _
 rw [flatMap_split _ hi, if_neg hn]
 unfold ordCnt
 have hj := (List.getElem?_eq_some_iff.1 hx).1
 rw [List.append_assoc, List.getElem?_append_right (by omega), List.getElem?_append_left (by omega), ← hx]
 congr 1; omega
/-- A slice of integers, out of blocks from n0 on that are not of O. -/
def PermIn (n0 : Nat) (O : Nat → Prop) (A : World) (x : List Int) (v : Value) : Prop := IntsAt A v x ∧ ∀ a n c, v = .slice (some a) n c → ¬ O a.block ∧ n0 ≤ a.block ∧ a.block < A.heap.size
theorem PermIn.less {n0 : Nat} {O O' : Nat → Prop} {A : World} {x : List Int} {v : Value} (h : PermIn n0 O A x v) (k : ∀ i, O' i → O i) : PermIn n0 O' A x v := ⟨h.1, fun a n c e => ⟨fun ho => (h.2 a n c e).1 (k _ ho), (h.2 a n c e).2⟩⟩
theorem PermIn.touch {n0 : Nat} {O O' : Nat → Prop} {A B : World} {x : List Int} {v : Value} (h : PermIn n0 O A x v) (k : Touch O A B) (ho : ∀ i, O' i → O i ∨ A.heap.size ≤ i) : PermIn n0 O' B x v := by
 obtain ⟨⟨a, c, rfl, h1, h2, h0, h3⟩, h4⟩ := h
 refine ⟨⟨a, c, rfl, h1, h2, h0, fun j u hj => ?_⟩, fun a' n' c' e => ?_⟩
 ·obtain ⟨b, o, rfl, hc⟩ := h3 j u hj
  exact ⟨b, o, rfl, k.cell hc (h4 ⟨b, o, none⟩ _ _ rfl).1⟩
 ·obtain ⟨g1, g2, g3⟩ := h4 a' n' c' e
  exact ⟨fun hx => by rcases ho _ hx with h | h; exact g1 h; omega, g2, Nat.lt_of_lt_of_le g3 k.size⟩
theorem PermIn.ext {n0 : Nat} {O : Nat → Prop} {A B : World} {x : List Int} {v : Value} (h : PermIn n0 O A x v) (k : Ext A B) : PermIn n0 O B x v := h.touch (Touch.of_ext k) (fun _ h => .inl h)
theorem PermIn.nil (n0 : Nat) (O : Nat → Prop) (A : World) : PermIn n0 O A [] (.slice none 0 0) := ⟨IntsAt.nil A, fun a n c h => by cases h⟩
/-- The variables that the search of the orders leans on. -/
structure OrdE (n gb yb sb l : Nat) (O : Nat → Prop) (A : World) : Prop where
 g : A.cell? ⟨gb, 0, none⟩ = some (.int .i64 (n : Int))
 y : A.cell? ⟨yb, 0, none⟩ = some (.func (.yield l) #[] #[])
 s : A.cell? ⟨sb, 0, none⟩ = some (.func (.func 148) #[] #[.pointer (some ⟨gb, 0, none⟩), .pointer (some ⟨yb, 0, none⟩), .pointer (some ⟨sb, 0, none⟩)])
 ng : ¬ O gb
 ny : ¬ O yb
 ns : ¬ O sb
theorem OrdE.touch {n gb yb sb l : Nat} {O O' : Nat → Prop} {A B : World} (h : OrdE n gb yb sb l O A) (k : Touch O A B) (ho : ∀ i, O' i → O i ∨ A.heap.size ≤ i) : OrdE n gb yb sb l O' B :=
 have key : ∀ {b : Nat} {v : Value}, A.cell? ⟨b, 0, none⟩ = some v → ¬ O b → ¬ O' b := fun hc hn hx => by
  have := lt_of_cell hc
  rcases ho _ hx with h | h
  ·exact hn h
  ·simp only at this; omega
 ⟨k.cell h.g h.ng, k.cell h.y h.ny, k.cell h.s h.ns, key h.g h.ng, key h.y h.ny, key h.s h.ns⟩
theorem Stable.out' {n : Nat} {J : World → Prop} (h : Stable n J) {A B : World} (hj : J A) (hx : Ext A B) : J B := h A B hj (Quiet.of_ext hx)
abbrev ordArgs (v : Value) (gb yb sb : Nat) : Array Value := #[v, .pointer (some ⟨gb, 0, none⟩), .pointer (some ⟨yb, 0, none⟩), .pointer (some ⟨sb, 0, none⟩)]
/-- What the search does at an order begun, with f numbers left. -/
def OrdCall (n gb yb sb l B0 : Nat) (Jx : World → Prop) (f : Nat) : Prop :=
 ∀ (k : Nat) (J : Nat → (Nat → Prop) → World → Prop) (O : Nat → Prop) (now : List Int) (nowv : Value) (A : World), (∀ k O, Stable B0 (J k O)) → now.length + f = n → PermIn B0 O A now nowv → OrdE n gb yb sb l O A → J k O A → (∀ i, O i → i < A.heap.size) → B0 ≤ A.heap.size →
  (∀ (i : Nat) (z : List Int) (v : Value) (A1 : World) (O1 : Nat → Prop), (ordersFrom (numsOf n) f now)[i]? = some z → J (k + i) O1 A1 → PermIn B0 O1 A1 z v → B0 ≤ A1.heap.size → (∀ i, O1 i → i < A1.heap.size) → YieldAt Fence.wide 0 Tryz.prog l #[v] A1 (YRes O1 (J (k + i + 1)) Jx A1)) →
  Calls Tryz.prog 148 (ordArgs nowv gb yb sb) A (YRes O (J (k + (ordersFrom (numsOf n) f now).length)) Jx A)
theorem YRes.comp {O : Nat → Prop} {J : (Nat → Prop) → World → Prop} {Jx : World → Prop} {A B : World} {e : Ending} {C : World} {O1 : Nat → Prop} (h : YRes O1 J Jx B e C) (ht : Touch O A B) (ho : ∀ i, O1 i → O i ∨ A.heap.size ≤ i) : YRes O J Jx A e C := by
 obtain ⟨b, O', rfl, h1, h2, h3, h4⟩ := h
 refine ⟨b, O', rfl, Touch.of_new (N := fun i => O i ∨ O1 i) ((ht.mono fun _ h => .inl h).trans (h1.mono fun _ h => .inr h)) (fun i hi hl => ?_), fun i hi => ⟨?_, (h2 i hi).2⟩, h3, h4⟩
 ·rcases hi with h | h
  ·exact h
  ·rcases ho i h with h | h
   ·exact h
   ·omega
 ·rcases (h2 i hi).1 with h | h
  ·exact ho i h
  ·exact .inr (Nat.le_trans ht.size h)
set_option maxRecDepth 100000 in
set_option maxHeartbeats 2000000 in
/-- The leaf: the order is whole. -/
theorem ord_leaf (n gb yb sb l B0 : Nat) (Jx : World → Prop) : OrdCall n gb yb sb l B0 Jx 0 := by
 intro k J O now nowv A hJ hlen hN hE hj hO hAB hY
 obtain ⟨fn, tmps, assign, body, hy, hR⟩ := hY 0 now nowv A O rfl hj hN hAB hO
 obtain ⟨a, k1, rfl, h1, h2, _⟩ := hN.1.open
 have e1 := hE.g
 have e2 := hE.y
 have t1 : (now.length == n) = true := by simpa using hlen
 have t2 : ((now.length : Int) == (n : Int)) = true := by rw [beq_iff_eq]; omega
 clear hY hN hE hlen
 unfold ordArgs
 suffices h : CallsIn Fence.wide 0 Tryz.prog 148 #[.slice a now.length k1, .pointer (some ⟨gb, 0, none⟩), .pointer (some ⟨yb, 0, none⟩), .pointer (some ⟨sb, 0, none⟩)] A (YRes O (J (k + (ordersFrom (numsOf n) 0 now).length)) Jx A) from callsIn_wide.1 h
 refine callsIn_of_wp Tryz.func148 rfl trivial ?_ rfl
 simp only [Tryz.ntmps148, List.size_toArray, List.length_cons, List.length_nil, Nat.reduceAdd, Nat.reduceSub, Array.replicate_succ, Array.replicate_zero, List.push_toArray, List.append_toArray, List.nil_append, List.cons_append]
 gi_wp2_with (refine RoundIn.mono hR ?_; rintro e w2 ⟨b', O', rfl, ht, hpost⟩)
 all_goals go_ret
 all_goals exact ⟨b', O', rfl, ht, hpost⟩
theorem small_len {n : Nat} (h : n ≤ 1000) : n + 1 ≤ maxLen ∧ (n + 1) * 8 ≤ 140737488355328 := by unfold maxLen; omega
theorem row_push {W : World} {B0 : Nat} {base : Nat} {O : Nat → Prop} {v : Value} {xs : List Int} {n : Int} (hb : B0 ≤ base) (hO : ∀ i, O i → i < base) (h : W.ownsRow base 3 1 v (xs.length + 1) (xs.map (.int .i64) ++ [.int .i64 n])) : PermIn B0 O W (xs ++ [n]) v := by
 have h' : W.ownsRow base 3 1 v (xs ++ [n]).length ((xs ++ [n]).map (.int .i64)) := by simpa using h
 refine ⟨IntsAt.of_owns h', fun a m c hv => ?_⟩
 have h1 := World.ownsRow.lt h' a.block (by rw [hv]; rfl)
 exact ⟨fun hm => by have := hO _ hm; omega, by omega, h1.2⟩
set_option maxRecDepth 100000 in
set_option maxHeartbeats 4000000 in
/-- A node: the order is not whole yet. -/
theorem ord_node (n gb yb sb l B0 f : Nat) (Jx : World → Prop) (hn : n ≤ 1000) (ih : OrdCall n gb yb sb l B0 Jx f) : OrdCall n gb yb sb l B0 Jx (f + 1) := by
 intro k J O now nowv A hJ hlen hN hE hj hO hAB hY
 have hN0 := hN
 obtain ⟨a, k1, rfl, h1, h2, _⟩ := hN.1.open
 have e1 := hE.g
 have t1 : (now.length == n) = false := by rw [beq_eq_false_iff_ne]; omega
 have t2 : ((now.length : Int) == (n : Int)) = false := by rw [beq_eq_false_iff_ne]; omega
 have hmix : Tryz.prog.follows .mixedOrders = true := by kernel_rfl
 have HJ := Lib.hid hJ
 have HLE := Lib.hid hlen
 have HN := Lib.hid hN0
 have HE := Lib.hid hE
 have HO := Lib.hid hO
 have HI := Lib.hid (fun (j : Nat) (hjl : j < n) (hjn : (j : Int) ∉ now) (O1 : Nat → Prop) (v1 : Value) (A1 : World) (p1 : PermIn B0 O1 A1 (now ++ [(j : Int)]) v1) (p2 : OrdE n gb yb sb l O1 A1) (p3 : J (k + ordCnt (numsOf n) f now j) O1 A1) (p4 : ∀ i, O1 i → i < A1.heap.size) (p5 : B0 ≤ A1.heap.size) =>
  ih (k + ordCnt (numsOf n) f now j) J O1 (now ++ [(j : Int)]) v1 A1 hJ (by simp; omega) p1 p2 p3 p4 p5 (fun i z v A2 O2 hz q1 q2 q3 q4 => by
   have hat := ord_at (f := f) (numsOf_get hjl) hjn hz
   have := hY (ordCnt (numsOf n) f now j + i) z v A2 O2 hat (by rw [← Nat.add_assoc]; exact q1) q2 q3 q4
   rw [← Nat.add_assoc] at this; exact this))
 clear hJ ih hlen hN hN0 hE hO hY
 unfold ordArgs
 go_enter Tryz.func148, Tryz.ntmps148
 go_wp2
 clear t1 t2
 go_loopw [15] (fun i wr => ∃ (j : Nat) (O1 : Nat → Prop), j ≤ n ∧ i = .int .i64 j ∧ J (k + ordCnt (numsOf n) f now j) O1 wr ∧ Touch O A wr ∧ ∀ i, O1 i → (O i ∨ A.heap.size ≤ i) ∧ i < wr.heap.size) (fun i _ => n - (intOf i).toNat)
 case atStart => exact ⟨0, O, Nat.zero_le _, rfl, by simpa [ordCnt] using hj, Touch.refl _ _, fun i hi => ⟨.inl hi, HO.out i hi⟩⟩
 case round =>
  obtain ⟨j, O1, hj', rfl, hJw, ht, hO1⟩ := hrel
  have hEw := HE.out.touch ht (fun i hi => (hO1 i hi).1)
  have hNw := HN.out.touch ht (fun i hi => (hO1 i hi).1)
  have hsz := ht.size
  by_cases hlt : j < n
  ·have e1w := hEw.g
   have e2w := hEw.s
   have HS := Lib.hid (ordCnt_succ (f := f) (now := now) (numsOf_get hlt))
   have HEW := Lib.hid hEw
   have HO1 := Lib.hid hO1
   clear e1 hEw hO1
   by_cases hmem : (j : Int) ∈ now
   ·have hdec : decide ((j : Int) ∈ now) = true := by simpa using hmem
    have HCt := Lib.hid (fun w1 (hx : Ext wr w1) => Calls.mono (contains_any (.slice a now.length k1) now j w1 (hNw.1.ext hx)) (R' := fun e w' => e = .returned (.bool true) ∧ w' = w1) (fun e w' h => ⟨by rw [h.1, hdec], h.2.symm⟩))
    clear hNw
    go_upto_region 6 with fail
    go_quiet ((go_at_call 149; exact Calls.quiet_of_same (HCt.out _ ((Ext.refl wr).drewN _))))
    go_wp2
    go_roundw
    case rel => exact ⟨j + 1, O1, by omega, by go_num, by rw [HS.out, if_pos hmem, Nat.add_zero]; exact (HJ.out _ _).out' hJw ((Ext.refl wr).drewN _), ht.trans (Touch.of_ext ((Ext.refl wr).drewN _)), HO1.out⟩
    case measure => (simp [intOf]; omega)
   ·have HCt := Lib.hid (fun w1 (hx : Ext wr w1) => contains_any (.slice a now.length k1) now j w1 (hNw.1.ext hx))
    have HCl := Lib.hid (fun w1 (hx : Ext wr w1) => clone_any (.slice a now.length k1) now w1 (hNw.1.ext hx) (by have := HLE.out; omega))
    have HSm := Lib.hid (small_len (n := now.length) (by have := HLE.out; omega))
    have hdec : decide ((j : Int) ∈ now) = false := by simpa using hmem
    have hwsz : wr.drew.heap.size = wr.heap.size := rfl
    have HBW := Lib.hid (Nat.le_trans hAB hsz)
    clear hNw
    go_upto_region 6 with fail
    go_region_held3 (fun w' => w'.cell? ⟨sb, 0, none⟩ = some (.func (.func 148) #[] #[.pointer (some ⟨gb, 0, none⟩), .pointer (some ⟨yb, 0, none⟩), .pointer (some ⟨sb, 0, none⟩)])) (first | go_keep | exact (((Ext.refl wr).drew).alloc _).cell e2w | exact (hxa.alloc _).cell e2w)
     (first
      | (go_at_call 149; refine (HCt.out _ (by first | exact (Ext.refl wr).drew | exact Ext.refl wr)).mono ?_; rintro e w1 ⟨rfl, rfl⟩)
      | (go_at_call 65; refine (HCl.out _ (by first | exact (Ext.refl wr).drew | exact ((Ext.refl wr).drew).alloc _)).mono ?_; rintro e w1 ⟨v1, rfl, hown1, hx1⟩; have hxa : Ext wr w1 := Ext.trans (by first | exact (Ext.refl wr).drew | exact ((Ext.refl wr).drew).alloc _) hx1; have e3w := hxa.cell e2w)
      | (refine step_append_row E_ints (by rfl) _ _ (by rfl) _ (by rfl) (hown1.alloc (Obj.cells #[.int .i64 (j : Int)] 3)) (by rfl) (RowAt.new1 w1 #[.int .i64 (j : Int)] 3) (by rfl) (by simp [Value.oneCell']) HSm.out.1 HSm.out.2 (Nat.le_trans hx1.size ((Ext.refl w1).alloc _).size) ?_; intro v2 w2 hown2 hgrow _; have hx2 : Ext wr w2 := (hxa.alloc _).grown hgrow (fun g hg => Nat.le_trans (Nat.le_refl _) (owns_block hown1 g hg)); have e4w := hx2.cell e2w; have hrow := row_push HBW.out (fun i hi => (HO1.out i hi).2) hown2)
      | (refine step_append_row E_ints (by rfl) _ _ (by rfl) _ (by rfl) hown1 (by rfl) ((RowAt.new1 wr.drew #[.int .i64 (j : Int)] 3).ext hx1) (by rfl) (by simp [Value.oneCell']) HSm.out.1 HSm.out.2 hx1.size ?_; intro v2 w2 hown2 hgrow _; have hx2 : Ext wr w2 := hxa.grown hgrow (fun g hg => Nat.le_trans (((Ext.refl wr).drew).alloc _).size (owns_block hown1 g hg)); have e4w := hx2.cell e2w; have hrow := row_push (Nat.le_trans HBW.out (((Ext.refl wr).drew).alloc _).size) (fun i hi => Nat.lt_of_lt_of_le (HO1.out i hi).2 (((Ext.refl wr).drew).alloc _).size) hown2)
      | (go_at_call 148; refine (HI.out j hlt hmem O1 v2 w2 hrow (HEW.out.touch (Touch.of_ext hx2) (fun i hi => .inl hi)) ((HJ.out _ _).out' hJw hx2) (fun i hi => Nat.lt_of_lt_of_le (HO1.out i hi).2 hx2.size) (Nat.le_trans HBW.out hx2.size)).mono ?_; rintro e w4 hyr; obtain ⟨b', O4, rfl, ht4, ho4, hj4, hx4⟩ := hyr.comp (ht.trans (Touch.of_ext hx2)) (fun i hi => (HO1.out i hi).1); have HJ4 := Lib.hid hj4; have HX4 := Lib.hid hx4; have e5w := ht4.cell HE.out.s HE.out.ns; have HT4 := Lib.hid ht4; have HO4 := Lib.hid ho4; clear hj4 hx4 ht4 ho4 hyr))
    all_goals cases b'
    all_goals go_wp2
    all_goals first
     | (go_roundw
        case rel => exact ⟨j + 1, O4, by omega, by go_num, by have h := HJ4.out (by trivial); rw [HS.out, if_neg hmem]; rw [Nat.add_assoc] at h; exact h, HT4.out, HO4.out⟩
        case measure => simp [intOf]; omega)
     | (go_ret; exact ⟨false, O4, rfl, HT4.out, HO4.out, (fun h => by cases h), fun _ => HX4.out (by trivial)⟩)
  ·have hfin : YRes O (J (k + (ordersFrom (numsOf n) (f + 1) now).length)) Jx A (.returned (.bool true)) wr := ⟨true, O1, rfl, ht, hO1, fun _ => by rw [← ordCnt_all (i := j) (by rw [numsOf_length]; omega)]; exact hJw, fun h => by cases h⟩
   have HF := Lib.hid hfin
   clear hfin
   go_wp2
   go_ret
   exact HF.out
theorem ord_all (n gb yb sb l B0 : Nat) (Jx : World → Prop) (hn : n ≤ 1000) : ∀ f, OrdCall n gb yb sb l B0 Jx f
 | 0 => ord_leaf n gb yb sb l B0 Jx
 | f + 1 => ord_node n gb yb sb l B0 f Jx hn (ord_all n gb yb sb l B0 Jx hn f)
theorem wide_of {f : Nat} {args : Array Value} {w : World} {R : Ending → World → Prop} (h : Calls Tryz.prog f args w R) : CallsIn Fence.wide 0 Tryz.prog f args w R := callsIn_wide.2 h
theorem enters_orders1 : ∀ args w, (callFunc 147 args).run Tryz.prog w = .ok (.enter 147 args) w := enters_of Tryz.func147 (by kernel_rfl) rfl
theorem orders_any (n : Int) (w : World) :
 Calls Tryz.prog 115 #[.int .i64 n] w fun e w' => e = .returned (.func (.func 147) #[] #[.pointer (some ⟨w.heap.size, 0, none⟩)]) ∧ w' = w.alloc (.cells #[.int .i64 n] 3) := by
 go_enter Tryz.func115, Tryz.ntmps115
 go_wp2
 go_ret
 exact ⟨rfl, rfl⟩
set_option maxRecDepth 100000 in
set_option maxHeartbeats 2000000 in
/-- **The iterator over the orders of the numbers below n.** -/
theorem orders_iter (n gb : Nat) (W : World) (O0 : Nat → Prop) (hn : n ≤ 1000) (hO : ¬ O0 gb) (hg : W.cell? ⟨gb, 0, none⟩ = some (.int .i64 (n : Int))) :
 Iter Tryz.prog 147 #[.pointer (some ⟨gb, 0, none⟩)] (PermIn W.heap.size) (ordersOf (numsOf n)) O0 W := by
 intro l J Jx hJ hJx hY h0 hO0
 have hmix : Tryz.prog.follows .mixedOrders = true := by kernel_rfl
 have HA := Lib.hid (fun (A : World) (hx : Ext W A) (hE : OrdE n gb W.heap.size (W.heap.size + 1) l O0 A) => ord_all n gb W.heap.size (W.heap.size + 1) l W.heap.size Jx hn n 0 J O0 [] (.slice none 0 0) A hJ (by simp) (PermIn.nil _ _ _) hE ((hJ 0 O0).out' h0 hx) (fun i hi => Nat.lt_of_lt_of_le (hO0 i hi) hx.size) hx.size
  (fun i z v A1 O1 hz hj ht hs ho => by
   rw [Nat.zero_add] at hj ⊢
   exact hY i z v A1 O1 hj (by unfold ordersOf; rw [numsOf_length]; exact hz) ht hs ho))
 have HG := Lib.hid (fun (A : World) (hx : Ext W A) => hx.cell hg)
 have HO0 := Lib.hid hO0
 have HNO := Lib.hid hO
 have HL := Lib.hid (show 0 + (ordersFrom (numsOf n) n []).length = (ordersOf (numsOf n)).length by unfold ordersOf; rw [numsOf_length, Nat.zero_add])
 clear hY hJ h0 hO0 hO hg
 suffices h : CallsIn Fence.wide 0 Tryz.prog 147 #[.func (.yield l) #[] #[], .pointer (some ⟨gb, 0, none⟩)] W (fun e W' => (∃ v, e = .returned v) ∧ ((∃ O, J (ordersOf (numsOf n)).length O W') ∨ Jx W')) from h
 refine callsIn_of_wp Tryz.func147 rfl trivial ?_ rfl
 simp only [Tryz.ntmps147, List.size_toArray, List.length_cons, List.length_nil, Nat.reduceAdd, Nat.reduceSub, Array.replicate_succ, Array.replicate_zero, List.push_toArray, List.append_toArray, List.nil_append, List.cons_append]
 gi_wp2
 refine (wide_of (HA.out _ (((Ext.refl W).alloc _).alloc _) ⟨HG.out _ (((Ext.refl W).alloc _).alloc _), by go_simp, by go_simp, HNO.out, fun h => by have := HO0.out _ h; omega, fun h => by have := HO0.out _ h; omega⟩)).mono ?_
 rintro e w1 ⟨b, O', rfl, ht, ho, hj, hjx⟩
 rw [HL.out] at hj
 gi_wp2
 go_end0
 refine ⟨⟨_, rfl⟩, ?_⟩
 cases b
 ·exact .inr (hjx rfl)
 ·exact .inl ⟨_, hj rfl⟩
end Go.Proofs.YtokananogogjaaaGreatDoor
