/- key, known; what the memo of plans holds. -/
import Derived.Test.YtiodjapdiflphaaGreatDoorClosed
import Derived.Maps.OwnSet
import Derived.Maps.OwnIn
import Derived.Maps.RangeWalk
import Derived.Scope
namespace Go.Proofs.YtiodjapdiflphaaGreatDoor
open Go.RowKit
/-! ### In plain Lean -/
def keyL (l : List Nat) : Nat := l.foldl (fun n p => n ||| 2 ^ p) 0
theorem keyL_push (l : List Nat) (p : Nat) : keyL (l ++ [p]) = keyL l ||| 2 ^ p := by unfold keyL; rw [List.foldl_append]; rfl
theorem keyL_bit (l : List Nat) (i : Nat) : (keyL l).testBit i = decide (i ∈ l) := by
 induction l using rev_ind with
 | h0 => simp [keyL]
 | h1 l p ih =>
  rw [keyL_push, Nat.testBit_or, ih, Nat.testBit_two_pow]
  by_cases h : p = i
  ·subst h; simp
  ·have : ¬ i = p := fun e => h e.symm
   simp [h, this]
theorem keyL_lt (l : List Nat) (h : ∀ p, p ∈ l → p < 16) : keyL l < 65536 := by
 induction l using rev_ind with
 | h0 => simp [keyL]
 | h1 l p ih =>
  rw [keyL_push]
  exact Nat.or_lt_two_pow (n := 16) (ih (fun q hq => h q (by simp [hq]))) (Nat.pow_lt_pow_right (by decide) (h p (by simp)))
/-- Patterns in order, each once. -/
structure PatsB (l : List Nat) : Prop where
 lt : ∀ p, p ∈ l → p < 16
 up : l.Pairwise fun a b => a < b
theorem PatsB.filter {l : List Nat} (h : PatsB l) (f : Nat → Bool) : PatsB (l.filter f) := ⟨fun p hp => h.lt p (List.mem_filter.1 hp).1, h.up.filter _⟩
theorem keyL_inj {l m : List Nat} (hl : PatsB l) (hm : PatsB m) (h : keyL l = keyL m) : l = m := by
 refine List.Perm.eq_of_pairwise (le := fun a b => a ≤ b) (fun a b _ _ h k => Nat.le_antisymm h k) (hl.up.imp Nat.le_of_lt) (hm.up.imp Nat.le_of_lt) ?_
 refine (List.perm_ext_iff_of_nodup (hl.up.imp Nat.ne_of_lt) (hm.up.imp Nat.ne_of_lt)).2 fun p => ?_
 have h1 := keyL_bit l p
 have h2 := keyL_bit m p
 rw [h, h2] at h1
 simpa using h1.symm
theorem patterns_B (b : Book) (s : Sack) : PatsB (patternsOf b s) := ⟨fun p hp => patterns_lt hp, by unfold patternsOf; exact List.pairwise_lt_range.filter _⟩
theorem PatsB.len {l : List Nat} (h : PatsB l) : l.length ≤ 16 := by
 have := List.Nodup.length_le_of_subset (l₁ := l) (l₂ := List.range 16) (h.up.imp Nat.ne_of_lt) (fun p hp => List.mem_range.2 (h.lt p hp))
 simpa using this
theorem yes_less {l : List Nat} {i : Nat} (h : noOf l i ≠ []) : (yesOf l i).length < l.length := by
 unfold yesOf noOf at *
 rcases Nat.lt_or_ge (l.filter fun p => hasB p i).length l.length with h1 | h1
 ·exact h1
 ·have h2 : (l.filter fun p => hasB p i).length = l.length := Nat.le_antisymm (List.length_filter_le _ _) h1
  rw [List.length_filter_eq_length_iff] at h2
  exact (h (List.filter_eq_nil_iff.2 (fun p hp => by simp [h2 p hp]))).elim
theorem no_less {l : List Nat} {i : Nat} (h : yesOf l i ≠ []) : (noOf l i).length < l.length := by
 unfold yesOf noOf at *
 rcases Nat.lt_or_ge (l.filter fun p => !hasB p i).length l.length with h1 | h1
 ·exact h1
 ·have h2 : (l.filter fun p => !hasB p i).length = l.length := Nat.le_antisymm (List.length_filter_le _ _) h1
  rw [List.length_filter_eq_length_iff] at h2
  exact (h (List.filter_eq_nil_iff.2 (fun p hp => by have := h2 p hp; simpa using this))).elim
/-- One shell more. -/
def stepB (least : Int) (f : Nat) (l : List Nat) (out : Int × Int) (i : Nat) : Int × Int := if yesOf l i = [] ∨ noOf l i = [] then out else
 betterB out i (1 + max (if knownB least (yesOf l i) then 0 else (bestF least f (yesOf l i)).2) (if knownB least (noOf l i) then 0 else (bestF least f (noOf l i)).2))
theorem bestF_succ (least : Int) (f : Nat) (l : List Nat) : bestF least (f + 1) l = (List.range 4).foldl (stepB least f l) (-1, 0) := rfl
theorem foldl_congr {α β : Type} {f g : α → β → α} (xs : List β) (h : ∀ a x, x ∈ xs → f a x = g a x) : ∀ a, xs.foldl f a = xs.foldl g a := by
 induction xs with
 | nil => intro a; rfl
 | cons x xs ih => intro a; rw [List.foldl_cons, List.foldl_cons, h a x (by simp)]; exact ih (fun a y hy => h a y (by simp [hy])) _
theorem bestF_fuel (least : Int) : ∀ (n : Nat) (l : List Nat), l.length ≤ n → ∀ f, l.length ≤ f → bestF least f l = bestF least l.length l
 | n, [], _, f, _ => by
  cases f with
  | zero => rfl
  | succ f => rw [bestF_succ]; simp [stepB, yesOf, List.range_succ]; rfl
 | 0, _ :: _, h, _, _ => by simp at h
 | n + 1, p :: l, h, f, hf => by
  cases f with
  | zero => simp at hf
  | succ f =>
   rw [show (p :: l).length = l.length + 1 from rfl, bestF_succ, bestF_succ]
   refine foldl_congr _ (fun out i _ => ?_) _
   unfold stepB
   by_cases hh : yesOf (p :: l) i = [] ∨ noOf (p :: l) i = []
   ·rw [if_pos hh, if_pos hh]
   ·rw [if_neg hh, if_neg hh]
    have h1 := yes_less (l := p :: l) (i := i) (fun e => hh (.inr e))
    have h2 := no_less (l := p :: l) (i := i) (fun e => hh (.inl e))
    simp only [List.length_cons] at h h1 h2 hf
    rw [bestF_fuel least n _ (by omega) f (by omega), bestF_fuel least n _ (by omega) f (by omega), ← bestF_fuel least n (yesOf (p :: l) i) (by omega) l.length (by omega), ← bestF_fuel least n (noOf (p :: l) i) (by omega) l.length (by omega)]
def planStep (least : Int) (l : List Nat) (out : Int × Int) (i : Nat) : Int × Int := if yesOf l i = [] ∨ noOf l i = [] then out else betterB out i (1 + max (neededP least (yesOf l i)) (neededP least (noOf l i)))
def planTo (least : Int) (l : List Nat) (k : Nat) : Int × Int := (List.range k).foldl (planStep least l) (-1, 0)
theorem planTo_succ (least : Int) (l : List Nat) (k : Nat) : planTo least l (k + 1) = planStep least l (planTo least l k) k := by unfold planTo; rw [List.range_succ, List.foldl_append]; rfl
theorem bestP_planTo (least : Int) (l : List Nat) : bestP least l = planTo least l 4 := by
 unfold bestP planTo
 cases l with
 | nil => simp [bestF, planStep, yesOf, List.range_succ]
 | cons p l =>
  rw [show (p :: l).length = l.length + 1 from rfl, bestF_succ]
  refine foldl_congr _ (fun out i _ => ?_) _
  unfold stepB planStep
  by_cases hh : yesOf (p :: l) i = [] ∨ noOf (p :: l) i = []
  ·rw [if_pos hh, if_pos hh]
  ·rw [if_neg hh, if_neg hh]
   have h1 := yes_less (l := p :: l) (i := i) (fun e => hh (.inr e))
   have h2 := no_less (l := p :: l) (i := i) (fun e => hh (.inl e))
   simp only [List.length_cons] at h1 h2
   unfold neededP bestP
   rw [bestF_fuel least l.length _ (by omega) l.length (by omega), bestF_fuel least l.length _ (by omega) l.length (by omega)]
/-- The numbers are small. -/
theorem bestF_range (least : Int) : ∀ (f : Nat) (l : List Nat), -1 ≤ (bestF least f l).1 ∧ (bestF least f l).1 ≤ 3 ∧ 0 ≤ (bestF least f l).2 ∧ (bestF least f l).2 ≤ f
 | 0, l => by simp [bestF]
 | f + 1, l => by
  rw [bestF_succ]
  have key : ∀ k, k ≤ 4 → -1 ≤ ((List.range k).foldl (stepB least f l) (-1, 0)).1 ∧ ((List.range k).foldl (stepB least f l) (-1, 0)).1 ≤ 3 ∧ 0 ≤ ((List.range k).foldl (stepB least f l) (-1, 0)).2 ∧ ((List.range k).foldl (stepB least f l) (-1, 0)).2 ≤ f + 1 := by
   intro k
   induction k with
   | zero => intro _; simp; omega
   | succ k ih =>
    intro hk
    have ih := ih (by omega)
    rw [List.range_succ, List.foldl_append]
    generalize (List.range k).foldl (stepB least f l) (-1, 0) = o at ih
    simp only [List.foldl_cons, List.foldl_nil]
    have a : 0 ≤ (if knownB least (yesOf l k) then 0 else (bestF least f (yesOf l k)).2) ∧ (if knownB least (yesOf l k) then 0 else (bestF least f (yesOf l k)).2) ≤ f := by
     have := bestF_range least f (yesOf l k)
     split <;> omega
    have b : 0 ≤ (if knownB least (noOf l k) then 0 else (bestF least f (noOf l k)).2) ∧ (if knownB least (noOf l k) then 0 else (bestF least f (noOf l k)).2) ≤ f := by
     have := bestF_range least f (noOf l k)
     split <;> omega
    unfold stepB
    generalize (if knownB least (yesOf l k) then 0 else (bestF least f (yesOf l k)).2) = A at a
    generalize (if knownB least (noOf l k) then 0 else (bestF least f (noOf l k)).2) = B at b
    by_cases hh : yesOf l k = [] ∨ noOf l k = []
    ·rw [if_pos hh]; omega
    ·rw [if_neg hh]
     unfold betterB
     by_cases hb : o.1 < 0 ∨ 1 + max A B < o.2
     ·rw [if_pos hb]; refine ⟨?_, ?_, ?_, ?_⟩ <;> (show _ ≤ _) <;> omega
     ·rw [if_neg hb]; omega
  have := key 4 (by omega)
  push_cast
  exact this
end Go.Proofs.YtiodjapdiflphaaGreatDoor
/- key, known: the walks; the memo of plans in memory. -/
namespace Go.Proofs.YtiodjapdiflphaaGreatDoor
open Go.RowKit
open Go.Maps (Keyed keyOf_int_mk Tidy IsMap)
open Go.WideElems (rg)
theorem key_or (q p : Nat) (hq : q < 65536) (hp : p < 16) : bits .or .i64 (q : Int) (wrap64 (2 ^ p)) = ((q ||| 2 ^ p : Nat) : Int) := by
 have h2 : ∀ p, p < 16 → wrap64 ((2 : Int) ^ p) = ((2 ^ p : Nat) : Int) := by
  intro p hp
  rcases (by omega : p = 0 ∨ p = 1 ∨ p = 2 ∨ p = 3 ∨ p = 4 ∨ p = 5 ∨ p = 6 ∨ p = 7 ∨ p = 8 ∨ p = 9 ∨ p = 10 ∨ p = 11 ∨ p = 12 ∨ p = 13 ∨ p = 14 ∨ p = 15) with rfl | rfl | rfl | rfl | rfl | rfl | rfl | rfl | rfl | rfl | rfl | rfl | rfl | rfl | rfl | rfl <;> kernel_rfl
 have h3 : (2 : Nat) ^ p < 65536 := Nat.pow_lt_pow_right (n := 16) (by decide) hp
 rw [h2 p hp]; exact or_i64 q (2 ^ p) (by omega) (by omega)
theorem natsI_at {l : List Nat} {k : Nat} (hk : k < l.length) : (natsI l)[k]? = some ((l[k] : Nat) : Int) := by
 unfold natsI; rw [List.getElem?_map, List.getElem?_eq_getElem hk]; rfl
/-- Patterns in memory. -/
theorem nats_open {w : World} {v : Value} {l : List Nat} (h : IntsAt w v (natsI l)) : ∃ a c, v = .slice a l.length c ∧ l.length ≤ c ∧ c ≤ 9223372036854775807 ∧
  ∀ k, k < l.length → ∃ b o p, a = some ⟨b, o, none⟩ ∧ Hid (l[k]? = some p) ∧ w.cell? ⟨b, o + k, none⟩ = some (.int .i64 (p : Int)) := by
 obtain ⟨a, c, hv, h1, h2, h3⟩ := h.open
 have hl : (natsI l).length = l.length := by simp [natsI]
 rw [hl] at hv h1
 refine ⟨a, c, hv, h1, h2, fun k hk => ?_⟩
 obtain ⟨b, o, x, ha, hx, hc⟩ := h3 k (by omega)
 have h4 := natsI_at hk
 rw [hx.out] at h4
 cases h4
 exact ⟨b, o, l[k], ha, (by unfold Hid; rw [List.getElem?_eq_getElem hk]), hc⟩
set_option maxRecDepth 100000 in
set_option maxHeartbeats 2000000 in
theorem key_any (v : Value) (l : List Nat) (w : World) (hv : IntsAt w v (natsI l)) (hl : ∀ p, p ∈ l → p < 16) :
  Calls Tryz.prog 73 #[v] w fun e w' => e = .returned (.int .i64 (keyL l)) ∧ w = w' := by
 obtain ⟨a, c, rfl, h1, h2, h3⟩ := nats_open hv
 have hk : ∀ k, keyL (l.take k) < 65536 := fun k => keyL_lt _ (fun p hp => hl p (List.mem_of_mem_take hp))
 have HL := Lib.hid hl
 have HK := Lib.hid hk
 have H3 := Lib.hid h3
 clear hl hk h3 hv
 go_enter Tryz.func73, Tryz.ntmps73
 go_wp2
 go_loop [3, 8] (fun n i => ∃ k : Nat, k ≤ l.length ∧ i = .int .i64 k ∧ n = .int .i64 (keyL (l.take k))) (fun _ i => l.length - (intOf i).toNat)
 case atStart => exact ⟨0, Nat.zero_le _, rfl, rfl⟩
 case round =>
  obtain ⟨k, hk, rfl, rfl⟩ := hrel
  by_cases hlt : k < l.length
  ·obtain ⟨b, o, p, rfl, hp, hc⟩ := H3.out k hlt
   have hq := HK.out k
   have hpl := HL.out p (List.mem_of_getElem? hp.out)
   have hs : keyL (l.take (k + 1)) = keyL (l.take k) ||| 2 ^ p := by rw [List.take_add_one, hp.out]; exact keyL_push _ _
   generalize keyL (l.take k) = q at hq hs ⊢
   have HS := Lib.hid (hs.symm)
   have HKO := Lib.hid (key_or q p hq hpl)
   clear hs
   go_wp2
   go_round
   case rel => exact ⟨k + 1, by omega, by go_num, by rw [HKO.out, HS.out]⟩
   case measure => simp [intOf]; omega
  ·have hf : l.take k = l := List.take_of_length_le (by omega)
   rw [hf]
   go_wp2
   go_ret
   exact ⟨rfl, rfl⟩
theorem known_take {l : List Nat} : ∀ f : Nat → Bool, ∀ {k p : Nat}, l[k]? = some p → (l.take (k + 1)).any f = ((l.take k).any f || f p) := fun f k p h => by rw [List.take_add_one, h]; simp
set_option maxRecDepth 100000 in
set_option maxHeartbeats 4000000 in
theorem known_any (least : Int) (mv v : Value) (l : List Nat) (w : World) (hm : ∃ mb, mv = .map mb) (hv : IntsAt w v (natsI l)) (hl : ∀ p, p ∈ l → p < 16) :
  Calls Tryz.prog 38 #[.agg #[.int .i64 least, mv], v] w fun e w' => e = .returned (.bool (knownB least l)) ∧ Ext w w' := by
 obtain ⟨mb, rfl⟩ := hm
 obtain ⟨a, c, rfl, h1, h2, h3⟩ := nats_open hv
 have H3 := Lib.hid h3
 have HL := Lib.hid hl
 have HMY := Lib.hid (fun (p : Nat) (hp : p < 16) w1 => (many_any p w1 (by omega)).mono (R' := fun e w' => e = .returned (.int .i64 (manyB p)) ∧ w' = w1) (fun e w' h => ⟨h.1, h.2.symm⟩))
 have hx0 : Ext w (w.alloc (.cells #[.int .i64 least, .map mb] 96)) := (Ext.refl w).alloc _
 have HX0 := Lib.hid hx0
 have hmix : Tryz.prog.follows .mixedOrders = true := by kernel_rfl
 clear h3 hl hv hx0
 go_enter Tryz.func38, Tryz.ntmps38
 go_wp2
 go_loopw [5, 6, 11] (fun x y i wr => ∃ k : Nat, k ≤ l.length ∧ i = .int .i64 k ∧ x = .bool ((l.take k).any fun p => decide (least ≤ manyB p)) ∧ y = .bool ((l.take k).any fun p => decide ((manyB p : Int) < least)) ∧ Ext (w.alloc (.cells #[.int .i64 least, .map mb] 96)) wr) (fun _ _ i _ => l.length - (intOf i).toNat)
 case atStart => exact ⟨0, Nat.zero_le _, rfl, rfl, rfl, Ext.refl _⟩
 case round =>
  obtain ⟨k, hk, rfl, rfl, rfl, hxr⟩ := hrel
  by_cases hlt : k < l.length
  ·obtain ⟨b, o, p, rfl, hp, hc⟩ := H3.out k hlt
   have t1 : decide ((k : Int) < (l.length : Int)) = true := by simpa using hlt
   have i1 : (0 : Int) ≤ (k : Int) := by omega
   have i2 : (k : Int) < (l.length : Int) := by omega
   have q0 := (HX0.out.trans hxr).cell hc
   have z0 := hxr.cell (a := ⟨w.heap.size, 0, none⟩) (v := .int .i64 least) (by go_simp)
   have HM := Lib.hid (HMY.out p (HL.out p (List.mem_of_getElem? hp.out)))
   have hml := manyB_le p
   have e1 := known_take (fun p => decide (least ≤ manyB p)) hp.out
   have e2 := known_take (fun p => decide ((manyB p : Int) < least)) hp.out
   obtain ⟨mp, hmp⟩ : ∃ mp, manyB p = mp := ⟨_, rfl⟩
   simp only [hmp] at e1 e2 HM
   rw [hmp] at hml
   generalize (l.take k).any (fun p => decide (least ≤ manyB p)) = x at e1 ⊢
   generalize (l.take k).any (fun p => decide ((manyB p : Int) < least)) = y at e2 ⊢
   have HXR := Lib.hid hxr
   clear hmp hxr hc
   by_cases hge : least ≤ (mp : Int)
   ·have hlt2 : ¬ (mp : Int) < least := by omega
    rw [decide_eq_true hge, Bool.or_true] at e1
    rw [decide_eq_false hlt2, Bool.or_false] at e2
    have E1 := Lib.hid e1
    have E2 := Lib.hid e2
    have t2 : decide (least ≤ (mp : Int)) = true := by simpa using hge
    clear e1 e2 hlt2 hge
    go_upto_region 5 with fail
    go_quiet ((go_at_call 52; exact Calls.quiet_of_same (HM.out _)))
    go_wp2
    exact ⟨⟨k + 1, by omega, by go_num, by rw [E1.out], by rw [E2.out], HXR.out.drewN _⟩, by simp [intOf]; omega⟩
   ·have hlt2 : (mp : Int) < least := by omega
    rw [decide_eq_false hge, Bool.or_false] at e1
    rw [decide_eq_true hlt2, Bool.or_true] at e2
    have E1 := Lib.hid e1
    have E2 := Lib.hid e2
    have t2 : decide (least ≤ (mp : Int)) = false := by simpa using hge
    clear e1 e2 hlt2 hge
    go_upto_region 5 with fail
    go_quiet ((go_at_call 52; exact Calls.quiet_of_same (HM.out _)))
    go_wp2
    exact ⟨⟨k + 1, by omega, by go_num, by rw [E1.out], by rw [E2.out], HXR.out.drewN _⟩, by simp [intOf]; omega⟩
  ·have hf : l.take k = l := List.take_of_length_le (by omega)
   have t1 : decide ((k : Int) < (l.length : Int)) = false := by simpa using hlt
   have HK := Lib.hid (show knownB least l = (!(l.any fun p => decide (least ≤ manyB p)) || !(l.any fun p => decide ((manyB p : Int) < least))) from rfl)
   rw [hf]
   generalize hx : (l.any fun p => decide (least ≤ manyB p)) = x at HK ⊢
   generalize hy : (l.any fun p => decide ((manyB p : Int) < least)) = y at HK ⊢
   have HX := Lib.hid (HX0.out.trans hxr)
   clear hf hxr hx hy
   cases x <;> cases y <;>
    (go_wp2
     go_ret
     exact ⟨by rw [HK.out]; rfl, HX.out⟩)
/-! ### The memo in memory -/
def planElem : Value → Option (DataW Unit × List MemPlace)
 | .agg cs => match cs.toList with
  | [.int .i64 a, .int .i64 b] => some (.agg [.lit (.int .i64 a), .lit (.int .i64 b)], [])
  | _ => none
 | _ => none
theorem planElem_mk (a b : Int) : planElem (.agg #[.int .i64 a, .int .i64 b]) = some (.agg [.lit (.int .i64 a), .lit (.int .i64 b)], []) := rfl
theorem planElem_inv {v : Value} {z : DataW Unit × List MemPlace} (h : planElem v = some z) : ∃ a b, v = .agg #[.int .i64 a, .int .i64 b] ∧ z = (.agg [.lit (.int .i64 a), .lit (.int .i64 b)], []) := by
 unfold planElem at h
 split at h
 ·split at h
  ·rename_i cs _ a b hcs
   refine ⟨a, b, ?_, (Option.some.inj h).symm⟩
   congr 1
   exact Array.toList_inj.1 hcs
  ·cases h
 ·cases h
theorem memo_law : Keyed Tryz.prog 3 := Go.Maps.int_keyed Tryz.underlying3
theorem zeroPlan (w : World) : (zeroValue 99).run Tryz.prog w = .ok (.agg #[.int .i64 0, .int .i64 0]) w := by kernel_rfl
theorem wfK {n : Nat} (h : n < 65536) : (Lit.int .i64 (n : Int)).wf = true := WalkArith.wf_i64 (by omega)
/-- D holds the best plans of some patterns, by their keys, and nothing else. -/
def MemoD (D : DataW Unit) (least : Int) : Prop := ∀ n, (Lit.int .i64 n).wf = true → Maps.has D (.int .i64 n) = true → ∃ l, PatsB l ∧ n = (keyL l : Int) ∧ ∀ z, D.atKey (.int .i64 n) z = .agg [.lit (.int .i64 (bestP least l).1), .lit (.int .i64 (bestP least l).2)]
def MemoAt (W : World) (mb : Nat) (least : Int) : Prop := ∃ D : DataW Unit, W.ownsMap Tryz.prog 3 planElem mb 65536 D ∧ MemoD D least
theorem MemoAt.obj {W : World} {mb : Nat} {least : Int} (h : MemoAt W mb least) : ∃ es clock, W.heap[mb]? = some (.map es clock) := by
 obtain ⟨D, ⟨es, clock, hb, _⟩, _⟩ := h; exact ⟨es, clock, hb⟩
theorem MemoAt.block {W W' : World} {mb : Nat} {least : Int} (h : MemoAt W mb least) (k : W'.heap[mb]? = W.heap[mb]?) : MemoAt W' mb least := by
 obtain ⟨D, ⟨es, clock, hb, r⟩, h2⟩ := h
 exact ⟨D, ⟨es, clock, k.trans hb, r⟩, h2⟩
theorem MemoAt.lt {W : World} {mb : Nat} {least : Int} (h : MemoAt W mb least) : mb < W.heap.size := by
 obtain ⟨_, _, hb⟩ := h.obj; exact (Array.getElem?_eq_some_iff.1 hb).1
theorem MemoAt.ext {W W' : World} {mb : Nat} {least : Int} (h : MemoAt W mb least) (k : Ext W W') : MemoAt W' mb least := h.block (Below.block k _ h.lt)
theorem MemoAt.touch {W W' : World} {mb : Nat} {least : Int} {M : Nat → Prop} (h : MemoAt W mb least) (k : Touch M W W') (hm : ¬ M mb) : MemoAt W' mb least := by
 obtain ⟨_, _, hb⟩ := h.obj; exact h.block ((k.keep _ _ hb hm).trans hb.symm)
/-- No cell lies in the map's block. -/
theorem MemoAt.ne {W : World} {mb : Nat} {least : Int} (h : MemoAt W mb least) {a : Addr} {v : Value} (hc : W.cell? a = some v) : ¬ a.block = mb := by
 obtain ⟨_, _, hb⟩ := h.obj
 intro e
 unfold World.cell? at hc
 rw [e, hb] at hc
 cases hc
theorem memo_tight {W : World} {mb n : Nat} {D : DataW Unit} {least : Int} (h : W.ownsMap Tryz.prog 3 planElem mb n D) (hd : MemoD D least) : W.ownsMap Tryz.prog 3 planElem mb 65536 D := by
 obtain ⟨es, clock, hb, F, hn, rfl⟩ := h
 refine ⟨es, clock, hb, F, ?_, rfl⟩
 have hown : W.ownsMap Tryz.prog 3 planElem mb n (.map ((es.toList.map (rg Tryz.prog 3 planElem)).foldr DataW.insert [])) := ⟨es, clock, hb, F, hn, rfl⟩
 obtain ⟨L, hL, hpw, _⟩ := hown.entries memo_law
 have hLl : L = (es.toList.map (rg Tryz.prog 3 planElem)).foldr DataW.insert [] := by cases hL; rfl
 have hlen : L.length = es.size := by rw [hLl]; simp [length_sorted]
 have hkeys : Go.Maps.Keys (Go.Maps.KeysOf Tryz.prog 3) (es.toList.map (rg Tryz.prog 3 planElem)) := Go.Maps.fit_keys F
 have hsub : (L.map (·.1)) ⊆ (List.range 65536).map (fun (i : Nat) => Lit.int .i64 i) := by
  intro l hl
  obtain ⟨p, hp, rfl⟩ := List.mem_map.1 hl
  have hp' : p ∈ es.toList.map (rg Tryz.prog 3 planElem) := mem_sorted.1 (hLl ▸ hp)
  obtain ⟨v, hv⟩ := hkeys p hp'
  obtain ⟨x, rfl, hx, hw⟩ := Maps.keyOf_int_inv Tryz.underlying3 hv
  have hh : Maps.has (.map L : DataW Unit) (.int .i64 x) = true := by
   rw [Maps.has_eq, List.any_eq_true]
   exact ⟨p, hp, by rw [hx]; simp [Lit.sameKey]⟩
  obtain ⟨q, hq, rfl, _⟩ := hd x hw (by rw [← hL] at hh; exact hh)
  rw [hx]
  exact List.mem_map.2 ⟨keyL q, List.mem_range.2 (keyL_lt q hq.lt), rfl⟩
 have hnd : (L.map (·.1)).Nodup := by
  rw [List.nodup_iff_pairwise_ne, List.pairwise_map]; exact hpw
 have := hnd.length_le_of_subset hsub
 simp at this
 omega
theorem memo_made (w : World) (least : Int) : MemoAt (w.alloc (.map #[] 0)) w.heap.size least :=
 ⟨.map [], (World.ownsMap_made w _ _ _).mono (by omega), fun n _ h => by simp [Maps.has] at h⟩
theorem memo_put {D : DataW Unit} {least : Int} (h : MemoD D least) (hm : IsMap D) {l : List Nat} (hl : PatsB l) : MemoD (D.put (.int .i64 (keyL l)) (.agg [.lit (.int .i64 (bestP least l).1), .lit (.int .i64 (bestP least l).2)])) least := by
 have hk : WideAt.IsKeyLit (Lit.int .i64 (keyL l)) := memo_law.key (keyOf_int_mk Tryz.underlying3 (wfK (keyL_lt l hl.lt)))
 intro n hw hh
 by_cases e : n = (keyL l : Int)
 ·subst e; exact ⟨l, hl, rfl, fun z => Maps.atKey_put_same hm hk _ _⟩
 ·rw [Maps.has_put_other (fun h => e (by cases h; rfl))] at hh
  obtain ⟨m, h1, h2, h3⟩ := h n hw hh
  exact ⟨m, h1, h2, fun z => by rw [Maps.atKey_put_other (fun h => e (by cases h; rfl))]; exact h3 z⟩
section laws
variable {ops : Array Oper} {rest : List Oper} {o : Oper} {a : Act} {Q : Exit → Act → World → Prop} {w : World}
theorem wpList_memo_store (hg : o.guard = none) (m x v : Operand) (hop : o.op = Op.mapUpdate 94 m x v) {mb : Nat} {least : Int} {l : List Nat} (hm : a.eval m = .map (some mb)) (hown : MemoAt w mb least) (hl : PatsB l) {k : Int} (hk : k = (keyL l : Int)) (hx : a.eval x = .int .i64 k) {p q : Int} (hv : a.eval v = .agg #[.int .i64 p, .int .i64 q]) (hp : (p, q) = bestP least l)
  (hK : ∀ w', MemoAt w' mb least → w.grownBy w' (some mb) → wpList Tryz.prog ops Q rest (a.put o.dst undef) w') : wpList Tryz.prog ops Q (o :: rest) a w := by
 obtain ⟨D, h2, h3⟩ := hown
 subst hk
 refine wpList_mapUpdate_own w hg m x v _ hop 3 99 memo_law Tryz.underlying94 planElem mb 65536 D hm h2 (by unfold maxLen; omega) _ _ _ hx hv (keyOf_int_mk Tryz.underlying3 (wfK (keyL_lt l hl.lt))) _ [] (planElem_mk p q) (fun w' h4 h5 => hK w' ?_ h5)
 have h6 := memo_put h3 h2.isMap hl
 rw [← hp] at h6
 exact ⟨_, memo_tight h4 h6, h6⟩
theorem wpList_memo_lookup (hg : o.guard = none) (m x : Operand) (hop : o.op = Op.lookup 94 m x true) {mb : Nat} {least : Int} {l : List Nat} (hm : a.eval m = .map (some mb)) (hown : MemoAt w mb least) (hl : PatsB l) {k : Int} (hk : k = (keyL l : Int)) (hx : a.eval x = .int .i64 k)
  (hK : ∀ (c : Bool) (p q : Int), (c = true → (p, q) = bestP least l) → wpList Tryz.prog ops Q rest (a.put o.dst (.tuple #[.agg #[.int .i64 p, .int .i64 q], .bool c])) w) : wpList Tryz.prog ops Q (o :: rest) a w := by
 obtain ⟨D, h2, h3⟩ := hown
 subst hk
 refine wpList_lookup_own_ok w hg m x _ hop 3 99 memo_law Tryz.underlying94 planElem (zeroPlan w) _ [] (planElem_mk 0 0) mb 65536 D hm h2 _ _ hx (keyOf_int_mk Tryz.underlying3 (wfK (keyL_lt l hl.lt))) ?_
 intro v ps hv
 obtain ⟨p, q, rfl, hz⟩ := planElem_inv hv
 refine hK _ p q (fun hh => ?_)
 obtain ⟨l', h4, h5, h6⟩ := h3 _ (wfK (keyL_lt l hl.lt)) hh
 have h7 : l' = l := keyL_inj h4 hl (by omega)
 subst h7
 rw [h6] at hz
 simp only [Prod.mk.injEq, DataW.agg.injEq, List.cons.injEq, DataW.lit.injEq, Lit.int.injEq] at hz
 exact Prod.ext hz.1.1.2.symm hz.1.2.1.2.symm
end laws
end Go.Proofs.YtiodjapdiflphaaGreatDoor
/- needed, best: the plans, with their memo. -/
namespace Go.Proofs.YtiodjapdiflphaaGreatDoor
open Go.RowKit
def planV (p : Int × Int) : Value := .agg #[.int .i64 p.1, .int .i64 p.2]
def BestCall (least : Int) (mb n : Nat) : Prop := ∀ (l : List Nat) (v : Value) (w : World), PatsB l → l ≠ [] → l.length ≤ n → IntsAt w v (natsI l) → MemoAt w mb least →
 Calls Tryz.prog 39 #[.agg #[.int .i64 least, .map (some mb)], v] w fun e w' => e = .returned (planV (bestP least l)) ∧ Touch (· = mb) w w' ∧ MemoAt w' mb least
/-- Rows of numbers do not lie in a map's block. -/
theorem IntsAt.memo {w w' : World} {mb : Nat} {least : Int} {v : Value} {xs : List Int} (h : IntsAt w v xs) (hm : MemoAt w mb least) (k : Touch (· = mb) w w') : IntsAt w' v xs := by
 obtain ⟨a, c, rfl, h1, h2, h0, h3⟩ := h
 exact ⟨a, c, rfl, h1, h2, h0, fun j u hj => by
  obtain ⟨b, o, rfl, hc⟩ := h3 j u hj
  exact ⟨b, o, rfl, k.cell hc (hm.ne hc)⟩⟩
set_option maxRecDepth 100000 in
set_option maxHeartbeats 4000000 in
theorem needed_of {least : Int} {mb n : Nat} (hBest : BestCall least mb n) (l : List Nat) (v : Value) (w : World) (hl : PatsB l) (hne : l ≠ []) (hn : l.length ≤ n) (hv : IntsAt w v (natsI l)) (hm : MemoAt w mb least) :
  Calls Tryz.prog 75 #[.agg #[.int .i64 least, .map (some mb)], v] w fun e w' => e = .returned (.int .i64 (neededP least l)) ∧ Touch (· = mb) w w' ∧ MemoAt w' mb least := by
 have HK := Lib.hid (fun (w1 : World) (h : Ext w w1) => known_any least (.map (some mb)) v l w1 ⟨_, rfl⟩ (hv.ext h) hl.lt)
 have HB := Lib.hid (fun (w1 : World) (h : Ext w w1) => hBest l v w1 hl hne hn (hv.ext h) (hm.ext h))
 have HX0 := Lib.hid ((Ext.refl w).alloc _ : Ext w (w.alloc (.cells #[.int .i64 least, .map (some mb)] 96)))
 have HM := Lib.hid hm
 obtain ⟨a, c, rfl, _⟩ := nats_open hv
 have hnp : neededP least l = if knownB least l then 0 else (bestP least l).2 := rfl
 clear hv hm hBest hne
 cases hk : knownB least l with
 | true =>
  rw [hk] at HK hnp
  have HF := Lib.hid hnp
  clear hk hnp
  go_enter Tryz.func75, Tryz.ntmps75
  go_wp2_with (go_at_call 38; refine (HK.out _ HX0.out).mono ?_; rintro e w1 ⟨rfl, hx1⟩)
  go_ret
  exact ⟨by rw [HF.out]; rfl, Touch.of_ext (HX0.out.trans hx1), HM.out.ext (HX0.out.trans hx1)⟩
 | false =>
  rw [hk, if_neg (by decide)] at hnp
  rw [hk] at HK
  have HF := Lib.hid hnp
  clear hk hnp
  generalize hbp : bestP least l = bp at HB HF
  clear hbp
  unfold planV at HB
  have hfl : ∀ a b wq, (Instr.field 99 (.agg #[.int .i64 a, .int .i64 b]) 1).run Tryz.prog wq = .ok (.int .i64 b) wq := fun _ _ _ => by kernel_rfl
  go_enter Tryz.func75, Tryz.ntmps75
  go_wp2_with (first
   | (go_at_call 38; refine (HK.out _ HX0.out).mono ?_; rintro e w1 ⟨rfl, hx1⟩; have z0 := hx1.cell (a := ⟨w.heap.size, 0, none⟩) (v := .int .i64 least) (by go_simp); have z1 := hx1.cell (a := ⟨w.heap.size, 1, none⟩) (v := .map (some mb)) (by go_simp))
   | (go_at_call 39; refine (HB.out _ (HX0.out.trans hx1)).mono ?_; rintro e w2 ⟨rfl, ht2, hm2⟩))
  go_ret
  exact ⟨by rw [HF.out]; rfl, (Touch.of_ext (HX0.out.trans hx1)).trans ht2, hm2⟩
end Go.Proofs.YtiodjapdiflphaaGreatDoor
/- best: the walk. -/
namespace Go.Proofs.YtiodjapdiflphaaGreatDoor
open Go.RowKit
/-- What stands at the head of a round over the shells. -/
structure BestI (least : Int) (l : List Nat) (mb : Nat) (w : World) (k : Nat) (m : Int × Int) (W : World) : Prop where
 t : Touch (· = mb) w W
 memo : MemoAt W mb least
 game : W.cell? ⟨w.heap.size, 0, none⟩ = some (.int .i64 least) ∧ W.cell? ⟨w.heap.size, 1, none⟩ = some (.map (some mb))
 res : Box2 W (w.heap.size + 1) (.int .i64 0) (.int .i64 0)
 out : Box2 W (w.heap.size + 3) (.int .i64 m.1) (.int .i64 m.2)
 val : planTo least l k = m
theorem BestI.to {least : Int} {l : List Nat} {mb : Nat} {w : World} {k : Nat} {m : Int × Int} {W W' : World} (h : BestI least l mb w k m W) (t : Touch (· = mb) W W') (hm : MemoAt W' mb least) : BestI least l mb w k m W' :=
 ⟨h.t.trans t, hm, ⟨t.cell h.game.1 (h.memo.ne h.game.1), t.cell h.game.2 (h.memo.ne h.game.2)⟩, h.res.touch t (h.memo.ne h.res.c0), h.out.touch t (h.memo.ne h.out.c0), h.val⟩
theorem best_put {least : Int} {l : List Nat} {mb : Nat} {w : World} {k k' : Nat} {m m' : Int × Int} {W : World} (h : BestI least l mb w k m W) (hm : MemoAt ((W.setCell ⟨w.heap.size + 3, 0, none⟩ (.int .i64 m'.1)).setCell ⟨w.heap.size + 3, 1, none⟩ (.int .i64 m'.2)) mb least) (hv : planTo least l k' = m') :
  BestI least l mb w k' m' ((W.setCell ⟨w.heap.size + 3, 0, none⟩ (.int .i64 m'.1)).setCell ⟨w.heap.size + 3, 1, none⟩ (.int .i64 m'.2)) := by
 have ht : Touch (· = w.heap.size + 3) W ((W.setCell ⟨w.heap.size + 3, 0, none⟩ (.int .i64 m'.1)).setCell ⟨w.heap.size + 3, 1, none⟩ (.int .i64 m'.2)) := (Touch.setCell (M := (· = w.heap.size + 3)) (a := ⟨w.heap.size + 3, 0, none⟩) _ rfl).trans (Touch.setCell (a := ⟨w.heap.size + 3, 1, none⟩) _ rfl)
 refine ⟨Touch.of_new (N := fun i => i = mb ∨ i = w.heap.size + 3) ((h.t.mono (fun i hi => .inl hi)).trans (ht.mono (fun i hi => .inr hi))) (fun i hi hl => hi.elim id (fun h => by omega)), hm, ⟨ht.cell h.game.1 (by simp only []; omega), ht.cell h.game.2 (by simp only []; omega)⟩, h.res.touch ht (by omega), h.out.set _ _, hv⟩
theorem rows_apart {wq w5 : World} {base n g : Nat} {y z : Value} {zs : List Value} {e e' : TypeId} {ds : Array Value} (hz : wq.ownsRow base e 1 z n zs) (hap : ∀ g, y.ownBlock = some g → z.ownBlock = some g → False)
  (hg5 : (wq.alloc (.cells ds e')).grownBy w5 y.ownBlock) (hloc : y.ownBlock = some g ∨ g = wq.heap.size + 1) : w5.ownsRow base e 1 z n zs ∧ ∀ g', some g = some g' → z.ownBlock = some g' → False := by
 refine ⟨owns_touch (owns_ext hz ((Ext.refl wq).alloc _)) (Touch.grown (M := fun k => y.ownBlock = some k) hg5 (fun k hk => hk)) (fun k h1 h2 => hap k h2 h1), fun g' h1 h2 => ?_⟩
 cases h1
 rcases hloc with h | h
 ·exact hap _ h h2
 ·have := (World.ownsRow.lt hz _ h2).2; omega
theorem yes_take {l : List Nat} {j p i : Nat} (h : l[j]? = some p) : natsI (yesOf (l.take (j + 1)) i) = if p.testBit i then natsI (yesOf (l.take j) i) ++ [(p : Int)] else natsI (yesOf (l.take j) i) := by
 unfold yesOf natsI hasB
 rw [List.take_add_one, h]
 cases hb : p.testBit i <;> simp [hb]
theorem no_take {l : List Nat} {j p i : Nat} (h : l[j]? = some p) : natsI (noOf (l.take (j + 1)) i) = if p.testBit i then natsI (noOf (l.take j) i) else natsI (noOf (l.take j) i) ++ [(p : Int)] := by
 unfold noOf natsI hasB
 rw [List.take_add_one, h]
 cases hb : p.testBit i <;> simp [hb]
theorem neededP_range (least : Int) (l : List Nat) : 0 ≤ neededP least l ∧ neededP least l ≤ l.length := by
 unfold neededP bestP
 have := bestF_range least l.length l
 split <;> omega
set_option maxRecDepth 100000 in
set_option maxHeartbeats 16000000 in
theorem best_step {least : Int} {mb n : Nat} (hBest : BestCall least mb n) : BestCall least mb (n + 1) := by
 intro l v w hl hne0 hn hv hm
 have HND := Lib.hid (fun (l' : List Nat) (v' : Value) (w1 : World) (h1 : PatsB l') (h0 : l' ≠ []) (h2 : l'.length ≤ n) (h3 : IntsAt w1 v' (natsI l')) (h4 : MemoAt w1 mb least) => needed_of hBest l' v' w1 h1 h0 h2 h3 h4)
 have HKY := Lib.hid (fun (w1 : World) (h : Ext w w1) => key_any v l w1 (hv.ext h) hl.lt)
 have HV := Lib.hid hv
 have HM := Lib.hid hm
 have HPB := Lib.hid hl
 have HN := Lib.hid hn
 obtain ⟨a, c, rfl, h1, h2, _⟩ := nats_open hv
 have hmix : Tryz.prog.follows .mixedOrders = true := by kernel_rfl
 have hx2 : Ext w ((w.alloc (.cells #[.int .i64 least, .map (some mb)] 96)).alloc (.cells #[.int .i64 0, .int .i64 0] 99)) := ((Ext.refl w).alloc _).alloc _
 have HX2 := Lib.hid hx2
 have hmb := hm.lt
 have HFIN := Lib.hid (fun (m : Int × Int) (h : bestP least l = m) => congrArg (fun x => Ending.returned (planV x)) h)
 clear hv hm hl hBest hx2 hne0
 unfold planV at HFIN ⊢
 go_enter Tryz.func39, Tryz.ntmps39
 go_wp2
 refine wp_scope_straight ?_
 go_wp2_with (first
  | (go_at_call 73; refine (HKY.out _ HX2.out).mono ?_; rintro e w' ⟨rfl, rfl⟩)
  | (at_lookup; refine wpList_memo_lookup rfl _ _ rfl rfl (HM.out.ext HX2.out) HPB.out rfl rfl ?_; intro cB p q hcB; have HCB := Lib.hid hcB; clear hcB; cases cB))
 ·refine wp_label ?_
  have hBI : BestI least l mb w 0 (-1, 0) ((((w.alloc (.cells #[.int .i64 least, .map (some mb)] 96)).alloc (.cells #[.int .i64 0, .int .i64 0] 99)).alloc (.cells #[.int .i64 p, .int .i64 q] 99)).alloc (.cells #[.int .i64 (-1), .int .i64 0] 99)) := by
   refine ⟨Touch.of_ext (((HX2.out.alloc _).alloc _)), HM.out.ext ((HX2.out.alloc _).alloc _), ⟨by go_simp, by go_simp⟩, ⟨by go_simp, by go_simp, by go_simp, by go_simp⟩, ⟨by go_simp, by go_simp, by go_simp, by go_simp⟩, rfl⟩
  have hz5 : ((((w.alloc (.cells #[.int .i64 least, .map (some mb)] 96)).alloc (.cells #[.int .i64 0, .int .i64 0] 99)).alloc (.cells #[.int .i64 p, .int .i64 q] 99)).alloc (.cells #[.int .i64 (-1), .int .i64 0] 99)).heap.size = w.heap.size + 4 := by simp
  generalize ((((w.alloc (.cells #[.int .i64 least, .map (some mb)] 96)).alloc (.cells #[.int .i64 0, .int .i64 0] 99)).alloc (.cells #[.int .i64 p, .int .i64 q] 99)).alloc (.cells #[.int .i64 (-1), .int .i64 0] 99)) = W5 at hBI hz5
  clear HCB
  go_wp2
  go_loopw [29] (fun i wr => ∃ (k : Nat) (m : Int × Int), k ≤ 4 ∧ i = .int .i64 k ∧ w.heap.size + 4 ≤ wr.heap.size ∧ BestI least l mb w k m wr) (fun i _ => 4 - (intOf i).toNat)
  case atStart => exact ⟨0, (-1, 0), by omega, rfl, by omega, hBI⟩
  case round =>
   obtain ⟨k, m, hk, rfl, hzr, hbi⟩ := hrel
   obtain ⟨wo, rfl⟩ : ∃ wo : World, wo = wr := ⟨_, rfl⟩
   by_cases hlt : k < 4
   ·have t1 : decide ((k : Int) < 4) = true := by simp; omega
    obtain ⟨_, _, e, _, _, hn3⟩ := nats_open (HV.out.memo HM.out hbi.t)
    cases e
    have H3 := Lib.hid hn3
    have HBI := Lib.hid hbi
    clear hn3 hbi
    go_wp2
    go_loopw [10, 11, 34] (fun y z i wq => ∃ j : Nat, j ≤ l.length ∧ i = .int .i64 j ∧ wq.ownsRow wo.heap.size 3 1 y (natsI (yesOf (l.take j) k)).length ((natsI (yesOf (l.take j) k)).map (.int .i64)) ∧ wq.ownsRow wo.heap.size 3 1 z (natsI (noOf (l.take j) k)).length ((natsI (noOf (l.take j) k)).map (.int .i64)) ∧ (∀ g, y.ownBlock = some g → z.ownBlock = some g → False) ∧ Ext wo wq) (fun _ _ i _ => l.length - (intOf i).toNat)
    case atStart => exact ⟨0, Nat.zero_le _, rfl, World.ownsRow_nil _ _ _ _, World.ownsRow_nil _ _ _ _, fun g h => (by cases h), Ext.refl _⟩
    case round =>
     obtain ⟨j, hj, rfl, hoy, hoz, hap, hxq⟩ := hrel
     by_cases hjl : j < l.length
     ·obtain ⟨b, o, p1, rfl, hp, hc⟩ := H3.out j hjl
      have t2 : decide ((j : Int) < (l.length : Int)) = true := by simpa using hjl
      have i1 : (0 : Int) ≤ (j : Int) := by omega
      have i2 : (j : Int) < (l.length : Int) := by omega
      have q0 := hxq.cell hc
      have hpl := HPB.out.lt p1 (List.mem_of_getElem? hp.out)
      have HH := Lib.hid (has_any p1 k wr (by omega) (by omega))
      have hll : (natsI (yesOf (l.take j) k)).length ≤ 16 ∧ (natsI (noOf (l.take j) k)).length ≤ 16 := by
       have h16 := HPB.out.len
       have a1 : (yesOf (l.take j) k).length ≤ (l.take j).length := List.length_filter_le _ _
       have a2 : (noOf (l.take j) k).length ≤ (l.take j).length := List.length_filter_le _ _
       rw [List.length_take] at a1 a2
       simp only [natsI, List.length_map]
       omega
      have HSY := Lib.hid (show (natsI (yesOf (l.take j) k)).length + 1 ≤ maxLen ∧ ((natsI (yesOf (l.take j) k)).length + 1) * 8 ≤ 140737488355328 by unfold maxLen; omega)
      have HSZ := Lib.hid (show (natsI (noOf (l.take j) k)).length + 1 ≤ maxLen ∧ ((natsI (noOf (l.take j) k)).length + 1) * 8 ≤ 140737488355328 by unfold maxLen; omega)
      have e1 := yes_take (i := k) hp.out
      have e2 := no_take (i := k) hp.out
      have hbz := hxq.size
      have HOY := Lib.hid hoy
      have HOZ := Lib.hid hoz
      have HAP := Lib.hid hap
      have HXQ := Lib.hid hxq
      obtain ⟨_, _, rfl, _⟩ := RowAt.open (RowAt.of_owns hoy)
      obtain ⟨_, _, rfl, _⟩ := RowAt.open (RowAt.of_owns hoz)
      clear hoy hoz hap hxq hll hc
      cases hbit : p1.testBit k with
      | true =>
       rw [hbit] at HH e1 e2
       have E1 := Lib.hid e1
       have E2 := Lib.hid e2
       clear e1 e2 hbit
       go_wp2_with (first
        | (go_at_call 74; refine HH.out.mono ?_; rintro e w' ⟨rfl, rfl⟩)
        | (at_builtin; refine wpList_push_at E_ints rfl _ _ rfl wo.heap.size rfl HOY.out rfl (by simp) rfl (by simp [Value.oneCell']) ?_ HSY.out.1 HSY.out.2 hbz; intro g cap w5 hown5 hext5 hg5 hloc5; obtain ⟨k1, k2⟩ := rows_apart HOZ.out HAP.out hg5 hloc5; have HW := Lib.hid (And.intro hown5 (And.intro k1 (And.intro k2 (hext5 _ HXQ.out (Nat.le_refl _))))); clear hown5 hext5 hg5 hloc5 k1 k2))
       refine ⟨⟨j + 1, by omega, by go_num, ?_, ?_, HW.out.2.2.1, HW.out.2.2.2⟩, by simp [intOf]; omega⟩
       ·rw [E1.out, if_pos (by trivial), List.length_append, List.map_append]; exact HW.out.1
       ·rw [E2.out, if_pos (by trivial)]; exact HW.out.2.1
      | false =>
       rw [hbit] at HH e1 e2
       have E1 := Lib.hid e1
       have E2 := Lib.hid e2
       clear e1 e2 hbit
       go_wp2_with (first
        | (go_at_call 74; refine HH.out.mono ?_; rintro e w' ⟨rfl, rfl⟩)
        | (at_builtin; refine wpList_push_at E_ints rfl _ _ rfl wo.heap.size rfl HOZ.out rfl (by simp) rfl (by simp [Value.oneCell']) ?_ HSZ.out.1 HSZ.out.2 hbz; intro g cap w5 hown5 hext5 hg5 hloc5; obtain ⟨k1, k2⟩ := rows_apart HOY.out (fun g h1 h2 => HAP.out g h2 h1) hg5 hloc5; have HW := Lib.hid (And.intro hown5 (And.intro k1 (And.intro k2 (hext5 _ HXQ.out (Nat.le_refl _))))); clear hown5 hext5 hg5 hloc5 k1 k2))
       refine ⟨⟨j + 1, by omega, by go_num, ?_, ?_, (fun g h1 h2 => HW.out.2.2.1 g h2 h1), HW.out.2.2.2⟩, by simp [intOf]; omega⟩
       ·rw [E1.out, if_neg (by simp)]; exact HW.out.2.1
       ·rw [E2.out, if_neg (by simp), List.length_append, List.map_append]; exact HW.out.1
     ·have t2 : decide ((j : Int) < (l.length : Int)) = false := by simpa using hjl
      have hjl' : l.take j = l := List.take_of_length_le (by omega)
      rw [hjl'] at hoy hoz
      have hbq := HBI.out.to (Touch.of_ext hxq) (HBI.out.memo.ext hxq)
      have hzq : w.heap.size + 4 ≤ wr.heap.size := Nat.le_trans hzr hxq.size
      have hiy : IntsAt wr u10 (natsI (yesOf l k)) := RowAt.of_owns hoy
      have hiz : IntsAt wr u11 (natsI (noOf l k)) := RowAt.of_owns hoz
      have hpy := HPB.out.filter fun p => hasB p k
      have hpn := HPB.out.filter fun p => !hasB p k
      have hst : planTo least l (k + 1) = planStep least l m k := by rw [planTo_succ, hbq.val]
      clear hoy hoz hap hjl'
      obtain ⟨ya, yc, rfl, _⟩ := nats_open hiy
      obtain ⟨na, nc, rfl, _⟩ := nats_open hiz
      by_cases hy0 : yesOf l k = []
      ·have t3 : (((yesOf l k).length : Int) == 0) = true := by rw [hy0]; rfl
       have HF := Lib.hid (⟨hbq.t, hbq.memo, hbq.game, hbq.res, hbq.out, by rw [hst]; unfold planStep; rw [if_pos (.inl hy0)]⟩ : BestI least l mb w (k + 1) m wr)
       clear hbq hst hy0 hiy hiz hpy hpn
       go_wp2
       exact ⟨⟨k + 1, m, by omega, by go_num, hzq, HF.out⟩, by simp [intOf]; omega⟩
      ·by_cases hn0 : noOf l k = []
       ·have t3 : (((yesOf l k).length : Int) == 0) = false := by have := List.length_pos_iff.2 hy0; simp; omega
        have t4 : (((noOf l k).length : Int) == 0) = true := by rw [hn0]; rfl
        have HF := Lib.hid (⟨hbq.t, hbq.memo, hbq.game, hbq.res, hbq.out, by rw [hst]; unfold planStep; rw [if_pos (.inr hn0)]⟩ : BestI least l mb w (k + 1) m wr)
        clear hbq hst hy0 hn0 hiy hiz hpy hpn
        go_wp2
        exact ⟨⟨k + 1, m, by omega, by go_num, hzq, HF.out⟩, by simp [intOf]; omega⟩
       ·have t3 : (((yesOf l k).length : Int) == 0) = false := by have := List.length_pos_iff.2 hy0; simp; omega
        have t4 : (((noOf l k).length : Int) == 0) = false := by have := List.length_pos_iff.2 hn0; simp; omega
        have hly := yes_less hn0
        have hln := no_less hy0
        have hl16 := HPB.out.len
        unfold planStep at hst
        rw [if_neg (fun h => h.elim hy0 hn0)] at hst
        have hNY := HND.out (yesOf l k) (.slice ya (yesOf l k).length yc) wr.drew hpy hy0 (by have := HN.out; omega) (hiy.ext (Ext.refl _).drew) (hbq.memo.ext (Ext.refl _).drew)
        have hA := neededP_range least (yesOf l k)
        have hB := neededP_range least (noOf l k)
        have HNN := Lib.hid (fun (w1 : World) (h1 : IntsAt w1 (.slice na (noOf l k).length nc) (natsI (noOf l k))) (h2 : MemoAt w1 mb least) => HND.out (noOf l k) (.slice na (noOf l k).length nc) w1 hpn hn0 (by have := HN.out; omega) h1 h2)
        have HNY := Lib.hid hNY
        clear hNY
        obtain ⟨A, hAA⟩ : ∃ A, neededP least (yesOf l k) = A := ⟨_, rfl⟩
        obtain ⟨B, hBB⟩ : ∃ B, neededP least (noOf l k) = B := ⟨_, rfl⟩
        rw [hAA] at hst hA HNY
        rw [hBB] at hst hB HNN
        have hA16 : 0 ≤ A ∧ A ≤ 16 := by omega
        have hB16 : 0 ≤ B ∧ B ≤ 16 := by omega
        obtain ⟨Nx, hNx⟩ : ∃ Nx, 1 + max A B = Nx := ⟨_, rfl⟩
        have E1 : IntKind.i64.wrap (1 + max A B) = Nx := by rw [IntWalk.i64_in _ (by omega)]; exact hNx
        rw [hNx] at hst
        have HST := Lib.hid hst
        have HBQ := Lib.hid hbq
        have HIZ := Lib.hid hiz
        obtain ⟨g0, g1⟩ := hbq.game
        have HG := Lib.hid (And.intro g0 g1)
        clear hAA hBB hst hbq hiy hiz hpy hpn hy0 hn0 hly hln hA hB hNx
        go_upto_region 18 with fail
        refine wp_region_held_drew (S := (fun w' => w'.cell? ⟨w.heap.size, 0, none⟩ = some (.int .i64 least) ∧ w'.cell? ⟨w.heap.size, 1, none⟩ = some (.map (some mb)))) (by kernel_rfl) ?_ (fun hHeld => ?_)
        ·exact HG.out
        refine hTk (i := 0) (d := some 58) (v := ?_) (fun o ho => ?_) hHeld ?_
        rotate_left
        ·simp only [zA, zB, zD] at ho
         subst ho
         refine ⟨by rfl, fun w hSw => ?_⟩
         (try dsimp only at hSw)
         go_simp
         try with_reducible rfl
        try simp only [Act.put, yA, yB, yC]
        refine hTk (i := 1) (d := some 59) (v := ?_) (fun o ho => ?_) hHeld ?_
        rotate_left
        ·simp only [zA, zB, zC, zD] at ho
         subst ho
         refine ⟨by rfl, fun w hSw => ?_⟩
         (try dsimp only at hSw)
         go_simp
         try with_reducible rfl
        try simp only [Act.put, yA, yB, yC]
        refine hTk (i := 3) (d := some 61) (v := ?_) (fun o ho => ?_) hHeld ?_
        rotate_left
        ·simp only [zA, zB, zC, zD] at ho
         subst ho
         refine ⟨by rfl, fun w hSw => ?_⟩
         (try dsimp only at hSw)
         go_simp
         try with_reducible rfl
        try simp only [Act.put, yA, yB, yC]
        refine hTk (i := 4) (d := some 62) (v := ?_) (fun o ho => ?_) hHeld ?_
        rotate_left
        ·simp only [zA, zB, zC, zD] at ho
         subst ho
         refine ⟨by rfl, fun w hSw => ?_⟩
         (try dsimp only at hSw)
         go_simp
         try with_reducible rfl
        try simp only [Act.put, yA, yB, yC]
        refine wpAnyH_ready (rs := [2]) (by kernel_rfl) (by simp) ?_
        refine held_step (i := 2) (by kernel_rfl) (fun o ho K' hK => ?_) ?_
        ·simp only [zA, zB, zC, zD] at ho
         subst ho
         go_simp
         go_at_call 75
         refine HNY.out.mono ?_
         rintro e w2 ⟨rfl, ht2, hm2⟩
         have hbi2 := HBQ.out.to ((Touch.of_ext (Ext.refl _).drew).trans ht2) hm2
         have hiz2 := IntsAt.memo HIZ.out HBQ.out.memo ((Touch.of_ext (Ext.refl _).drew).trans ht2)
         try go_simp
         refine hK.out _ _ ?_ (fun hHeld => ?_)
         ·exact ⟨hbi2.game.1, hbi2.game.2⟩
         clear hK K'
         try simp only [yA, yB, yC]
         refine wpAnyH_ready (rs := [5]) (by kernel_rfl) (by simp) ?_
         refine held_step (i := 5) (by kernel_rfl) (fun o ho K' hK => ?_) ?_
         ·simp only [zA, zB, zC, zD] at ho
          subst ho
          go_simp
          go_at_call 75
          refine (HNN.out w2 hiz2 hm2).mono ?_
          rintro e w3 ⟨rfl, ht3, hm3⟩
          have hbi3 := hbi2.to ht3 hm3
          have hz3 : w.heap.size + 4 ≤ w3.heap.size := (by have a1 := ht2.size; have a2 := ht3.size; simp only [World.drew] at a1; omega)
          try go_simp
          refine hK.out _ _ ?_ (fun hHeld => ?_)
          ·exact ⟨hbi3.game.1, hbi3.game.2⟩
          clear hK K'
          try simp only [yA, yB, yC]
          refine wpAnyH_ready (rs := [6]) (by kernel_rfl) (by simp) ?_
          refine held_step (i := 6) (by kernel_rfl) (fun o ho K' hK => ?_) ?_
          ·simp only [zA, zB, zC, zD] at ho
           subst ho
           go_simp
           refine hK.out _ _ ?_ (fun hHeld => ?_)
           ·exact ⟨hbi3.game.1, hbi3.game.2⟩
           clear hK K'
           try simp only [yA, yB, yC]
           refine wpAnyH_ready (rs := [7]) (by kernel_rfl) (by simp) ?_
           refine held_step (i := 7) (by kernel_rfl) (fun o ho K' hK => ?_) ?_
           ·simp only [zA, zB, zC, zD] at ho
            subst ho
            go_simp
            refine hK.out _ _ ?_ (fun hHeld => ?_)
            ·exact ⟨hbi3.game.1, hbi3.game.2⟩
            clear hK K'
            try simp only [yA, yB, yC]
            refine wpAnyH_done (by kernel_rfl) ?_ _
            try simp only [yA, yB, yC]
            have hbi4 := hbi3
            clear hbi2 hiz2 hm2 ht2 ht3 hHeld
            obtain ⟨o0, o1, o2, o3⟩ := hbi3.out
            have hne := hbi3.memo.ne hbi3.out.c0
            have HB3 := Lib.hid hbi3
            have HO3 := Lib.hid (fun (x y : Value) => hbi3.out.set x y)
            have hset : ∀ x y, MemoAt ((w3.setCell ⟨w.heap.size + 3, 0, none⟩ x).setCell ⟨w.heap.size + 3, 1, none⟩ y) mb least := fun x y => hm3.touch ((Touch.setCell (M := (· = w.heap.size + 3)) (a := ⟨w.heap.size + 3, 0, none⟩) x rfl).trans (Touch.setCell (a := ⟨w.heap.size + 3, 1, none⟩) y rfl)) (fun h => hne h.symm)
            have HSET := Lib.hid hset
            clear hbi3 hbi4 hset g0 g1
            by_cases b1 : m.1 < 0
            ·have b2 : decide (m.1 < 0) = true := by simpa using b1
             have hv : betterB m k Nx = ((k : Int), Nx) := by unfold betterB; rw [if_pos (.inl b1)]
             have HVL := Lib.hid (HST.out.trans hv)
             clear b1 hv
             go_wp2
             exact ⟨⟨k + 1, ((k : Int), Nx), by omega, by go_num, by simpa [World.setCell] using hz3, best_put HB3.out (HSET.out _ _) HVL.out⟩, by simp [intOf]; omega⟩
            ·by_cases b3 : Nx < m.2
             ·have b2 : decide (m.1 < 0) = false := by simpa using b1
              have b4 : decide (Nx < m.2) = true := by simpa using b3
              have hv : betterB m k Nx = ((k : Int), Nx) := by unfold betterB; rw [if_pos (.inr b3)]
              have HVL := Lib.hid (HST.out.trans hv)
              clear b1 b3 hv
              go_wp2
              exact ⟨⟨k + 1, ((k : Int), Nx), by omega, by go_num, by simpa [World.setCell] using hz3, best_put HB3.out (HSET.out _ _) HVL.out⟩, by simp [intOf]; omega⟩
             ·have b2 : decide (m.1 < 0) = false := by simpa using b1
              have b4 : decide (Nx < m.2) = false := by simpa using b3
              have hv : betterB m k Nx = m := by unfold betterB; rw [if_neg (fun h => h.elim b1 b3)]
              have HVL := Lib.hid (HST.out.trans hv)
              clear b1 b3 hv
              go_wp2
              exact ⟨⟨k + 1, m, by omega, by go_num, hz3, ⟨HB3.out.t, HB3.out.memo, HB3.out.game, HB3.out.res, HB3.out.out, HVL.out⟩⟩, by simp [intOf]; omega⟩
           exact AllReadyH.nil
          exact AllReadyH.nil
         exact AllReadyH.nil
        exact AllReadyH.nil
   ·have t1 : decide ((k : Int) < 4) = false := by simp; omega
    have hk4 : k = 4 := by omega
    subst hk4
    have hbp : bestP least l = m := by rw [bestP_planTo]; exact hbi.val
    have HBP := Lib.hid hbp.symm
    have HT := Lib.hid hbi.t
    have HMM := Lib.hid hbi.memo
    have HOUT := Lib.hid hbi.out
    have HRES := Lib.hid hbi.res
    have hne1 := hbi.memo.ne hbi.out.c0
    have hne2 := hbi.memo.ne hbi.res.c0
    obtain ⟨g0, g1⟩ := hbi.game
    obtain ⟨o0, o1, o2, o3⟩ := hbi.out
    have hcw : w.heap.size + 1 < wo.heap.size := by omega
    clear hbi hbp hBI
    go_wp2_with (at_mapUpdate; refine wpList_memo_store rfl _ _ _ rfl rfl HMM.out HPB.out rfl rfl rfl HBP.out ?_; intro w5 hm5 hg5; have ht5 := Touch.grown (M := (· = mb)) hg5 (fun k hk => by cases hk; rfl); obtain ⟨p0, p1, p2, p3⟩ := HOUT.out.touch ht5 hne1; obtain ⟨r0, r1, r2, r3⟩ := HRES.out.touch ht5 hne2)
    refine bodyPost_ret (v := .agg #[.int .i64 m.1, .int .i64 m.2]) (by simp [results, Tryz.results39, go_sem, *]) rfl ?_
    refine ⟨HFIN.out m HBP.out.symm ▸ rfl, ?_, ?_⟩
    ·exact Touch.of_new (N := fun i => i = mb ∨ i = w.heap.size + 1) ((((HT.out.trans ht5).mono (fun i hi => .inl hi)).trans (Touch.setCell (a := ⟨w.heap.size + 1, 0, none⟩) _ (.inr rfl))).trans (Touch.setCell (a := ⟨w.heap.size + 1, 1, none⟩) _ (.inr rfl))) (fun i hi hl => hi.elim id (fun h => by omega))
    ·exact hm5.touch ((Touch.setCell (M := (· = w.heap.size + 1)) (a := ⟨w.heap.size + 1, 0, none⟩) _ rfl).trans (Touch.setCell (a := ⟨w.heap.size + 1, 1, none⟩) _ rfl)) (by omega)
 ·have hcb := HCB.out trivial
  have hx3 : Ext w (((w.alloc (.cells #[.int .i64 least, .map (some mb)] 96)).alloc (.cells #[.int .i64 0, .int .i64 0] 99)).alloc (.cells #[.int .i64 p, .int .i64 q] 99)) := HX2.out.alloc _
  refine bodyPost_ret (v := .agg #[.int .i64 p, .int .i64 q]) (by simp [results, Tryz.results39, go_sem]) rfl ?_
  refine ⟨HFIN.out (p, q) hcb.symm ▸ rfl, ?_, ?_⟩
  ·exact Touch.of_ext (by repeat (first | exact Ext.refl _ | apply Ext.alloc))
  ·exact HM.out.ext (by repeat (first | exact Ext.refl _ | apply Ext.alloc))
theorem best_all (least : Int) (mb : Nat) : ∀ n, BestCall least mb n
 | 0 => fun _ _ _ _ hne hn => absurd (List.length_eq_zero_iff.1 (Nat.le_zero.1 hn)) hne
 | n + 1 => best_step (best_all least mb n)
theorem best_any (least : Int) (mb : Nat) (l : List Nat) (v : Value) (w : World) (hl : PatsB l) (hne : l ≠ []) (hv : IntsAt w v (natsI l)) (hm : MemoAt w mb least) :
  Calls Tryz.prog 39 #[.agg #[.int .i64 least, .map (some mb)], v] w fun e w' => e = .returned (planV (bestP least l)) ∧ Touch (· = mb) w w' ∧ MemoAt w' mb least := best_all least mb l.length l v w hl hne (Nat.le_refl _) hv hm
end Go.Proofs.YtiodjapdiflphaaGreatDoor
/- Tests. -/
namespace Go.Proofs.YtiodjapdiflphaaGreatDoor
open Go.RowKit
theorem patterns_ne {b : Book} {s : Sack} (hB : BookB b) (hS : SackB s) (h : possB b s = true) : patternsOf b s ≠ [] := by
 unfold possB at h
 cases ht : truthsOf b s with
 | nil => rw [ht] at h; cases h
 | cons x l =>
  have hx : x ∈ truthsOf b s := by rw [ht]; simp
  intro e
  have : patternOf b x ∈ patternsOf b s := by
   unfold patternsOf
   exact List.mem_filter.2 ⟨List.mem_range.2 (pattern_lt hB hS hx), by rw [List.any_eq_true]; exact ⟨x, hx, by simp⟩⟩
  rw [e] at this
  cases this
def TestsRes (b : Book) (s : Sack) (m : Int) (w : World) (e : Ending) (w' : World) : Prop :=
 e = .returned (.tuple (if askN b s (inB m 0 4) = 0 then (if knownB m (patternsOf b s) then #[.int .i64 0, .int .i64 0, .int .i64 5] else #[.int .i64 (bestP m (patternsOf b s)).1, .int .i64 (bestP m (patternsOf b s)).2, .int .i64 0]) else #[.int .i64 0, .int .i64 0, .int .i64 (askN b s (inB m 0 4))])) ∧ Ext w w'
set_option maxRecDepth 100000 in
set_option maxHeartbeats 16000000 in
theorem Tests_no (bv sv : Value) (b : Book) (s : Sack) (m : Int) (w : World) (hb : BookAt w bv b) (hs : SackAt w sv s) (hn : ¬ askN b s (inB m 0 4) = 0) : Calls Tryz.prog 8 #[bv, sv, .int .i64 m] w (TestsRes b s m w) := by
 obtain ⟨rv, rfl, hr⟩ := hb
 obtain ⟨sv, tv, rfl, hs, ht⟩ := hs
 have HA := Lib.hid (fun (w1 : World) (hx : Ext w w1) => asked_any rv sv tv b s (inB m 0 4) w1 (hr.ext hx) (hs.ext hx) (RowOf.ext ht hx))
 unfold AskRes zeroSack at HA
 rw [if_neg hn] at HA
 have hres : ∀ w', Ext w w' → TestsRes b s m w (.returned (.tuple #[.int .i64 0, .int .i64 0, .int .i64 (askN b s (inB m 0 4))])) w' := fun w' hx => ⟨by rw [if_neg hn], hx⟩
 obtain ⟨n, hnn⟩ : ∃ n, n = askN b s (inB m 0 4) := ⟨_, rfl⟩
 rw [← hnn] at hn HA hres
 clear hnn
 have t0 : (n == 0) = false := by simpa using hn
 obtain ⟨ra, rc, rfl, _⟩ := hr.open
 obtain ⟨sa, sc, rfl, hsl, hsm, _⟩ := hs.open
 obtain ⟨ta, tc, rfl, _⟩ := RowAt.open ht
 have HRES := Lib.hid hres
 have hmix : Tryz.prog.follows .mixedOrders = true := by kernel_rfl
 have hmm := @run_makeMap Tryz.prog
 have hx0 : Ext w ((w.alloc (.cells #[.int .i64 b.years, .slice ra b.rivers.length rc] 24)).alloc (.cells #[.slice sa s.shells.length sc, .slice ta s.tests.length tc] 28)) := ((Ext.refl w).alloc _).alloc _
 have HX0 := Lib.hid hx0
 have HS := Lib.hid (fun W (h : Ext ((w.alloc (.cells #[.int .i64 b.years, .slice ra b.rivers.length rc] 24)).alloc (.cells #[.slice sa s.shells.length sc, .slice ta s.tests.length tc] 28)) W) => (⟨h.cell (by go_simp), h.cell (by go_simp), h.cell (by go_simp), h.cell (by go_simp)⟩ : (fun w' => w'.cell? ⟨w.heap.size, 0, none⟩ = some (.int .i64 b.years) ∧ w'.cell? ⟨w.heap.size, 1, none⟩ = some (.slice ra b.rivers.length rc) ∧ w'.cell? ⟨w.heap.size + 1, 0, none⟩ = some (.slice sa s.shells.length sc) ∧ w'.cell? ⟨w.heap.size + 1, 1, none⟩ = some (.slice ta s.tests.length tc)) W))
 clear hr hs ht hx0 hres
 go_enter Tryz.func8, Tryz.ntmps8
 go_upto_region 1 with fail
 refine wp_region_held_drew (S := (fun w' => w'.cell? ⟨w.heap.size, 0, none⟩ = some (.int .i64 b.years) ∧ w'.cell? ⟨w.heap.size, 1, none⟩ = some (.slice ra b.rivers.length rc) ∧ w'.cell? ⟨w.heap.size + 1, 0, none⟩ = some (.slice sa s.shells.length sc) ∧ w'.cell? ⟨w.heap.size + 1, 1, none⟩ = some (.slice ta s.tests.length tc))) (by kernel_rfl) ?_ (fun hHeld => ?_)
 ·exact HS.out _ (by repeat (first | exact hxe | exact Ext.refl _ | apply Ext.drew | apply Ext.alloc | refine Ext.setCell ?_ (by first | exact hzl | (simp; done) | (have := hzl; simp at this ⊢; omega)) _))
 refine hTk (i := 0) (d := some 15) (v := ?_) (fun o ho => ?_) hHeld ?_
 rotate_left
 ·simp only [zA, zB, zD] at ho
  subst ho
  refine ⟨by rfl, fun w hSw => ?_⟩
  (try dsimp only at hSw)
  go_simp
  try with_reducible rfl
 try simp only [Act.put, yA, yB, yC]
 refine hTk (i := 1) (d := some 16) (v := ?_) (fun o ho => ?_) hHeld ?_
 rotate_left
 ·simp only [zA, zB, zC, zD] at ho
  subst ho
  refine ⟨by rfl, fun w hSw => ?_⟩
  (try dsimp only at hSw)
  go_simp
  try with_reducible rfl
 try simp only [Act.put, yA, yB, yC]
 refine hTk (i := 2) (d := some 17) (v := ?_) (fun o ho => ?_) hHeld ?_
 rotate_left
 ·simp only [zA, zB, zC, zD] at ho
  subst ho
  refine ⟨by rfl, fun w hSw => ?_⟩
  (try dsimp only at hSw)
  go_simp
  try with_reducible rfl
 try simp only [Act.put, yA, yB, yC]
 refine wpAnyH_ready (rs := [3, 8]) (by kernel_rfl) (by simp) ?_
 refine held_step (i := 3) (by kernel_rfl) (fun o ho K' hK => ?_) ?_
 ·simp only [zA, zB, zC, zD] at ho
  subst ho
  go_simp
  go_at_call 36
  refine (in_any _ _ _ _).mono ?_
  rintro e w1 ⟨rfl, rfl⟩
  try go_simp
  refine hK.out _ _ ?_ (fun hHeld => ?_)
  ·exact HS.out _ (by repeat (first | exact hxe | exact Ext.refl _ | apply Ext.drew | apply Ext.alloc | refine Ext.setCell ?_ (by first | exact hzl | (simp; done) | (have := hzl; simp at this ⊢; omega)) _))
  clear hK K'
  try simp only [yA, yB, yC]
  refine wpAnyH_ready (rs := [4, 8]) (by kernel_rfl) (by simp) ?_
  refine held_step (i := 4) (by kernel_rfl) (fun o ho K' hK => ?_) ?_
  ·simp only [zA, zB, zC, zD] at ho
   subst ho
   go_simp
   go_at_call 35
   refine (HA.out _ (by repeat (first | exact HX0.out | apply Ext.drew | apply Ext.alloc))).mono ?_
   rintro e w2 ⟨rfl, hx2⟩
   have hxe : Ext ((w.alloc (.cells #[.int .i64 b.years, .slice ra b.rivers.length rc] 24)).alloc (.cells #[.slice sa s.shells.length sc, .slice ta s.tests.length tc] 28)) w2 := (by repeat (first | exact Ext.refl _ | apply Ext.drew | apply Ext.alloc) : Ext ((w.alloc (.cells #[.int .i64 b.years, .slice ra b.rivers.length rc] 24)).alloc (.cells #[.slice sa s.shells.length sc, .slice ta s.tests.length tc] 28)) (World.drew ((w.alloc (.cells #[.int .i64 b.years, .slice ra b.rivers.length rc] 24)).alloc (.cells #[.slice sa s.shells.length sc, .slice ta s.tests.length tc] 28)))).trans hx2
   have hzl := hxe.size
   try go_simp
   refine hK.out _ _ ?_ (fun hHeld => ?_)
   ·exact HS.out _ (by repeat (first | exact hxe | exact Ext.refl _ | apply Ext.drew | apply Ext.alloc | refine Ext.setCell ?_ (by first | exact hzl | (simp; done) | (have := hzl; simp at this ⊢; omega)) _))
   clear hK K'
   try simp only [yA, yB, yC]
   refine hTk (i := 5) (d := some 14) (v := ?_) (fun o ho => ?_) hHeld ?_
   rotate_left
   ·simp only [zA, zB, zC, zD] at ho
    subst ho
    refine ⟨by rfl, fun w hSw => ?_⟩
    (try dsimp only at hSw)
    go_simp
    try with_reducible rfl
   try simp only [Act.put, yA, yB, yC]
   refine hTk (i := 6) (d := some 20) (v := ?_) (fun o ho => ?_) hHeld ?_
   rotate_left
   ·simp only [zA, zB, zC, zD] at ho
    subst ho
    refine ⟨by rfl, fun w hSw => ?_⟩
    (try dsimp only at hSw)
    go_simp
    try with_reducible rfl
   try simp only [Act.put, yA, yB, yC]
   refine hTk (i := 7) (d := some 21) (v := ?_) (fun o ho => ?_) hHeld ?_
   rotate_left
   ·simp only [zA, zB, zC, zD] at ho
    subst ho
    refine ⟨by rfl, fun w hSw => ?_⟩
    (try dsimp only at hSw)
    go_simp
    try with_reducible rfl
   try simp only [Act.put, yA, yB, yC]
   refine wpAnyH_ready (rs := [8]) (by kernel_rfl) (by simp) ?_
   refine held_step (i := 8) (by kernel_rfl) (fun o ho K' hK => ?_) ?_
   ·simp only [zA, zB, zC, zD] at ho
    subst ho
    go_simp
    refine hK.out _ _ ?_ (fun hHeld => ?_)
    ·exact HS.out _ (by repeat (first | exact hxe | exact Ext.refl _ | apply Ext.drew | apply Ext.alloc | refine Ext.setCell ?_ (by first | exact hzl | (simp; done) | (have := hzl; simp at this ⊢; omega)) _))
    clear hK K'
    try simp only [yA, yB, yC]
    refine wpAnyH_ready (rs := [9]) (by kernel_rfl) (by simp) ?_
    refine held_step (i := 9) (by kernel_rfl) (fun o ho K' hK => ?_) ?_
    ·simp only [zA, zB, zC, zD] at ho
     subst ho
     go_simp
     refine hK.out _ _ ?_ (fun hHeld => ?_)
     ·exact HS.out _ (by repeat (first | exact hxe | exact Ext.refl _ | apply Ext.drew | apply Ext.alloc | refine Ext.setCell ?_ (by first | exact hzl | (simp; done) | (have := hzl; simp at this ⊢; omega)) _))
     clear hK K'
     try simp only [yA, yB, yC]
     refine wpAnyH_ready (rs := [10]) (by kernel_rfl) (by simp) ?_
     refine held_step (i := 10) (by kernel_rfl) (fun o ho K' hK => ?_) ?_
     ·simp only [zA, zB, zC, zD] at ho
      subst ho
      go_simp
      refine hK.out _ _ ?_ (fun hHeld => ?_)
      ·exact HS.out _ (by repeat (first | exact hxe | exact Ext.refl _ | apply Ext.drew | apply Ext.alloc | refine Ext.setCell ?_ (by first | exact hzl | (simp; done) | (have := hzl; simp at this ⊢; omega)) _))
      clear hK K'
      try simp only [yA, yB, yC]
      refine wpAnyH_done (by kernel_rfl) ?_ _
      try simp only [yA, yB, yC]
      go_wp2
      refine bodyPost_ret (by simp [results, Tryz.results8, go_sem]; rfl) rfl ?_
      exact HRES.out _ (by repeat (first | exact HX0.out.trans hxe | apply Ext.drew | apply Ext.alloc | refine Ext.setCell ?_ (by first | (simp only []; omega) | (have := HX0.out.size; omega) | (have := (HX0.out.trans hxe).size; omega)) _))
     exact AllReadyH.nil
    exact AllReadyH.nil
   exact AllReadyH.nil
  refine held_step (i := 8) (by kernel_rfl) (fun o ho K' hK => ?_) ?_
  ·simp only [zA, zB, zC, zD] at ho
   subst ho
   go_simp
   refine hK.out _ _ ?_ (fun hHeld => ?_)
   ·exact HS.out _ (by repeat (first | exact hxe | exact Ext.refl _ | apply Ext.drew | apply Ext.alloc | refine Ext.setCell ?_ (by first | exact hzl | (simp; done) | (have := hzl; simp at this ⊢; omega)) _))
   clear hK K'
   try simp only [yA, yB, yC]
   refine wpAnyH_ready (rs := [4]) (by kernel_rfl) (by simp) ?_
   refine held_step (i := 4) (by kernel_rfl) (fun o ho K' hK => ?_) ?_
   ·simp only [zA, zB, zC, zD] at ho
    subst ho
    go_simp
    go_at_call 35
    refine (HA.out _ (by repeat (first | exact HX0.out | apply Ext.drew | apply Ext.alloc))).mono ?_
    rintro e w2 ⟨rfl, hx2⟩
    have hxe : Ext ((w.alloc (.cells #[.int .i64 b.years, .slice ra b.rivers.length rc] 24)).alloc (.cells #[.slice sa s.shells.length sc, .slice ta s.tests.length tc] 28)) w2 := (by repeat (first | exact Ext.refl _ | apply Ext.drew | apply Ext.alloc) : Ext ((w.alloc (.cells #[.int .i64 b.years, .slice ra b.rivers.length rc] 24)).alloc (.cells #[.slice sa s.shells.length sc, .slice ta s.tests.length tc] 28)) ((World.drew ((w.alloc (.cells #[.int .i64 b.years, .slice ra b.rivers.length rc] 24)).alloc (.cells #[.slice sa s.shells.length sc, .slice ta s.tests.length tc] 28))).alloc (.cells #[.int .i64 0, .slice none 0 0, .slice none 0 0, .slice none 0 0] 89))).trans hx2
    have hzl := hxe.size
    have c0 := hx2.cell (a := ⟨w.heap.size + 2, 0, none⟩) (v := .int .i64 0) (by go_simp)
    have f0 : w2.frozen? ⟨w.heap.size + 2, 0, none⟩ = false := (hx2.frozen (a := ⟨w.heap.size + 2, 0, none⟩) (by simp)).trans (by go_simp)
    have c1 := hx2.cell (a := ⟨w.heap.size + 2, 1, none⟩) (v := .slice none 0 0) (by go_simp)
    have f1 : w2.frozen? ⟨w.heap.size + 2, 1, none⟩ = false := (hx2.frozen (a := ⟨w.heap.size + 2, 1, none⟩) (by simp)).trans (by go_simp)
    have c2 := hx2.cell (a := ⟨w.heap.size + 2, 2, none⟩) (v := .slice none 0 0) (by go_simp)
    have f2 : w2.frozen? ⟨w.heap.size + 2, 2, none⟩ = false := (hx2.frozen (a := ⟨w.heap.size + 2, 2, none⟩) (by simp)).trans (by go_simp)
    have c3 := hx2.cell (a := ⟨w.heap.size + 2, 3, none⟩) (v := .slice none 0 0) (by go_simp)
    have f3 : w2.frozen? ⟨w.heap.size + 2, 3, none⟩ = false := (hx2.frozen (a := ⟨w.heap.size + 2, 3, none⟩) (by simp)).trans (by go_simp)
    try go_simp
    refine hK.out _ _ ?_ (fun hHeld => ?_)
    ·exact HS.out _ (by repeat (first | exact hxe | exact Ext.refl _ | apply Ext.drew | apply Ext.alloc | refine Ext.setCell ?_ (by first | exact hzl | (simp; done) | (have := hzl; simp at this ⊢; omega)) _))
    clear hK K'
    try simp only [yA, yB, yC]
    refine hTk (i := 5) (d := some 14) (v := ?_) (fun o ho => ?_) hHeld ?_
    rotate_left
    ·simp only [zA, zB, zC, zD] at ho
     subst ho
     refine ⟨by rfl, fun w hSw => ?_⟩
     (try dsimp only at hSw)
     go_simp
     try with_reducible rfl
    try simp only [Act.put, yA, yB, yC]
    refine hTk (i := 6) (d := some 20) (v := ?_) (fun o ho => ?_) hHeld ?_
    rotate_left
    ·simp only [zA, zB, zC, zD] at ho
     subst ho
     refine ⟨by rfl, fun w hSw => ?_⟩
     (try dsimp only at hSw)
     go_simp
     try with_reducible rfl
    try simp only [Act.put, yA, yB, yC]
    refine hTk (i := 7) (d := some 21) (v := ?_) (fun o ho => ?_) hHeld ?_
    rotate_left
    ·simp only [zA, zB, zC, zD] at ho
     subst ho
     refine ⟨by rfl, fun w hSw => ?_⟩
     (try dsimp only at hSw)
     go_simp
     try with_reducible rfl
    try simp only [Act.put, yA, yB, yC]
    refine wpAnyH_ready (rs := [9]) (by kernel_rfl) (by simp) ?_
    refine held_step (i := 9) (by kernel_rfl) (fun o ho K' hK => ?_) ?_
    ·simp only [zA, zB, zC, zD] at ho
     subst ho
     go_simp
     refine hK.out _ _ ?_ (fun hHeld => ?_)
     ·exact HS.out _ (by repeat (first | exact hxe | exact Ext.refl _ | apply Ext.drew | apply Ext.alloc | refine Ext.setCell ?_ (by first | exact hzl | (simp; done) | (have := hzl; simp at this ⊢; omega)) _))
     clear hK K'
     try simp only [yA, yB, yC]
     refine wpAnyH_ready (rs := [10]) (by kernel_rfl) (by simp) ?_
     refine held_step (i := 10) (by kernel_rfl) (fun o ho K' hK => ?_) ?_
     ·simp only [zA, zB, zC, zD] at ho
      subst ho
      go_simp
      refine hK.out _ _ ?_ (fun hHeld => ?_)
      ·exact HS.out _ (by repeat (first | exact hxe | exact Ext.refl _ | apply Ext.drew | apply Ext.alloc | refine Ext.setCell ?_ (by first | exact hzl | (simp; done) | (have := hzl; simp at this ⊢; omega)) _))
      clear hK K'
      try simp only [yA, yB, yC]
      refine wpAnyH_done (by kernel_rfl) ?_ _
      try simp only [yA, yB, yC]
      go_wp2
      refine bodyPost_ret (by simp [results, Tryz.results8, go_sem]; rfl) rfl ?_
      exact HRES.out _ (by repeat (first | exact HX0.out.trans hxe | apply Ext.drew | apply Ext.alloc | refine Ext.setCell ?_ (by first | (simp only []; omega) | (have := HX0.out.size; omega) | (have := (HX0.out.trans hxe).size; omega)) _))
     exact AllReadyH.nil
    exact AllReadyH.nil
   exact AllReadyH.nil
  exact AllReadyH.nil
 refine held_step (i := 8) (by kernel_rfl) (fun o ho K' hK => ?_) ?_
 ·simp only [zA, zB, zC, zD] at ho
  subst ho
  go_simp
  refine hK.out _ _ ?_ (fun hHeld => ?_)
  ·exact HS.out _ (by repeat (first | exact hxe | exact Ext.refl _ | apply Ext.drew | apply Ext.alloc | refine Ext.setCell ?_ (by first | exact hzl | (simp; done) | (have := hzl; simp at this ⊢; omega)) _))
  clear hK K'
  try simp only [yA, yB, yC]
  refine wpAnyH_ready (rs := [3]) (by kernel_rfl) (by simp) ?_
  refine held_step (i := 3) (by kernel_rfl) (fun o ho K' hK => ?_) ?_
  ·simp only [zA, zB, zC, zD] at ho
   subst ho
   go_simp
   go_at_call 36
   refine (in_any _ _ _ _).mono ?_
   rintro e w1 ⟨rfl, rfl⟩
   try go_simp
   refine hK.out _ _ ?_ (fun hHeld => ?_)
   ·exact HS.out _ (by repeat (first | exact hxe | exact Ext.refl _ | apply Ext.drew | apply Ext.alloc | refine Ext.setCell ?_ (by first | exact hzl | (simp; done) | (have := hzl; simp at this ⊢; omega)) _))
   clear hK K'
   try simp only [yA, yB, yC]
   refine wpAnyH_ready (rs := [4]) (by kernel_rfl) (by simp) ?_
   refine held_step (i := 4) (by kernel_rfl) (fun o ho K' hK => ?_) ?_
   ·simp only [zA, zB, zC, zD] at ho
    subst ho
    go_simp
    go_at_call 35
    refine (HA.out _ (by repeat (first | exact HX0.out | apply Ext.drew | apply Ext.alloc))).mono ?_
    rintro e w2 ⟨rfl, hx2⟩
    have hxe : Ext ((w.alloc (.cells #[.int .i64 b.years, .slice ra b.rivers.length rc] 24)).alloc (.cells #[.slice sa s.shells.length sc, .slice ta s.tests.length tc] 28)) w2 := (by repeat (first | exact Ext.refl _ | apply Ext.drew | apply Ext.alloc) : Ext ((w.alloc (.cells #[.int .i64 b.years, .slice ra b.rivers.length rc] 24)).alloc (.cells #[.slice sa s.shells.length sc, .slice ta s.tests.length tc] 28)) ((World.drew ((w.alloc (.cells #[.int .i64 b.years, .slice ra b.rivers.length rc] 24)).alloc (.cells #[.slice sa s.shells.length sc, .slice ta s.tests.length tc] 28))).alloc (.cells #[.int .i64 0, .slice none 0 0, .slice none 0 0, .slice none 0 0] 89))).trans hx2
    have hzl := hxe.size
    have c0 := hx2.cell (a := ⟨w.heap.size + 2, 0, none⟩) (v := .int .i64 0) (by go_simp)
    have f0 : w2.frozen? ⟨w.heap.size + 2, 0, none⟩ = false := (hx2.frozen (a := ⟨w.heap.size + 2, 0, none⟩) (by simp)).trans (by go_simp)
    have c1 := hx2.cell (a := ⟨w.heap.size + 2, 1, none⟩) (v := .slice none 0 0) (by go_simp)
    have f1 : w2.frozen? ⟨w.heap.size + 2, 1, none⟩ = false := (hx2.frozen (a := ⟨w.heap.size + 2, 1, none⟩) (by simp)).trans (by go_simp)
    have c2 := hx2.cell (a := ⟨w.heap.size + 2, 2, none⟩) (v := .slice none 0 0) (by go_simp)
    have f2 : w2.frozen? ⟨w.heap.size + 2, 2, none⟩ = false := (hx2.frozen (a := ⟨w.heap.size + 2, 2, none⟩) (by simp)).trans (by go_simp)
    have c3 := hx2.cell (a := ⟨w.heap.size + 2, 3, none⟩) (v := .slice none 0 0) (by go_simp)
    have f3 : w2.frozen? ⟨w.heap.size + 2, 3, none⟩ = false := (hx2.frozen (a := ⟨w.heap.size + 2, 3, none⟩) (by simp)).trans (by go_simp)
    try go_simp
    refine hK.out _ _ ?_ (fun hHeld => ?_)
    ·exact HS.out _ (by repeat (first | exact hxe | exact Ext.refl _ | apply Ext.drew | apply Ext.alloc | refine Ext.setCell ?_ (by first | exact hzl | (simp; done) | (have := hzl; simp at this ⊢; omega)) _))
    clear hK K'
    try simp only [yA, yB, yC]
    refine hTk (i := 5) (d := some 14) (v := ?_) (fun o ho => ?_) hHeld ?_
    rotate_left
    ·simp only [zA, zB, zC, zD] at ho
     subst ho
     refine ⟨by rfl, fun w hSw => ?_⟩
     (try dsimp only at hSw)
     go_simp
     try with_reducible rfl
    try simp only [Act.put, yA, yB, yC]
    refine hTk (i := 6) (d := some 20) (v := ?_) (fun o ho => ?_) hHeld ?_
    rotate_left
    ·simp only [zA, zB, zC, zD] at ho
     subst ho
     refine ⟨by rfl, fun w hSw => ?_⟩
     (try dsimp only at hSw)
     go_simp
     try with_reducible rfl
    try simp only [Act.put, yA, yB, yC]
    refine hTk (i := 7) (d := some 21) (v := ?_) (fun o ho => ?_) hHeld ?_
    rotate_left
    ·simp only [zA, zB, zC, zD] at ho
     subst ho
     refine ⟨by rfl, fun w hSw => ?_⟩
     (try dsimp only at hSw)
     go_simp
     try with_reducible rfl
    try simp only [Act.put, yA, yB, yC]
    refine wpAnyH_ready (rs := [9]) (by kernel_rfl) (by simp) ?_
    refine held_step (i := 9) (by kernel_rfl) (fun o ho K' hK => ?_) ?_
    ·simp only [zA, zB, zC, zD] at ho
     subst ho
     go_simp
     refine hK.out _ _ ?_ (fun hHeld => ?_)
     ·exact HS.out _ (by repeat (first | exact hxe | exact Ext.refl _ | apply Ext.drew | apply Ext.alloc | refine Ext.setCell ?_ (by first | exact hzl | (simp; done) | (have := hzl; simp at this ⊢; omega)) _))
     clear hK K'
     try simp only [yA, yB, yC]
     refine wpAnyH_ready (rs := [10]) (by kernel_rfl) (by simp) ?_
     refine held_step (i := 10) (by kernel_rfl) (fun o ho K' hK => ?_) ?_
     ·simp only [zA, zB, zC, zD] at ho
      subst ho
      go_simp
      refine hK.out _ _ ?_ (fun hHeld => ?_)
      ·exact HS.out _ (by repeat (first | exact hxe | exact Ext.refl _ | apply Ext.drew | apply Ext.alloc | refine Ext.setCell ?_ (by first | exact hzl | (simp; done) | (have := hzl; simp at this ⊢; omega)) _))
      clear hK K'
      try simp only [yA, yB, yC]
      refine wpAnyH_done (by kernel_rfl) ?_ _
      try simp only [yA, yB, yC]
      go_wp2
      refine bodyPost_ret (by simp [results, Tryz.results8, go_sem]; rfl) rfl ?_
      exact HRES.out _ (by repeat (first | exact HX0.out.trans hxe | apply Ext.drew | apply Ext.alloc | refine Ext.setCell ?_ (by first | (simp only []; omega) | (have := HX0.out.size; omega) | (have := (HX0.out.trans hxe).size; omega)) _))
     exact AllReadyH.nil
    exact AllReadyH.nil
   exact AllReadyH.nil
  exact AllReadyH.nil
 exact AllReadyH.nil
set_option maxRecDepth 100000 in
set_option maxHeartbeats 16000000 in
theorem Tests_known (bv sv : Value) (b : Book) (s : Sack) (m : Int) (w : World) (hb : BookAt w bv b) (hs : SackAt w sv s) (hn : askN b s (inB m 0 4) = 0) (hk : knownB m (patternsOf b s) = true) : Calls Tryz.prog 8 #[bv, sv, .int .i64 m] w (TestsRes b s m w) := by
 obtain ⟨rv, rfl, hr⟩ := hb
 obtain ⟨sv, tv, rfl, hs, ht⟩ := hs
 have HA := Lib.hid (fun (w1 : World) (hx : Ext w w1) => asked_any rv sv tv b s (inB m 0 4) w1 (hr.ext hx) (hs.ext hx) (RowOf.ext ht hx))
 obtain ⟨hB, hS, hfi, hpo⟩ := asked_cases hn
 have HPT := Lib.hid (fun (w1 : World) (hx : Ext w w1) => patterns_any b s rv sv tv w1 (bookB_of hB) (sackB_of hS) (hr.ext hx) (hs.ext hx) (RowOf.ext ht hx) hpo)
 unfold AskRes sackV at HA
 unfold sackV at HPT
 rw [if_pos hn, hn] at HA
 have HPB := Lib.hid (patterns_B b s)
 have HPN := Lib.hid (patterns_ne (bookB_of hB) (sackB_of hS) hpo)
 have hres : ∀ w', Ext w w' → TestsRes b s m w (.returned (.tuple #[.int .i64 0, .int .i64 0, .int .i64 5])) w' := fun w' hx => ⟨by rw [if_pos hn, if_pos hk], hx⟩
 clear hn hpo hB hS hfi
 generalize patternsOf b s = l at *
 have HKN := Lib.hid (fun (mb : Nat) (v : Value) (w1 : World) (hv : IntsAt w1 v (natsI l)) => known_any m (.map (some mb)) v l w1 ⟨_, rfl⟩ hv HPB.out.lt)
 rw [hk] at HKN
 clear hk
 obtain ⟨ra, rc, rfl, _⟩ := hr.open
 obtain ⟨sa, sc, rfl, hsl, hsm, _⟩ := hs.open
 obtain ⟨ta, tc, rfl, _⟩ := RowAt.open ht
 have HRES := Lib.hid hres
 have hmix : Tryz.prog.follows .mixedOrders = true := by kernel_rfl
 have hmm := @run_makeMap Tryz.prog
 have hx0 : Ext w ((w.alloc (.cells #[.int .i64 b.years, .slice ra b.rivers.length rc] 24)).alloc (.cells #[.slice sa s.shells.length sc, .slice ta s.tests.length tc] 28)) := ((Ext.refl w).alloc _).alloc _
 have HX0 := Lib.hid hx0
 have HS := Lib.hid (fun W (h : Ext ((w.alloc (.cells #[.int .i64 b.years, .slice ra b.rivers.length rc] 24)).alloc (.cells #[.slice sa s.shells.length sc, .slice ta s.tests.length tc] 28)) W) => (⟨h.cell (by go_simp), h.cell (by go_simp), h.cell (by go_simp), h.cell (by go_simp)⟩ : (fun w' => w'.cell? ⟨w.heap.size, 0, none⟩ = some (.int .i64 b.years) ∧ w'.cell? ⟨w.heap.size, 1, none⟩ = some (.slice ra b.rivers.length rc) ∧ w'.cell? ⟨w.heap.size + 1, 0, none⟩ = some (.slice sa s.shells.length sc) ∧ w'.cell? ⟨w.heap.size + 1, 1, none⟩ = some (.slice ta s.tests.length tc)) W))
 clear hr hs ht hx0 hres
 go_enter Tryz.func8, Tryz.ntmps8
 go_upto_region 1 with fail
 refine wp_region_held_drew (S := (fun w' => w'.cell? ⟨w.heap.size, 0, none⟩ = some (.int .i64 b.years) ∧ w'.cell? ⟨w.heap.size, 1, none⟩ = some (.slice ra b.rivers.length rc) ∧ w'.cell? ⟨w.heap.size + 1, 0, none⟩ = some (.slice sa s.shells.length sc) ∧ w'.cell? ⟨w.heap.size + 1, 1, none⟩ = some (.slice ta s.tests.length tc))) (by kernel_rfl) ?_ (fun hHeld => ?_)
 ·exact HS.out _ (by repeat (first | exact hxe | exact Ext.refl _ | apply Ext.drew | apply Ext.alloc | refine Ext.setCell ?_ (by first | exact hzl | (simp; done) | (have := hzl; simp at this ⊢; omega)) _))
 refine hTk (i := 0) (d := some 15) (v := ?_) (fun o ho => ?_) hHeld ?_
 rotate_left
 ·simp only [zA, zB, zD] at ho
  subst ho
  refine ⟨by rfl, fun w hSw => ?_⟩
  (try dsimp only at hSw)
  go_simp
  try with_reducible rfl
 try simp only [Act.put, yA, yB, yC]
 refine hTk (i := 1) (d := some 16) (v := ?_) (fun o ho => ?_) hHeld ?_
 rotate_left
 ·simp only [zA, zB, zC, zD] at ho
  subst ho
  refine ⟨by rfl, fun w hSw => ?_⟩
  (try dsimp only at hSw)
  go_simp
  try with_reducible rfl
 try simp only [Act.put, yA, yB, yC]
 refine hTk (i := 2) (d := some 17) (v := ?_) (fun o ho => ?_) hHeld ?_
 rotate_left
 ·simp only [zA, zB, zC, zD] at ho
  subst ho
  refine ⟨by rfl, fun w hSw => ?_⟩
  (try dsimp only at hSw)
  go_simp
  try with_reducible rfl
 try simp only [Act.put, yA, yB, yC]
 refine wpAnyH_ready (rs := [3, 8]) (by kernel_rfl) (by simp) ?_
 refine held_step (i := 3) (by kernel_rfl) (fun o ho K' hK => ?_) ?_
 ·simp only [zA, zB, zC, zD] at ho
  subst ho
  go_simp
  go_at_call 36
  refine (in_any _ _ _ _).mono ?_
  rintro e w1 ⟨rfl, rfl⟩
  try go_simp
  refine hK.out _ _ ?_ (fun hHeld => ?_)
  ·exact HS.out _ (by repeat (first | exact hxe | exact Ext.refl _ | apply Ext.drew | apply Ext.alloc | refine Ext.setCell ?_ (by first | exact hzl | (simp; done) | (have := hzl; simp at this ⊢; omega)) _))
  clear hK K'
  try simp only [yA, yB, yC]
  refine wpAnyH_ready (rs := [4, 8]) (by kernel_rfl) (by simp) ?_
  refine held_step (i := 4) (by kernel_rfl) (fun o ho K' hK => ?_) ?_
  ·simp only [zA, zB, zC, zD] at ho
   subst ho
   go_simp
   go_at_call 35
   refine (HA.out _ (by repeat (first | exact HX0.out | apply Ext.drew | apply Ext.alloc))).mono ?_
   rintro e w2 ⟨rfl, hx2⟩
   have hxe : Ext ((w.alloc (.cells #[.int .i64 b.years, .slice ra b.rivers.length rc] 24)).alloc (.cells #[.slice sa s.shells.length sc, .slice ta s.tests.length tc] 28)) w2 := (by repeat (first | exact Ext.refl _ | apply Ext.drew | apply Ext.alloc) : Ext ((w.alloc (.cells #[.int .i64 b.years, .slice ra b.rivers.length rc] 24)).alloc (.cells #[.slice sa s.shells.length sc, .slice ta s.tests.length tc] 28)) (World.drew ((w.alloc (.cells #[.int .i64 b.years, .slice ra b.rivers.length rc] 24)).alloc (.cells #[.slice sa s.shells.length sc, .slice ta s.tests.length tc] 28)))).trans hx2
   have hzl := hxe.size
   try go_simp
   refine hK.out _ _ ?_ (fun hHeld => ?_)
   ·exact HS.out _ (by repeat (first | exact hxe | exact Ext.refl _ | apply Ext.drew | apply Ext.alloc | refine Ext.setCell ?_ (by first | exact hzl | (simp; done) | (have := hzl; simp at this ⊢; omega)) _))
   clear hK K'
   try simp only [yA, yB, yC]
   refine hTk (i := 5) (d := some 14) (v := ?_) (fun o ho => ?_) hHeld ?_
   rotate_left
   ·simp only [zA, zB, zC, zD] at ho
    subst ho
    refine ⟨by rfl, fun w hSw => ?_⟩
    (try dsimp only at hSw)
    go_simp
    try with_reducible rfl
   try simp only [Act.put, yA, yB, yC]
   refine hTk (i := 6) (d := some 20) (v := ?_) (fun o ho => ?_) hHeld ?_
   rotate_left
   ·simp only [zA, zB, zC, zD] at ho
    subst ho
    refine ⟨by rfl, fun w hSw => ?_⟩
    (try dsimp only at hSw)
    go_simp
    try with_reducible rfl
   try simp only [Act.put, yA, yB, yC]
   refine hTk (i := 7) (d := some 21) (v := ?_) (fun o ho => ?_) hHeld ?_
   rotate_left
   ·simp only [zA, zB, zC, zD] at ho
    subst ho
    refine ⟨by rfl, fun w hSw => ?_⟩
    (try dsimp only at hSw)
    go_simp
    try with_reducible rfl
   try simp only [Act.put, yA, yB, yC]
   refine wpAnyH_ready (rs := [8]) (by kernel_rfl) (by simp) ?_
   refine held_step (i := 8) (by kernel_rfl) (fun o ho K' hK => ?_) ?_
   ·simp only [zA, zB, zC, zD] at ho
    subst ho
    go_simp
    refine hK.out _ _ ?_ (fun hHeld => ?_)
    ·exact HS.out _ (by repeat (first | exact hxe | exact Ext.refl _ | apply Ext.drew | apply Ext.alloc | refine Ext.setCell ?_ (by first | exact hzl | (simp; done) | (have := hzl; simp at this ⊢; omega)) _))
    clear hK K'
    try simp only [yA, yB, yC]
    refine wpAnyH_ready (rs := [9]) (by kernel_rfl) (by simp) ?_
    refine held_step (i := 9) (by kernel_rfl) (fun o ho K' hK => ?_) ?_
    ·simp only [zA, zB, zC, zD] at ho
     subst ho
     go_simp
     refine hK.out _ _ ?_ (fun hHeld => ?_)
     ·exact HS.out _ (by repeat (first | exact hxe | exact Ext.refl _ | apply Ext.drew | apply Ext.alloc | refine Ext.setCell ?_ (by first | exact hzl | (simp; done) | (have := hzl; simp at this ⊢; omega)) _))
     clear hK K'
     try simp only [yA, yB, yC]
     refine wpAnyH_ready (rs := [10]) (by kernel_rfl) (by simp) ?_
     refine held_step (i := 10) (by kernel_rfl) (fun o ho K' hK => ?_) ?_
     ·simp only [zA, zB, zC, zD] at ho
      subst ho
      go_simp
      refine hK.out _ _ ?_ (fun hHeld => ?_)
      ·exact HS.out _ (by repeat (first | exact hxe | exact Ext.refl _ | apply Ext.drew | apply Ext.alloc | refine Ext.setCell ?_ (by first | exact hzl | (simp; done) | (have := hzl; simp at this ⊢; omega)) _))
      clear hK K'
      try simp only [yA, yB, yC]
      refine wpAnyH_done (by kernel_rfl) ?_ _
      try simp only [yA, yB, yC]
      go_wp2_with (first | (go_at_call 37; refine (HPT.out _ (by repeat (first | exact HX0.out.trans hxe | apply Ext.drew | apply Ext.alloc | refine Ext.setCell ?_ (by first | (simp only []; omega) | (have := HX0.out.size; omega) | (have := (HX0.out.trans hxe).size; omega)) _))).mono ?_; rintro e w3 ⟨v, rfl, hx3, hpi, _⟩; have hx03 : Ext w w3 := Ext.trans (by repeat (first | exact HX0.out.trans hxe | apply Ext.drew | apply Ext.alloc | refine Ext.setCell ?_ (by first | (simp only []; omega) | (have := HX0.out.size; omega) | (have := (HX0.out.trans hxe).size; omega)) _)) hx3; have HPI := Lib.hid hpi; obtain ⟨pa, pc, rfl, _⟩ := nats_open hpi; clear hpi hx3) | (go_at_call 38; refine (HKN.out _ _ _ (HPI.out.ext ?_)).mono ?_; (· repeat (first | exact Ext.refl _ | apply Ext.alloc)); rintro e w4 ⟨rfl, hx4⟩; have hx34 : Ext w3 w4 := Ext.trans (by repeat (first | exact Ext.refl _ | apply Ext.alloc)) hx4; have m4 := MemoAt.ext (MemoAt.ext (memo_made w3 m) ((Ext.refl _).alloc (.cells #[.int .i64 m, .map (some w3.heap.size)] 96))) hx4; have y0 := hx4.cell (a := ⟨w3.heap.size + 1, 0, none⟩) (v := .int .i64 m) (by go_simp); have y1 := hx4.cell (a := ⟨w3.heap.size + 1, 1, none⟩) (v := .map (some w3.heap.size)) (by go_simp); have M4 := Lib.hid m4; clear m4 hx4))
      refine bodyPost_ret (by simp [results, Tryz.results8, go_sem]; rfl) rfl ?_
      exact HRES.out _ (hx03.trans hx34)
     exact AllReadyH.nil
    exact AllReadyH.nil
   exact AllReadyH.nil
  refine held_step (i := 8) (by kernel_rfl) (fun o ho K' hK => ?_) ?_
  ·simp only [zA, zB, zC, zD] at ho
   subst ho
   go_simp
   refine hK.out _ _ ?_ (fun hHeld => ?_)
   ·exact HS.out _ (by repeat (first | exact hxe | exact Ext.refl _ | apply Ext.drew | apply Ext.alloc | refine Ext.setCell ?_ (by first | exact hzl | (simp; done) | (have := hzl; simp at this ⊢; omega)) _))
   clear hK K'
   try simp only [yA, yB, yC]
   refine wpAnyH_ready (rs := [4]) (by kernel_rfl) (by simp) ?_
   refine held_step (i := 4) (by kernel_rfl) (fun o ho K' hK => ?_) ?_
   ·simp only [zA, zB, zC, zD] at ho
    subst ho
    go_simp
    go_at_call 35
    refine (HA.out _ (by repeat (first | exact HX0.out | apply Ext.drew | apply Ext.alloc))).mono ?_
    rintro e w2 ⟨rfl, hx2⟩
    have hxe : Ext ((w.alloc (.cells #[.int .i64 b.years, .slice ra b.rivers.length rc] 24)).alloc (.cells #[.slice sa s.shells.length sc, .slice ta s.tests.length tc] 28)) w2 := (by repeat (first | exact Ext.refl _ | apply Ext.drew | apply Ext.alloc) : Ext ((w.alloc (.cells #[.int .i64 b.years, .slice ra b.rivers.length rc] 24)).alloc (.cells #[.slice sa s.shells.length sc, .slice ta s.tests.length tc] 28)) ((World.drew ((w.alloc (.cells #[.int .i64 b.years, .slice ra b.rivers.length rc] 24)).alloc (.cells #[.slice sa s.shells.length sc, .slice ta s.tests.length tc] 28))).alloc (.cells #[.int .i64 0, .slice none 0 0, .slice none 0 0, .slice none 0 0] 89))).trans hx2
    have hzl := hxe.size
    have c0 := hx2.cell (a := ⟨w.heap.size + 2, 0, none⟩) (v := .int .i64 0) (by go_simp)
    have f0 : w2.frozen? ⟨w.heap.size + 2, 0, none⟩ = false := (hx2.frozen (a := ⟨w.heap.size + 2, 0, none⟩) (by simp)).trans (by go_simp)
    have c1 := hx2.cell (a := ⟨w.heap.size + 2, 1, none⟩) (v := .slice none 0 0) (by go_simp)
    have f1 : w2.frozen? ⟨w.heap.size + 2, 1, none⟩ = false := (hx2.frozen (a := ⟨w.heap.size + 2, 1, none⟩) (by simp)).trans (by go_simp)
    have c2 := hx2.cell (a := ⟨w.heap.size + 2, 2, none⟩) (v := .slice none 0 0) (by go_simp)
    have f2 : w2.frozen? ⟨w.heap.size + 2, 2, none⟩ = false := (hx2.frozen (a := ⟨w.heap.size + 2, 2, none⟩) (by simp)).trans (by go_simp)
    have c3 := hx2.cell (a := ⟨w.heap.size + 2, 3, none⟩) (v := .slice none 0 0) (by go_simp)
    have f3 : w2.frozen? ⟨w.heap.size + 2, 3, none⟩ = false := (hx2.frozen (a := ⟨w.heap.size + 2, 3, none⟩) (by simp)).trans (by go_simp)
    try go_simp
    refine hK.out _ _ ?_ (fun hHeld => ?_)
    ·exact HS.out _ (by repeat (first | exact hxe | exact Ext.refl _ | apply Ext.drew | apply Ext.alloc | refine Ext.setCell ?_ (by first | exact hzl | (simp; done) | (have := hzl; simp at this ⊢; omega)) _))
    clear hK K'
    try simp only [yA, yB, yC]
    refine hTk (i := 5) (d := some 14) (v := ?_) (fun o ho => ?_) hHeld ?_
    rotate_left
    ·simp only [zA, zB, zC, zD] at ho
     subst ho
     refine ⟨by rfl, fun w hSw => ?_⟩
     (try dsimp only at hSw)
     go_simp
     try with_reducible rfl
    try simp only [Act.put, yA, yB, yC]
    refine hTk (i := 6) (d := some 20) (v := ?_) (fun o ho => ?_) hHeld ?_
    rotate_left
    ·simp only [zA, zB, zC, zD] at ho
     subst ho
     refine ⟨by rfl, fun w hSw => ?_⟩
     (try dsimp only at hSw)
     go_simp
     try with_reducible rfl
    try simp only [Act.put, yA, yB, yC]
    refine hTk (i := 7) (d := some 21) (v := ?_) (fun o ho => ?_) hHeld ?_
    rotate_left
    ·simp only [zA, zB, zC, zD] at ho
     subst ho
     refine ⟨by rfl, fun w hSw => ?_⟩
     (try dsimp only at hSw)
     go_simp
     try with_reducible rfl
    try simp only [Act.put, yA, yB, yC]
    refine wpAnyH_ready (rs := [9]) (by kernel_rfl) (by simp) ?_
    refine held_step (i := 9) (by kernel_rfl) (fun o ho K' hK => ?_) ?_
    ·simp only [zA, zB, zC, zD] at ho
     subst ho
     go_simp
     refine hK.out _ _ ?_ (fun hHeld => ?_)
     ·exact HS.out _ (by repeat (first | exact hxe | exact Ext.refl _ | apply Ext.drew | apply Ext.alloc | refine Ext.setCell ?_ (by first | exact hzl | (simp; done) | (have := hzl; simp at this ⊢; omega)) _))
     clear hK K'
     try simp only [yA, yB, yC]
     refine wpAnyH_ready (rs := [10]) (by kernel_rfl) (by simp) ?_
     refine held_step (i := 10) (by kernel_rfl) (fun o ho K' hK => ?_) ?_
     ·simp only [zA, zB, zC, zD] at ho
      subst ho
      go_simp
      refine hK.out _ _ ?_ (fun hHeld => ?_)
      ·exact HS.out _ (by repeat (first | exact hxe | exact Ext.refl _ | apply Ext.drew | apply Ext.alloc | refine Ext.setCell ?_ (by first | exact hzl | (simp; done) | (have := hzl; simp at this ⊢; omega)) _))
      clear hK K'
      try simp only [yA, yB, yC]
      refine wpAnyH_done (by kernel_rfl) ?_ _
      try simp only [yA, yB, yC]
      go_wp2_with (first | (go_at_call 37; refine (HPT.out _ (by repeat (first | exact HX0.out.trans hxe | apply Ext.drew | apply Ext.alloc | refine Ext.setCell ?_ (by first | (simp only []; omega) | (have := HX0.out.size; omega) | (have := (HX0.out.trans hxe).size; omega)) _))).mono ?_; rintro e w3 ⟨v, rfl, hx3, hpi, _⟩; have hx03 : Ext w w3 := Ext.trans (by repeat (first | exact HX0.out.trans hxe | apply Ext.drew | apply Ext.alloc | refine Ext.setCell ?_ (by first | (simp only []; omega) | (have := HX0.out.size; omega) | (have := (HX0.out.trans hxe).size; omega)) _)) hx3; have HPI := Lib.hid hpi; obtain ⟨pa, pc, rfl, _⟩ := nats_open hpi; clear hpi hx3) | (go_at_call 38; refine (HKN.out _ _ _ (HPI.out.ext ?_)).mono ?_; (· repeat (first | exact Ext.refl _ | apply Ext.alloc)); rintro e w4 ⟨rfl, hx4⟩; have hx34 : Ext w3 w4 := Ext.trans (by repeat (first | exact Ext.refl _ | apply Ext.alloc)) hx4; have m4 := MemoAt.ext (MemoAt.ext (memo_made w3 m) ((Ext.refl _).alloc (.cells #[.int .i64 m, .map (some w3.heap.size)] 96))) hx4; have y0 := hx4.cell (a := ⟨w3.heap.size + 1, 0, none⟩) (v := .int .i64 m) (by go_simp); have y1 := hx4.cell (a := ⟨w3.heap.size + 1, 1, none⟩) (v := .map (some w3.heap.size)) (by go_simp); have M4 := Lib.hid m4; clear m4 hx4))
      refine bodyPost_ret (by simp [results, Tryz.results8, go_sem]; rfl) rfl ?_
      exact HRES.out _ (hx03.trans hx34)
     exact AllReadyH.nil
    exact AllReadyH.nil
   exact AllReadyH.nil
  exact AllReadyH.nil
 refine held_step (i := 8) (by kernel_rfl) (fun o ho K' hK => ?_) ?_
 ·simp only [zA, zB, zC, zD] at ho
  subst ho
  go_simp
  refine hK.out _ _ ?_ (fun hHeld => ?_)
  ·exact HS.out _ (by repeat (first | exact hxe | exact Ext.refl _ | apply Ext.drew | apply Ext.alloc | refine Ext.setCell ?_ (by first | exact hzl | (simp; done) | (have := hzl; simp at this ⊢; omega)) _))
  clear hK K'
  try simp only [yA, yB, yC]
  refine wpAnyH_ready (rs := [3]) (by kernel_rfl) (by simp) ?_
  refine held_step (i := 3) (by kernel_rfl) (fun o ho K' hK => ?_) ?_
  ·simp only [zA, zB, zC, zD] at ho
   subst ho
   go_simp
   go_at_call 36
   refine (in_any _ _ _ _).mono ?_
   rintro e w1 ⟨rfl, rfl⟩
   try go_simp
   refine hK.out _ _ ?_ (fun hHeld => ?_)
   ·exact HS.out _ (by repeat (first | exact hxe | exact Ext.refl _ | apply Ext.drew | apply Ext.alloc | refine Ext.setCell ?_ (by first | exact hzl | (simp; done) | (have := hzl; simp at this ⊢; omega)) _))
   clear hK K'
   try simp only [yA, yB, yC]
   refine wpAnyH_ready (rs := [4]) (by kernel_rfl) (by simp) ?_
   refine held_step (i := 4) (by kernel_rfl) (fun o ho K' hK => ?_) ?_
   ·simp only [zA, zB, zC, zD] at ho
    subst ho
    go_simp
    go_at_call 35
    refine (HA.out _ (by repeat (first | exact HX0.out | apply Ext.drew | apply Ext.alloc))).mono ?_
    rintro e w2 ⟨rfl, hx2⟩
    have hxe : Ext ((w.alloc (.cells #[.int .i64 b.years, .slice ra b.rivers.length rc] 24)).alloc (.cells #[.slice sa s.shells.length sc, .slice ta s.tests.length tc] 28)) w2 := (by repeat (first | exact Ext.refl _ | apply Ext.drew | apply Ext.alloc) : Ext ((w.alloc (.cells #[.int .i64 b.years, .slice ra b.rivers.length rc] 24)).alloc (.cells #[.slice sa s.shells.length sc, .slice ta s.tests.length tc] 28)) ((World.drew ((w.alloc (.cells #[.int .i64 b.years, .slice ra b.rivers.length rc] 24)).alloc (.cells #[.slice sa s.shells.length sc, .slice ta s.tests.length tc] 28))).alloc (.cells #[.int .i64 0, .slice none 0 0, .slice none 0 0, .slice none 0 0] 89))).trans hx2
    have hzl := hxe.size
    have c0 := hx2.cell (a := ⟨w.heap.size + 2, 0, none⟩) (v := .int .i64 0) (by go_simp)
    have f0 : w2.frozen? ⟨w.heap.size + 2, 0, none⟩ = false := (hx2.frozen (a := ⟨w.heap.size + 2, 0, none⟩) (by simp)).trans (by go_simp)
    have c1 := hx2.cell (a := ⟨w.heap.size + 2, 1, none⟩) (v := .slice none 0 0) (by go_simp)
    have f1 : w2.frozen? ⟨w.heap.size + 2, 1, none⟩ = false := (hx2.frozen (a := ⟨w.heap.size + 2, 1, none⟩) (by simp)).trans (by go_simp)
    have c2 := hx2.cell (a := ⟨w.heap.size + 2, 2, none⟩) (v := .slice none 0 0) (by go_simp)
    have f2 : w2.frozen? ⟨w.heap.size + 2, 2, none⟩ = false := (hx2.frozen (a := ⟨w.heap.size + 2, 2, none⟩) (by simp)).trans (by go_simp)
    have c3 := hx2.cell (a := ⟨w.heap.size + 2, 3, none⟩) (v := .slice none 0 0) (by go_simp)
    have f3 : w2.frozen? ⟨w.heap.size + 2, 3, none⟩ = false := (hx2.frozen (a := ⟨w.heap.size + 2, 3, none⟩) (by simp)).trans (by go_simp)
    try go_simp
    refine hK.out _ _ ?_ (fun hHeld => ?_)
    ·exact HS.out _ (by repeat (first | exact hxe | exact Ext.refl _ | apply Ext.drew | apply Ext.alloc | refine Ext.setCell ?_ (by first | exact hzl | (simp; done) | (have := hzl; simp at this ⊢; omega)) _))
    clear hK K'
    try simp only [yA, yB, yC]
    refine hTk (i := 5) (d := some 14) (v := ?_) (fun o ho => ?_) hHeld ?_
    rotate_left
    ·simp only [zA, zB, zC, zD] at ho
     subst ho
     refine ⟨by rfl, fun w hSw => ?_⟩
     (try dsimp only at hSw)
     go_simp
     try with_reducible rfl
    try simp only [Act.put, yA, yB, yC]
    refine hTk (i := 6) (d := some 20) (v := ?_) (fun o ho => ?_) hHeld ?_
    rotate_left
    ·simp only [zA, zB, zC, zD] at ho
     subst ho
     refine ⟨by rfl, fun w hSw => ?_⟩
     (try dsimp only at hSw)
     go_simp
     try with_reducible rfl
    try simp only [Act.put, yA, yB, yC]
    refine hTk (i := 7) (d := some 21) (v := ?_) (fun o ho => ?_) hHeld ?_
    rotate_left
    ·simp only [zA, zB, zC, zD] at ho
     subst ho
     refine ⟨by rfl, fun w hSw => ?_⟩
     (try dsimp only at hSw)
     go_simp
     try with_reducible rfl
    try simp only [Act.put, yA, yB, yC]
    refine wpAnyH_ready (rs := [9]) (by kernel_rfl) (by simp) ?_
    refine held_step (i := 9) (by kernel_rfl) (fun o ho K' hK => ?_) ?_
    ·simp only [zA, zB, zC, zD] at ho
     subst ho
     go_simp
     refine hK.out _ _ ?_ (fun hHeld => ?_)
     ·exact HS.out _ (by repeat (first | exact hxe | exact Ext.refl _ | apply Ext.drew | apply Ext.alloc | refine Ext.setCell ?_ (by first | exact hzl | (simp; done) | (have := hzl; simp at this ⊢; omega)) _))
     clear hK K'
     try simp only [yA, yB, yC]
     refine wpAnyH_ready (rs := [10]) (by kernel_rfl) (by simp) ?_
     refine held_step (i := 10) (by kernel_rfl) (fun o ho K' hK => ?_) ?_
     ·simp only [zA, zB, zC, zD] at ho
      subst ho
      go_simp
      refine hK.out _ _ ?_ (fun hHeld => ?_)
      ·exact HS.out _ (by repeat (first | exact hxe | exact Ext.refl _ | apply Ext.drew | apply Ext.alloc | refine Ext.setCell ?_ (by first | exact hzl | (simp; done) | (have := hzl; simp at this ⊢; omega)) _))
      clear hK K'
      try simp only [yA, yB, yC]
      refine wpAnyH_done (by kernel_rfl) ?_ _
      try simp only [yA, yB, yC]
      go_wp2_with (first | (go_at_call 37; refine (HPT.out _ (by repeat (first | exact HX0.out.trans hxe | apply Ext.drew | apply Ext.alloc | refine Ext.setCell ?_ (by first | (simp only []; omega) | (have := HX0.out.size; omega) | (have := (HX0.out.trans hxe).size; omega)) _))).mono ?_; rintro e w3 ⟨v, rfl, hx3, hpi, _⟩; have hx03 : Ext w w3 := Ext.trans (by repeat (first | exact HX0.out.trans hxe | apply Ext.drew | apply Ext.alloc | refine Ext.setCell ?_ (by first | (simp only []; omega) | (have := HX0.out.size; omega) | (have := (HX0.out.trans hxe).size; omega)) _)) hx3; have HPI := Lib.hid hpi; obtain ⟨pa, pc, rfl, _⟩ := nats_open hpi; clear hpi hx3) | (go_at_call 38; refine (HKN.out _ _ _ (HPI.out.ext ?_)).mono ?_; (· repeat (first | exact Ext.refl _ | apply Ext.alloc)); rintro e w4 ⟨rfl, hx4⟩; have hx34 : Ext w3 w4 := Ext.trans (by repeat (first | exact Ext.refl _ | apply Ext.alloc)) hx4; have m4 := MemoAt.ext (MemoAt.ext (memo_made w3 m) ((Ext.refl _).alloc (.cells #[.int .i64 m, .map (some w3.heap.size)] 96))) hx4; have y0 := hx4.cell (a := ⟨w3.heap.size + 1, 0, none⟩) (v := .int .i64 m) (by go_simp); have y1 := hx4.cell (a := ⟨w3.heap.size + 1, 1, none⟩) (v := .map (some w3.heap.size)) (by go_simp); have M4 := Lib.hid m4; clear m4 hx4))
      refine bodyPost_ret (by simp [results, Tryz.results8, go_sem]; rfl) rfl ?_
      exact HRES.out _ (hx03.trans hx34)
     exact AllReadyH.nil
    exact AllReadyH.nil
   exact AllReadyH.nil
  exact AllReadyH.nil
 exact AllReadyH.nil
set_option maxRecDepth 100000 in
set_option maxHeartbeats 16000000 in
theorem Tests_best (bv sv : Value) (b : Book) (s : Sack) (m : Int) (w : World) (hb : BookAt w bv b) (hs : SackAt w sv s) (hn : askN b s (inB m 0 4) = 0) (hk : knownB m (patternsOf b s) = false) : Calls Tryz.prog 8 #[bv, sv, .int .i64 m] w (TestsRes b s m w) := by
 obtain ⟨rv, rfl, hr⟩ := hb
 obtain ⟨sv, tv, rfl, hs, ht⟩ := hs
 have HA := Lib.hid (fun (w1 : World) (hx : Ext w w1) => asked_any rv sv tv b s (inB m 0 4) w1 (hr.ext hx) (hs.ext hx) (RowOf.ext ht hx))
 obtain ⟨hB, hS, hfi, hpo⟩ := asked_cases hn
 have HPT := Lib.hid (fun (w1 : World) (hx : Ext w w1) => patterns_any b s rv sv tv w1 (bookB_of hB) (sackB_of hS) (hr.ext hx) (hs.ext hx) (RowOf.ext ht hx) hpo)
 unfold AskRes sackV at HA
 unfold sackV at HPT
 rw [if_pos hn, hn] at HA
 have HPB := Lib.hid (patterns_B b s)
 have HPN := Lib.hid (patterns_ne (bookB_of hB) (sackB_of hS) hpo)
 have hres : ∀ w', Ext w w' → TestsRes b s m w (.returned (.tuple #[.int .i64 (bestP m (patternsOf b s)).1, .int .i64 (bestP m (patternsOf b s)).2, .int .i64 0])) w' := fun w' hx => ⟨by rw [if_pos hn, if_neg (by rw [hk]; decide)], hx⟩
 clear hn hpo hB hS hfi
 generalize patternsOf b s = l at *
 have HKN := Lib.hid (fun (mb : Nat) (v : Value) (w1 : World) (hv : IntsAt w1 v (natsI l)) => known_any m (.map (some mb)) v l w1 ⟨_, rfl⟩ hv HPB.out.lt)
 rw [hk] at HKN
 clear hk
 have HBE := Lib.hid (fun (mb : Nat) (v : Value) (w1 : World) (hv : IntsAt w1 v (natsI l)) (hm : MemoAt w1 mb m) => best_any m mb l v w1 HPB.out HPN.out hv hm)
 obtain ⟨bp, hbp⟩ : ∃ bp, bestP m l = bp := ⟨_, rfl⟩
 rw [hbp] at HBE hres
 unfold planV at HBE
 clear hbp
 obtain ⟨ra, rc, rfl, _⟩ := hr.open
 obtain ⟨sa, sc, rfl, hsl, hsm, _⟩ := hs.open
 obtain ⟨ta, tc, rfl, _⟩ := RowAt.open ht
 have HRES := Lib.hid hres
 have hmix : Tryz.prog.follows .mixedOrders = true := by kernel_rfl
 have hmm := @run_makeMap Tryz.prog
 have hx0 : Ext w ((w.alloc (.cells #[.int .i64 b.years, .slice ra b.rivers.length rc] 24)).alloc (.cells #[.slice sa s.shells.length sc, .slice ta s.tests.length tc] 28)) := ((Ext.refl w).alloc _).alloc _
 have HX0 := Lib.hid hx0
 have HS := Lib.hid (fun W (h : Ext ((w.alloc (.cells #[.int .i64 b.years, .slice ra b.rivers.length rc] 24)).alloc (.cells #[.slice sa s.shells.length sc, .slice ta s.tests.length tc] 28)) W) => (⟨h.cell (by go_simp), h.cell (by go_simp), h.cell (by go_simp), h.cell (by go_simp)⟩ : (fun w' => w'.cell? ⟨w.heap.size, 0, none⟩ = some (.int .i64 b.years) ∧ w'.cell? ⟨w.heap.size, 1, none⟩ = some (.slice ra b.rivers.length rc) ∧ w'.cell? ⟨w.heap.size + 1, 0, none⟩ = some (.slice sa s.shells.length sc) ∧ w'.cell? ⟨w.heap.size + 1, 1, none⟩ = some (.slice ta s.tests.length tc)) W))
 clear hr hs ht hx0 hres
 go_enter Tryz.func8, Tryz.ntmps8
 go_upto_region 1 with fail
 refine wp_region_held_drew (S := (fun w' => w'.cell? ⟨w.heap.size, 0, none⟩ = some (.int .i64 b.years) ∧ w'.cell? ⟨w.heap.size, 1, none⟩ = some (.slice ra b.rivers.length rc) ∧ w'.cell? ⟨w.heap.size + 1, 0, none⟩ = some (.slice sa s.shells.length sc) ∧ w'.cell? ⟨w.heap.size + 1, 1, none⟩ = some (.slice ta s.tests.length tc))) (by kernel_rfl) ?_ (fun hHeld => ?_)
 ·exact HS.out _ (by repeat (first | exact hxe | exact Ext.refl _ | apply Ext.drew | apply Ext.alloc | refine Ext.setCell ?_ (by first | exact hzl | (simp; done) | (have := hzl; simp at this ⊢; omega)) _))
 refine hTk (i := 0) (d := some 15) (v := ?_) (fun o ho => ?_) hHeld ?_
 rotate_left
 ·simp only [zA, zB, zD] at ho
  subst ho
  refine ⟨by rfl, fun w hSw => ?_⟩
  (try dsimp only at hSw)
  go_simp
  try with_reducible rfl
 try simp only [Act.put, yA, yB, yC]
 refine hTk (i := 1) (d := some 16) (v := ?_) (fun o ho => ?_) hHeld ?_
 rotate_left
 ·simp only [zA, zB, zC, zD] at ho
  subst ho
  refine ⟨by rfl, fun w hSw => ?_⟩
  (try dsimp only at hSw)
  go_simp
  try with_reducible rfl
 try simp only [Act.put, yA, yB, yC]
 refine hTk (i := 2) (d := some 17) (v := ?_) (fun o ho => ?_) hHeld ?_
 rotate_left
 ·simp only [zA, zB, zC, zD] at ho
  subst ho
  refine ⟨by rfl, fun w hSw => ?_⟩
  (try dsimp only at hSw)
  go_simp
  try with_reducible rfl
 try simp only [Act.put, yA, yB, yC]
 refine wpAnyH_ready (rs := [3, 8]) (by kernel_rfl) (by simp) ?_
 refine held_step (i := 3) (by kernel_rfl) (fun o ho K' hK => ?_) ?_
 ·simp only [zA, zB, zC, zD] at ho
  subst ho
  go_simp
  go_at_call 36
  refine (in_any _ _ _ _).mono ?_
  rintro e w1 ⟨rfl, rfl⟩
  try go_simp
  refine hK.out _ _ ?_ (fun hHeld => ?_)
  ·exact HS.out _ (by repeat (first | exact hxe | exact Ext.refl _ | apply Ext.drew | apply Ext.alloc | refine Ext.setCell ?_ (by first | exact hzl | (simp; done) | (have := hzl; simp at this ⊢; omega)) _))
  clear hK K'
  try simp only [yA, yB, yC]
  refine wpAnyH_ready (rs := [4, 8]) (by kernel_rfl) (by simp) ?_
  refine held_step (i := 4) (by kernel_rfl) (fun o ho K' hK => ?_) ?_
  ·simp only [zA, zB, zC, zD] at ho
   subst ho
   go_simp
   go_at_call 35
   refine (HA.out _ (by repeat (first | exact HX0.out | apply Ext.drew | apply Ext.alloc))).mono ?_
   rintro e w2 ⟨rfl, hx2⟩
   have hxe : Ext ((w.alloc (.cells #[.int .i64 b.years, .slice ra b.rivers.length rc] 24)).alloc (.cells #[.slice sa s.shells.length sc, .slice ta s.tests.length tc] 28)) w2 := (by repeat (first | exact Ext.refl _ | apply Ext.drew | apply Ext.alloc) : Ext ((w.alloc (.cells #[.int .i64 b.years, .slice ra b.rivers.length rc] 24)).alloc (.cells #[.slice sa s.shells.length sc, .slice ta s.tests.length tc] 28)) (World.drew ((w.alloc (.cells #[.int .i64 b.years, .slice ra b.rivers.length rc] 24)).alloc (.cells #[.slice sa s.shells.length sc, .slice ta s.tests.length tc] 28)))).trans hx2
   have hzl := hxe.size
   try go_simp
   refine hK.out _ _ ?_ (fun hHeld => ?_)
   ·exact HS.out _ (by repeat (first | exact hxe | exact Ext.refl _ | apply Ext.drew | apply Ext.alloc | refine Ext.setCell ?_ (by first | exact hzl | (simp; done) | (have := hzl; simp at this ⊢; omega)) _))
   clear hK K'
   try simp only [yA, yB, yC]
   refine hTk (i := 5) (d := some 14) (v := ?_) (fun o ho => ?_) hHeld ?_
   rotate_left
   ·simp only [zA, zB, zC, zD] at ho
    subst ho
    refine ⟨by rfl, fun w hSw => ?_⟩
    (try dsimp only at hSw)
    go_simp
    try with_reducible rfl
   try simp only [Act.put, yA, yB, yC]
   refine hTk (i := 6) (d := some 20) (v := ?_) (fun o ho => ?_) hHeld ?_
   rotate_left
   ·simp only [zA, zB, zC, zD] at ho
    subst ho
    refine ⟨by rfl, fun w hSw => ?_⟩
    (try dsimp only at hSw)
    go_simp
    try with_reducible rfl
   try simp only [Act.put, yA, yB, yC]
   refine hTk (i := 7) (d := some 21) (v := ?_) (fun o ho => ?_) hHeld ?_
   rotate_left
   ·simp only [zA, zB, zC, zD] at ho
    subst ho
    refine ⟨by rfl, fun w hSw => ?_⟩
    (try dsimp only at hSw)
    go_simp
    try with_reducible rfl
   try simp only [Act.put, yA, yB, yC]
   refine wpAnyH_ready (rs := [8]) (by kernel_rfl) (by simp) ?_
   refine held_step (i := 8) (by kernel_rfl) (fun o ho K' hK => ?_) ?_
   ·simp only [zA, zB, zC, zD] at ho
    subst ho
    go_simp
    refine hK.out _ _ ?_ (fun hHeld => ?_)
    ·exact HS.out _ (by repeat (first | exact hxe | exact Ext.refl _ | apply Ext.drew | apply Ext.alloc | refine Ext.setCell ?_ (by first | exact hzl | (simp; done) | (have := hzl; simp at this ⊢; omega)) _))
    clear hK K'
    try simp only [yA, yB, yC]
    refine wpAnyH_ready (rs := [9]) (by kernel_rfl) (by simp) ?_
    refine held_step (i := 9) (by kernel_rfl) (fun o ho K' hK => ?_) ?_
    ·simp only [zA, zB, zC, zD] at ho
     subst ho
     go_simp
     refine hK.out _ _ ?_ (fun hHeld => ?_)
     ·exact HS.out _ (by repeat (first | exact hxe | exact Ext.refl _ | apply Ext.drew | apply Ext.alloc | refine Ext.setCell ?_ (by first | exact hzl | (simp; done) | (have := hzl; simp at this ⊢; omega)) _))
     clear hK K'
     try simp only [yA, yB, yC]
     refine wpAnyH_ready (rs := [10]) (by kernel_rfl) (by simp) ?_
     refine held_step (i := 10) (by kernel_rfl) (fun o ho K' hK => ?_) ?_
     ·simp only [zA, zB, zC, zD] at ho
      subst ho
      go_simp
      refine hK.out _ _ ?_ (fun hHeld => ?_)
      ·exact HS.out _ (by repeat (first | exact hxe | exact Ext.refl _ | apply Ext.drew | apply Ext.alloc | refine Ext.setCell ?_ (by first | exact hzl | (simp; done) | (have := hzl; simp at this ⊢; omega)) _))
      clear hK K'
      try simp only [yA, yB, yC]
      refine wpAnyH_done (by kernel_rfl) ?_ _
      try simp only [yA, yB, yC]
      go_upto_region 9 with (first | (go_at_call 37; refine (HPT.out _ (by repeat (first | exact HX0.out.trans hxe | apply Ext.drew | apply Ext.alloc | refine Ext.setCell ?_ (by first | (simp only []; omega) | (have := HX0.out.size; omega) | (have := (HX0.out.trans hxe).size; omega)) _))).mono ?_; rintro e w3 ⟨v, rfl, hx3, hpi, _⟩; have hx03 : Ext w w3 := Ext.trans (by repeat (first | exact HX0.out.trans hxe | apply Ext.drew | apply Ext.alloc | refine Ext.setCell ?_ (by first | (simp only []; omega) | (have := HX0.out.size; omega) | (have := (HX0.out.trans hxe).size; omega)) _)) hx3; have HPI := Lib.hid hpi; obtain ⟨pa, pc, rfl, _⟩ := nats_open hpi; clear hpi hx3) | (go_at_call 38; refine (HKN.out _ _ _ (HPI.out.ext ?_)).mono ?_; (· repeat (first | exact Ext.refl _ | apply Ext.alloc)); rintro e w4 ⟨rfl, hx4⟩; have hx34 : Ext w3 w4 := Ext.trans (by repeat (first | exact Ext.refl _ | apply Ext.alloc)) hx4; have m4 := MemoAt.ext (MemoAt.ext (memo_made w3 m) ((Ext.refl _).alloc (.cells #[.int .i64 m, .map (some w3.heap.size)] 96))) hx4; have y0 := hx4.cell (a := ⟨w3.heap.size + 1, 0, none⟩) (v := .int .i64 m) (by go_simp); have y1 := hx4.cell (a := ⟨w3.heap.size + 1, 1, none⟩) (v := .map (some w3.heap.size)) (by go_simp); have M4 := Lib.hid m4; clear m4 hx4) | (go_at_call 39; refine (HBE.out _ _ _ (HPI.out.ext hx34) M4.out).mono ?_; rintro e w5 ⟨rfl, ht5, hm5⟩))
      have hx5 : Ext w w5 := Touch.ext (hx03.trans hx34) ht5 (fun i hi => by have := hx03.size; omega)
      go_quiet (fail)
      go_wp2
      refine bodyPost_ret (by simp [results, Tryz.results8, go_sem]; rfl) rfl ?_
      exact HRES.out _ ((hx5.alloc _).drewN _)
     exact AllReadyH.nil
    exact AllReadyH.nil
   exact AllReadyH.nil
  refine held_step (i := 8) (by kernel_rfl) (fun o ho K' hK => ?_) ?_
  ·simp only [zA, zB, zC, zD] at ho
   subst ho
   go_simp
   refine hK.out _ _ ?_ (fun hHeld => ?_)
   ·exact HS.out _ (by repeat (first | exact hxe | exact Ext.refl _ | apply Ext.drew | apply Ext.alloc | refine Ext.setCell ?_ (by first | exact hzl | (simp; done) | (have := hzl; simp at this ⊢; omega)) _))
   clear hK K'
   try simp only [yA, yB, yC]
   refine wpAnyH_ready (rs := [4]) (by kernel_rfl) (by simp) ?_
   refine held_step (i := 4) (by kernel_rfl) (fun o ho K' hK => ?_) ?_
   ·simp only [zA, zB, zC, zD] at ho
    subst ho
    go_simp
    go_at_call 35
    refine (HA.out _ (by repeat (first | exact HX0.out | apply Ext.drew | apply Ext.alloc))).mono ?_
    rintro e w2 ⟨rfl, hx2⟩
    have hxe : Ext ((w.alloc (.cells #[.int .i64 b.years, .slice ra b.rivers.length rc] 24)).alloc (.cells #[.slice sa s.shells.length sc, .slice ta s.tests.length tc] 28)) w2 := (by repeat (first | exact Ext.refl _ | apply Ext.drew | apply Ext.alloc) : Ext ((w.alloc (.cells #[.int .i64 b.years, .slice ra b.rivers.length rc] 24)).alloc (.cells #[.slice sa s.shells.length sc, .slice ta s.tests.length tc] 28)) ((World.drew ((w.alloc (.cells #[.int .i64 b.years, .slice ra b.rivers.length rc] 24)).alloc (.cells #[.slice sa s.shells.length sc, .slice ta s.tests.length tc] 28))).alloc (.cells #[.int .i64 0, .slice none 0 0, .slice none 0 0, .slice none 0 0] 89))).trans hx2
    have hzl := hxe.size
    have c0 := hx2.cell (a := ⟨w.heap.size + 2, 0, none⟩) (v := .int .i64 0) (by go_simp)
    have f0 : w2.frozen? ⟨w.heap.size + 2, 0, none⟩ = false := (hx2.frozen (a := ⟨w.heap.size + 2, 0, none⟩) (by simp)).trans (by go_simp)
    have c1 := hx2.cell (a := ⟨w.heap.size + 2, 1, none⟩) (v := .slice none 0 0) (by go_simp)
    have f1 : w2.frozen? ⟨w.heap.size + 2, 1, none⟩ = false := (hx2.frozen (a := ⟨w.heap.size + 2, 1, none⟩) (by simp)).trans (by go_simp)
    have c2 := hx2.cell (a := ⟨w.heap.size + 2, 2, none⟩) (v := .slice none 0 0) (by go_simp)
    have f2 : w2.frozen? ⟨w.heap.size + 2, 2, none⟩ = false := (hx2.frozen (a := ⟨w.heap.size + 2, 2, none⟩) (by simp)).trans (by go_simp)
    have c3 := hx2.cell (a := ⟨w.heap.size + 2, 3, none⟩) (v := .slice none 0 0) (by go_simp)
    have f3 : w2.frozen? ⟨w.heap.size + 2, 3, none⟩ = false := (hx2.frozen (a := ⟨w.heap.size + 2, 3, none⟩) (by simp)).trans (by go_simp)
    try go_simp
    refine hK.out _ _ ?_ (fun hHeld => ?_)
    ·exact HS.out _ (by repeat (first | exact hxe | exact Ext.refl _ | apply Ext.drew | apply Ext.alloc | refine Ext.setCell ?_ (by first | exact hzl | (simp; done) | (have := hzl; simp at this ⊢; omega)) _))
    clear hK K'
    try simp only [yA, yB, yC]
    refine hTk (i := 5) (d := some 14) (v := ?_) (fun o ho => ?_) hHeld ?_
    rotate_left
    ·simp only [zA, zB, zC, zD] at ho
     subst ho
     refine ⟨by rfl, fun w hSw => ?_⟩
     (try dsimp only at hSw)
     go_simp
     try with_reducible rfl
    try simp only [Act.put, yA, yB, yC]
    refine hTk (i := 6) (d := some 20) (v := ?_) (fun o ho => ?_) hHeld ?_
    rotate_left
    ·simp only [zA, zB, zC, zD] at ho
     subst ho
     refine ⟨by rfl, fun w hSw => ?_⟩
     (try dsimp only at hSw)
     go_simp
     try with_reducible rfl
    try simp only [Act.put, yA, yB, yC]
    refine hTk (i := 7) (d := some 21) (v := ?_) (fun o ho => ?_) hHeld ?_
    rotate_left
    ·simp only [zA, zB, zC, zD] at ho
     subst ho
     refine ⟨by rfl, fun w hSw => ?_⟩
     (try dsimp only at hSw)
     go_simp
     try with_reducible rfl
    try simp only [Act.put, yA, yB, yC]
    refine wpAnyH_ready (rs := [9]) (by kernel_rfl) (by simp) ?_
    refine held_step (i := 9) (by kernel_rfl) (fun o ho K' hK => ?_) ?_
    ·simp only [zA, zB, zC, zD] at ho
     subst ho
     go_simp
     refine hK.out _ _ ?_ (fun hHeld => ?_)
     ·exact HS.out _ (by repeat (first | exact hxe | exact Ext.refl _ | apply Ext.drew | apply Ext.alloc | refine Ext.setCell ?_ (by first | exact hzl | (simp; done) | (have := hzl; simp at this ⊢; omega)) _))
     clear hK K'
     try simp only [yA, yB, yC]
     refine wpAnyH_ready (rs := [10]) (by kernel_rfl) (by simp) ?_
     refine held_step (i := 10) (by kernel_rfl) (fun o ho K' hK => ?_) ?_
     ·simp only [zA, zB, zC, zD] at ho
      subst ho
      go_simp
      refine hK.out _ _ ?_ (fun hHeld => ?_)
      ·exact HS.out _ (by repeat (first | exact hxe | exact Ext.refl _ | apply Ext.drew | apply Ext.alloc | refine Ext.setCell ?_ (by first | exact hzl | (simp; done) | (have := hzl; simp at this ⊢; omega)) _))
      clear hK K'
      try simp only [yA, yB, yC]
      refine wpAnyH_done (by kernel_rfl) ?_ _
      try simp only [yA, yB, yC]
      go_upto_region 9 with (first | (go_at_call 37; refine (HPT.out _ (by repeat (first | exact HX0.out.trans hxe | apply Ext.drew | apply Ext.alloc | refine Ext.setCell ?_ (by first | (simp only []; omega) | (have := HX0.out.size; omega) | (have := (HX0.out.trans hxe).size; omega)) _))).mono ?_; rintro e w3 ⟨v, rfl, hx3, hpi, _⟩; have hx03 : Ext w w3 := Ext.trans (by repeat (first | exact HX0.out.trans hxe | apply Ext.drew | apply Ext.alloc | refine Ext.setCell ?_ (by first | (simp only []; omega) | (have := HX0.out.size; omega) | (have := (HX0.out.trans hxe).size; omega)) _)) hx3; have HPI := Lib.hid hpi; obtain ⟨pa, pc, rfl, _⟩ := nats_open hpi; clear hpi hx3) | (go_at_call 38; refine (HKN.out _ _ _ (HPI.out.ext ?_)).mono ?_; (· repeat (first | exact Ext.refl _ | apply Ext.alloc)); rintro e w4 ⟨rfl, hx4⟩; have hx34 : Ext w3 w4 := Ext.trans (by repeat (first | exact Ext.refl _ | apply Ext.alloc)) hx4; have m4 := MemoAt.ext (MemoAt.ext (memo_made w3 m) ((Ext.refl _).alloc (.cells #[.int .i64 m, .map (some w3.heap.size)] 96))) hx4; have y0 := hx4.cell (a := ⟨w3.heap.size + 1, 0, none⟩) (v := .int .i64 m) (by go_simp); have y1 := hx4.cell (a := ⟨w3.heap.size + 1, 1, none⟩) (v := .map (some w3.heap.size)) (by go_simp); have M4 := Lib.hid m4; clear m4 hx4) | (go_at_call 39; refine (HBE.out _ _ _ (HPI.out.ext hx34) M4.out).mono ?_; rintro e w5 ⟨rfl, ht5, hm5⟩))
      have hx5 : Ext w w5 := Touch.ext (hx03.trans hx34) ht5 (fun i hi => by have := hx03.size; omega)
      go_quiet (fail)
      go_wp2
      refine bodyPost_ret (by simp [results, Tryz.results8, go_sem]; rfl) rfl ?_
      exact HRES.out _ ((hx5.alloc _).drewN _)
     exact AllReadyH.nil
    exact AllReadyH.nil
   exact AllReadyH.nil
  exact AllReadyH.nil
 refine held_step (i := 8) (by kernel_rfl) (fun o ho K' hK => ?_) ?_
 ·simp only [zA, zB, zC, zD] at ho
  subst ho
  go_simp
  refine hK.out _ _ ?_ (fun hHeld => ?_)
  ·exact HS.out _ (by repeat (first | exact hxe | exact Ext.refl _ | apply Ext.drew | apply Ext.alloc | refine Ext.setCell ?_ (by first | exact hzl | (simp; done) | (have := hzl; simp at this ⊢; omega)) _))
  clear hK K'
  try simp only [yA, yB, yC]
  refine wpAnyH_ready (rs := [3]) (by kernel_rfl) (by simp) ?_
  refine held_step (i := 3) (by kernel_rfl) (fun o ho K' hK => ?_) ?_
  ·simp only [zA, zB, zC, zD] at ho
   subst ho
   go_simp
   go_at_call 36
   refine (in_any _ _ _ _).mono ?_
   rintro e w1 ⟨rfl, rfl⟩
   try go_simp
   refine hK.out _ _ ?_ (fun hHeld => ?_)
   ·exact HS.out _ (by repeat (first | exact hxe | exact Ext.refl _ | apply Ext.drew | apply Ext.alloc | refine Ext.setCell ?_ (by first | exact hzl | (simp; done) | (have := hzl; simp at this ⊢; omega)) _))
   clear hK K'
   try simp only [yA, yB, yC]
   refine wpAnyH_ready (rs := [4]) (by kernel_rfl) (by simp) ?_
   refine held_step (i := 4) (by kernel_rfl) (fun o ho K' hK => ?_) ?_
   ·simp only [zA, zB, zC, zD] at ho
    subst ho
    go_simp
    go_at_call 35
    refine (HA.out _ (by repeat (first | exact HX0.out | apply Ext.drew | apply Ext.alloc))).mono ?_
    rintro e w2 ⟨rfl, hx2⟩
    have hxe : Ext ((w.alloc (.cells #[.int .i64 b.years, .slice ra b.rivers.length rc] 24)).alloc (.cells #[.slice sa s.shells.length sc, .slice ta s.tests.length tc] 28)) w2 := (by repeat (first | exact Ext.refl _ | apply Ext.drew | apply Ext.alloc) : Ext ((w.alloc (.cells #[.int .i64 b.years, .slice ra b.rivers.length rc] 24)).alloc (.cells #[.slice sa s.shells.length sc, .slice ta s.tests.length tc] 28)) ((World.drew ((w.alloc (.cells #[.int .i64 b.years, .slice ra b.rivers.length rc] 24)).alloc (.cells #[.slice sa s.shells.length sc, .slice ta s.tests.length tc] 28))).alloc (.cells #[.int .i64 0, .slice none 0 0, .slice none 0 0, .slice none 0 0] 89))).trans hx2
    have hzl := hxe.size
    have c0 := hx2.cell (a := ⟨w.heap.size + 2, 0, none⟩) (v := .int .i64 0) (by go_simp)
    have f0 : w2.frozen? ⟨w.heap.size + 2, 0, none⟩ = false := (hx2.frozen (a := ⟨w.heap.size + 2, 0, none⟩) (by simp)).trans (by go_simp)
    have c1 := hx2.cell (a := ⟨w.heap.size + 2, 1, none⟩) (v := .slice none 0 0) (by go_simp)
    have f1 : w2.frozen? ⟨w.heap.size + 2, 1, none⟩ = false := (hx2.frozen (a := ⟨w.heap.size + 2, 1, none⟩) (by simp)).trans (by go_simp)
    have c2 := hx2.cell (a := ⟨w.heap.size + 2, 2, none⟩) (v := .slice none 0 0) (by go_simp)
    have f2 : w2.frozen? ⟨w.heap.size + 2, 2, none⟩ = false := (hx2.frozen (a := ⟨w.heap.size + 2, 2, none⟩) (by simp)).trans (by go_simp)
    have c3 := hx2.cell (a := ⟨w.heap.size + 2, 3, none⟩) (v := .slice none 0 0) (by go_simp)
    have f3 : w2.frozen? ⟨w.heap.size + 2, 3, none⟩ = false := (hx2.frozen (a := ⟨w.heap.size + 2, 3, none⟩) (by simp)).trans (by go_simp)
    try go_simp
    refine hK.out _ _ ?_ (fun hHeld => ?_)
    ·exact HS.out _ (by repeat (first | exact hxe | exact Ext.refl _ | apply Ext.drew | apply Ext.alloc | refine Ext.setCell ?_ (by first | exact hzl | (simp; done) | (have := hzl; simp at this ⊢; omega)) _))
    clear hK K'
    try simp only [yA, yB, yC]
    refine hTk (i := 5) (d := some 14) (v := ?_) (fun o ho => ?_) hHeld ?_
    rotate_left
    ·simp only [zA, zB, zC, zD] at ho
     subst ho
     refine ⟨by rfl, fun w hSw => ?_⟩
     (try dsimp only at hSw)
     go_simp
     try with_reducible rfl
    try simp only [Act.put, yA, yB, yC]
    refine hTk (i := 6) (d := some 20) (v := ?_) (fun o ho => ?_) hHeld ?_
    rotate_left
    ·simp only [zA, zB, zC, zD] at ho
     subst ho
     refine ⟨by rfl, fun w hSw => ?_⟩
     (try dsimp only at hSw)
     go_simp
     try with_reducible rfl
    try simp only [Act.put, yA, yB, yC]
    refine hTk (i := 7) (d := some 21) (v := ?_) (fun o ho => ?_) hHeld ?_
    rotate_left
    ·simp only [zA, zB, zC, zD] at ho
     subst ho
     refine ⟨by rfl, fun w hSw => ?_⟩
     (try dsimp only at hSw)
     go_simp
     try with_reducible rfl
    try simp only [Act.put, yA, yB, yC]
    refine wpAnyH_ready (rs := [9]) (by kernel_rfl) (by simp) ?_
    refine held_step (i := 9) (by kernel_rfl) (fun o ho K' hK => ?_) ?_
    ·simp only [zA, zB, zC, zD] at ho
     subst ho
     go_simp
     refine hK.out _ _ ?_ (fun hHeld => ?_)
     ·exact HS.out _ (by repeat (first | exact hxe | exact Ext.refl _ | apply Ext.drew | apply Ext.alloc | refine Ext.setCell ?_ (by first | exact hzl | (simp; done) | (have := hzl; simp at this ⊢; omega)) _))
     clear hK K'
     try simp only [yA, yB, yC]
     refine wpAnyH_ready (rs := [10]) (by kernel_rfl) (by simp) ?_
     refine held_step (i := 10) (by kernel_rfl) (fun o ho K' hK => ?_) ?_
     ·simp only [zA, zB, zC, zD] at ho
      subst ho
      go_simp
      refine hK.out _ _ ?_ (fun hHeld => ?_)
      ·exact HS.out _ (by repeat (first | exact hxe | exact Ext.refl _ | apply Ext.drew | apply Ext.alloc | refine Ext.setCell ?_ (by first | exact hzl | (simp; done) | (have := hzl; simp at this ⊢; omega)) _))
      clear hK K'
      try simp only [yA, yB, yC]
      refine wpAnyH_done (by kernel_rfl) ?_ _
      try simp only [yA, yB, yC]
      go_upto_region 9 with (first | (go_at_call 37; refine (HPT.out _ (by repeat (first | exact HX0.out.trans hxe | apply Ext.drew | apply Ext.alloc | refine Ext.setCell ?_ (by first | (simp only []; omega) | (have := HX0.out.size; omega) | (have := (HX0.out.trans hxe).size; omega)) _))).mono ?_; rintro e w3 ⟨v, rfl, hx3, hpi, _⟩; have hx03 : Ext w w3 := Ext.trans (by repeat (first | exact HX0.out.trans hxe | apply Ext.drew | apply Ext.alloc | refine Ext.setCell ?_ (by first | (simp only []; omega) | (have := HX0.out.size; omega) | (have := (HX0.out.trans hxe).size; omega)) _)) hx3; have HPI := Lib.hid hpi; obtain ⟨pa, pc, rfl, _⟩ := nats_open hpi; clear hpi hx3) | (go_at_call 38; refine (HKN.out _ _ _ (HPI.out.ext ?_)).mono ?_; (· repeat (first | exact Ext.refl _ | apply Ext.alloc)); rintro e w4 ⟨rfl, hx4⟩; have hx34 : Ext w3 w4 := Ext.trans (by repeat (first | exact Ext.refl _ | apply Ext.alloc)) hx4; have m4 := MemoAt.ext (MemoAt.ext (memo_made w3 m) ((Ext.refl _).alloc (.cells #[.int .i64 m, .map (some w3.heap.size)] 96))) hx4; have y0 := hx4.cell (a := ⟨w3.heap.size + 1, 0, none⟩) (v := .int .i64 m) (by go_simp); have y1 := hx4.cell (a := ⟨w3.heap.size + 1, 1, none⟩) (v := .map (some w3.heap.size)) (by go_simp); have M4 := Lib.hid m4; clear m4 hx4) | (go_at_call 39; refine (HBE.out _ _ _ (HPI.out.ext hx34) M4.out).mono ?_; rintro e w5 ⟨rfl, ht5, hm5⟩))
      have hx5 : Ext w w5 := Touch.ext (hx03.trans hx34) ht5 (fun i hi => by have := hx03.size; omega)
      go_quiet (fail)
      go_wp2
      refine bodyPost_ret (by simp [results, Tryz.results8, go_sem]; rfl) rfl ?_
      exact HRES.out _ ((hx5.alloc _).drewN _)
     exact AllReadyH.nil
    exact AllReadyH.nil
   exact AllReadyH.nil
  exact AllReadyH.nil
 exact AllReadyH.nil
theorem Tests_any (bv sv : Value) (b : Book) (s : Sack) (m : Int) (w : World) (hb : BookAt w bv b) (hs : SackAt w sv s) : Calls Tryz.prog 8 #[bv, sv, .int .i64 m] w (TestsRes b s m w) := by
 by_cases hn : askN b s (inB m 0 4) = 0
 ·cases hk : knownB m (patternsOf b s) with
  | true => exact Tests_known bv sv b s m w hb hs hn hk
  | false => exact Tests_best bv sv b s m w hb hs hn hk
 ·exact Tests_no bv sv b s m w hb hs hn
end Go.Proofs.YtiodjapdiflphaaGreatDoor
