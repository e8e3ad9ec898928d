/- Comparing: cmp.Compare, slices.Compare, Odd's and Packs' orders. -/
import Derived.Test.YtokananogogjaaaGreatDoorOq
import Derived.Test.YtokananogogjaaaGreatDoorOc
import Derived.Test.YtokananogogjaaaGreatDoorOp
import Derived.Test.YtokananogogjaaaGreatDoorOaq
namespace Go.Proofs.YtokananogogjaaaGreatDoor
open Go.RowKit
def cmpI (x y : Int) : Int := if x < y then -1 else if y < x then 1 else 0
theorem cmpI_zero {x y : Int} : cmpI x y = 0 ↔ x = y := by
 unfold cmpI; split <;> (try split) <;> simp <;> omega
theorem cmpL_cons (x y : Int) (a b : List Int) : cmpL (x :: a) (y :: b) = if cmpI x y = 0 then cmpL a b else cmpI x y := by
 show (if x < y then -1 else if y < x then 1 else cmpL a b) = _
 unfold cmpI
 by_cases h1 : x < y
 ·simp [h1]
 ·by_cases h2 : y < x <;> simp [h1, h2]
theorem cmpL_take {xs ys : List Int} : ∀ {k : Nat}, xs.take k = ys.take k → k ≤ xs.length → k ≤ ys.length → cmpL xs ys = cmpL (xs.drop k) (ys.drop k) := by
 intro k
 induction k generalizing xs ys with
 | zero => intros; rfl
 | succ k ih =>
  intro h h1 h2
  cases xs with
  | nil => simp at h1
  | cons x xs =>
   cases ys with
   | nil => simp at h2
   | cons y ys =>
    simp only [List.take_succ_cons, List.cons.injEq] at h
    obtain ⟨rfl, h⟩ := h
    rw [cmpL_cons, if_pos (cmpI_zero.2 rfl)]
    simp only [List.drop_succ_cons]
    exact ih h (by simpa using h1) (by simpa using h2)
theorem cmpL_at {xs ys : List Int} {k : Nat} {x y : Int} (h : xs.take k = ys.take k) (hx : xs[k]? = some x) (hy : ys[k]? = some y) (hn : cmpI x y ≠ 0) : cmpL xs ys = cmpI x y := by
 obtain ⟨h1, rfl⟩ := List.getElem?_eq_some_iff.1 hx
 obtain ⟨h2, rfl⟩ := List.getElem?_eq_some_iff.1 hy
 rw [cmpL_take h (by omega) (by omega), List.drop_eq_getElem_cons h1, List.drop_eq_getElem_cons h2, cmpL_cons, if_neg hn]
theorem isNaN_any (n : Int) (w : World) :
  Calls Tryz.prog 125 #[.int .i64 n] w fun e w' => e = .returned (.bool false) ∧ w = w' := by
 go_enter Tryz.func125, Tryz.ntmps125
 go_wp2
 go_ret
 simp

theorem compare_any (x y : Int) (w : World) :
  Calls Tryz.prog 88 #[.int .i64 x, .int .i64 y] w fun e w' => e = .returned (.int .i64 (cmpI x y)) ∧ w = w' := by
 unfold cmpI
 by_cases h1 : x < y
 ·rw [if_pos h1]
  go_enter Tryz.func88, Tryz.ntmps88
  go_wp2_with (go_at_call 125; refine (isNaN_any _ _).mono ?_; rintro e w' ⟨rfl, rfl⟩)
  go_ret
  simp
 ·by_cases h2 : y < x
  ·rw [if_neg h1, if_pos h2]
   go_enter Tryz.func88, Tryz.ntmps88
   go_wp2_with (go_at_call 125; refine (isNaN_any _ _).mono ?_; rintro e w' ⟨rfl, rfl⟩)
   go_ret
   simp
  ·rw [if_neg h1, if_neg h2]
   go_enter Tryz.func88, Tryz.ntmps88
   go_wp2_with (go_at_call 125; refine (isNaN_any _ _).mono ?_; rintro e w' ⟨rfl, rfl⟩)
   go_ret
   simp

set_option maxHeartbeats 1000000 in
theorem compareL_any (v v' : Value) (xs ys : List Int) (w : World) (hv : IntsAt w v xs) (hv' : IntsAt w v' ys) :
  Calls Tryz.prog 53 #[v, v'] w fun e w' => e = .returned (.int .i64 (cmpL xs ys)) ∧ w = w' := by
 obtain ⟨a, c, rfl, h1, h2, h3⟩ := hv.open
 obtain ⟨a', c', rfl, h1', h2', h3'⟩ := hv'.open
 go_enter Tryz.func53, Tryz.ntmps53
 go_wp2
 go_loop [11] (fun i => ∃ k : Nat, k ≤ xs.length ∧ k ≤ ys.length ∧ i = .int .i64 k ∧ Hid (xs.take k = ys.take k)) (fun i => xs.length - (intOf i).toNat)
 case atStart => exact ⟨0, Nat.zero_le _, Nat.zero_le _, rfl, by simp [Hid]⟩
 case round =>
  obtain ⟨k, hk, hk', rfl, heq⟩ := hrel
  by_cases hlt : k < xs.length
  ·obtain ⟨b, o, x, rfl, hxk, hc⟩ := h3 k hlt
   by_cases hlt' : k < ys.length
   ·obtain ⟨b', o', y, rfl, hyk, hc'⟩ := h3' k hlt'
    clear h3 h3' hv hv'
    by_cases hxy : x = y
    ·subst hxy
     have hz : cmpI x x = 0 := cmpI_zero.2 rfl
     go_wp2_with (go_at_call 88; refine (compare_any _ _ _).mono ?_; rintro e w' ⟨rfl, rfl⟩)
     go_round
     case rel => exact ⟨k + 1, by omega, by omega, by go_num, by unfold Hid; rw [List.take_add_one, List.take_add_one, hxk.out, hyk.out, heq.out]⟩
     case measure => simp [intOf]; omega
    ·have hz : (cmpI x y != 0) = true := by simpa [cmpI_zero] using hxy
     have hfin := Lib.hid (cmpL_at heq.out hxk.out hyk.out (by simpa [cmpI_zero] using hxy))
     clear hxy
     go_wp2_with (go_at_call 88; refine (compare_any _ _ _).mono ?_; rintro e w' ⟨rfl, rfl⟩)
     go_ret
     exact ⟨by rw [hfin.out]; rfl, rfl⟩
   ·have hfin : Hid (cmpL xs ys = 1) := by
     unfold Hid
     rw [cmpL_take heq.out hk hk', List.drop_eq_getElem_cons hlt, List.drop_of_length_le (l := ys) (by omega)]; rfl
    clear h3 h3' hv hv'
    go_wp2
    go_ret
    exact ⟨by rw [hfin.out]; rfl, rfl⟩
  ·by_cases hlt' : k < ys.length
   ·have hfin : Hid (cmpL xs ys = -1) := by
     unfold Hid
     rw [cmpL_take heq.out hk hk', List.drop_of_length_le (l := xs) (by omega), List.drop_eq_getElem_cons hlt']; rfl
    have hb : xs.length < ys.length := by omega
    clear h3 h3' hv hv'
    go_wp2
    go_ret
    exact ⟨by rw [hfin.out]; rfl, rfl⟩
   ·have hfin : Hid (cmpL xs ys = 0) := by
     unfold Hid
     rw [cmpL_take heq.out hk hk', List.drop_of_length_le (l := xs) (by omega), List.drop_of_length_le (l := ys) (by omega)]; rfl
    have hb : ¬ xs.length < ys.length := by omega
    clear h3 h3' hv hv'
    go_wp2
    go_ret
    exact ⟨by rw [hfin.out]; rfl, rfl⟩

end Go.Proofs.YtokananogogjaaaGreatDoor

/- better: which packs are better. -/
namespace Go.Proofs.YtokananogogjaaaGreatDoor
open Go.RowKit
/-- Packs that are not too many. -/
def SmallK (l : List Int) : Prop := l.length ≤ 6 ∧ ∀ x, x ∈ l → 0 ≤ x ∧ x ≤ 1000000
theorem SmallK.sum {l : List Int} (h : SmallK l) (v : Value) (w : World) (hv : IntsAt w v l) : Calls Tryz.prog 69 #[v] w fun e w' => e = .returned (.int .i64 l.sum) ∧ w = w' :=
 sum_any v l w hv (fun k => by
  have h1 := sums_bd h.2 (by decide) k
  have h2 := sums_bd h.2 (by decide) l.length
  have h3 := h.1
  rcases Nat.le_total k l.length with hk | hk
  ·omega
  ·rw [List.take_of_length_le hk] at h1 ⊢
   rw [List.take_of_length_le (Nat.le_refl _)] at h2
   omega) (fun x hx => by have := h.2 x hx; omega)
set_option maxRecDepth 100000 in
set_option maxHeartbeats 2000000 in
theorem better_any (va vb : Value) (a b : Pk) (w : World) (ha : IntsAt w va a.1) (hb : IntsAt w vb b.1) (sa : SmallK a.1) (sb : SmallK b.1) :
 Calls Tryz.prog 93 #[.agg #[va, .int .i64 a.2], .agg #[vb, .int .i64 b.2]] w fun e w' => e = .returned (.bool (ltPk a b)) ∧ Ext w w' := by
 obtain ⟨aa, ac, rfl, _⟩ := ha.open
 obtain ⟨ba, bc, rfl, _⟩ := hb.open
 obtain ⟨WB, hWB⟩ : ∃ WB, WB = (w.alloc (.cells #[.slice aa a.1.length ac, .int .i64 a.2] 121)).alloc (.cells #[.slice ba b.1.length bc, .int .i64 b.2] 121) := ⟨_, rfl⟩
 have hx0 : Ext w WB := by rw [hWB]; exact ((Ext.refl w).alloc _).alloc _
 have HX0 := Lib.hid hx0
 have c0 : WB.cell? ⟨w.heap.size, 0, none⟩ = some (.slice aa a.1.length ac) := by rw [hWB]; go_simp
 have c1 : WB.cell? ⟨w.heap.size, 1, none⟩ = some (.int .i64 a.2) := by rw [hWB]; go_simp
 have c2 : WB.cell? ⟨w.heap.size + 1, 0, none⟩ = some (.slice ba b.1.length bc) := by rw [hWB]; go_simp
 have c3 : WB.cell? ⟨w.heap.size + 1, 1, none⟩ = some (.int .i64 b.2) := by rw [hWB]; go_simp
 have HF := Lib.hid (fun W' (h : Ext WB W') => (⟨h.cell c0, h.cell c1, h.cell c2, h.cell c3⟩ : _ ∧ _ ∧ _ ∧ _))
 have HSA := Lib.hid (fun W' (h : Ext WB W') => sa.sum (.slice aa a.1.length ac) W' (ha.ext (hx0.trans h)))
 have HSB := Lib.hid (fun W' (h : Ext WB W') => sb.sum (.slice ba b.1.length bc) W' (hb.ext (hx0.trans h)))
 have HCM := Lib.hid (fun W' (h : Ext WB W') => compareL_any (.slice aa a.1.length ac) (.slice ba b.1.length bc) a.1 b.1 W' (ha.ext (hx0.trans h)) (hb.ext (hx0.trans h)))
 clear ha hb sa sb hx0
 by_cases hp : a.2 = b.2
 ·have t1 : (a.2 != b.2) = false := by rw [hp]; simp
  by_cases hs : a.1.sum = b.1.sum
  ·have t2 : (a.1.sum != b.1.sum) = false := by rw [hs]; simp
   have HR : Hid (ltPk a b = decide (cmpL a.1 b.1 < 0)) := by unfold Hid ltPk cmpPk; rw [if_neg (by omega), if_neg (by omega), if_neg (by omega), if_neg (by omega)]
   clear hp hs
   go_enter Tryz.func93, Tryz.ntmps93
   go_upto_region 1 with fail
   rw [← hWB]
   clear hWB
   go_upto_region 3 with fail
   refine region_reads (C := fun W => Ext WB W) (by kernel_rfl) (by kernel_rfl) ((Ext.refl WB).drew) ?_
   repeat (first | go_big_quiet_skip | (go_big_quiet_want; go_big_quiet_op; first | go_big_quiet_on | (refine ⟨_, fun W hW => rfl, ?_⟩; go_big_quiet_on)) | (go_big_quiet_want; refine ⟨?_, fun W hW => ?_, ?_⟩; rotate_left; (· (obtain ⟨c0, c1, c2, c3⟩ := HF.out W hW); go_simp; (first | with_reducible rfl | (go_at_call 69; with_reducible refine (HSA.out W hW).mono ?_; rintro e w' ⟨rfl, rfl⟩; constructor; with_reducible rfl; exact hW) | (go_at_call 69; with_reducible refine (HSB.out W hW).mono ?_; rintro e w' ⟨rfl, rfl⟩; constructor; with_reducible rfl; exact hW))); (try simp only [Act.put, yA, yB, yC]); go_big_quiet_on))
   refine wpQuiet_nil ?_
   intro wq hq
   obtain ⟨c0, c1, c2, c3⟩ := HF.out _ hq
   go_wp2_with (go_at_call 53; refine (HCM.out _ hq).mono ?_; rintro e w9 ⟨rfl, rfl⟩)
   go_ret
   exact ⟨by rw [HR.out] <;> rfl, HX0.out.trans hq⟩
  ·have t2 : (a.1.sum != b.1.sum) = true := by simpa using hs
   have HR : Hid (ltPk a b = decide (a.1.sum < b.1.sum)) := by unfold Hid ltPk cmpPk; rw [if_neg (by omega), if_neg (by omega)]; by_cases h1 : a.1.sum < b.1.sum <;> simp [h1] <;> omega
   clear hp hs
   go_enter Tryz.func93, Tryz.ntmps93
   go_upto_region 1 with fail
   rw [← hWB]
   clear hWB
   go_upto_region 3 with fail
   refine region_reads (C := fun W => Ext WB W) (by kernel_rfl) (by kernel_rfl) ((Ext.refl WB).drew) ?_
   repeat (first | go_big_quiet_skip | (go_big_quiet_want; go_big_quiet_op; first | go_big_quiet_on | (refine ⟨_, fun W hW => rfl, ?_⟩; go_big_quiet_on)) | (go_big_quiet_want; refine ⟨?_, fun W hW => ?_, ?_⟩; rotate_left; (· (obtain ⟨c0, c1, c2, c3⟩ := HF.out W hW); go_simp; (first | with_reducible rfl | (go_at_call 69; with_reducible refine (HSA.out W hW).mono ?_; rintro e w' ⟨rfl, rfl⟩; constructor; with_reducible rfl; exact hW) | (go_at_call 69; with_reducible refine (HSB.out W hW).mono ?_; rintro e w' ⟨rfl, rfl⟩; constructor; with_reducible rfl; exact hW))); (try simp only [Act.put, yA, yB, yC]); go_big_quiet_on))
   refine wpQuiet_nil ?_
   intro wq hq
   go_wp2
   go_ret
   exact ⟨by rw [HR.out] <;> rfl, HX0.out.trans hq⟩
 ·have t1 : (a.2 != b.2) = true := by simpa using hp
  have HR : Hid (ltPk a b = decide (a.2 < b.2)) := by unfold Hid ltPk cmpPk; by_cases h1 : a.2 < b.2 <;> simp [h1] <;> omega
  clear hp
  go_enter Tryz.func93, Tryz.ntmps93
  go_upto_region 1 with fail
  rw [← hWB]
  clear hWB
  go_wp2
  go_ret
  exact ⟨by rw [HR.out] <;> rfl, HX0.out⟩
theorem enters_better : ∀ args w, (callFunc 93 args).run Tryz.prog w = .ok (.enter 93 args) w := enters_of Tryz.func93 (by kernel_rfl) rfl
end Go.Proofs.YtokananogogjaaaGreatDoor

/- The best packs of a list. -/
namespace Go.Proofs.YtokananogogjaaaGreatDoor
open Go.RowKit
theorem cells2 {W : World} {k : Nat} {z0 z1 : Value} {t : TypeId} (h : W.heap[k]? = some (.cells #[z0, z1] t)) : (W.cell? ⟨k, 0, none⟩ = some z0 ∧ W.cell? ⟨k, 1, none⟩ = some z1) ∧ (W.frozen? ⟨k, 0, none⟩ = false ∧ W.frozen? ⟨k, 1, none⟩ = false) := by
 unfold World.cell? World.frozen?
 simp only [h]
 simp
theorem store2 {W : World} {k : Nat} {z0 z1 : Value} {t : TypeId} (h : W.heap[k]? = some (.cells #[z0, z1] t)) (a0 a1 : Value) : ((W.setCell ⟨k, 0, none⟩ a0).setCell ⟨k, 1, none⟩ a1).heap[k]? = some (.cells #[a0, a1] t) := by
 have h1 := heap_setCell_same W k 0 _ t a0 h
 exact heap_setCell_same _ k 1 _ t a1 h1
theorem touch2 (W : World) (k : Nat) (a0 a1 : Value) : Touch (fun i => i = k) W ((W.setCell ⟨k, 0, none⟩ a0).setCell ⟨k, 1, none⟩ a1) :=
 (Touch.setCell (M := fun i => i = k) _ rfl).trans (Touch.setCell _ rfl)
structure PkR where
 v : Value
 p : Pk
def pkrC (r : PkR) : List Value := [r.v, .int .i64 r.p.2]
def ltR (a b : PkR) : Bool := ltPk a.p b.p
set_option maxRecDepth 100000 in
set_option maxHeartbeats 4000000 in
theorem bestp_any (v : Value) (qs : List PkR) (w : World) (hq : RowOf pkrC w v qs) (hi : ∀ r, r ∈ qs → IntsAt w r.v r.p.1 ∧ SmallK r.p.1) (h0 : 0 < qs.length) :
 Calls Tryz.prog 92 #[v, .func (.func 93) #[] #[]] w fun e w' => ∃ x : PkR, x ∈ qs ∧ bestOf ltR qs = some x ∧ e = .returned (.tuple #[.agg #[x.v, .int .i64 x.p.2], .bool true]) ∧ Ext w w' := by
 have ea := enters_better
 have HI := Lib.hid hi
 obtain ⟨va, vc, rfl, l1, l2, l3⟩ := RowOf.open2 (f := pkrC) (fun _ => rfl) hq
 have HL3 := Lib.hid l3
 obtain ⟨W, hW⟩ : ∃ W, W = (w.alloc (.cells #[.slice none 0 0, .int .i64 0] 121)).alloc (.cells #[.slice none 0 0, .int .i64 0] 121) := ⟨_, rfl⟩
 have hz4 : W.heap[w.heap.size]? = some (.cells #[.slice none 0 0, .int .i64 0] 121) := by rw [hW]; exact (((Ext.refl (w.alloc (.cells #[.slice none 0 0, .int .i64 0] 121))).alloc _).block (by simp)).trans (World.alloc_heap_new _ _)
 have hz6 : W.heap[w.heap.size + 1]? = some (.cells #[.slice none 0 0, .int .i64 0] 121) := by
  rw [hW]; have := World.alloc_heap_new (w.alloc (.cells #[.slice none 0 0, .int .i64 0] 121)) (.cells #[.slice none 0 0, .int .i64 0] 121); rwa [World.size_alloc] at this
 have HX0 := Lib.hid (show Ext w W by rw [hW]; exact ((Ext.refl w).alloc _).alloc _)
 clear l3 hq hi
 go_enter Tryz.func92, Tryz.ntmps92
 go_upto_region 2 with fail
 rw [← hW]
 clear hW
 go_wp2
 go_loopw [11] (fun i wr => ∃ (k : Nat) (q0 q1 : Value), k ≤ qs.length ∧ i = .int .i64 (k : Int) ∧ Hid (k = 0 ∧ q0 = .slice none 0 0 ∧ q1 = .int .i64 0 ∨ ∃ q : PkR, q ∈ qs ∧ q0 = q.v ∧ q1 = .int .i64 q.p.2 ∧ bestOf ltR (qs.take k) = some q) ∧ Ext w wr ∧ Hid (wr.heap[w.heap.size]? = some (.cells #[.slice none 0 0, .int .i64 0] 121)) ∧ Hid (wr.heap[w.heap.size + 1]? = some (.cells #[q0, q1] 121))) (fun i _ => qs.length - (intOf i).toNat)
 case atStart => exact ⟨0, _, _, Nat.zero_le _, rfl, .inl ⟨rfl, rfl, rfl⟩, HX0.out, hz4, hz6⟩
 case round =>
  obtain ⟨k, q0, q1, hk, rfl, hbo, hx, h4, h6⟩ := hrel
  by_cases hlt : k < qs.length
  ·obtain ⟨bb, bo, p, rfl, hpk, c0, c1⟩ := HL3.out k hlt
   have hpm := List.mem_of_getElem? hpk.out
   obtain ⟨hpi, hps⟩ := HI.out p hpm
   obtain ⟨pa, pc, hpv, _⟩ := hpi.open
   have HPI := Lib.hid hpi
   rw [hpv] at c0
   have d0 := hx.cell c0
   have d1 := hx.cell c1
   have k1 : (0 : Int) ≤ (k : Int) := by omega
   have k2 : (k : Int) < (qs.length : Int) := by omega
   have hsz : w.heap.size + 1 < wr.heap.size := (Array.getElem?_eq_some_iff.1 h6.out).1
   obtain ⟨W1, hW1⟩ : ∃ W1, W1 = wr.alloc (.cells #[.slice pa p.p.1.length pc, .int .i64 p.p.2] 121) := ⟨_, rfl⟩
   have hx1 : Ext wr W1 := by rw [hW1]; exact (Ext.refl wr).alloc _
   have g0 : W1.cell? ⟨wr.heap.size, 0, none⟩ = some (.slice pa p.p.1.length pc) := by rw [hW1]; go_simp
   have g1 : W1.cell? ⟨wr.heap.size, 1, none⟩ = some (.int .i64 p.p.2) := by rw [hW1]; go_simp
   have HST := Lib.hid (fun (W2 : World) (h : Ext wr W2) (a0 a1 : Value) => (⟨store2 ((h.block (by omega)).trans h6.out) a0 a1, ((touch2 W2 (w.heap.size + 1) a0 a1).keep _ _ ((h.block (by omega)).trans h4.out) (by omega)), Touch.ext (hx.trans h) (touch2 W2 (w.heap.size + 1) a0 a1) (fun i hi => by omega)⟩ : _ ∧ _ ∧ _))
   have HKP := Lib.hid (fun (W2 : World) (h : Ext wr W2) => (⟨hx.trans h, (h.block (by omega)).trans h4.out, (h.block (by omega)).trans h6.out⟩ : _ ∧ _ ∧ _))
   clear c0 c1 h4 hx hpi
   cases hk0 : decide (k = 0) with
   | true =>
    have hk0' : k = 0 := by simpa using hk0
    have t0 : ((k : Int) == 0) = true := by rw [hk0']; rfl
    have t1 : (k == 0) = true := by rw [hk0']; rfl
    have HB := Lib.hid (show bestOf ltR (qs.take (k + 1)) = some p by have h := hpk.out; rw [hk0'] at h ⊢; exact bestOf_one h)
    obtain ⟨⟨y0, y1⟩, x0, x1⟩ := cells2 ((hx1.block (by omega)).trans h6.out)
    have HQ := Lib.hid (HST.out W1 hx1 (.slice pa p.p.1.length pc) (.int .i64 p.p.2))
    clear HST HKP h6 hbo hpk hk0 hk0'
    go_upto_region 5 with fail
    rw [← hW1]
    clear hW1
    go_wp2
    go_roundw
    case rel => exact ⟨k + 1, _, _, by omega, by go_num, .inr ⟨p, hpm, hpv.symm, rfl, HB.out⟩, HQ.out.2.2, HQ.out.2.1, HQ.out.1⟩
    case measure => simp [intOf]; omega
   | false =>
    have hk0' : 0 < k := by have : ¬ k = 0 := by simpa using hk0
                            omega
    have t0 : ((k : Int) == 0) = false := by rw [beq_eq_false_iff_ne]; omega
    have t1 : (k == 0) = false := by rw [beq_eq_false_iff_ne]; omega
    obtain ⟨q, hqm, rfl, rfl, hbq⟩ := hbo.out.resolve_left (fun h => by omega)
    obtain ⟨hqi, hqs⟩ := HI.out q hqm
    obtain ⟨qa, qc, hqv, _⟩ := hqi.open
    have HB := Lib.hid (bestOf_more (lt := ltR) hpk.out hbq)
    have HQI := Lib.hid hqi
    rw [hqv] at h6
    obtain ⟨⟨y0, y1⟩, _⟩ := cells2 ((hx1.block (by omega)).trans h6.out)
    have HC := Lib.hid (fun (W2 : World) (h : Ext W1 W2) => (⟨h.cell g0, h.cell g1, cells2 (((hx1.trans h).block (by omega)).trans h6.out)⟩ : _ ∧ _ ∧ _))
    have HAK := Lib.hid (fun W2 (h : Ext w W2) => better_any p.v q.v p.p q.p W2 (HPI.out.ext h) (HQI.out.ext h) hps hqs)
    rw [hpv, hqv] at HAK
    have HWX := Lib.hid ((HKP.out W1 hx1).1)
    have HX1 := Lib.hid hx1
    clear hbo hpk hk0 hk0' h6 hx1 hbq hqi hps hqs
    cases hlq : ltPk p.p q.p with
    | true =>
     rw [hlq] at HAK
     rw [show ltR p q = true from hlq, if_pos rfl] at HB
     clear HKP hlq
     go_upto_region 5 with fail
     rw [← hW1]
     clear hW1
     go_wp2_with (refine Calls.mono (HAK.out _ HWX.out) ?_; rintro e w2 ⟨rfl, hx2⟩; clear g0 g1 y0 y1; obtain ⟨g0, g1, ⟨y0, y1⟩, x0, x1⟩ := HC.out _ hx2; have HQ := Lib.hid (HST.out w2 (HX1.out.trans hx2) (.slice pa p.p.1.length pc) (.int .i64 p.p.2)))
     go_roundw
     case rel => exact ⟨k + 1, _, _, by omega, by go_num, .inr ⟨p, hpm, hpv.symm, rfl, HB.out⟩, HQ.out.2.2, HQ.out.2.1, HQ.out.1⟩
     case measure => simp [intOf]; omega
    | false =>
     rw [hlq] at HAK
     rw [show ltR p q = false from hlq, if_neg (by decide)] at HB
     clear HST hlq
     go_upto_region 5 with fail
     rw [← hW1]
     clear hW1
     go_wp2_with (refine Calls.mono (HAK.out _ HWX.out) ?_; rintro e w2 ⟨rfl, hx2⟩; have HQ := Lib.hid (HKP.out w2 (HX1.out.trans hx2)))
     go_roundw
     case rel => exact ⟨k + 1, q.v, .int .i64 q.p.2, by omega, by go_num, .inr ⟨q, hqm, rfl, rfl, HB.out⟩, HQ.out.1, HQ.out.2.1, HQ.out.2.2⟩
     case measure => simp [intOf]; omega
  ·have hke : k = qs.length := by omega
   obtain ⟨q, hqm, rfl, rfl, hbq⟩ := hbo.out.resolve_left (fun h => by omega)
   rw [List.take_of_length_le (by omega)] at hbq
   obtain ⟨qa, qc, hqv, _⟩ := (HI.out q hqm).1.open
   have HFIN := Lib.hid (And.intro hqm hbq)
   have HQV := Lib.hid hqv
   rw [hqv] at h6
   obtain ⟨⟨y0, y1⟩, _⟩ := cells2 h6.out
   obtain ⟨⟨g0, g1⟩, x0, x1⟩ := cells2 h4.out
   have t2 : (0 : Int) < (qs.length : Int) := by omega
   have HST := Lib.hid (⟨store2 h4.out (.slice qa q.p.1.length qc) (.int .i64 q.p.2), Touch.ext hx (touch2 wr w.heap.size (.slice qa q.p.1.length qc) (.int .i64 q.p.2)) (fun i hi => by omega)⟩ : _ ∧ _)
   clear h4 h6 hbo hbq hx hqv
   go_wp2
   obtain ⟨⟨g0, g1⟩, _⟩ := cells2 HST.out.1
   have HX := Lib.hid HST.out.2
   clear HST
   generalize hW6 : (World.setCell _ _ _) = W6 at *
   refine bodyPost_ret (v := .tuple #[.agg #[.slice qa q.p.1.length qc, .int .i64 q.p.2], .bool true]) (by simp [results, Tryz.results92, go_sem, g0, g1]) rfl ⟨q, HFIN.out.1, HFIN.out.2, by rw [HQV.out], HX.out⟩
end Go.Proofs.YtokananogogjaaaGreatDoor

/- Odd's order of lists. -/
namespace Go.Proofs.YtokananogogjaaaGreatDoor
open Go.RowKit
def ltO (a b : List Int) : Bool := decide (a.length < b.length) || (decide (a.length = b.length) && decide (cmpL a b < 0))
theorem odd1_any (va vb : Value) (a b : List Int) (w : World) (ha : IntsAt w va a) (hb : IntsAt w vb b) :
 Calls Tryz.prog 52 #[va, vb] w fun e w' => e = .returned (.bool (ltO a b)) ∧ w = w' := by
 have HCM := Lib.hid (compareL_any va vb a b w ha hb)
 obtain ⟨aa, ac, rfl, _⟩ := ha.open
 obtain ⟨ba, bc, rfl, _⟩ := hb.open
 clear ha hb
 by_cases h1 : a.length < b.length
 ·have HR : Hid (ltO a b = true) := by unfold Hid ltO; simp [h1]
  go_enter Tryz.func52, Tryz.ntmps52
  go_wp2
  go_ret
  exact ⟨by rw [HR.out] <;> rfl, rfl⟩
 ·by_cases h2 : a.length = b.length
  ·have HR : Hid (ltO a b = decide (cmpL a b < 0)) := by unfold Hid ltO; simp [h2]
   have t1 : ((a.length : Int) == (b.length : Int)) = true := by rw [h2]; simp
   have t2 : (a.length == b.length) = true := by rw [h2]; simp
   have t3 : decide ((a.length : Int) < (b.length : Int)) = false := by rw [h2]; simp
   clear h2
   go_enter Tryz.func52, Tryz.ntmps52
   go_wp2_with (go_at_call 53; refine HCM.out.mono ?_; rintro e w9 ⟨rfl, rfl⟩)
   go_ret
   exact ⟨by rw [HR.out] <;> rfl, rfl⟩
  ·have HR : Hid (ltO a b = false) := by unfold Hid ltO; simp [h1, h2]
   have t1 : ((a.length : Int) == (b.length : Int)) = false := by rw [beq_eq_false_iff_ne]; omega
   have t2 : (a.length == b.length) = false := by rw [beq_eq_false_iff_ne]; exact h2
   go_enter Tryz.func52, Tryz.ntmps52
   go_wp2
   go_ret
   exact ⟨by rw [HR.out] <;> rfl, rfl⟩
theorem enters_odd1 : ∀ args w, (callFunc 52 args).run Tryz.prog w = .ok (.enter 52 args) w := enters_of Tryz.func52 (by kernel_rfl) rfl
end Go.Proofs.YtokananogogjaaaGreatDoor

/- The best of some lists. -/
namespace Go.Proofs.YtokananogogjaaaGreatDoor
open Go.RowKit
def ltOR (a b : Value × List Int) : Bool := ltO a.2 b.2
set_option maxRecDepth 100000 in
theorem besti_any (v : Value) (rows : List (Value × List Int)) (w : World) (hv : RowOf (fun x : Value × List Int => [x.1]) w v rows) (hi : ∀ r, r ∈ rows → IntsAt w r.1 r.2) (h0 : 0 < rows.length) :
 Calls Tryz.prog 51 #[v, .func (.func 52) #[] #[]] w fun e w' => ∃ x : Value × List Int, x ∈ rows ∧ bestOf ltOR rows = some x ∧ e = .returned (.tuple #[x.1, .bool true]) ∧ w = w' := by
 have ea := enters_odd1
 obtain ⟨va, vc, rfl, l1, l2, l3⟩ := RowOf.open1 (f := fun x : Value × List Int => [x.1]) (f0 := fun x => x.1) (fun _ => rfl) hv
 have HL3 := Lib.hid l3
 have HI := Lib.hid hi
 clear l3 hv hi
 go_enter Tryz.func51, Tryz.ntmps51
 go_wp2
 go_loop [6, 11] (fun o i => ∃ k : Nat, k ≤ rows.length ∧ i = .int .i64 (k : Int) ∧ ((∃ a n c, o = .slice a n c) ∧ Hid (k = 0 ∨ ∃ q : Value × List Int, q ∈ rows ∧ o = q.1 ∧ bestOf ltOR (rows.take k) = some q))) (fun _ i => rows.length - (intOf i).toNat)
 case atStart => exact ⟨0, Nat.zero_le _, rfl, ⟨_, _, _, rfl⟩, .inl rfl⟩
 case round =>
  obtain ⟨k, hk, rfl, ⟨oa, on, oc, rfl⟩, hbo⟩ := hrel
  by_cases hlt : k < rows.length
  ·obtain ⟨bb, bo, p, rfl, hpk, c0⟩ := HL3.out k hlt
   have hpm := List.mem_of_getElem? hpk.out
   have HPI := Lib.hid (HI.out p hpm)
   obtain ⟨pa, pc, hpv, _⟩ := (HI.out p hpm).open
   rw [hpv] at c0
   have k1 : (0 : Int) ≤ (k : Int) := by omega
   have k2 : (k : Int) < (rows.length : Int) := by omega
   cases hk0 : decide (k = 0) with
   | true =>
    have hk0' : k = 0 := by simpa using hk0
    have t0 : ((k : Int) == 0) = true := by rw [hk0']; rfl
    have t1 : (k == 0) = true := by rw [hk0']; rfl
    have HB := Lib.hid (show bestOf ltOR (rows.take (k + 1)) = some p by have h := hpk.out; rw [hk0'] at h ⊢; exact bestOf_one h)
    have HPV := Lib.hid hpv
    clear hbo hpk hk0 hk0' hpv
    go_wp2
    go_round
    case rel => exact ⟨k + 1, by omega, by go_num, ⟨_, _, _, rfl⟩, .inr ⟨p, hpm, HPV.out.symm, HB.out⟩⟩
    case measure => simp [intOf]; omega
   | false =>
    have hk0' : 0 < k := by have : ¬ k = 0 := by simpa using hk0
                            omega
    have t0 : ((k : Int) == 0) = false := by rw [beq_eq_false_iff_ne]; omega
    have t1 : (k == 0) = false := by rw [beq_eq_false_iff_ne]; omega
    obtain ⟨q, hqm, hqv, hbq⟩ := hbo.out.resolve_left (fun h => by omega)
    have HB := Lib.hid (bestOf_more (lt := ltOR) hpk.out hbq)
    have HAK := Lib.hid (odd1_any p.1 q.1 p.2 q.2 w HPI.out (HI.out q hqm))
    rw [hpv, ← hqv] at HAK
    have HPV := Lib.hid hpv
    have HQV := Lib.hid hqv
    clear hbo hpk hk0 hk0' hpv hqv hbq
    cases hlq : ltO p.2 q.2 with
    | true =>
     rw [hlq] at HAK
     rw [show ltOR p q = true from hlq, if_pos rfl] at HB
     clear hlq
     go_wp2_with (refine Calls.mono HAK.out ?_; rintro e w2 ⟨rfl, rfl⟩)
     go_round
     case rel => exact ⟨k + 1, by omega, by go_num, ⟨_, _, _, rfl⟩, .inr ⟨p, hpm, HPV.out.symm, HB.out⟩⟩
     case measure => simp [intOf]; omega
    | false =>
     rw [hlq] at HAK
     rw [show ltOR p q = false from hlq, if_neg (by decide)] at HB
     clear hlq
     go_wp2_with (refine Calls.mono HAK.out ?_; rintro e w2 ⟨rfl, rfl⟩)
     go_round
     case rel => exact ⟨k + 1, by omega, by go_num, ⟨_, _, _, rfl⟩, .inr ⟨q, hqm, HQV.out, HB.out⟩⟩
     case measure => simp [intOf]; omega
  ·obtain ⟨q, hqm, hqv, hbq⟩ := hbo.out.resolve_left (fun h => by omega)
   rw [List.take_of_length_le (by omega)] at hbq
   have HFIN := Lib.hid (And.intro hqm (And.intro hqv hbq))
   have t2 : (0 : Int) < (rows.length : Int) := by omega
   clear hqv hbq hbo
   go_wp2
   refine bodyPost_ret (v := .tuple #[.slice oa on oc, .bool true]) (by simp [results, Tryz.results51, go_sem]) rfl ⟨q.1, q.2, HFIN.out.1, HFIN.out.2.2, by rw [← HFIN.out.2.1], rfl⟩
end Go.Proofs.YtokananogogjaaaGreatDoor
