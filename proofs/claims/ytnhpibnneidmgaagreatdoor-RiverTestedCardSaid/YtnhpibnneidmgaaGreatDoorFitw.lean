/- What Fits answers: the program's isTruth, Fits. -/
import Derived.Test.YtnhpibnneidmgaaGreatDoorFitd
import Derived.Test.YtnhpibnneidmgaaGreatDoorFindn
import Derived.Test.YtnhpibnneidmgaaGreatDoorReads
import Derived.Test.YtnhpibnneidmgaaGreatDoorSackr
namespace Go.Proofs.YtnhpibnneidmgaaGreatDoor
open Go.RowKit
/-! ### isTruth -/
def lenOff (y : Int) : Value → Bool
 | .slice _ n _ => (n : Int) != y
 | _ => false
theorem isTruth1_any (a : Option Addr) (n c : Nat) (y : Int) (bb : Nat) (w : World) (h : w.cell? ⟨bb, 0, none⟩ = some (.int .i64 y)) :
  Calls Tryz.prog 133 #[.slice a n c, .pointer (some ⟨bb, 0, none⟩)] w fun e w' => e = .returned (.bool ((n : Int) != y)) ∧ Ext w w' := by
 go_enter Tryz.func133, Tryz.ntmps133
 go_wp2
 go_ret
 exact ⟨rfl, Ext.refl _⟩
theorem enters_isTruth1 : ∀ args w, (callFunc 133 args).run Tryz.prog w = .ok (.enter 133 args) w := enters_of Tryz.func133 (by kernel_rfl) rfl
theorem rows_vals {w : World} {v : Value} {xss : List (List Int)} (h : IntRowsAt w v xss) : ∃ vs : List Value, vs.length = xss.length ∧ RowAt w v vs.length vs ∧ ∀ (i : Nat) (u : Value) (xs : List Int), vs[i]? = some u → xss[i]? = some xs → IntsAt w u xs := by
 obtain ⟨ps, rfl, h1, h2⟩ := h
 refine ⟨ps.map Prod.fst, by simp, ?_, fun i u xs hu hx => ?_⟩
 ·have key : ∀ l : List (Value × List Int), l.flatMap (fun x => [x.1]) = l.map Prod.fst := fun l => by
   induction l with
   | nil => rfl
   | cons p l ih => rw [List.flatMap_cons, List.map_cons, ih]; rfl
  have := key ps
  unfold RowOf at h1
  rw [this] at h1
  simpa using h1
 ·rw [List.getElem?_map, Option.map_eq_some_iff] at hu hx
  obtain ⟨p, hp, rfl⟩ := hu
  obtain ⟨q, hq, rfl⟩ := hx
  rw [hp] at hq; cases hq
  exact h2 p (List.mem_of_getElem? hp)
theorem rows_any {w : World} {vs : List Value} {xss : List (List Int)} (hl : vs.length = xss.length) (h : ∀ (i : Nat) (u : Value) (xs : List Int), vs[i]? = some u → xss[i]? = some xs → IntsAt w u xs) (y : Int) :
  vs.any (lenOff y) = xss.any fun r => decide ((r.length : Int) ≠ y) := by
 rw [Bool.eq_iff_iff, List.any_eq_true, List.any_eq_true]
 have hv : ∀ (u : Value) (xs : List Int), IntsAt w u xs → (lenOff y u = true ↔ (xs.length : Int) ≠ y) := fun u xs hu => by
  obtain ⟨a, c, rfl, _⟩ := hu.open
  unfold lenOff; rw [bne_iff_ne]
 constructor
 ·rintro ⟨u, hu, hb⟩
  obtain ⟨i, hi, rfl⟩ := List.mem_iff_getElem.1 hu
  have hx : xss[i]? = some xss[i] := List.getElem?_eq_getElem (by omega)
  exact ⟨xss[i], List.getElem_mem (by omega), by rw [decide_eq_true_eq]; exact (hv _ _ (h i _ _ (List.getElem?_eq_getElem hi) hx)).1 hb⟩
 ·rintro ⟨xs, hx, hb⟩
  obtain ⟨i, hi, rfl⟩ := List.mem_iff_getElem.1 hx
  have hu : vs[i]? = some vs[i] := List.getElem?_eq_getElem (by omega)
  rw [decide_eq_true_eq] at hb
  exact ⟨vs[i], List.getElem_mem (by omega), (hv _ _ (h i _ _ hu (List.getElem?_eq_getElem hi))).2 hb⟩
set_option maxRecDepth 100000 in
set_option maxHeartbeats 4000000 in
theorem isTruth_any (bv sv xv : Value) (b : Book) (s : Sack) (x : Truth) (w : World) (hb : BookAt w bv b) (hs : SackAt w sv s) (hx : TruthAt w xv x) :
  Calls Tryz.prog 83 #[bv, sv, xv] w fun e w' => e = .returned (.bool (truthB b s x)) ∧ Ext w w' := by
 obtain ⟨ra, rc, rfl, _⟩ := hb.slice
 obtain ⟨sa, sc, ta, tc, rfl, _⟩ := hs.slice
 obtain ⟨wv, ov, rfl, hw, ho⟩ := hx
 obtain ⟨vs, hvl, hvr, hvi⟩ := rows_vals hw
 obtain ⟨wa, wc, rfl, h1, h2, _⟩ := hw.open
 obtain ⟨oa, oc, rfl, o1, o2, _⟩ := ho.open
 have hx0 : Ext w ((((w.alloc (.cells #[.int .i64 b.years, .slice ra b.rivers.length rc] 24)).alloc (.cells #[.slice sa s.shells.length sc, .slice ta s.tests.length tc] 28)).alloc (.cells #[.slice wa x.wea.length wc, .slice oa x.org.length oc] 81))) := (((Ext.refl w).alloc _).alloc _).alloc _
 have HC := Lib.hid (containsFuncN (.slice wa x.wea.length wc) 133 #[.pointer (some ⟨w.heap.size, 0, none⟩)] (lenOff b.years) vs _ (hvr.ext hx0)
  (fun u hu w1 k => by
   obtain ⟨i, hi, rfl⟩ := List.mem_iff_getElem.1 hu
   have hxi : x.wea[i]? = some x.wea[i] := List.getElem?_eq_getElem (by omega)
   obtain ⟨a, c, e, _⟩ := (hvi i _ _ (List.getElem?_eq_getElem hi) hxi).open
   rw [e]
   exact isTruth1_any a _ c b.years w.heap.size w1 (k.cell (by go_simp))) enters_isTruth1)
 rw [rows_any hvl hvi] at HC
 have HX0 := Lib.hid hx0
 clear hw ho hb hs hvr hvi hvl hx0
 by_cases e1 : x.wea.length = b.rivers.length
 ·have t1 : ((x.wea.length : Int) == (b.rivers.length : Int)) = true := by rw [beq_iff_eq]; omega
  by_cases e2 : x.org.length = s.shells.length
  ·have t2 : ((x.org.length : Int) == (s.shells.length : Int)) = true := by rw [beq_iff_eq]; omega
   have HN : Hid (truthB b s x = (!x.wea.any fun r => !decide ((r.length : Int) = b.years))) := by unfold Hid truthB; rw [decide_eq_true e1, decide_eq_true e2]; simp
   clear e1 e2
   go_enter Tryz.func83, Tryz.ntmps83
   go_wp2_with (go_at_call 132; refine HC.out.mono ?_; rintro e w1 ⟨rfl, hx1⟩)
   go_ret
   exact ⟨by rw [HN.out] <;> rfl, HX0.out.trans hx1⟩
  ·have t2 : ((x.org.length : Int) == (s.shells.length : Int)) = false := by rw [beq_eq_false_iff_ne]; omega
   have HN : Hid (truthB b s x = false) := by unfold Hid truthB; rw [decide_eq_false e2]; simp
   clear e1 e2
   go_enter Tryz.func83, Tryz.ntmps83
   go_wp2
   go_ret
   exact ⟨by rw [HN.out] <;> rfl, HX0.out⟩
 ·have t1 : ((x.wea.length : Int) == (b.rivers.length : Int)) = false := by rw [beq_eq_false_iff_ne]; omega
  have HN : Hid (truthB b s x = false) := by unfold Hid truthB; rw [decide_eq_false e1]; simp
  clear e1
  go_enter Tryz.func83, Tryz.ntmps83
  go_wp2
  go_ret
  exact ⟨by rw [HN.out] <;> rfl, HX0.out⟩
/-! ### The weather of a river -/
theorem Fits1_any (n l h : Int) (w : World) : Calls Tryz.prog 85 #[.int .i64 n, .agg #[.int .i64 l, .int .i64 h]] w fun e w' => e = .returned (.bool (inB n l h)) ∧ Ext w w' := by
 go_enter Tryz.func85, Tryz.ntmps85
 go_wp2_with (go_at_call 60; refine (in_any _ _ _ _).mono ?_; rintro e w' ⟨rfl, rfl⟩)
 go_ret
 exact ⟨rfl, (Ext.refl w).alloc _⟩
theorem enters_Fits1 : ∀ args w, (callFunc 85 args).run Tryz.prog w = .ok (.enter 85 args) w := enters_of Tryz.func85 (by kernel_rfl) rfl
set_option maxRecDepth 100000 in
set_option maxHeartbeats 2000000 in
theorem equalW_any (lv gv : Value) (ns : List Int) (gs : List (Int × Int)) (w : World) (hl : IntsAt w lv ns) (hg : PairsAt w gv gs) (he : ns.length = gs.length) :
  Calls Tryz.prog 84 #[lv, gv, .func (.func 85) #[] #[]] w fun e w' => e = .returned (.bool ((List.range gs.length).all (inSpan ns gs))) ∧ Ext w w' := by
 obtain ⟨la, lc, rfl, l1, l2, l3⟩ := hl.open
 obtain ⟨ga, gc, rfl, g1, g2, g3⟩ := hg.open
 have ef := enters_Fits1
 have HL := Lib.hid l3
 have HG := Lib.hid g3
 have t0 : ((ns.length : Int) != (gs.length : Int)) = false := by rw [bne_eq_false_iff_eq]; omega
 have HE := Lib.hid he
 clear l3 g3 hl hg he
 go_enter Tryz.func84, Tryz.ntmps84
 go_wp2
 go_loopw [17] (fun i wr => ∃ k : Nat, k ≤ ns.length ∧ i = .int .i64 k ∧ Hid ((List.range k).all (inSpan ns gs) = true) ∧ Ext w wr) (fun i _ => ns.length - (intOf i).toNat)
 case atStart => exact ⟨0, Nat.zero_le _, rfl, by simp [Hid], Ext.refl _⟩
 case round =>
  obtain ⟨k, hk, rfl, hall, hx⟩ := hrel
  by_cases hlt : k < ns.length
  ·obtain ⟨lb, lo, n, rfl, hn, c0⟩ := HL.out k hlt
   have hlt2 : k < gs.length := by have := HE.out; omega
   obtain ⟨gb, go, g, rfl, hgk, c1, c2⟩ := HG.out k hlt2
   have d0 := hx.cell c0
   have d1 := hx.cell c1
   have d2 := hx.cell c2
   have x2 : decide ((k : Int) < (ns.length : Int)) = true := by simpa using hlt
   have i1 : (0 : Int) ≤ (k : Int) := by omega
   have i2 : (k : Int) < (ns.length : Int) := by omega
   have i3 : (k : Int) < (gs.length : Int) := by omega
   have hat := inSpan_at hn.out hgk.out
   obtain ⟨gl, gh⟩ := g
   simp only at d1 d2 hat
   clear c0 c1 c2
   cases hi : inB n gl gh with
   | true =>
    have HN := Lib.hid (all_step hall.out (hat.trans hi))
    have HF := Lib.hid (fun w1 => hi ▸ Fits1_any n gl gh w1)
    clear hat hi
    go_wp2_with (go_at_call 85; refine (HF.out _).mono ?_; rintro e w1 ⟨rfl, hx1⟩)
    go_roundw
    case rel => exact ⟨k + 1, by omega, by go_num, HN, (hx.alloc _).trans hx1⟩
    case measure => simp [intOf]; omega
   | false =>
    have HN := Lib.hid (all_not hlt2 (hat.trans hi))
    have HF := Lib.hid (fun w1 => hi ▸ Fits1_any n gl gh w1)
    clear hat hi
    go_wp2_with (go_at_call 85; refine (HF.out _).mono ?_; rintro e w1 ⟨rfl, hx1⟩)
    go_ret
    exact ⟨by rw [HN.out] <;> rfl, (hx.alloc _).trans hx1⟩
  ·have x2 : decide ((k : Int) < (ns.length : Int)) = false := by simp; omega
   have HN : Hid ((List.range gs.length).all (inSpan ns gs) = true) := by have h := hall.out; have he := HE.out; rwa [show k = gs.length by omega] at h
   go_wp2
   go_ret
   exact ⟨by rw [HN.out] <;> rfl, hx⟩
end Go.Proofs.YtnhpibnneidmgaaGreatDoor
